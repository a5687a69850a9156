/-
  Contracts of a pool's Set and Get, of a script's rows, and of 'does' and 'heavy' (layer 17).
-/
import Derived.Test.YteblfacfbmlceaaVexGG
import Derived.Test.YteblfacfbmlceaaTab17
import Derived.Test.YteblfacfbmlceaaXa17
import Derived.Test.YteblfacfbmlceaaCa17
import Derived.Test.YteblfacfbmlceaaCb17
import Derived.Test.YteblfacfbmlceaaXc17
set_option linter.unusedVariables false
set_option linter.unusedSimpArgs false
namespace Go.Vex
open Go.Proofs

/-! ### what a pool holds, as data -/

abbrev B3 := Int × List UInt8 × List UInt8
def Buf.con (x : Buf) : B3 := (x.id, x.who, x.text)

def cfind (C : List B3) (id : Int) : Option B3 := C.find? fun x => decide (id = x.1)
def codeC (C : List B3) (id : Int) (who : List UInt8) : Int := match cfind C id with
  | none => 5
  | some x => if x.2.1 = who then 0 else 3
def giveC (C : List B3) (who : List UInt8) : List Int → List Int → Int
  | _, [] => 0
  | seen, i :: r => if i ∈ seen then 5 else if codeC C i who = 0 then giveC C who (seen ++ [i]) r else codeC C i who
def cdel (C : List B3) (id : Int) : List B3 := C.filter fun x => decide (x.1 ≠ id)
def cset (C : List B3) (id : Int) (f : B3 → B3) : List B3 := C.map fun x => if x.1 = id then f x else x

theorem cfind_con (L : List Buf) (id : Int) : cfind (L.map Buf.con) id = (bfind L id).map Buf.con := by
  unfold cfind bfind
  rw [List.find?_map]; rfl

theorem codeC_con (L : List Buf) (id : Int) (who : List UInt8) : codeC (L.map Buf.con) id who = ofCode L id who := by
  unfold codeC ofCode
  rw [cfind_con]
  cases bfind L id with
  | none => rfl
  | some x => rfl

theorem giveC_con (L : List Buf) (who : List UInt8) : ∀ (xs seen : List Int), giveC (L.map Buf.con) who seen xs = giveCode L who seen xs
  | [], _ => rfl
  | i :: r, seen => by simp only [giveC, giveCode, codeC_con, giveC_con L who r]

theorem cdel_con (L : List Buf) (id : Int) : cdel (L.map Buf.con) id = (bdel L id).map Buf.con := by
  unfold cdel bdel
  rw [List.filter_map]; rfl

theorem cdels_con : ∀ (xs : List Int) (L : List Buf), xs.foldl cdel (L.map Buf.con) = (xs.foldl bdel L).map Buf.con
  | [], _ => rfl
  | i :: r, L => by simp only [List.foldl_cons, cdel_con, cdels_con r]

theorem cset_con (L : List Buf) (id : Int) (f : Buf → Buf) (g : B3 → B3) (hfg : ∀ x, (f x).con = g x.con) : cset (L.map Buf.con) id g = (bset L id f).map Buf.con := by
  unfold cset bset
  rw [List.map_map, List.map_map]
  apply List.map_congr_left
  intro x _
  simp only [Function.comp]
  by_cases e : x.id = id
  · rw [if_pos e, if_pos (show x.con.1 = id from e)]; exact (hfg x).symm
  · rw [if_neg e, if_neg (show ¬ x.con.1 = id from e)]

/-- a script's step -/
structure Stp where
  d : Int
  who : List UInt8
  to : List UInt8
  s : List UInt8
  n : Int
  xs : List Int

/-- what a step answers, the last number, and what there is then -/
def stepC (most last : Int) (C : List B3) (p : Stp) : (Int × Int) × Int × List B3 :=
  if p.d = 0 then
    if takeCode most C.length p.who p.s = 0 then ((last + 1, 0), last + 1, C ++ [(last + 1, p.who, p.s)]) else ((0, takeCode most C.length p.who p.s), last, C)
  else if p.d = 1 then ((0, giveC C p.who [] p.xs), last, if giveC C p.who [] p.xs = 0 then p.xs.foldl cdel C else C)
  else if p.d = 2 then ((0, if p.to = [] then 2 else codeC C p.n p.who), last, if p.to ≠ [] ∧ codeC C p.n p.who = 0 then cset C p.n (fun x => (x.1, p.to, x.2.2)) else C)
  else if p.d = 3 then ((0, if codeC C p.n p.who ≠ 0 then codeC C p.n p.who else if 65549 < p.s.length then 4 else 0), last,
    if codeC C p.n p.who = 0 ∧ p.s.length ≤ 65549 then cset C p.n (fun x => (x.1, x.2.1, p.s)) else C)
  else ((0, 0), last, C)

structure CInv (most last : Int) (C : List B3) : Prop where
  ids : ∀ x ∈ C, 1 ≤ x.1 ∧ x.1 ≤ last
  nd : (C.map Prod.fst).Nodup
  len : (C.length : Int) ≤ most
  l0 : 0 ≤ last

theorem cset_fst (C : List B3) (id : Int) (f : B3 → B3) (hf : ∀ x, (f x).1 = x.1) : (cset C id f).map Prod.fst = C.map Prod.fst := by
  unfold cset
  rw [List.map_map]
  apply List.map_congr_left
  intro x _
  simp only [Function.comp]
  split
  · exact hf x
  · rfl

theorem CInv.set {most last : Int} {C : List B3} (i : CInv most last C) (id : Int) (f : B3 → B3) (hf : ∀ x, (f x).1 = x.1) : CInv most last (cset C id f) := by
  refine ⟨fun x hx => ?_, by rw [cset_fst C id f hf]; exact i.nd, by unfold cset; rw [List.length_map]; exact i.len, i.l0⟩
  unfold cset at hx
  obtain ⟨y, hy, rfl⟩ := List.mem_map.1 hx
  have := i.ids y hy
  split
  · rw [hf]; exact this
  · exact this

theorem CInv.del {most last : Int} {C : List B3} (i : CInv most last C) (id : Int) : CInv most last (cdel C id) :=
  ⟨fun x hx => i.ids x (List.mem_filter.1 hx).1, i.nd.sublist (List.Sublist.map _ List.filter_sublist), by
    have h1 : (cdel C id).length ≤ C.length := List.length_filter_le _ _
    have h2 := i.len
    omega, i.l0⟩

theorem CInv.dels {most last : Int} : ∀ {xs : List Int} {C : List B3}, CInv most last C → CInv most last (xs.foldl cdel C)
  | [], _, i => i
  | x :: xs, C, i => CInv.dels (xs := xs) (i.del x)

theorem CInv.step {most last : Int} {C : List B3} (i : CInv most last C) (p : Stp) : CInv most (stepC most last C p).2.1 (stepC most last C p).2.2 ∧ last ≤ (stepC most last C p).2.1 ∧ (stepC most last C p).2.1 ≤ last + 1 := by
  unfold stepC
  split
  · split
    · rename_i h0 hc
      have hl : (C.length : Int) < most := by
        unfold takeCode at hc
        split at hc
        · omega
        · split at hc
          · omega
          · split at hc
            · omega
            · omega
      refine ⟨⟨fun x hx => ?_, ?_, by simp only [List.length_append, List.length_singleton]; omega, by have := i.l0; simp only; omega⟩, by simp only; omega, by simp only; omega⟩
      · rcases List.mem_append.1 hx with hx | hx
        · have := i.ids x hx; simp only; omega
        · rw [List.mem_singleton] at hx; subst hx; have := i.l0; simp only; omega
      · rw [List.map_append, List.nodup_append]
        refine ⟨i.nd, by simp, fun a ha b hb => ?_⟩
        obtain ⟨x, hx, rfl⟩ := List.mem_map.1 ha
        simp at hb
        have := i.ids x hx
        omega
    · exact ⟨i, by simp only; omega, by simp only; omega⟩
  · split
    · refine ⟨?_, by simp only; omega, by simp only; omega⟩
      split
      · exact i.dels
      · exact i
    · split
      · refine ⟨?_, by simp only; omega, by simp only; omega⟩
        show CInv most last (if p.to ≠ [] ∧ codeC C p.n p.who = 0 then cset C p.n (fun x => (x.1, p.to, x.2.2)) else C)
        split
        · exact i.set _ _ fun _ => rfl
        · exact i
      · split
        · refine ⟨?_, by simp only; omega, by simp only; omega⟩
          show CInv most last (if codeC C p.n p.who = 0 ∧ p.s.length ≤ 65549 then cset C p.n (fun x => (x.1, x.2.1, p.s)) else C)
          split
          · exact i.set _ _ fun _ => rfl
          · exact i
        · exact ⟨i, by simp only; omega, by simp only; omega⟩

/-! ### rows of a script -/

def stepZ : List Z := [.p (.int .i64 0), .p (.str []), .p (.str []), .p (.str []), .p (.int .u64 0), .s 28 1 [.int .u64 0]]

/-- a row stands for a step -/
structure SRow (h0 : Hp) (r : List V) (p : Stp) (a : Option (Nat × Nat)) (n : Nat) (f : Bool) : Prop where
  eq : r = [.int .i64 p.d, .str p.who, .str p.to, .str p.s, .int .u64 p.n, .slc a n f]
  ro : RoSlc h0 a n (p.xs.map fun x => [.int .u64 x]) 1
  few : n * Try.prog.bytesOf 28 ≤ reachBytes
  nb : 0 ≤ p.n ∧ p.n < 18446744073709551616

theorem u64rows : ∀ (rows : List (List V)), (∀ r ∈ rows, shpBs [.int .u64 0] r = true ∧ ∀ v ∈ r, v.fits) → ∃ xs : List Int, rows = xs.map fun x => [.int .u64 x]
  | [], _ => ⟨[], rfl⟩
  | r :: rows, h => by
    obtain ⟨xs, rfl⟩ := u64rows rows fun r hr => h r (by simp [hr])
    obtain ⟨x, hx⟩ := allSs_spec [.int .u64 0] r (k := fun r => ∃ x : Int, r = [.int .u64 x]) (fun a => ⟨a, rfl⟩) (h r (by simp)).1
    exact ⟨x :: xs, by rw [hx]; rfl⟩

theorem srow {h0 : Hp} {r : List V} (sh : ShN Try.prog h0 stepZ r) : ∃ p a n f, SRow h0 r p a n f := by
  match r, sh with
  | [v0, v1, v2, v3, v4, v5], ⟨⟨s0, f0⟩, ⟨s1, f1⟩, ⟨s2, f2⟩, ⟨s3, f3⟩, ⟨s4, f4⟩, ⟨a, n, f, rows, e5, ro, hr, hb⟩, _⟩ =>
    obtain ⟨d, who, to, s, m, e⟩ := allSs_spec [.int .i64 0, .str [], .str [], .str [], .int .u64 0] [v0, v1, v2, v3, v4] (k := fun r => ∃ d who to s m, r = [.int .i64 d, .str who, .str to, .str s, .int .u64 m]) (fun a b c d e => ⟨a, b, c, d, e, rfl⟩)
      (by simp only [shpBs, s0, s1, s2, s3, s4, Bool.and_self])
    simp only [List.cons.injEq] at e
    obtain ⟨rfl, rfl, rfl, rfl, rfl, _⟩ := e
    subst e5
    obtain ⟨xs, rfl⟩ := u64rows rows hr
    simp only [V.fits, IntKind.min, IntKind.max, IntKind.signed, IntKind.bits] at f4
    refine ⟨⟨d, who, to, s, m, xs⟩, a, n, f, rfl, ro, hb, ?_⟩
    simp at f4
    simp only; omega

set_option maxRecDepth 20000 in
theorem heavy_spec {h : Hp} {a : Option (Nat × Nat)} {n : Nat} {f : Bool} {rows : List (List V)} (ha : RoSlc h a n rows 6) (hr : ∀ r ∈ rows, ShN Try.prog h stepZ r) :
    XCalls Try.prog 14 [.slc a n f] h fun v h' => h' = h ∧ ∃ b, v = .bool b ∧ (b = false → n ≤ 200) := by
  have hz : ∀ r ∈ rows, r.length = 6 := fun r h => by obtain ⟨p, a, n, f, s⟩ := srow (hr r h); rw [s.eq]; rfl
  refine XCalls.cps fun K hK => ?_
  apply x14; unfold X14
  refine ⟨fun vs h' => match vs with
    | [.int _ x] => h' = h
    | _ => False, ?_, ?_⟩
  · refine ⟨fun vs h' => match vs with
      | [.int _ x, .int _ i] => h' = h ∧ ∃ k : Nat, i = k ∧ k ≤ 500 ∧ k ≤ n
      | _ => False, fun vs _ => match vs with
      | [_, .int _ i] => 500 - i.toNat
      | _ => 0, ⟨(by trivial), rfl, 0, rfl, by omega, by omega⟩, ?_⟩
    rintro bs x i h1 ⟨rfl, k, rfl, hk, hkn⟩
    cases hi : ltI (↑k) (↑n) with
    | false => exact ⟨(by trivial), rfl⟩
    | true =>
      cases hj : ltI (↑k) 500 with
      | false => exact ⟨(by trivial), rfl⟩
      | true =>
        rw [ltI_eq, decide_eq_true_eq] at hi hj
        obtain ⟨q, r, rfl, hrow, hld, _⟩ := ha.ld (Hp.keeps.refl h1) (k := k) (by omega) hz
        obtain ⟨p, la, ln, lf, sr⟩ := srow (hr r (List.mem_of_getElem? hrow))
        obtain rfl := sr.eq
        have hw1 : IntKind.i64.wrap ((k : Int) + 1) = ((k + 1 : Nat) : Int) := wrap_succ (n := 500) (by omega) (by omega)
        have hb : (0 : Int) ≤ k ∧ (k : Int) < n := ⟨by omega, hi⟩
        refine ⟨hb, p.who, hld 1 (by omega), hb, p.to, hld 2 (by omega), hb, la, ln, lf, hld 5 (by omega), ?_⟩
        refine ⟨fun vs h' => match vs with
          | [.int _ x] => h' = h1
          | _ => False, ?_, ?_⟩
        · refine ⟨hb, p.s, hld 3 (by omega), ?_⟩
          cases hc : ltI 65549 (↑p.s.length) with
          | true => exact ⟨(by trivial), rfl⟩
          | false => exact ⟨hb, p.s, hld 3 (by omega), (by trivial), rfl⟩
        · rintro bs2 y h2 rfl
          refine ⟨hb, p.s, hld 3 (by omega), ?_⟩
          cases hc : ltI 65559 (↑p.s.length) with
          | true => exact hK _ _ ⟨rfl, true, rfl, fun h => by cases h⟩
          | false =>
            refine ⟨(by trivial), ⟨rfl, k + 1, hw1, by omega, by omega⟩, ?_⟩
            show 500 - Int.toNat (IntKind.i64.wrap ((k : Int) + 1)) < 500 - Int.toNat (k : Int)
            rw [hw1]; simp only [Int.toNat_natCast]; omega
  rintro bs x h1 rfl
  cases hc : ltI 200 (↑n) with
  | true => exact hK _ _ ⟨rfl, true, rfl, fun h => by cases h⟩
  | false => rw [ltI_eq, decide_eq_false_iff_not] at hc; exact hK _ _ ⟨rfl, _, rfl, fun _ => by omega⟩

theorem set_spec {h : Hp} {F : List Nat} {p : Nat} {most last id : Int} {who text : List UInt8} {L : List Buf} (r : PoolR p most last L h F) (hid : (L.map Buf.id).Nodup) :
    XCalls Try.prog 19 [.ptr (some (p, 0)), .int .u64 id, .str who, .str text] h fun v h' => Upd h h' F F ∧ v = .int .i64 (if ofCode L id who ≠ 0 then ofCode L id who else if 65549 < text.length then 4 else 0) ∧
      PoolR p most last (if ofCode L id who = 0 ∧ text.length ≤ 65549 then bset L id (Buf.write text) else L) h' F := by
  apply x19
  unfold X19
  refine (of_spec r).mono ?_
  rintro _ h1 ⟨rfl, a, rfl, ho⟩
  refine ⟨a, _, rfl, ?_⟩
  by_cases hz : ofCode L id who = 0
  · obtain ⟨x, hx, rfl⟩ := ho hz
    obtain ⟨hxm, rfl⟩ := bfind_mem hx
    have hzb : (ofCode L x.id who != 0) = false := by simp [hz]
    simp only [hzb, cond_false]
    by_cases hl : 65549 < text.length
    · have : ltI 65549 (↑text.length) = true := by rw [ltI_eq, decide_eq_true_eq]; omega
      simp only [this, cond_true]
      rw [if_neg (by simp [hz]), if_pos hl, if_neg (by omega)]
      exact ⟨Upd.refl _ F, rfl, r⟩
    · have : ltI 65549 (↑text.length) = false := by rw [ltI_eq, decide_eq_false_iff_not]; omega
      simp only [this, cond_false, onS]
      obtain ⟨m, h1, h2, h3, e, h5⟩ := id r
      obtain ⟨hr, u⟩ := r.setBuf hid hxm (Buf.write text) (fun _ => ⟨rfl, rfl⟩)
      refine ⟨_, Hp.st_of (h3 x hxm) (Nat.le_of_ble_eq_true rfl), u, ?_, ?_⟩
      · rw [if_neg (by simp [hz]), if_neg hl]
      · rw [if_pos ⟨hz, by omega⟩]
        exact hr
  · have hzb : (ofCode L id who != 0) = true := by simp [hz]
    simp only [hzb, cond_true]
    refine ⟨Upd.refl _ F, by rw [if_pos hz], ?_⟩
    rw [if_neg (fun h => hz h.1)]
    exact r

def agB (x : B3) : V := .agg [.int .u64 x.1, .str x.2.1, .str x.2.2]

theorem get_spec {h : Hp} {F : List Nat} {p : Nat} {most last id : Int} {L : List Buf} (hw : h.wf) (r : PoolR p most last L h F) :
    XCalls Try.prog 17 [.ptr (some (p, 0)), .int .u64 id] h fun v h' => v = .tup [agB ((cfind (L.map Buf.con) id).getD (0, [], [])), .bool (cfind (L.map Buf.con) id).isSome] ∧ (∀ j, j < h.next → h'.get j = h.get j) ∧ h.next ≤ h'.next := by
  have r0 := r
  obtain ⟨m, h1, h2, h3, rfl, h5⟩ := r
  have hlt : ∀ j ∈ p :: m :: L.map Buf.o, j < h.next := fun j hj => (PoolR.rep p most last L).lt hw r0 hj
  apply x17
  unfold X17
  rintro g1 rfl
  have h1' : (h.alloc (.row [.int .u64 0, .str [], .str []] 1 false)).get p = some (poolRow most last m) := by rw [Hp.get_alloc_ne (by have := hw.lt h1; omega)]; exact h1
  have h2' : MapIs kI vP (L.map fun x => (x.id, x.o)) m (h.alloc (.row [.int .u64 0, .str [], .str []] 1 false)) [m] :=
    (MapIs.rep _ _ _ _).stay hw h2 fun j hj => Hp.get_alloc_ne (by omega)
  have hlk := PoolR.look (p := p) (most := most) (last := last) (F := []) h2' id
  refine ⟨some m, by rw [Hp.ld_of h1']; rfl, _, hlk, ?_⟩
  rw [cfind_con]
  cases hb : bfind L id with
  | none =>
    simp only [Option.map_none, Option.isNone_none, cond_true]
    refine ⟨_, Hp.st_of Hp.get_alloc_self (Nat.le_of_ble_eq_true rfl), 0, [], [], by rw [Hp.lda_of Hp.get_set_self (Nat.le_of_ble_eq_true rfl)]; rfl, rfl, fun j hj => ?_, ?_⟩
    · rw [Hp.get_set_ne (by omega), Hp.get_alloc_ne (by omega)]
    · simp only [Hp.set_next, Hp.alloc_next]; omega
  | some x =>
    rw [hb] at hlk
    obtain ⟨hx, rfl⟩ := bfind_mem hb
    simp only [Option.map_some, Option.isNone_some, cond_false]
    have hxg : (h.alloc (.row [.int .u64 0, .str [], .str []] 1 false)).get x.o = some x.row := by rw [Hp.get_alloc_ne (by have := hw.lt (h3 x hx); omega)]; exact h3 x hx
    refine ⟨some m, by rw [Hp.ld_of h1']; rfl, _, hlk, x.id, x.who, x.text, by rw [Hp.lda_of hxg (Nat.le_of_ble_eq_true rfl)]; rfl, ?_⟩
    refine ⟨_, Hp.st_of Hp.get_alloc_self (Nat.le_of_ble_eq_true rfl), x.id, x.who, x.text, by rw [Hp.lda_of Hp.get_set_self (Nat.le_of_ble_eq_true rfl)]; rfl, rfl, fun j hj => ?_, ?_⟩
    · rw [Hp.get_set_ne (by omega), Hp.get_alloc_ne (by omega)]
    · simp only [Hp.set_next, Hp.alloc_next]; omega

theorem t31s : ∃ ti, T 31 = some ti ∧ ti.d = .slc 28 := ⟨_, rfl, rfl⟩
theorem t28s : ∃ ei, T 28 = some ei ∧ ei.size = 1 ∧ ei.bytes = 8 ∧ zok ei = true := ⟨_, rfl, rfl, rfl, rfl⟩
theorem by28 : Try.prog.bytesOf 28 = 8 := by kernel_rfl

theorem flat1 (xs : List Int) : (xs.map fun x => [V.int .u64 x]).flatten = xs.map fun x => V.int .u64 x := by
  induction xs with
  | nil => rfl
  | cons x xs ih => simp only [List.map_cons, List.flatten_cons, ih]; rfl

theorem reach_le : reachBytes ≤ 140737488355328 := by decide

/-- a step of the program's -/
theorem does_spec {h0 h : Hp} {F : List Nat} {p : Nat} {most last : Int} {L : List Buf} {s : Stp} {r : List V} {a : Option (Nat × Nat)} {n : Nat} {f : Bool} (hw : h.wf) (hk : h0.keeps h) (pr : PoolR p most last L h F) (ci : CInv most last (L.map Buf.con)) (hlast : last < 1000000) (sr : SRow h0 r s a n f) :
    XCalls Try.prog 15 [.ptr (some (p, 0)), .agg r] h fun v h' => v = .tup [.int .u64 (stepC most last (L.map Buf.con) s).1.1, .int .i64 (stepC most last (L.map Buf.con) s).1.2] ∧
      ∃ L' F', L'.map Buf.con = (stepC most last (L.map Buf.con) s).2.2 ∧ PoolR p most (stepC most last (L.map Buf.con) s).2.1 L' h' F' ∧ Upd h h' F F' ∧ h'.wf := by
  obtain rfl := sr.eq
  have hnd : (L.map Buf.id).Nodup := by have := ci.nd; rw [List.map_map] at this; exact this
  have hl : ∀ x ∈ L, 1 ≤ x.id ∧ x.id ≤ last := fun x hx => ci.ids x.con (List.mem_map_of_mem hx)
  have h0l := ci.l0
  apply x15
  unfold X15
  rintro g rfl
  generalize hrow : (O.row [.int .i64 s.d, .str s.who, .str s.to, .str s.s, .int .u64 s.n, .slc a n f] 1 false) = row
  have hwg : (h.alloc row).wf := hw.alloc
  have hgr : (h.alloc row).get h.next = some row := Hp.get_alloc_self
  have hst : ∀ j, j < h.next → (h.alloc row).get j = h.get j := fun j hj => Hp.get_alloc_ne (by omega)
  have prg : PoolR p most last L (h.alloc row) F := (PoolR.rep _ _ _ _).stay hw pr hst
  have ug : Upd h (h.alloc row) F F := Upd.alloc h row F
  have hkg : h0.keeps (h.alloc row) := hk.stay hw hst
  have ld : ∀ i, (h.alloc row).ld h.next i = [V.int .i64 s.d, .str s.who, .str s.to, .str s.s, .int .u64 s.n, .slc a n f][i]? := fun i => by rw [← hrow] at hgr ⊢; exact Hp.ld_of hgr i
  refine ⟨s.d, ld 0, ?_⟩
  unfold stepC
  by_cases d0 : s.d = 0
  · simp only [d0, if_true, beq_self_eq_true, cond_true]
    refine ⟨s.who, ld 1, s.s, ld 3, ?_⟩
    refine (take_spec hwg prg hl (by omega)).mono' ?_
    rintro v g2 _ wf2 ⟨F', u, hv⟩
    rw [List.length_map]
    by_cases hc : takeCode most L.length s.who s.s = 0
    · rw [if_pos hc] at hv ⊢
      obtain ⟨rfl, o, pr2⟩ := hv
      exact ⟨_, _, rfl, rfl, _, F', by simp [Buf.con], pr2, ug.trans u, wf2⟩
    · rw [if_neg hc] at hv ⊢
      obtain ⟨rfl, pr2⟩ := hv
      exact ⟨_, _, rfl, rfl, L, F', rfl, pr2, ug.trans u, wf2⟩
  have b0 : (s.d == 0) = false := by simp [d0]
  simp only [b0, cond_false, if_neg d0]
  by_cases d1 : s.d = 1
  · simp only [d1, if_true, beq_self_eq_true, cond_true]
    refine ⟨s.who, ld 1, a, n, f, ld 5, ?_⟩
    obtain ⟨ti, ht, hd⟩ := t31s
    obtain ⟨ei, he, hsz, hb, hzk⟩ := t28s
    have hxl : s.xs.length = n := by have := sr.ro.1; simpa using this
    have hfew := sr.few
    rw [by28] at hfew
    have hre := reach_le
    obtain ⟨p1, f1, G, g2, hx, ho, u2, w2⟩ := (Own.nil 1 (h.alloc row)).apps (f := true) hwg ht hd ht (fun k e => by rw [hd] at e; cases e) he hsz (by omega) hzk (sr.ro.news (f := f) hkg (by simp)) (by simp) (by rw [hb, List.length_map, hxl]; omega) (by rw [List.length_map, hxl]; omega)
    have hlen : 0 + (s.xs.map fun x => [V.int .u64 x]).length = n := by simp [hxl]
    rw [hlen] at hx ho
    refine ⟨p1, _, f1, g2, hx, ⟨s.who, ?_, rfl⟩, (by trivial), (by trivial), ?_⟩
    · have : g2.get h.next = some row := by rw [u2.same h.next (by simp [Hp.alloc_next]) (by simp)]; exact hgr
      rw [← hrow] at this; rw [Hp.ld_of this]; rfl
    obtain ⟨pr2, dis⟩ := u2.frame (PoolR.rep _ _ _ _) hwg prg (by simp)
    have ia : IntsAt .u64 p1 n s.xs g2 F := by
      refine ⟨hxl, fun hn => ?_⟩
      obtain ⟨o1, o2, o3⟩ := ho
      cases p1 with
      | none => obtain ⟨e, _⟩ := o3; simp at e; rw [e] at hxl; simp at hxl; omega
      | some q =>
        obtain ⟨q, o⟩ := q
        obtain ⟨e, front, hfr, hg⟩ := o3
        refine ⟨q, o, _, _, _, rfl, dis q (by rw [e]; simp), hg, fun k hk => ?_⟩
        rw [List.nil_append, flat1, List.getElem?_append_right (by omega), List.getElem?_map]
        congr 2; omega
    refine (give_spec w2 pr2 hnd ia (by omega)).mono' ?_
    rintro v g3 _ wf3 ⟨rfl, F', u3, pr3⟩
    have hu : Upd h g3 F F' := by
      refine ug.trans (Upd.trans ⟨fun j hj hF => u2.same j hj (by simp), fun j hj => .inl hj, u2.le⟩ u3)
    rw [giveC_con]
    refine ⟨_, rfl, rfl, _, F', ?_, pr3, hu, wf3⟩
    by_cases hz : giveCode L s.who [] s.xs = 0
    · rw [if_pos hz, if_pos hz, cdels_con]
    · rw [if_neg hz, if_neg hz]
  have b1 : (s.d == 1) = false := by simp [d1]
  simp only [b1, cond_false, if_neg d1]
  by_cases d2 : s.d = 2
  · simp only [d2, if_true, beq_self_eq_true, cond_true]
    refine ⟨s.n, ld 4, s.who, ld 1, s.to, ld 2, ?_⟩
    refine (move_spec prg hnd).mono' ?_
    rintro v g2 _ wf2 ⟨u, rfl, pr2⟩
    rw [codeC_con]
    refine ⟨_, rfl, rfl, _, F, ?_, pr2, ug.trans u, wf2⟩
    by_cases hz : s.to ≠ [] ∧ ofCode L s.n s.who = 0
    · rw [if_pos hz, if_pos hz, cset_con L s.n (Buf.give s.to) _ fun _ => rfl]
    · rw [if_neg hz, if_neg hz]
  have b2 : (s.d == 2) = false := by simp [d2]
  simp only [b2, cond_false, if_neg d2]
  by_cases d3 : s.d = 3
  · simp only [d3, if_true, beq_self_eq_true, cond_true]
    refine ⟨s.n, ld 4, s.who, ld 1, s.s, ld 3, ?_⟩
    refine (set_spec prg hnd).mono' ?_
    rintro v g2 _ wf2 ⟨u, rfl, pr2⟩
    rw [codeC_con]
    refine ⟨_, rfl, rfl, _, F, ?_, pr2, ug.trans u, wf2⟩
    by_cases hz : ofCode L s.n s.who = 0 ∧ s.s.length ≤ 65549
    · rw [if_pos hz, if_pos hz, cset_con L s.n (Buf.write s.s) _ fun _ => rfl]
    · rw [if_neg hz, if_neg hz]
  have b3 : (s.d == 3) = false := by simp [d3]
  simp only [b3, cond_false, if_neg d3]
  exact ⟨(by trivial), L, F, rfl, prg, ug, hwg⟩
end Go.Vex
