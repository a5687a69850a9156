/-
  PortsMeet of layer 22: whatever the script, the law returns true and leaves the input as it was. No condition.
-/
import Derived.Test.YtehihinmgejpaaaVexEE
import Derived.Test.YtehihinmgejpaaaTab22
import Derived.Test.YtehihinmgejpaaaXp22
import Derived.Test.YtehihinmgejpaaaXpn22
import Derived.Test.YtehihinmgejpaaaXlm22
import Derived.Test.YtehihinmgejpaaaCpa22
import Derived.Test.YtehihinmgejpaaaCpb22
import Derived.Test.YtehihinmgejpaaaCpc22
import Derived.Test.YtehihinmgejpaaaCpd22
import Derived.Test.YtehihinmgejpaaaCpl22
import Derived.Test.YtehihinmgejpaaaRows
import Derived.WalkKit
import Derived.ProofKit
import Derived.OpenShut
import Derived.KernelRfl
set_option linter.unusedVariables false
set_option linter.unusedSimpArgs false
namespace Go.Vex.PortsMeet
open Go.Proofs Go.Vex.Ports

/-! ### Places that stand together -/

def okL (L : List (Int × Bd)) : Prop := ∀ x ∈ L, ∀ y ∈ L, x.1 ≠ y.1 → meetB x.2 y.2 = true → x.2.share = true ∧ y.2.share = true ∧ x.2.ip = y.2.ip

/-- what was lent to w meets no other's -/
def lentOk (L : List (Int × Bd)) (w : Int) : Prop := ∀ x ∈ L, x.1 = w → ∀ y ∈ L, y.1 ≠ w → meetB x.2 y.2 = false

theorem meet_comm (a b : Bd) : meetB a b = meetB b a := by
  unfold meetB
  rw [Bool.beq_comm (a := b.kind), Bool.beq_comm (a := b.port), Bool.beq_comm (a := b.ip)]
  cases a.ip == 0 <;> cases b.ip == 0 <;> simp

theorem okL_add {L : List (Int × Bd)} {s : Int} {b : Bd} (h : okL L) (hb : ∀ x ∈ L, meetB b x.2 = true → x.2.share = true ∧ b.share = true ∧ x.2.ip = b.ip) : okL (L ++ [(s, b)]) := by
  intro x hx y hy hne hm
  rcases List.mem_append.1 hx with hx | hx
  · rcases List.mem_append.1 hy with hy | hy
    · exact h x hx y hy hne hm
    · rw [List.mem_singleton] at hy; subst hy
      exact hb x hx (by rw [meet_comm]; exact hm)
  · rw [List.mem_singleton] at hx; subst hx
    rcases List.mem_append.1 hy with hy | hy
    · obtain ⟨h1, h2, h3⟩ := hb y hy hm
      exact ⟨h2, h1, h3.symm⟩
    · rw [List.mem_singleton] at hy; subst hy
      exact absurd rfl hne

theorem not_clash {b x : Bd} (h : clashB b x = false) (hm : meetB b x = true) : x.share = true ∧ b.share = true ∧ x.ip = b.ip := by
  simp only [clashB, hm, Bool.true_and, Bool.or_eq_false_iff, Bool.not_eq_eq_eq_not, Bool.not_false, bne_eq_false_iff_eq] at h
  exact h

theorem not_mem_key {L : List (Int × Bd)} {s : Int} (h : mget L s = none) : ∀ x ∈ L, x.1 ≠ s := by
  unfold mget at h
  rw [Option.map_eq_none_iff, List.find?_eq_none] at h
  intro x hx e
  exact h x hx (by simp [e])

theorem mget_mem {L : List (Int × Bd)} {s : Int} {b : Bd} (h : mget L s = some b) : (s, b) ∈ L := by
  unfold mget at h
  rw [Option.map_eq_some_iff] at h
  obtain ⟨x, hx, rfl⟩ := h
  have h1 := List.find?_some hx
  have h2 := List.mem_of_find?_eq_some hx
  have : x.1 = s := by simpa using (of_decide_eq_true h1).symm
  rw [← this]; exact h2

theorem nodup_add {L : List (Int × Bd)} {s : Int} {b : Bd} (h : (L.map Prod.fst).Nodup) (hg : mget L s = none) : ((L ++ [(s, b)]).map Prod.fst).Nodup := by
  rw [List.map_append, List.nodup_append]
  refine ⟨h, by simp, fun x hx y hy => ?_⟩
  obtain ⟨z, hz, rfl⟩ := List.mem_map.1 hx
  simp only [List.map_cons, List.map_nil, List.mem_singleton] at hy
  subst hy
  exact not_mem_key hg z hz

theorem bind_ok {L : List (Int × Bd)} {s : Int} {b : Bd} (h : okL L) (hn : (L.map Prod.fst).Nodup) (hl : L.length ≤ 1024) :
    okL (if bindCode L s b = 0 then L ++ [(s, b)] else L) ∧ ((if bindCode L s b = 0 then L ++ [(s, b)] else L).map Prod.fst).Nodup ∧ (if bindCode L s b = 0 then L ++ [(s, b)] else L).length ≤ 1024 := by
  split
  · rename_i h0
    have hm : mayCode L s b true = 0 := by
      unfold bindCode at h0
      split at h0
      · omega
      · omega
    have hc : (L.any fun x => clashB b x.2) = false := by
      unfold bindCode at h0
      rw [if_neg (by omega)] at h0
      split at h0
      · omega
      · rename_i h; simpa using h
    obtain ⟨h1, h2⟩ := may_get hm
    refine ⟨okL_add h fun x hx hm => not_clash ?_ hm, nodup_add hn h1, by simp; omega⟩
    rw [List.any_eq_false] at hc
    simpa using hc x hx
  · exact ⟨h, hn, hl⟩

theorem lend_ok {L L' : List (Int × Bd)} {s draw code port : Int} {b : Bd} (hr : LendR L s b draw code port L') (h : okL L) (hn : (L.map Prod.fst).Nodup) (hl : L.length ≤ 1024) :
    okL L' ∧ (L'.map Prod.fst).Nodup ∧ L'.length ≤ 1024 ∧ (port ≠ 0 → 32768 ≤ port ∧ port ≤ 60999) ∧ (port ≠ 0 → lentOk L' s) := by
  rcases hr with ⟨_, _, rfl, rfl⟩ | ⟨hm, i, hi, _, hf, _, rfl, rfl⟩ | ⟨_, _, _, rfl, rfl⟩
  · exact ⟨h, hn, hl, fun h => absurd rfl h, fun h => absurd rfl h⟩
  · obtain ⟨h1, h2⟩ := may_get hm
    have hf' : ∀ x ∈ L, meetB (lendAt b draw i) x.2 = false := fun x hx => by
      have := List.all_eq_true.1 hf x hx
      simpa using this
    refine ⟨okL_add h fun x hx hm => ?_, nodup_add hn h1, by simp; omega, fun _ => ?_, fun _ => ?_⟩
    · rw [hf' x hx] at hm; cases hm
    · simp only [lendAt]; omega
    · intro x hx e y hy hne
      rcases List.mem_append.1 hx with hx | hx
      · exact absurd e (not_mem_key h1 x hx)
      · rw [List.mem_singleton] at hx; subst hx
        rcases List.mem_append.1 hy with hy | hy
        · exact hf' y hy
        · rw [List.mem_singleton] at hy; subst hy; exact absurd rfl hne
  · exact ⟨h, hn, hl, fun h => absurd rfl h, fun h => absurd rfl h⟩

theorem without_ok {L : List (Int × Bd)} {xs : List Int} (h : okL L) (hn : (L.map Prod.fst).Nodup) (hl : L.length ≤ 1024) :
    okL (without L xs) ∧ ((without L xs).map Prod.fst).Nodup ∧ (without L xs).length ≤ 1024 := by
  refine ⟨fun x hx y hy => h x (List.mem_filter.1 hx).1 y (List.mem_filter.1 hy).1, hn.sublist (List.Sublist.map _ List.filter_sublist), Nat.le_trans (List.length_filter_le _ _) hl⟩

/-! ### The walk -/

theorem mtA : MT T 49 kI (V.int .i64 0) := ⟨(T 49).get rfl, 35, 3, (T 3).get rfl, rfl, rfl, rfl, rfl, KL.int (ti := (T 35).get rfl) rfl rfl⟩

def stepZ : List V := [.int .i64 0, .int .u64 0, .int .u64 0, .int .u8 0, .int .u32 0, .int .u16 0, .bool false, .int .u16 0]

theorem step_form {r : List V} (h : shpBs stepZ r = true) : ∃ d w o k i p s x, r = [.int .i64 d, .int .u64 w, .int .u64 o, .int .u8 k, .int .u32 i, .int .u16 p, .bool s, .int .u16 x] :=
  allSs_spec stepZ r (k := fun r => ∃ d w o k i p s x, r = [.int .i64 d, .int .u64 w, .int .u64 o, .int .u8 k, .int .u32 i, .int .u16 p, .bool s, .int .u16 x]) (fun d w o k i p s x => ⟨d, w, o, k, i, p, s, x, rfl⟩) h

theorem wrap_succ {k n : Nat} (h : k < n) (hn : n ≤ 9223372036854775807) : IntKind.i64.wrap ((k : Int) + 1) = ((k + 1 : Nat) : Int) := by
  rw [wrap_of (by simp [IntKind.min, IntKind.max, IntKind.signed, IntKind.bits]; omega)]; rfl

structure MI (h0 : Hp) (p q m : Nat) (L : List (Int × Bd)) (A : List (Int × Int)) (g : Hp) : Prop where
  r : PortsR p L g [p, q]
  ok : okL L
  nd : (L.map Prod.fst).Nodup
  len : L.length ≤ 1024
  mo : ∃ o, g.get m = some o ∧ MO kI (V.int .i64) A o
  ne : p ≠ m ∧ q ≠ m
  lo : h0.next ≤ p ∧ h0.next ≤ q ∧ h0.next ≤ m
  same : ∀ j, j < h0.next → g.get j = h0.get j
  wf : g.wf

theorem MI.lt {h0 : Hp} {p q m : Nat} {L : List (Int × Bd)} {A : List (Int × Int)} {g : Hp} (i : MI h0 p q m L A g) : p < g.next ∧ q < g.next ∧ m < g.next := by
  obtain ⟨o, ho, _⟩ := i.mo
  exact ⟨(PortsR.rep _ _).lt i.wf i.r (by simp), (PortsR.rep _ _).lt i.wf i.r (by simp), i.wf.lt ho⟩

theorem MI.stab {h0 : Hp} {p q m : Nat} {L : List (Int × Bd)} {A : List (Int × Int)} {g g' : Hp} (i : MI h0 p q m L A g) (hs : ∀ j, j < g.next → g'.get j = g.get j) (hw : g'.wf) : MI h0 p q m L A g' := by
  obtain ⟨l1, l2, l3⟩ := i.lt
  obtain ⟨lo1, lo2, lo3⟩ := i.lo
  obtain ⟨o, ho, hm⟩ := i.mo
  exact ⟨(PortsR.rep _ _).stay i.wf i.r hs, i.ok, i.nd, i.len, ⟨o, by rw [hs _ l3]; exact ho, hm⟩, i.ne, i.lo, fun j hj => by rw [hs j (by omega)]; exact i.same j hj, hw⟩

theorem MI.upd {h0 : Hp} {p q m : Nat} {L L' : List (Int × Bd)} {A : List (Int × Int)} {g g' : Hp} (i : MI h0 p q m L A g) (r : PortsR p L' g' [p, q]) (u : Upd g g' [p, q] [p, q]) (w : g'.wf) (ok : okL L') (nd : (L'.map Prod.fst).Nodup) (len : L'.length ≤ 1024) : MI h0 p q m L' A g' := by
  obtain ⟨l1, l2, l3⟩ := i.lt
  obtain ⟨lo1, lo2, lo3⟩ := i.lo
  obtain ⟨ne1, ne2⟩ := i.ne
  obtain ⟨o, ho, hm⟩ := i.mo
  exact ⟨r, ok, nd, len, ⟨o, by rw [u.same _ l3 (by simp; omega)]; exact ho, hm⟩, i.ne, i.lo, fun j hj => by rw [u.same j (by omega) (by simp; omega)]; exact i.same j hj, w⟩

theorem MI.keeps {h0 : Hp} {p q m : Nat} {L : List (Int × Bd)} {A : List (Int × Int)} {g : Hp} (i : MI h0 p q m L A g) (hw : h0.wf) : h0.keeps g := fun j c e hq => by rw [i.same j (hw.lt hq)]; exact hq

def LI (h0 : Hp) (p q m n : Nat) : List V → Hp → Prop
  | [.int _ i], g => ∃ (k : Nat) (L : List (Int × Bd)) (A : List (Int × Int)), i = k ∧ k ≤ n ∧ MI h0 p q m L A g
  | _, _ => False

def LQ (h0 : Hp) (p q m : Nat) (A : List (Int × Int)) (w : Int) (s : Nat) (row : O) : List V → Hp → Prop
  | [.int _ l], g => ∃ L, MI h0 p q m L A g ∧ g.get s = some row ∧ (l ≠ 0 → 32768 ≤ l ∧ l ≤ 60999) ∧ (l ≠ 0 → lentOk L w)
  | _, _ => False

theorem law_calls {h : Hp} {a : Option (Nat × Nat)} {n : Nat} {f : Bool} {rows : List (List V)} (ha : RoSlc h a n rows 8)
    (hr0 : ∀ r ∈ rows, shpBs stepZ r = true ∧ ∀ v ∈ r, v.fits) (hbz : n * Try.prog.bytesOf 39 ≤ reachBytes) : XCalls Try.prog 4 [.slc a n f] h fun v _ => v = .bool true := by
  have hr : ∀ r ∈ rows, shpBs stepZ r = true := fun r h => (hr0 r h).1
  have hz : ∀ r ∈ rows, r.length = 8 := fun r h => shpBs_length (hr r h)
  refine XCalls.ofWf fun hw => ?_
  refine XCalls.cps fun K hK => ?_
  have KT : ∀ h', K (.bool true) h' := fun h' => hK _ _ rfl
  apply x4; unfold X4
  cases c0 : ltI 200 (↑n) with
  | true => exact works_spec fun _ => ⟨_, rfl, KT _⟩
  | false =>
  rw [ltI_eq, decide_eq_false_iff_not] at c0
  simp only [cond_false]
  refine (new_spec hw).mono ?_
  rintro _ g1 ⟨rfl, r1, q1⟩
  refine ⟨_, rfl, ?_⟩
  rintro g2 rfl
  have hr1 := (PortsR.rep _ _).lt q1.wf r1 (j := h.next + 1) (by simp)
  have m0 : MI h (h.next + 1) h.next g1.next [] [] (g1.alloc (.map [] 0)) :=
    ⟨r1.quiet q1.wf (Quiet.alloc q1.wf _), fun x hx => by simp at hx, by simp, by simp, ⟨_, Hp.get_alloc_self, MO.nil _ _⟩, by omega, by omega, fun j hj => by rw [Hp.get_alloc_ne (by omega), q1.same j hj], q1.wf.alloc⟩
  generalize hpp : h.next + 1 = p at *
  generalize hqq : h.next = q at *
  generalize hmm : g1.next = m at *
  refine ⟨LI h p q m n, fun vs _ => match vs with
    | [.int _ i] => n - i.toNat
    | _ => 0, ⟨by trivial, 0, [], [], rfl, by omega, m0⟩, ?_⟩
  rintro bs i g ⟨k, L, A, rfl, hkn, p0⟩
  cases hi : ltI (↑k) (↑n) with
  | false => exact works_spec fun _ => ⟨true, rfl, KT _⟩
  | true =>
  rw [ltI_eq, decide_eq_true_eq] at hi
  have hkn' : k < n := by omega
  obtain ⟨qa, row, rfl, hrow, hld, hlda⟩ := ha.ld (p0.keeps hw) hkn' hz
  obtain ⟨dow, w, ow, bk, bi, bp, bsh, dr, rfl⟩ := step_form (hr row (List.mem_of_getElem? hrow))
  have hfit := (hr0 _ (List.mem_of_getElem? hrow)).2
  have hw1 : IntKind.i64.wrap ((k : Int) + 1) = ((k + 1 : Nat) : Int) := wrap_succ (n := n) (by omega) (by omega)
  refine ⟨⟨by omega, hi⟩, dow, w, ow, bk, bi, bp, bsh, dr, hlda, ?_⟩
  rintro g9 rfl
  refine ⟨_, Hp.st_of Hp.get_alloc_self (Nat.le_of_ble_eq_true rfl), ?_⟩
  generalize hg10 : (g.alloc (.row [.int .i64 0, .int .u64 0, .int .u64 0, .int .u8 0, .int .u32 0, .int .u16 0, .bool false, .int .u16 0] 1 false)).set g.next (.row (splice [.int .i64 0, .int .u64 0, .int .u64 0, .int .u8 0, .int .u32 0, .int .u16 0, .bool false, .int .u16 0] 0 [.int .i64 dow, .int .u64 w, .int .u64 ow, .int .u8 bk, .int .u32 bi, .int .u16 bp, .bool bsh, .int .u16 dr]) 1 false) = g10
  have hs10 : ∀ j, j < g.next → g10.get j = g.get j := fun j hj => by rw [← hg10]; simp (disch := (first | omega | (simp only [Hp.alloc_next, Hp.set_next] <;> omega) | (simp (disch := (first | omega | (simp only [Hp.alloc_next, Hp.set_next] <;> omega) | fail)) only [Hp.get_set_self, Hp.get_set_ne, Hp.get_alloc_self, Hp.get_alloc_ne, Hp.get_alloc_at, Hp.get_set_at, Hp.set_next, Hp.alloc_next]; done) | fail)) only [Hp.st, Hp.ld, Hp.lda, splice, ble_eq', if_true, if_false, ite_true, ite_false, cond_true, cond_false, decide_true, decide_false, List.length_cons, List.length_nil, List.take_zero, List.take_succ_cons, List.nil_append, List.cons_append, List.append_nil, List.drop_succ_cons, List.drop_zero, List.drop_nil, List.getElem?_cons_succ, List.getElem?_cons_zero, Nat.reduceAdd, Nat.reduceLeDiff, Nat.reduceEqDiff, Nat.zero_add, Nat.add_zero, Nat.le_refl, Nat.zero_le, Nat.succ_ne_self, Nat.mul_one, Int.toNat_natCast, Option.some.injEq, Option.isNone_some, Option.isNone_none, V.int.injEq, V.str.injEq, V.bool.injEq, V.ptr.injEq, V.slc.injEq, V.map.injEq, V.agg.injEq, V.tup.injEq, List.cons.injEq, Prod.mk.injEq, onS, true_and, and_true, and_assoc, exists_and_left, exists_eq_left', forall_eq, heq_eq_eq, reduceCtorEq, Bool.not_true, Bool.not_false, eq_self, not_false_eq_true, Nat.left_eq_add, Nat.add_eq_left, Nat.add_left_cancel_iff, Nat.add_right_cancel_iff, Nat.reduceEqDiff, Nat.one_ne_zero, Hp.get_set_self, Hp.get_set_ne, Hp.get_alloc_self, Hp.get_alloc_ne, Hp.get_alloc_at, Hp.get_set_at, Hp.set_next, Hp.alloc_next, Option.some_ne_none, V.tup.injEq, Option.isSome_some, Option.isSome_none, exists_eq_left, exists_eq, Nat.mul_zero]
  obtain ⟨rw0, hrw⟩ : ∃ o, o = O.row [.int .i64 dow, .int .u64 w, .int .u64 ow, .int .u8 bk, .int .u32 bi, .int .u16 bp, .bool bsh, .int .u16 dr] 1 false := ⟨_, rfl⟩
  have ht10 : g10.get g.next = some rw0 := by rw [← hg10, Hp.get_set_self, hrw]; rfl
  have hw10 : g10.wf := by rw [← hg10]; exact p0.wf.alloc.set (Nat.lt_succ_self _)
  have p10 := p0.stab hs10 hw10
  clear hg10
  have hdr : 0 ≤ dr ∧ dr < 65536 := by
    have := hfit (.int .u16 dr) (by simp)
    simp [V.fits, IntKind.min, IntKind.max, IntKind.signed, IntKind.bits] at this
    omega
  obtain ⟨l1, l2, l3⟩ := p0.lt
  have hrow' : ∀ {g' g'' : Hp}, g'.wf → g'.get g.next = some rw0 → Upd g' g'' [p, q] [p, q] → g''.get g.next = some rw0 := fun w e u => by
    rw [u.same _ (w.lt e) (by simp; omega)]; exact e
  have hbV : V.agg [.int .u8 bk, .int .u32 bi, .int .u16 bp, .bool bsh] = bV ⟨bk, bi, bp, bsh⟩ := rfl
  have ht10' := ht10
  rw [hrw] at ht10'
  refine ⟨LQ h p q m A w g.next rw0, ?_, ?_⟩
  · refine ⟨dow, by simp (disch := (first | omega | (simp only [Hp.alloc_next, Hp.set_next] <;> omega) | (simp (disch := (first | omega | (simp only [Hp.alloc_next, Hp.set_next] <;> omega) | fail)) only [Hp.get_set_self, Hp.get_set_ne, Hp.get_alloc_self, Hp.get_alloc_ne, Hp.get_alloc_at, Hp.get_set_at, Hp.set_next, Hp.alloc_next, ht10']; done) | fail)) only [Hp.st, Hp.ld, Hp.lda, splice, ble_eq', if_true, if_false, ite_true, ite_false, cond_true, cond_false, decide_true, decide_false, List.length_cons, List.length_nil, List.take_zero, List.take_succ_cons, List.nil_append, List.cons_append, List.append_nil, List.drop_succ_cons, List.drop_zero, List.drop_nil, List.getElem?_cons_succ, List.getElem?_cons_zero, Nat.reduceAdd, Nat.reduceLeDiff, Nat.reduceEqDiff, Nat.zero_add, Nat.add_zero, Nat.le_refl, Nat.zero_le, Nat.succ_ne_self, Nat.mul_one, Int.toNat_natCast, Option.some.injEq, Option.isNone_some, Option.isNone_none, V.int.injEq, V.str.injEq, V.bool.injEq, V.ptr.injEq, V.slc.injEq, V.map.injEq, V.agg.injEq, V.tup.injEq, List.cons.injEq, Prod.mk.injEq, onS, true_and, and_true, and_assoc, exists_and_left, exists_eq_left', forall_eq, heq_eq_eq, reduceCtorEq, Bool.not_true, Bool.not_false, eq_self, not_false_eq_true, Nat.left_eq_add, Nat.add_eq_left, Nat.add_left_cancel_iff, Nat.add_right_cancel_iff, Nat.reduceEqDiff, Nat.one_ne_zero, Hp.get_set_self, Hp.get_set_ne, Hp.get_alloc_self, Hp.get_alloc_ne, Hp.get_alloc_at, Hp.get_set_at, Hp.set_next, Hp.alloc_next, Option.some_ne_none, V.tup.injEq, Option.isSome_some, Option.isSome_none, exists_eq_left, exists_eq, Nat.mul_zero, ht10'], ?_⟩
    by_cases d0 : dow = 0
    · have c : (dow == 0) = true := by simp [d0]
      rw [c]
      refine ⟨w, by simp (disch := (first | omega | (simp only [Hp.alloc_next, Hp.set_next] <;> omega) | (simp (disch := (first | omega | (simp only [Hp.alloc_next, Hp.set_next] <;> omega) | fail)) only [Hp.get_set_self, Hp.get_set_ne, Hp.get_alloc_self, Hp.get_alloc_ne, Hp.get_alloc_at, Hp.get_set_at, Hp.set_next, Hp.alloc_next, ht10']; done) | fail)) only [Hp.st, Hp.ld, Hp.lda, splice, ble_eq', if_true, if_false, ite_true, ite_false, cond_true, cond_false, decide_true, decide_false, List.length_cons, List.length_nil, List.take_zero, List.take_succ_cons, List.nil_append, List.cons_append, List.append_nil, List.drop_succ_cons, List.drop_zero, List.drop_nil, List.getElem?_cons_succ, List.getElem?_cons_zero, Nat.reduceAdd, Nat.reduceLeDiff, Nat.reduceEqDiff, Nat.zero_add, Nat.add_zero, Nat.le_refl, Nat.zero_le, Nat.succ_ne_self, Nat.mul_one, Int.toNat_natCast, Option.some.injEq, Option.isNone_some, Option.isNone_none, V.int.injEq, V.str.injEq, V.bool.injEq, V.ptr.injEq, V.slc.injEq, V.map.injEq, V.agg.injEq, V.tup.injEq, List.cons.injEq, Prod.mk.injEq, onS, true_and, and_true, and_assoc, exists_and_left, exists_eq_left', forall_eq, heq_eq_eq, reduceCtorEq, Bool.not_true, Bool.not_false, eq_self, not_false_eq_true, Nat.left_eq_add, Nat.add_eq_left, Nat.add_left_cancel_iff, Nat.add_right_cancel_iff, Nat.reduceEqDiff, Nat.one_ne_zero, Hp.get_set_self, Hp.get_set_ne, Hp.get_alloc_self, Hp.get_alloc_ne, Hp.get_alloc_at, Hp.get_set_at, Hp.set_next, Hp.alloc_next, Option.some_ne_none, V.tup.injEq, Option.isSome_some, Option.isSome_none, exists_eq_left, exists_eq, Nat.mul_zero, ht10'], bk, bi, bp, bsh, by simp (disch := (first | omega | (simp only [Hp.alloc_next, Hp.set_next] <;> omega) | (simp (disch := (first | omega | (simp only [Hp.alloc_next, Hp.set_next] <;> omega) | fail)) only [Hp.get_set_self, Hp.get_set_ne, Hp.get_alloc_self, Hp.get_alloc_ne, Hp.get_alloc_at, Hp.get_set_at, Hp.set_next, Hp.alloc_next, ht10']; done) | fail)) only [Hp.st, Hp.ld, Hp.lda, splice, ble_eq', if_true, if_false, ite_true, ite_false, cond_true, cond_false, decide_true, decide_false, List.length_cons, List.length_nil, List.take_zero, List.take_succ_cons, List.nil_append, List.cons_append, List.append_nil, List.drop_succ_cons, List.drop_zero, List.drop_nil, List.getElem?_cons_succ, List.getElem?_cons_zero, Nat.reduceAdd, Nat.reduceLeDiff, Nat.reduceEqDiff, Nat.zero_add, Nat.add_zero, Nat.le_refl, Nat.zero_le, Nat.succ_ne_self, Nat.mul_one, Int.toNat_natCast, Option.some.injEq, Option.isNone_some, Option.isNone_none, V.int.injEq, V.str.injEq, V.bool.injEq, V.ptr.injEq, V.slc.injEq, V.map.injEq, V.agg.injEq, V.tup.injEq, List.cons.injEq, Prod.mk.injEq, onS, true_and, and_true, and_assoc, exists_and_left, exists_eq_left', forall_eq, heq_eq_eq, reduceCtorEq, Bool.not_true, Bool.not_false, eq_self, not_false_eq_true, Nat.left_eq_add, Nat.add_eq_left, Nat.add_left_cancel_iff, Nat.add_right_cancel_iff, Nat.reduceEqDiff, Nat.one_ne_zero, Hp.get_set_self, Hp.get_set_ne, Hp.get_alloc_self, Hp.get_alloc_ne, Hp.get_alloc_at, Hp.get_set_at, Hp.set_next, Hp.alloc_next, Option.some_ne_none, V.tup.injEq, Option.isSome_some, Option.isSome_none, exists_eq_left, exists_eq, Nat.mul_zero, ht10'], ?_⟩
      rw [hbV]
      refine (bind_spec hw10 p10.r).mono ?_
      rintro _ g11 ⟨rfl, r11, u11, w11⟩
      obtain ⟨o1, o2, o3⟩ := bind_ok (s := w) (b := ⟨bk, bi, bp, bsh⟩) p10.ok p10.nd p10.len
      exact ⟨_, rfl, by trivial, _, p10.upd r11 u11 w11 o1 o2 o3, hrow' hw10 ht10 u11, fun h => absurd rfl h, fun h => absurd rfl h⟩
    · have c : (dow == 0) = false := by simp [d0]
      rw [c]
      by_cases d1 : dow = 1
      · have c : (dow == 1) = true := by simp [d1]
        simp only [c, cond_true, cond_false]
        refine ⟨w, by simp (disch := (first | omega | (simp only [Hp.alloc_next, Hp.set_next] <;> omega) | (simp (disch := (first | omega | (simp only [Hp.alloc_next, Hp.set_next] <;> omega) | fail)) only [Hp.get_set_self, Hp.get_set_ne, Hp.get_alloc_self, Hp.get_alloc_ne, Hp.get_alloc_at, Hp.get_set_at, Hp.set_next, Hp.alloc_next, ht10']; done) | fail)) only [Hp.st, Hp.ld, Hp.lda, splice, ble_eq', if_true, if_false, ite_true, ite_false, cond_true, cond_false, decide_true, decide_false, List.length_cons, List.length_nil, List.take_zero, List.take_succ_cons, List.nil_append, List.cons_append, List.append_nil, List.drop_succ_cons, List.drop_zero, List.drop_nil, List.getElem?_cons_succ, List.getElem?_cons_zero, Nat.reduceAdd, Nat.reduceLeDiff, Nat.reduceEqDiff, Nat.zero_add, Nat.add_zero, Nat.le_refl, Nat.zero_le, Nat.succ_ne_self, Nat.mul_one, Int.toNat_natCast, Option.some.injEq, Option.isNone_some, Option.isNone_none, V.int.injEq, V.str.injEq, V.bool.injEq, V.ptr.injEq, V.slc.injEq, V.map.injEq, V.agg.injEq, V.tup.injEq, List.cons.injEq, Prod.mk.injEq, onS, true_and, and_true, and_assoc, exists_and_left, exists_eq_left', forall_eq, heq_eq_eq, reduceCtorEq, Bool.not_true, Bool.not_false, eq_self, not_false_eq_true, Nat.left_eq_add, Nat.add_eq_left, Nat.add_left_cancel_iff, Nat.add_right_cancel_iff, Nat.reduceEqDiff, Nat.one_ne_zero, Hp.get_set_self, Hp.get_set_ne, Hp.get_alloc_self, Hp.get_alloc_ne, Hp.get_alloc_at, Hp.get_set_at, Hp.set_next, Hp.alloc_next, Option.some_ne_none, V.tup.injEq, Option.isSome_some, Option.isSome_none, exists_eq_left, exists_eq, Nat.mul_zero, ht10'], bk, bi, bp, bsh, by simp (disch := (first | omega | (simp only [Hp.alloc_next, Hp.set_next] <;> omega) | (simp (disch := (first | omega | (simp only [Hp.alloc_next, Hp.set_next] <;> omega) | fail)) only [Hp.get_set_self, Hp.get_set_ne, Hp.get_alloc_self, Hp.get_alloc_ne, Hp.get_alloc_at, Hp.get_set_at, Hp.set_next, Hp.alloc_next, ht10']; done) | fail)) only [Hp.st, Hp.ld, Hp.lda, splice, ble_eq', if_true, if_false, ite_true, ite_false, cond_true, cond_false, decide_true, decide_false, List.length_cons, List.length_nil, List.take_zero, List.take_succ_cons, List.nil_append, List.cons_append, List.append_nil, List.drop_succ_cons, List.drop_zero, List.drop_nil, List.getElem?_cons_succ, List.getElem?_cons_zero, Nat.reduceAdd, Nat.reduceLeDiff, Nat.reduceEqDiff, Nat.zero_add, Nat.add_zero, Nat.le_refl, Nat.zero_le, Nat.succ_ne_self, Nat.mul_one, Int.toNat_natCast, Option.some.injEq, Option.isNone_some, Option.isNone_none, V.int.injEq, V.str.injEq, V.bool.injEq, V.ptr.injEq, V.slc.injEq, V.map.injEq, V.agg.injEq, V.tup.injEq, List.cons.injEq, Prod.mk.injEq, onS, true_and, and_true, and_assoc, exists_and_left, exists_eq_left', forall_eq, heq_eq_eq, reduceCtorEq, Bool.not_true, Bool.not_false, eq_self, not_false_eq_true, Nat.left_eq_add, Nat.add_eq_left, Nat.add_left_cancel_iff, Nat.add_right_cancel_iff, Nat.reduceEqDiff, Nat.one_ne_zero, Hp.get_set_self, Hp.get_set_ne, Hp.get_alloc_self, Hp.get_alloc_ne, Hp.get_alloc_at, Hp.get_set_at, Hp.set_next, Hp.alloc_next, Option.some_ne_none, V.tup.injEq, Option.isSome_some, Option.isSome_none, exists_eq_left, exists_eq, Nat.mul_zero, ht10'], dr, by simp (disch := (first | omega | (simp only [Hp.alloc_next, Hp.set_next] <;> omega) | (simp (disch := (first | omega | (simp only [Hp.alloc_next, Hp.set_next] <;> omega) | fail)) only [Hp.get_set_self, Hp.get_set_ne, Hp.get_alloc_self, Hp.get_alloc_ne, Hp.get_alloc_at, Hp.get_set_at, Hp.set_next, Hp.alloc_next, ht10']; done) | fail)) only [Hp.st, Hp.ld, Hp.lda, splice, ble_eq', if_true, if_false, ite_true, ite_false, cond_true, cond_false, decide_true, decide_false, List.length_cons, List.length_nil, List.take_zero, List.take_succ_cons, List.nil_append, List.cons_append, List.append_nil, List.drop_succ_cons, List.drop_zero, List.drop_nil, List.getElem?_cons_succ, List.getElem?_cons_zero, Nat.reduceAdd, Nat.reduceLeDiff, Nat.reduceEqDiff, Nat.zero_add, Nat.add_zero, Nat.le_refl, Nat.zero_le, Nat.succ_ne_self, Nat.mul_one, Int.toNat_natCast, Option.some.injEq, Option.isNone_some, Option.isNone_none, V.int.injEq, V.str.injEq, V.bool.injEq, V.ptr.injEq, V.slc.injEq, V.map.injEq, V.agg.injEq, V.tup.injEq, List.cons.injEq, Prod.mk.injEq, onS, true_and, and_true, and_assoc, exists_and_left, exists_eq_left', forall_eq, heq_eq_eq, reduceCtorEq, Bool.not_true, Bool.not_false, eq_self, not_false_eq_true, Nat.left_eq_add, Nat.add_eq_left, Nat.add_left_cancel_iff, Nat.add_right_cancel_iff, Nat.reduceEqDiff, Nat.one_ne_zero, Hp.get_set_self, Hp.get_set_ne, Hp.get_alloc_self, Hp.get_alloc_ne, Hp.get_alloc_at, Hp.get_set_at, Hp.set_next, Hp.alloc_next, Option.some_ne_none, V.tup.injEq, Option.isSome_some, Option.isSome_none, exists_eq_left, exists_eq, Nat.mul_zero, ht10'], ?_⟩
        rw [hbV]
        refine (lend_spec hw10 p10.r hdr).mono ?_
        rintro _ g11 ⟨code, port, L', rfl, hl, r11, u11, w11⟩
        obtain ⟨o1, o2, o3, o4, o5⟩ := lend_ok hl p10.ok p10.nd p10.len
        exact ⟨_, _, rfl, by trivial, _, p10.upd r11 u11 w11 o1 o2 o3, hrow' hw10 ht10 u11, o4, o5⟩
      · have c : (dow == 1) = false := by simp [d1]
        simp only [c, cond_false]
        by_cases d2 : dow = 2
        · have c : (dow == 2) = true := by simp [d2]
          simp only [c, cond_true]
          refine ⟨w, by simp (disch := (first | omega | (simp only [Hp.alloc_next, Hp.set_next] <;> omega) | (simp (disch := (first | omega | (simp only [Hp.alloc_next, Hp.set_next] <;> omega) | fail)) only [Hp.get_set_self, Hp.get_set_ne, Hp.get_alloc_self, Hp.get_alloc_ne, Hp.get_alloc_at, Hp.get_set_at, Hp.set_next, Hp.alloc_next, ht10']; done) | fail)) only [Hp.st, Hp.ld, Hp.lda, splice, ble_eq', if_true, if_false, ite_true, ite_false, cond_true, cond_false, decide_true, decide_false, List.length_cons, List.length_nil, List.take_zero, List.take_succ_cons, List.nil_append, List.cons_append, List.append_nil, List.drop_succ_cons, List.drop_zero, List.drop_nil, List.getElem?_cons_succ, List.getElem?_cons_zero, Nat.reduceAdd, Nat.reduceLeDiff, Nat.reduceEqDiff, Nat.zero_add, Nat.add_zero, Nat.le_refl, Nat.zero_le, Nat.succ_ne_self, Nat.mul_one, Int.toNat_natCast, Option.some.injEq, Option.isNone_some, Option.isNone_none, V.int.injEq, V.str.injEq, V.bool.injEq, V.ptr.injEq, V.slc.injEq, V.map.injEq, V.agg.injEq, V.tup.injEq, List.cons.injEq, Prod.mk.injEq, onS, true_and, and_true, and_assoc, exists_and_left, exists_eq_left', forall_eq, heq_eq_eq, reduceCtorEq, Bool.not_true, Bool.not_false, eq_self, not_false_eq_true, Nat.left_eq_add, Nat.add_eq_left, Nat.add_left_cancel_iff, Nat.add_right_cancel_iff, Nat.reduceEqDiff, Nat.one_ne_zero, Hp.get_set_self, Hp.get_set_ne, Hp.get_alloc_self, Hp.get_alloc_ne, Hp.get_alloc_at, Hp.get_set_at, Hp.set_next, Hp.alloc_next, Option.some_ne_none, V.tup.injEq, Option.isSome_some, Option.isSome_none, exists_eq_left, exists_eq, Nat.mul_zero, ht10'], ?_⟩
          rintro g11 rfl
          have q11 := Quiet.alloc hw10 (.row [.int .u64 w] 1 false)
          have rd : Rd (some (g10.next, 0)) 1 [w] (g10.alloc (.row [.int .u64 w] 1 false)) := ⟨rfl, fun _ => ⟨_, _, _, _, _, rfl, Hp.get_alloc_self, fun k hk => match k, hk with
            | 0, _ => rfl⟩⟩
          have p11 := p10.stab q11.same q11.wf
          have := p10.lt
          refine (give_spec (xs := [w]) q11.wf p11.r p11.nd (by have := p11.len; omega) rd (by omega) (fun qq o e => by cases e; simp; omega)).mono ?_
          rintro _ g12 ⟨rfl, r12, u12, w12⟩
          obtain ⟨o1, o2, o3⟩ := without_ok (xs := [w]) p11.ok p11.nd p11.len
          exact ⟨_, rfl, by trivial, _, p11.upd r12 u12 w12 o1 o2 o3, hrow' q11.wf (by rw [q11.same _ (hw10.lt ht10)]; exact ht10) u12, fun h => absurd rfl h, fun h => absurd rfl h⟩
        · have c : (dow == 2) = false := by simp [d2]
          simp only [c, cond_false]
          exact ⟨by trivial, _, p10, ht10, fun h => absurd rfl h, fun h => absurd rfl h⟩
  · rintro bs2 lent g11 ⟨L', p11, t11, hl1, hl2⟩
    have t11' := t11
    rw [hrw] at t11'
    obtain ⟨o, hgo, ho⟩ := p11.mo
    obtain ⟨o', ho', hput⟩ := ho.put mtA w 1
    refine ⟨w, by simp (disch := (first | omega | (simp only [Hp.alloc_next, Hp.set_next] <;> omega) | (simp (disch := (first | omega | (simp only [Hp.alloc_next, Hp.set_next] <;> omega) | fail)) only [Hp.get_set_self, Hp.get_set_ne, Hp.get_alloc_self, Hp.get_alloc_ne, Hp.get_alloc_at, Hp.get_set_at, Hp.set_next, Hp.alloc_next, t11']; done) | fail)) only [Hp.st, Hp.ld, Hp.lda, splice, ble_eq', if_true, if_false, ite_true, ite_false, cond_true, cond_false, decide_true, decide_false, List.length_cons, List.length_nil, List.take_zero, List.take_succ_cons, List.nil_append, List.cons_append, List.append_nil, List.drop_succ_cons, List.drop_zero, List.drop_nil, List.getElem?_cons_succ, List.getElem?_cons_zero, Nat.reduceAdd, Nat.reduceLeDiff, Nat.reduceEqDiff, Nat.zero_add, Nat.add_zero, Nat.le_refl, Nat.zero_le, Nat.succ_ne_self, Nat.mul_one, Int.toNat_natCast, Option.some.injEq, Option.isNone_some, Option.isNone_none, V.int.injEq, V.str.injEq, V.bool.injEq, V.ptr.injEq, V.slc.injEq, V.map.injEq, V.agg.injEq, V.tup.injEq, List.cons.injEq, Prod.mk.injEq, onS, true_and, and_true, and_assoc, exists_and_left, exists_eq_left', forall_eq, heq_eq_eq, reduceCtorEq, Bool.not_true, Bool.not_false, eq_self, not_false_eq_true, Nat.left_eq_add, Nat.add_eq_left, Nat.add_left_cancel_iff, Nat.add_right_cancel_iff, Nat.reduceEqDiff, Nat.one_ne_zero, Hp.get_set_self, Hp.get_set_ne, Hp.get_alloc_self, Hp.get_alloc_ne, Hp.get_alloc_at, Hp.get_set_at, Hp.set_next, Hp.alloc_next, Option.some_ne_none, V.tup.injEq, Option.isSome_some, Option.isSome_none, exists_eq_left, exists_eq, Nat.mul_zero, t11'], _, hput _ _ hgo, fun vs g' => match vs with
      | [] => g' = g11.set m o'
      | _ => False, ?_, ?_⟩
    · by_cases e0 : lent = 0
      · have c : (lent != 0) = false := by simp [e0]
        rw [c]; exact ⟨by trivial, rfl⟩
      · have c : (lent != 0) = true := by simp [e0]
        rw [c]
        have := hl1 e0
        have c1 : ltI lent 32768 = false := by rw [ltI_eq, decide_eq_false_iff_not]; omega
        have c2 : ltI 60999 lent = false := by rw [ltI_eq, decide_eq_false_iff_not]; omega
        rw [c1, c2]; exact ⟨by trivial, rfl⟩
    rintro bs3 g12 rfl
    have hl11 := p11.lt
    have hne11 := p11.ne
    have hlo11 := p11.lo
    have w12 : (g11.set m o').wf := p11.wf.set hl11.2.2
    have p12 : MI h p q m L' (mput A w 1) (g11.set m o') :=
      ⟨(PortsR.rep _ _).loc _ _ _ (fun j hj => Hp.get_set_ne (by rcases List.mem_cons.1 hj with rfl | hj; exact hne11.1; rw [List.mem_singleton] at hj; subst hj; exact hne11.2)) p11.r, p11.ok, p11.nd, p11.len, ⟨_, Hp.get_set_self, ho'⟩, p11.ne, p11.lo,
        fun j hj => by rw [Hp.get_set_ne (by omega)]; exact p11.same j hj, w12⟩
    have t12 : (g11.set m o').get g.next = some rw0 := by rw [Hp.get_set_ne (by omega)]; exact t11
    generalize g11.set m o' = g12 at *
    clear hput ho
    generalize mput A w 1 = A' at *
    obtain ⟨o12, hg12, hm12⟩ := p12.mo
    have hl12 := p12.lt
    have hgl : g.next < g12.next := w12.lt t12
    obtain ⟨g13, hx13, it13, s13, n13, w13⟩ := hm12.iter mtA hg12 w12
    refine ⟨_, hx13, fun vs g' => match vs with
      | [] => ∃ done, Itr kI (V.int .i64) A' m g12.next done g' ∧ (∀ j, j < g12.next → g'.get j = g12.get j) ∧ g'.wf ∧ g12.next < g'.next
      | _ => False, fun _ g' => A'.length - itN g12.next g', ⟨by trivial, [], it13, fun j hj => s13 j (by omega), w13, by omega⟩, ?_⟩
    rintro bs4 g14 ⟨done, it14, s14, w14, n14⟩
    obtain ⟨r, hr', hend, hforms, hstep⟩ := it14.next w14
    refine ⟨r, hr', fun _ => ?_, hforms, ?_⟩
    · rw [hw1]
      exact ⟨by trivial, ⟨k + 1, L', A', rfl, by omega, p12.stab s14 w14⟩, by simp only [Int.toNat_natCast]; omega⟩
    intro a1 b1 g15 hm15
    obtain ⟨z, hz, rfl, rfl, hent, hs15, hn15, w15, _, hnx⟩ := hstep a1 b1 g15 hm15
    have ss15 : ∀ j, j < g12.next → g15.get j = g12.get j := fun j hj => by rw [hs15 j (by omega), s14 j hj]
    have p15 := p12.stab ss15 w15
    refine ⟨z.1, _, hent, ?_⟩
    refine (of_spec w15 p15.r).mono ?_
    rintro _ g16 ⟨rfl, q16⟩
    obtain ⟨x, bx, ex, eb, hxL⟩ : ∃ x bx, (mget L' z.1).getD b0 = x ∧ (mget L' z.1).isSome = bx ∧ (bx = true → (z.1, x) ∈ L') := ⟨_, _, rfl, rfl, fun e => by
      obtain ⟨b, hb⟩ := Option.isSome_iff_exists.1 e
      rw [hb]; exact mget_mem hb⟩
    rw [ex, eb]
    refine ⟨_, _, _, _, _, rfl, ?_⟩
    rintro g17 rfl
    refine ⟨_, Hp.st_of Hp.get_alloc_self (Nat.le_of_ble_eq_true rfl), ?_⟩
    obtain ⟨g18, hg18⟩ : ∃ g18, g18 = (g16.alloc (.row [.int .u8 0, .int .u32 0, .int .u16 0, .bool false] 1 false)).set g16.next (.row (splice [.int .u8 0, .int .u32 0, .int .u16 0, .bool false] 0 [.int .u8 x.kind, .int .u32 x.ip, .int .u16 x.port, .bool x.share]) 1 false) := ⟨_, rfl⟩
    have c18 : g18.get g16.next = some (.row [.int .u8 x.kind, .int .u32 x.ip, .int .u16 x.port, .bool x.share] 1 false) := by rw [hg18, Hp.get_set_self]; rfl
    have q18 : Quiet g16 g18 := by rw [hg18]; exact ⟨fun j hj => by simp (disch := (first | omega | (simp only [Hp.alloc_next, Hp.set_next] <;> omega) | (simp (disch := (first | omega | (simp only [Hp.alloc_next, Hp.set_next] <;> omega) | fail)) only [Hp.get_set_self, Hp.get_set_ne, Hp.get_alloc_self, Hp.get_alloc_ne, Hp.get_alloc_at, Hp.get_set_at, Hp.set_next, Hp.alloc_next]; done) | fail)) only [Hp.st, Hp.ld, Hp.lda, splice, ble_eq', if_true, if_false, ite_true, ite_false, cond_true, cond_false, decide_true, decide_false, List.length_cons, List.length_nil, List.take_zero, List.take_succ_cons, List.nil_append, List.cons_append, List.append_nil, List.drop_succ_cons, List.drop_zero, List.drop_nil, List.getElem?_cons_succ, List.getElem?_cons_zero, Nat.reduceAdd, Nat.reduceLeDiff, Nat.reduceEqDiff, Nat.zero_add, Nat.add_zero, Nat.le_refl, Nat.zero_le, Nat.succ_ne_self, Nat.mul_one, Int.toNat_natCast, Option.some.injEq, Option.isNone_some, Option.isNone_none, V.int.injEq, V.str.injEq, V.bool.injEq, V.ptr.injEq, V.slc.injEq, V.map.injEq, V.agg.injEq, V.tup.injEq, List.cons.injEq, Prod.mk.injEq, onS, true_and, and_true, and_assoc, exists_and_left, exists_eq_left', forall_eq, heq_eq_eq, reduceCtorEq, Bool.not_true, Bool.not_false, eq_self, not_false_eq_true, Nat.left_eq_add, Nat.add_eq_left, Nat.add_left_cancel_iff, Nat.add_right_cancel_iff, Nat.reduceEqDiff, Nat.one_ne_zero, Hp.get_set_self, Hp.get_set_ne, Hp.get_alloc_self, Hp.get_alloc_ne, Hp.get_alloc_at, Hp.get_set_at, Hp.set_next, Hp.alloc_next, Option.some_ne_none, V.tup.injEq, Option.isSome_some, Option.isSome_none, exists_eq_left, exists_eq, Nat.mul_zero], by simp (disch := (first | omega | (simp only [Hp.alloc_next, Hp.set_next] <;> omega) | (simp (disch := (first | omega | (simp only [Hp.alloc_next, Hp.set_next] <;> omega) | fail)) only [Hp.get_set_self, Hp.get_set_ne, Hp.get_alloc_self, Hp.get_alloc_ne, Hp.get_alloc_at, Hp.get_set_at, Hp.set_next, Hp.alloc_next]; done) | fail)) only [Hp.st, Hp.ld, Hp.lda, splice, ble_eq', if_true, if_false, ite_true, ite_false, cond_true, cond_false, decide_true, decide_false, List.length_cons, List.length_nil, List.take_zero, List.take_succ_cons, List.nil_append, List.cons_append, List.append_nil, List.drop_succ_cons, List.drop_zero, List.drop_nil, List.getElem?_cons_succ, List.getElem?_cons_zero, Nat.reduceAdd, Nat.reduceLeDiff, Nat.reduceEqDiff, Nat.zero_add, Nat.add_zero, Nat.le_refl, Nat.zero_le, Nat.succ_ne_self, Nat.mul_one, Int.toNat_natCast, Option.some.injEq, Option.isNone_some, Option.isNone_none, V.int.injEq, V.str.injEq, V.bool.injEq, V.ptr.injEq, V.slc.injEq, V.map.injEq, V.agg.injEq, V.tup.injEq, List.cons.injEq, Prod.mk.injEq, onS, true_and, and_true, and_assoc, exists_and_left, exists_eq_left', forall_eq, heq_eq_eq, reduceCtorEq, Bool.not_true, Bool.not_false, eq_self, not_false_eq_true, Nat.left_eq_add, Nat.add_eq_left, Nat.add_left_cancel_iff, Nat.add_right_cancel_iff, Nat.reduceEqDiff, Nat.one_ne_zero, Hp.get_set_self, Hp.get_set_ne, Hp.get_alloc_self, Hp.get_alloc_ne, Hp.get_alloc_at, Hp.get_set_at, Hp.set_next, Hp.alloc_next, Option.some_ne_none, V.tup.injEq, Option.isSome_some, Option.isSome_none, exists_eq_left, exists_eq, Nat.mul_zero]; omega, q16.wf.alloc.set (Nat.lt_succ_self _)⟩
    have n18 : g18.next = g16.next + 1 := by rw [hg18]; rfl
    rw [← hg18]
    clear hg18
    have le16 := q16.le
    have s18 : ∀ j, j < g15.next → g18.get j = g15.get j := fun j hj => by rw [q18.same j (by omega), q16.same j hj]
    obtain ⟨g19, hx19, it19, s19, n19, w19⟩ := hm12.iter mtA (h := g18) (m := m) (by rw [s18 _ (by omega), ss15 _ hl12.2.2]; exact hg12) q18.wf
    refine ⟨_, hx19, fun vs g' => match vs with
      | [] => ∃ done, Itr kI (V.int .i64) A' m g18.next done g' ∧ (∀ j, j < g18.next → g'.get j = g18.get j) ∧ g'.wf ∧ g18.next < g'.next
      | _ => False, fun _ g' => A'.length - itN g18.next g', ⟨by trivial, [], it19, fun j hj => s19 j (by omega), w19, by omega⟩, ?_⟩
    rintro bs5 g20 ⟨done2, it20, s20, w20, n20⟩
    obtain ⟨r2, hr2, hend2, hforms2, hstep2⟩ := it20.next w20
    refine ⟨r2, hr2, fun _ => ?_, hforms2, ?_⟩
    · obtain ⟨i5, lt5⟩ := hnx g20 (by rw [s20 _ (by omega), s18 _ (by omega)]) (by rw [s20 _ (by omega), s18 _ (by omega)])
      exact ⟨by trivial, ⟨_, i5, fun j hj => by rw [s20 j (by omega), s18 j (by omega), ss15 j hj], w20, by omega⟩, lt5⟩
    intro a2 b2 g21 hm21
    obtain ⟨z2, hz2, rfl, rfl, hent2, hs21, hn21, w21, _, hnx2⟩ := hstep2 a2 b2 g21 hm21
    have ss21 : ∀ j, j < g18.next → g21.get j = g18.get j := fun j hj => by rw [hs21 j (by omega), s20 j hj]
    have p21 := p15.stab (fun j hj => by rw [ss21 j (by omega), s18 j hj]) w21
    refine ⟨z2.1, _, hent2, ?_⟩
    refine (of_spec w21 p21.r).mono ?_
    rintro _ g22 ⟨rfl, q22⟩
    obtain ⟨y, by', ey, eb2, hyL⟩ : ∃ y by', (mget L' z2.1).getD b0 = y ∧ (mget L' z2.1).isSome = by' ∧ (by' = true → (z2.1, y) ∈ L') := ⟨_, _, rfl, rfl, fun e => by
      obtain ⟨b, hb⟩ := Option.isSome_iff_exists.1 e
      rw [hb]; exact mget_mem hb⟩
    rw [ey, eb2]
    refine ⟨_, _, _, _, _, rfl, ?_⟩
    rintro g23 rfl
    refine ⟨_, Hp.st_of Hp.get_alloc_self (Nat.le_of_ble_eq_true rfl), ?_⟩
    obtain ⟨g24, hg24⟩ : ∃ g24, g24 = (g22.alloc (.row [.int .u8 0, .int .u32 0, .int .u16 0, .bool false] 1 false)).set g22.next (.row (splice [.int .u8 0, .int .u32 0, .int .u16 0, .bool false] 0 [.int .u8 y.kind, .int .u32 y.ip, .int .u16 y.port, .bool y.share]) 1 false) := ⟨_, rfl⟩
    have cy : g24.get g22.next = some (.row [.int .u8 y.kind, .int .u32 y.ip, .int .u16 y.port, .bool y.share] 1 false) := by rw [hg24, Hp.get_set_self]; rfl
    have q24 : Quiet g22 g24 := by rw [hg24]; exact ⟨fun j hj => by simp (disch := (first | omega | (simp only [Hp.alloc_next, Hp.set_next] <;> omega) | (simp (disch := (first | omega | (simp only [Hp.alloc_next, Hp.set_next] <;> omega) | fail)) only [Hp.get_set_self, Hp.get_set_ne, Hp.get_alloc_self, Hp.get_alloc_ne, Hp.get_alloc_at, Hp.get_set_at, Hp.set_next, Hp.alloc_next]; done) | fail)) only [Hp.st, Hp.ld, Hp.lda, splice, ble_eq', if_true, if_false, ite_true, ite_false, cond_true, cond_false, decide_true, decide_false, List.length_cons, List.length_nil, List.take_zero, List.take_succ_cons, List.nil_append, List.cons_append, List.append_nil, List.drop_succ_cons, List.drop_zero, List.drop_nil, List.getElem?_cons_succ, List.getElem?_cons_zero, Nat.reduceAdd, Nat.reduceLeDiff, Nat.reduceEqDiff, Nat.zero_add, Nat.add_zero, Nat.le_refl, Nat.zero_le, Nat.succ_ne_self, Nat.mul_one, Int.toNat_natCast, Option.some.injEq, Option.isNone_some, Option.isNone_none, V.int.injEq, V.str.injEq, V.bool.injEq, V.ptr.injEq, V.slc.injEq, V.map.injEq, V.agg.injEq, V.tup.injEq, List.cons.injEq, Prod.mk.injEq, onS, true_and, and_true, and_assoc, exists_and_left, exists_eq_left', forall_eq, heq_eq_eq, reduceCtorEq, Bool.not_true, Bool.not_false, eq_self, not_false_eq_true, Nat.left_eq_add, Nat.add_eq_left, Nat.add_left_cancel_iff, Nat.add_right_cancel_iff, Nat.reduceEqDiff, Nat.one_ne_zero, Hp.get_set_self, Hp.get_set_ne, Hp.get_alloc_self, Hp.get_alloc_ne, Hp.get_alloc_at, Hp.get_set_at, Hp.set_next, Hp.alloc_next, Option.some_ne_none, V.tup.injEq, Option.isSome_some, Option.isSome_none, exists_eq_left, exists_eq, Nat.mul_zero], by simp (disch := (first | omega | (simp only [Hp.alloc_next, Hp.set_next] <;> omega) | (simp (disch := (first | omega | (simp only [Hp.alloc_next, Hp.set_next] <;> omega) | fail)) only [Hp.get_set_self, Hp.get_set_ne, Hp.get_alloc_self, Hp.get_alloc_ne, Hp.get_alloc_at, Hp.get_set_at, Hp.set_next, Hp.alloc_next]; done) | fail)) only [Hp.st, Hp.ld, Hp.lda, splice, ble_eq', if_true, if_false, ite_true, ite_false, cond_true, cond_false, decide_true, decide_false, List.length_cons, List.length_nil, List.take_zero, List.take_succ_cons, List.nil_append, List.cons_append, List.append_nil, List.drop_succ_cons, List.drop_zero, List.drop_nil, List.getElem?_cons_succ, List.getElem?_cons_zero, Nat.reduceAdd, Nat.reduceLeDiff, Nat.reduceEqDiff, Nat.zero_add, Nat.add_zero, Nat.le_refl, Nat.zero_le, Nat.succ_ne_self, Nat.mul_one, Int.toNat_natCast, Option.some.injEq, Option.isNone_some, Option.isNone_none, V.int.injEq, V.str.injEq, V.bool.injEq, V.ptr.injEq, V.slc.injEq, V.map.injEq, V.agg.injEq, V.tup.injEq, List.cons.injEq, Prod.mk.injEq, onS, true_and, and_true, and_assoc, exists_and_left, exists_eq_left', forall_eq, heq_eq_eq, reduceCtorEq, Bool.not_true, Bool.not_false, eq_self, not_false_eq_true, Nat.left_eq_add, Nat.add_eq_left, Nat.add_left_cancel_iff, Nat.add_right_cancel_iff, Nat.reduceEqDiff, Nat.one_ne_zero, Hp.get_set_self, Hp.get_set_ne, Hp.get_alloc_self, Hp.get_alloc_ne, Hp.get_alloc_at, Hp.get_set_at, Hp.set_next, Hp.alloc_next, Option.some_ne_none, V.tup.injEq, Option.isSome_some, Option.isSome_none, exists_eq_left, exists_eq, Nat.mul_zero]; omega, q22.wf.alloc.set (Nat.lt_succ_self _)⟩
    rw [← hg24]
    clear hg24
    have le22 := q22.le
    have le24 := q24.le
    have s24 : ∀ j, j < g21.next → g24.get j = g21.get j := fun j hj => by rw [q24.same j (by omega), q22.same j hj]
    have cx : g24.get g16.next = some (.row [.int .u8 x.kind, .int .u32 x.ip, .int .u16 x.port, .bool x.share] 1 false) := by rw [s24 _ (by omega), ss21 _ (by omega)]; exact c18
    have cs : g24.get g.next = some (O.row [.int .i64 dow, .int .u64 w, .int .u64 ow, .int .u8 bk, .int .u32 bi, .int .u16 bp, .bool bsh, .int .u16 dr] 1 false) := by
      rw [s24 _ (by omega), ss21 _ (by omega), s18 _ (by omega), ss15 _ hgl, ← hrw]; exact t12
    obtain ⟨i6, lt6⟩ := hnx2 g24 (s24 _ (by omega)) (s24 _ (by omega))
    have go : (∃ done, Itr kI (V.int .i64) A' m g18.next done g24 ∧ (∀ j, j < g18.next → g24.get j = g18.get j) ∧ g24.wf ∧ g18.next < g24.next) := ⟨_, i6, fun j hj => by rw [s24 j (by omega), ss21 j hj], q24.wf, by omega⟩
    by_cases e1 : z.1 = z2.1
    · have c : (z.1 == z2.1) = true := by simp [e1]
      rw [c]; exact ⟨by trivial, go, lt6⟩
    have c : (z.1 == z2.1) = false := by simp [e1]
    rw [c]
    cases bx with
    | false => exact ⟨by trivial, go, lt6⟩
    | true =>
    cases by' with
    | false => exact ⟨by trivial, go, lt6⟩
    | true =>
    have hxL := hxL rfl
    have hyL := hyL rfl
    simp only [cond_false, Bool.not_true]
    have hok := p12.ok _ hxL _ hyL e1
    refine ⟨fun vs g' => match vs with
      | [.bool b] => b = meetB y x ∧ g' = g24
      | _ => False, ?_, ?_⟩
    · refine ⟨x.kind, by simp (disch := (first | omega | (simp only [Hp.alloc_next, Hp.set_next] <;> omega) | (simp (disch := (first | omega | (simp only [Hp.alloc_next, Hp.set_next] <;> omega) | fail)) only [Hp.get_set_self, Hp.get_set_ne, Hp.get_alloc_self, Hp.get_alloc_ne, Hp.get_alloc_at, Hp.get_set_at, Hp.set_next, Hp.alloc_next, cx]; done) | fail)) only [Hp.st, Hp.ld, Hp.lda, splice, ble_eq', if_true, if_false, ite_true, ite_false, cond_true, cond_false, decide_true, decide_false, List.length_cons, List.length_nil, List.take_zero, List.take_succ_cons, List.nil_append, List.cons_append, List.append_nil, List.drop_succ_cons, List.drop_zero, List.drop_nil, List.getElem?_cons_succ, List.getElem?_cons_zero, Nat.reduceAdd, Nat.reduceLeDiff, Nat.reduceEqDiff, Nat.zero_add, Nat.add_zero, Nat.le_refl, Nat.zero_le, Nat.succ_ne_self, Nat.mul_one, Int.toNat_natCast, Option.some.injEq, Option.isNone_some, Option.isNone_none, V.int.injEq, V.str.injEq, V.bool.injEq, V.ptr.injEq, V.slc.injEq, V.map.injEq, V.agg.injEq, V.tup.injEq, List.cons.injEq, Prod.mk.injEq, onS, true_and, and_true, and_assoc, exists_and_left, exists_eq_left', forall_eq, heq_eq_eq, reduceCtorEq, Bool.not_true, Bool.not_false, eq_self, not_false_eq_true, Nat.left_eq_add, Nat.add_eq_left, Nat.add_left_cancel_iff, Nat.add_right_cancel_iff, Nat.reduceEqDiff, Nat.one_ne_zero, Hp.get_set_self, Hp.get_set_ne, Hp.get_alloc_self, Hp.get_alloc_ne, Hp.get_alloc_at, Hp.get_set_at, Hp.set_next, Hp.alloc_next, Option.some_ne_none, V.tup.injEq, Option.isSome_some, Option.isSome_none, exists_eq_left, exists_eq, Nat.mul_zero, cx], y.kind, by simp (disch := (first | omega | (simp only [Hp.alloc_next, Hp.set_next] <;> omega) | (simp (disch := (first | omega | (simp only [Hp.alloc_next, Hp.set_next] <;> omega) | fail)) only [Hp.get_set_self, Hp.get_set_ne, Hp.get_alloc_self, Hp.get_alloc_ne, Hp.get_alloc_at, Hp.get_set_at, Hp.set_next, Hp.alloc_next, cy]; done) | fail)) only [Hp.st, Hp.ld, Hp.lda, splice, ble_eq', if_true, if_false, ite_true, ite_false, cond_true, cond_false, decide_true, decide_false, List.length_cons, List.length_nil, List.take_zero, List.take_succ_cons, List.nil_append, List.cons_append, List.append_nil, List.drop_succ_cons, List.drop_zero, List.drop_nil, List.getElem?_cons_succ, List.getElem?_cons_zero, Nat.reduceAdd, Nat.reduceLeDiff, Nat.reduceEqDiff, Nat.zero_add, Nat.add_zero, Nat.le_refl, Nat.zero_le, Nat.succ_ne_self, Nat.mul_one, Int.toNat_natCast, Option.some.injEq, Option.isNone_some, Option.isNone_none, V.int.injEq, V.str.injEq, V.bool.injEq, V.ptr.injEq, V.slc.injEq, V.map.injEq, V.agg.injEq, V.tup.injEq, List.cons.injEq, Prod.mk.injEq, onS, true_and, and_true, and_assoc, exists_and_left, exists_eq_left', forall_eq, heq_eq_eq, reduceCtorEq, Bool.not_true, Bool.not_false, eq_self, not_false_eq_true, Nat.left_eq_add, Nat.add_eq_left, Nat.add_left_cancel_iff, Nat.add_right_cancel_iff, Nat.reduceEqDiff, Nat.one_ne_zero, Hp.get_set_self, Hp.get_set_ne, Hp.get_alloc_self, Hp.get_alloc_ne, Hp.get_alloc_at, Hp.get_set_at, Hp.set_next, Hp.alloc_next, Option.some_ne_none, V.tup.injEq, Option.isSome_some, Option.isSome_none, exists_eq_left, exists_eq, Nat.mul_zero, cy], ?_⟩
      unfold meetB
      cases ck : x.kind == y.kind with
      | false => exact ⟨by trivial, rfl, rfl⟩
      | true =>
        refine ⟨x.port, by simp (disch := (first | omega | (simp only [Hp.alloc_next, Hp.set_next] <;> omega) | (simp (disch := (first | omega | (simp only [Hp.alloc_next, Hp.set_next] <;> omega) | fail)) only [Hp.get_set_self, Hp.get_set_ne, Hp.get_alloc_self, Hp.get_alloc_ne, Hp.get_alloc_at, Hp.get_set_at, Hp.set_next, Hp.alloc_next, cx]; done) | fail)) only [Hp.st, Hp.ld, Hp.lda, splice, ble_eq', if_true, if_false, ite_true, ite_false, cond_true, cond_false, decide_true, decide_false, List.length_cons, List.length_nil, List.take_zero, List.take_succ_cons, List.nil_append, List.cons_append, List.append_nil, List.drop_succ_cons, List.drop_zero, List.drop_nil, List.getElem?_cons_succ, List.getElem?_cons_zero, Nat.reduceAdd, Nat.reduceLeDiff, Nat.reduceEqDiff, Nat.zero_add, Nat.add_zero, Nat.le_refl, Nat.zero_le, Nat.succ_ne_self, Nat.mul_one, Int.toNat_natCast, Option.some.injEq, Option.isNone_some, Option.isNone_none, V.int.injEq, V.str.injEq, V.bool.injEq, V.ptr.injEq, V.slc.injEq, V.map.injEq, V.agg.injEq, V.tup.injEq, List.cons.injEq, Prod.mk.injEq, onS, true_and, and_true, and_assoc, exists_and_left, exists_eq_left', forall_eq, heq_eq_eq, reduceCtorEq, Bool.not_true, Bool.not_false, eq_self, not_false_eq_true, Nat.left_eq_add, Nat.add_eq_left, Nat.add_left_cancel_iff, Nat.add_right_cancel_iff, Nat.reduceEqDiff, Nat.one_ne_zero, Hp.get_set_self, Hp.get_set_ne, Hp.get_alloc_self, Hp.get_alloc_ne, Hp.get_alloc_at, Hp.get_set_at, Hp.set_next, Hp.alloc_next, Option.some_ne_none, V.tup.injEq, Option.isSome_some, Option.isSome_none, exists_eq_left, exists_eq, Nat.mul_zero, cx], y.port, by simp (disch := (first | omega | (simp only [Hp.alloc_next, Hp.set_next] <;> omega) | (simp (disch := (first | omega | (simp only [Hp.alloc_next, Hp.set_next] <;> omega) | fail)) only [Hp.get_set_self, Hp.get_set_ne, Hp.get_alloc_self, Hp.get_alloc_ne, Hp.get_alloc_at, Hp.get_set_at, Hp.set_next, Hp.alloc_next, cy]; done) | fail)) only [Hp.st, Hp.ld, Hp.lda, splice, ble_eq', if_true, if_false, ite_true, ite_false, cond_true, cond_false, decide_true, decide_false, List.length_cons, List.length_nil, List.take_zero, List.take_succ_cons, List.nil_append, List.cons_append, List.append_nil, List.drop_succ_cons, List.drop_zero, List.drop_nil, List.getElem?_cons_succ, List.getElem?_cons_zero, Nat.reduceAdd, Nat.reduceLeDiff, Nat.reduceEqDiff, Nat.zero_add, Nat.add_zero, Nat.le_refl, Nat.zero_le, Nat.succ_ne_self, Nat.mul_one, Int.toNat_natCast, Option.some.injEq, Option.isNone_some, Option.isNone_none, V.int.injEq, V.str.injEq, V.bool.injEq, V.ptr.injEq, V.slc.injEq, V.map.injEq, V.agg.injEq, V.tup.injEq, List.cons.injEq, Prod.mk.injEq, onS, true_and, and_true, and_assoc, exists_and_left, exists_eq_left', forall_eq, heq_eq_eq, reduceCtorEq, Bool.not_true, Bool.not_false, eq_self, not_false_eq_true, Nat.left_eq_add, Nat.add_eq_left, Nat.add_left_cancel_iff, Nat.add_right_cancel_iff, Nat.reduceEqDiff, Nat.one_ne_zero, Hp.get_set_self, Hp.get_set_ne, Hp.get_alloc_self, Hp.get_alloc_ne, Hp.get_alloc_at, Hp.get_set_at, Hp.set_next, Hp.alloc_next, Option.some_ne_none, V.tup.injEq, Option.isSome_some, Option.isSome_none, exists_eq_left, exists_eq, Nat.mul_zero, cy], ?_⟩
        cases cp : x.port == y.port with
        | false => exact ⟨by trivial, rfl, rfl⟩
        | true =>
          refine ⟨x.ip, by simp (disch := (first | omega | (simp only [Hp.alloc_next, Hp.set_next] <;> omega) | (simp (disch := (first | omega | (simp only [Hp.alloc_next, Hp.set_next] <;> omega) | fail)) only [Hp.get_set_self, Hp.get_set_ne, Hp.get_alloc_self, Hp.get_alloc_ne, Hp.get_alloc_at, Hp.get_set_at, Hp.set_next, Hp.alloc_next, cx]; done) | fail)) only [Hp.st, Hp.ld, Hp.lda, splice, ble_eq', if_true, if_false, ite_true, ite_false, cond_true, cond_false, decide_true, decide_false, List.length_cons, List.length_nil, List.take_zero, List.take_succ_cons, List.nil_append, List.cons_append, List.append_nil, List.drop_succ_cons, List.drop_zero, List.drop_nil, List.getElem?_cons_succ, List.getElem?_cons_zero, Nat.reduceAdd, Nat.reduceLeDiff, Nat.reduceEqDiff, Nat.zero_add, Nat.add_zero, Nat.le_refl, Nat.zero_le, Nat.succ_ne_self, Nat.mul_one, Int.toNat_natCast, Option.some.injEq, Option.isNone_some, Option.isNone_none, V.int.injEq, V.str.injEq, V.bool.injEq, V.ptr.injEq, V.slc.injEq, V.map.injEq, V.agg.injEq, V.tup.injEq, List.cons.injEq, Prod.mk.injEq, onS, true_and, and_true, and_assoc, exists_and_left, exists_eq_left', forall_eq, heq_eq_eq, reduceCtorEq, Bool.not_true, Bool.not_false, eq_self, not_false_eq_true, Nat.left_eq_add, Nat.add_eq_left, Nat.add_left_cancel_iff, Nat.add_right_cancel_iff, Nat.reduceEqDiff, Nat.one_ne_zero, Hp.get_set_self, Hp.get_set_ne, Hp.get_alloc_self, Hp.get_alloc_ne, Hp.get_alloc_at, Hp.get_set_at, Hp.set_next, Hp.alloc_next, Option.some_ne_none, V.tup.injEq, Option.isSome_some, Option.isSome_none, exists_eq_left, exists_eq, Nat.mul_zero, cx], y.ip, by simp (disch := (first | omega | (simp only [Hp.alloc_next, Hp.set_next] <;> omega) | (simp (disch := (first | omega | (simp only [Hp.alloc_next, Hp.set_next] <;> omega) | fail)) only [Hp.get_set_self, Hp.get_set_ne, Hp.get_alloc_self, Hp.get_alloc_ne, Hp.get_alloc_at, Hp.get_set_at, Hp.set_next, Hp.alloc_next, cy]; done) | fail)) only [Hp.st, Hp.ld, Hp.lda, splice, ble_eq', if_true, if_false, ite_true, ite_false, cond_true, cond_false, decide_true, decide_false, List.length_cons, List.length_nil, List.take_zero, List.take_succ_cons, List.nil_append, List.cons_append, List.append_nil, List.drop_succ_cons, List.drop_zero, List.drop_nil, List.getElem?_cons_succ, List.getElem?_cons_zero, Nat.reduceAdd, Nat.reduceLeDiff, Nat.reduceEqDiff, Nat.zero_add, Nat.add_zero, Nat.le_refl, Nat.zero_le, Nat.succ_ne_self, Nat.mul_one, Int.toNat_natCast, Option.some.injEq, Option.isNone_some, Option.isNone_none, V.int.injEq, V.str.injEq, V.bool.injEq, V.ptr.injEq, V.slc.injEq, V.map.injEq, V.agg.injEq, V.tup.injEq, List.cons.injEq, Prod.mk.injEq, onS, true_and, and_true, and_assoc, exists_and_left, exists_eq_left', forall_eq, heq_eq_eq, reduceCtorEq, Bool.not_true, Bool.not_false, eq_self, not_false_eq_true, Nat.left_eq_add, Nat.add_eq_left, Nat.add_left_cancel_iff, Nat.add_right_cancel_iff, Nat.reduceEqDiff, Nat.one_ne_zero, Hp.get_set_self, Hp.get_set_ne, Hp.get_alloc_self, Hp.get_alloc_ne, Hp.get_alloc_at, Hp.get_set_at, Hp.set_next, Hp.alloc_next, Option.some_ne_none, V.tup.injEq, Option.isSome_some, Option.isSome_none, exists_eq_left, exists_eq, Nat.mul_zero, cy], ?_⟩
          cases ci : x.ip == y.ip with
          | true => exact ⟨by trivial, rfl, rfl⟩
          | false =>
            refine ⟨x.ip, by simp (disch := (first | omega | (simp only [Hp.alloc_next, Hp.set_next] <;> omega) | (simp (disch := (first | omega | (simp only [Hp.alloc_next, Hp.set_next] <;> omega) | fail)) only [Hp.get_set_self, Hp.get_set_ne, Hp.get_alloc_self, Hp.get_alloc_ne, Hp.get_alloc_at, Hp.get_set_at, Hp.set_next, Hp.alloc_next, cx]; done) | fail)) only [Hp.st, Hp.ld, Hp.lda, splice, ble_eq', if_true, if_false, ite_true, ite_false, cond_true, cond_false, decide_true, decide_false, List.length_cons, List.length_nil, List.take_zero, List.take_succ_cons, List.nil_append, List.cons_append, List.append_nil, List.drop_succ_cons, List.drop_zero, List.drop_nil, List.getElem?_cons_succ, List.getElem?_cons_zero, Nat.reduceAdd, Nat.reduceLeDiff, Nat.reduceEqDiff, Nat.zero_add, Nat.add_zero, Nat.le_refl, Nat.zero_le, Nat.succ_ne_self, Nat.mul_one, Int.toNat_natCast, Option.some.injEq, Option.isNone_some, Option.isNone_none, V.int.injEq, V.str.injEq, V.bool.injEq, V.ptr.injEq, V.slc.injEq, V.map.injEq, V.agg.injEq, V.tup.injEq, List.cons.injEq, Prod.mk.injEq, onS, true_and, and_true, and_assoc, exists_and_left, exists_eq_left', forall_eq, heq_eq_eq, reduceCtorEq, Bool.not_true, Bool.not_false, eq_self, not_false_eq_true, Nat.left_eq_add, Nat.add_eq_left, Nat.add_left_cancel_iff, Nat.add_right_cancel_iff, Nat.reduceEqDiff, Nat.one_ne_zero, Hp.get_set_self, Hp.get_set_ne, Hp.get_alloc_self, Hp.get_alloc_ne, Hp.get_alloc_at, Hp.get_set_at, Hp.set_next, Hp.alloc_next, Option.some_ne_none, V.tup.injEq, Option.isSome_some, Option.isSome_none, exists_eq_left, exists_eq, Nat.mul_zero, cx], ?_⟩
            cases cz : x.ip == 0 with
            | true => exact ⟨by trivial, rfl, rfl⟩
            | false =>
              refine ⟨y.ip, by simp (disch := (first | omega | (simp only [Hp.alloc_next, Hp.set_next] <;> omega) | (simp (disch := (first | omega | (simp only [Hp.alloc_next, Hp.set_next] <;> omega) | fail)) only [Hp.get_set_self, Hp.get_set_ne, Hp.get_alloc_self, Hp.get_alloc_ne, Hp.get_alloc_at, Hp.get_set_at, Hp.set_next, Hp.alloc_next, cy]; done) | fail)) only [Hp.st, Hp.ld, Hp.lda, splice, ble_eq', if_true, if_false, ite_true, ite_false, cond_true, cond_false, decide_true, decide_false, List.length_cons, List.length_nil, List.take_zero, List.take_succ_cons, List.nil_append, List.cons_append, List.append_nil, List.drop_succ_cons, List.drop_zero, List.drop_nil, List.getElem?_cons_succ, List.getElem?_cons_zero, Nat.reduceAdd, Nat.reduceLeDiff, Nat.reduceEqDiff, Nat.zero_add, Nat.add_zero, Nat.le_refl, Nat.zero_le, Nat.succ_ne_self, Nat.mul_one, Int.toNat_natCast, Option.some.injEq, Option.isNone_some, Option.isNone_none, V.int.injEq, V.str.injEq, V.bool.injEq, V.ptr.injEq, V.slc.injEq, V.map.injEq, V.agg.injEq, V.tup.injEq, List.cons.injEq, Prod.mk.injEq, onS, true_and, and_true, and_assoc, exists_and_left, exists_eq_left', forall_eq, heq_eq_eq, reduceCtorEq, Bool.not_true, Bool.not_false, eq_self, not_false_eq_true, Nat.left_eq_add, Nat.add_eq_left, Nat.add_left_cancel_iff, Nat.add_right_cancel_iff, Nat.reduceEqDiff, Nat.one_ne_zero, Hp.get_set_self, Hp.get_set_ne, Hp.get_alloc_self, Hp.get_alloc_ne, Hp.get_alloc_at, Hp.get_set_at, Hp.set_next, Hp.alloc_next, Option.some_ne_none, V.tup.injEq, Option.isSome_some, Option.isSome_none, exists_eq_left, exists_eq, Nat.mul_zero, cy], ?_⟩
              exact ⟨by trivial, by simp, rfl⟩
    rintro bs6 b g25 ⟨rfl, rfl⟩
    cases hmt : meetB y x with
    | false => exact ⟨by trivial, go, lt6⟩
    | true =>
      obtain ⟨k1, k2, k3⟩ := hok (by rw [meet_comm]; exact hmt)
      simp only at k1 k2 k3
      refine ⟨x.share, by simp (disch := (first | omega | (simp only [Hp.alloc_next, Hp.set_next] <;> omega) | (simp (disch := (first | omega | (simp only [Hp.alloc_next, Hp.set_next] <;> omega) | fail)) only [Hp.get_set_self, Hp.get_set_ne, Hp.get_alloc_self, Hp.get_alloc_ne, Hp.get_alloc_at, Hp.get_set_at, Hp.set_next, Hp.alloc_next, cx]; done) | fail)) only [Hp.st, Hp.ld, Hp.lda, splice, ble_eq', if_true, if_false, ite_true, ite_false, cond_true, cond_false, decide_true, decide_false, List.length_cons, List.length_nil, List.take_zero, List.take_succ_cons, List.nil_append, List.cons_append, List.append_nil, List.drop_succ_cons, List.drop_zero, List.drop_nil, List.getElem?_cons_succ, List.getElem?_cons_zero, Nat.reduceAdd, Nat.reduceLeDiff, Nat.reduceEqDiff, Nat.zero_add, Nat.add_zero, Nat.le_refl, Nat.zero_le, Nat.succ_ne_self, Nat.mul_one, Int.toNat_natCast, Option.some.injEq, Option.isNone_some, Option.isNone_none, V.int.injEq, V.str.injEq, V.bool.injEq, V.ptr.injEq, V.slc.injEq, V.map.injEq, V.agg.injEq, V.tup.injEq, List.cons.injEq, Prod.mk.injEq, onS, true_and, and_true, and_assoc, exists_and_left, exists_eq_left', forall_eq, heq_eq_eq, reduceCtorEq, Bool.not_true, Bool.not_false, eq_self, not_false_eq_true, Nat.left_eq_add, Nat.add_eq_left, Nat.add_left_cancel_iff, Nat.add_right_cancel_iff, Nat.reduceEqDiff, Nat.one_ne_zero, Hp.get_set_self, Hp.get_set_ne, Hp.get_alloc_self, Hp.get_alloc_ne, Hp.get_alloc_at, Hp.get_set_at, Hp.set_next, Hp.alloc_next, Option.some_ne_none, V.tup.injEq, Option.isSome_some, Option.isSome_none, exists_eq_left, exists_eq, Nat.mul_zero, cx], ?_⟩
      rw [k1]
      refine ⟨y.share, by simp (disch := (first | omega | (simp only [Hp.alloc_next, Hp.set_next] <;> omega) | (simp (disch := (first | omega | (simp only [Hp.alloc_next, Hp.set_next] <;> omega) | fail)) only [Hp.get_set_self, Hp.get_set_ne, Hp.get_alloc_self, Hp.get_alloc_ne, Hp.get_alloc_at, Hp.get_set_at, Hp.set_next, Hp.alloc_next, cy]; done) | fail)) only [Hp.st, Hp.ld, Hp.lda, splice, ble_eq', if_true, if_false, ite_true, ite_false, cond_true, cond_false, decide_true, decide_false, List.length_cons, List.length_nil, List.take_zero, List.take_succ_cons, List.nil_append, List.cons_append, List.append_nil, List.drop_succ_cons, List.drop_zero, List.drop_nil, List.getElem?_cons_succ, List.getElem?_cons_zero, Nat.reduceAdd, Nat.reduceLeDiff, Nat.reduceEqDiff, Nat.zero_add, Nat.add_zero, Nat.le_refl, Nat.zero_le, Nat.succ_ne_self, Nat.mul_one, Int.toNat_natCast, Option.some.injEq, Option.isNone_some, Option.isNone_none, V.int.injEq, V.str.injEq, V.bool.injEq, V.ptr.injEq, V.slc.injEq, V.map.injEq, V.agg.injEq, V.tup.injEq, List.cons.injEq, Prod.mk.injEq, onS, true_and, and_true, and_assoc, exists_and_left, exists_eq_left', forall_eq, heq_eq_eq, reduceCtorEq, Bool.not_true, Bool.not_false, eq_self, not_false_eq_true, Nat.left_eq_add, Nat.add_eq_left, Nat.add_left_cancel_iff, Nat.add_right_cancel_iff, Nat.reduceEqDiff, Nat.one_ne_zero, Hp.get_set_self, Hp.get_set_ne, Hp.get_alloc_self, Hp.get_alloc_ne, Hp.get_alloc_at, Hp.get_set_at, Hp.set_next, Hp.alloc_next, Option.some_ne_none, V.tup.injEq, Option.isSome_some, Option.isSome_none, exists_eq_left, exists_eq, Nat.mul_zero, cy], ?_⟩
      rw [k2]
      refine ⟨x.ip, by simp (disch := (first | omega | (simp only [Hp.alloc_next, Hp.set_next] <;> omega) | (simp (disch := (first | omega | (simp only [Hp.alloc_next, Hp.set_next] <;> omega) | fail)) only [Hp.get_set_self, Hp.get_set_ne, Hp.get_alloc_self, Hp.get_alloc_ne, Hp.get_alloc_at, Hp.get_set_at, Hp.set_next, Hp.alloc_next, cx]; done) | fail)) only [Hp.st, Hp.ld, Hp.lda, splice, ble_eq', if_true, if_false, ite_true, ite_false, cond_true, cond_false, decide_true, decide_false, List.length_cons, List.length_nil, List.take_zero, List.take_succ_cons, List.nil_append, List.cons_append, List.append_nil, List.drop_succ_cons, List.drop_zero, List.drop_nil, List.getElem?_cons_succ, List.getElem?_cons_zero, Nat.reduceAdd, Nat.reduceLeDiff, Nat.reduceEqDiff, Nat.zero_add, Nat.add_zero, Nat.le_refl, Nat.zero_le, Nat.succ_ne_self, Nat.mul_one, Int.toNat_natCast, Option.some.injEq, Option.isNone_some, Option.isNone_none, V.int.injEq, V.str.injEq, V.bool.injEq, V.ptr.injEq, V.slc.injEq, V.map.injEq, V.agg.injEq, V.tup.injEq, List.cons.injEq, Prod.mk.injEq, onS, true_and, and_true, and_assoc, exists_and_left, exists_eq_left', forall_eq, heq_eq_eq, reduceCtorEq, Bool.not_true, Bool.not_false, eq_self, not_false_eq_true, Nat.left_eq_add, Nat.add_eq_left, Nat.add_left_cancel_iff, Nat.add_right_cancel_iff, Nat.reduceEqDiff, Nat.one_ne_zero, Hp.get_set_self, Hp.get_set_ne, Hp.get_alloc_self, Hp.get_alloc_ne, Hp.get_alloc_at, Hp.get_set_at, Hp.set_next, Hp.alloc_next, Option.some_ne_none, V.tup.injEq, Option.isSome_some, Option.isSome_none, exists_eq_left, exists_eq, Nat.mul_zero, cx], y.ip, by simp (disch := (first | omega | (simp only [Hp.alloc_next, Hp.set_next] <;> omega) | (simp (disch := (first | omega | (simp only [Hp.alloc_next, Hp.set_next] <;> omega) | fail)) only [Hp.get_set_self, Hp.get_set_ne, Hp.get_alloc_self, Hp.get_alloc_ne, Hp.get_alloc_at, Hp.get_set_at, Hp.set_next, Hp.alloc_next, cy]; done) | fail)) only [Hp.st, Hp.ld, Hp.lda, splice, ble_eq', if_true, if_false, ite_true, ite_false, cond_true, cond_false, decide_true, decide_false, List.length_cons, List.length_nil, List.take_zero, List.take_succ_cons, List.nil_append, List.cons_append, List.append_nil, List.drop_succ_cons, List.drop_zero, List.drop_nil, List.getElem?_cons_succ, List.getElem?_cons_zero, Nat.reduceAdd, Nat.reduceLeDiff, Nat.reduceEqDiff, Nat.zero_add, Nat.add_zero, Nat.le_refl, Nat.zero_le, Nat.succ_ne_self, Nat.mul_one, Int.toNat_natCast, Option.some.injEq, Option.isNone_some, Option.isNone_none, V.int.injEq, V.str.injEq, V.bool.injEq, V.ptr.injEq, V.slc.injEq, V.map.injEq, V.agg.injEq, V.tup.injEq, List.cons.injEq, Prod.mk.injEq, onS, true_and, and_true, and_assoc, exists_and_left, exists_eq_left', forall_eq, heq_eq_eq, reduceCtorEq, Bool.not_true, Bool.not_false, eq_self, not_false_eq_true, Nat.left_eq_add, Nat.add_eq_left, Nat.add_left_cancel_iff, Nat.add_right_cancel_iff, Nat.reduceEqDiff, Nat.one_ne_zero, Hp.get_set_self, Hp.get_set_ne, Hp.get_alloc_self, Hp.get_alloc_ne, Hp.get_alloc_at, Hp.get_set_at, Hp.set_next, Hp.alloc_next, Option.some_ne_none, V.tup.injEq, Option.isSome_some, Option.isSome_none, exists_eq_left, exists_eq, Nat.mul_zero, cy], ?_⟩
      rw [k3]
      simp only [bne_self_eq_false, cond_false, cond_true]
      by_cases e0 : lent = 0
      · have c : (lent != 0) = false := by simp [e0]
        rw [c]; exact ⟨by trivial, go, lt6⟩
      · have c : (lent != 0) = true := by simp [e0]
        rw [c]
        refine ⟨w, by simp (disch := (first | omega | (simp only [Hp.alloc_next, Hp.set_next] <;> omega) | (simp (disch := (first | omega | (simp only [Hp.alloc_next, Hp.set_next] <;> omega) | fail)) only [Hp.get_set_self, Hp.get_set_ne, Hp.get_alloc_self, Hp.get_alloc_ne, Hp.get_alloc_at, Hp.get_set_at, Hp.set_next, Hp.alloc_next, cs]; done) | fail)) only [Hp.st, Hp.ld, Hp.lda, splice, ble_eq', if_true, if_false, ite_true, ite_false, cond_true, cond_false, decide_true, decide_false, List.length_cons, List.length_nil, List.take_zero, List.take_succ_cons, List.nil_append, List.cons_append, List.append_nil, List.drop_succ_cons, List.drop_zero, List.drop_nil, List.getElem?_cons_succ, List.getElem?_cons_zero, Nat.reduceAdd, Nat.reduceLeDiff, Nat.reduceEqDiff, Nat.zero_add, Nat.add_zero, Nat.le_refl, Nat.zero_le, Nat.succ_ne_self, Nat.mul_one, Int.toNat_natCast, Option.some.injEq, Option.isNone_some, Option.isNone_none, V.int.injEq, V.str.injEq, V.bool.injEq, V.ptr.injEq, V.slc.injEq, V.map.injEq, V.agg.injEq, V.tup.injEq, List.cons.injEq, Prod.mk.injEq, onS, true_and, and_true, and_assoc, exists_and_left, exists_eq_left', forall_eq, heq_eq_eq, reduceCtorEq, Bool.not_true, Bool.not_false, eq_self, not_false_eq_true, Nat.left_eq_add, Nat.add_eq_left, Nat.add_left_cancel_iff, Nat.add_right_cancel_iff, Nat.reduceEqDiff, Nat.one_ne_zero, Hp.get_set_self, Hp.get_set_ne, Hp.get_alloc_self, Hp.get_alloc_ne, Hp.get_alloc_at, Hp.get_set_at, Hp.set_next, Hp.alloc_next, Option.some_ne_none, V.tup.injEq, Option.isSome_some, Option.isSome_none, exists_eq_left, exists_eq, Nat.mul_zero, cs], ?_⟩
        have e2 : z.1 ≠ w := fun e => by
          have := hl2 e0 _ hxL e _ hyL (by simp only; rw [← e]; exact fun h => e1 h.symm)
          simp only at this
          rw [meet_comm, hmt] at this; cases this
        have c : (z.1 == w) = false := by simp [e2]
        rw [c]; exact ⟨by trivial, go, lt6⟩
end Go.Vex.PortsMeet

namespace Go.Proofs.Ytehihinmgejpaaa.portsMeet
open Go.ChangeShapes Go.WideShapes Go.ChangeAt Go.RowKit Go.Vex Go.Vex.PortsMeet
open Go.ChangeMaps (open_string shut_string)

theorem own : ownKnob Try.prog.godebug = none := by kernel_rfl

set_option maxRecDepth 100000 in
theorem lifted (os : Os) (started : os.Started) (H : Type) (enc : TypeId × Value → H) :
    ReturnsInHanded {} Try.checked os 4 .any (Rows.portsMeetSpec.pre6 enc Try.prog Try.f4 Rows.portsMeetRow.domain false) (Rows.portsMeetSpec.post enc Try.prog Try.f4 false true false false) := by
  refine returnsInHanded_of_change_sized (C := Try.checked) own started (by kernel_rfl) Try.func4
    (ChangeSpec.witness6 (enc := enc) (C := Try.checked) false ⟨#[], #[.slice none 0 0], []⟩ 8 (by kernel_rfl) (by kernel_rfl) (by kernel_rfl) (by kernel_rfl)) ?_
  intro W base args ds gs before hval0 hW hcnd hsz _
  have hval : ∀ (j : Nat) t v, Try.f4.params[j]? = some t → args[j]? = some v → Value.okWide Try.prog W .any base t v := hval0
  have hW' := hW
  obtain ⟨p, q, hA0, hV, rfl, hfz, hnd⟩ := hW
  have hA : DataW.TrodAll enc Try.prog W 0 (fun _ => true) true Try.f4.params.toList args.toList ds p := hA0
  rw [Try.params4] at hA hval hsz
  obtain ⟨v0, vs0, d0, ds0, p0, q0, hargs, rfl, rfl, h0, r0⟩ := trodAll_cons hA
  obtain ⟨rfl, rfl, rfl⟩ := trodAll_nil r0
  obtain rfl : args = #[v0] := by cases args; simp_all
  obtain ⟨rfl, rfl⟩ := trodVars_none hV
  obtain ⟨ρ0, hp0, b0, n0, f0, rows0, s0, x0, l0, k0, vr0, ro0, sh0, z0⟩ := arg_slice tok (T := Vex.T) (t := 22) (e := 39) (d := 6) (zs := stepZ) rfl rfl rfl rfl rfl (by decide) (hval 0 22 v0 rfl rfl) h0 (fun m hm => hW'.lt m (by simp [hm])) (fun m hm => by simpa using List.all_eq_true.1 hsz m (DataW.weights_mem_each (j := 0) (t := 22) rfl rfl m hm)) (Sat.none W fun _ => ⟨0, 0, 0, 0⟩)
  refine (XCalls.true' s0 (vs := [.slc b0 n0 f0]) ⟨_, _, rfl, vr0, rfl⟩ (law_calls ro0 sh0 z0)).mono fun e W' ⟨he, hb⟩ => ?_
  subst he
  exact ⟨_, rfl, post_true (by kernel_rfl) hW' hb rfl (fun gs hg => by subst hg; rfl) (tb := 4) rfl Try.underlying4 (by decide +kernel)⟩

theorem over : Rows.portsMeetRow.holds Try.pinned (OpenSpec.ofChange Rows.portsMeetSpec) :=
  OpenClaim.holds_of_wide 4 Try.f4 rfl rfl rfl rfl rfl rfl rfl ⟨rfl, rfl, rfl, rfl, rfl⟩ rfl rfl rfl rfl rfl (by kernel_rfl) Try.func4 (by kernel_rfl)
    (of_decide_eq_true (by kernel_rfl)) (by unfold Func.isWrapper; first | (rw [if_pos (by decide +kernel)]; kernel_rfl) | (rw [if_neg (by decide +kernel)]; exact ⟨rfl, rfl⟩))
    (fun os started H enc _ => lifted os started H enc)

theorem proved : Rows.PortsMeetSaid :=
  over
#print axioms proved
end Go.Proofs.Ytehihinmgejpaaa.portsMeet

