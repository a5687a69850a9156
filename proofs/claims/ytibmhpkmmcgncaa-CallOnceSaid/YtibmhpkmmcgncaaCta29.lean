/-
  Contracts of call.Table, first part: what a table is, questions (asks), new descriptors.
-/
import Derived.Test.YtibmhpkmmcgncaaVexGG
import Derived.Test.YtibmhpkmmcgncaaTab29
import Derived.Test.YtibmhpkmmcgncaaXp29
import Derived.Test.YtibmhpkmmcgncaaCpa29
import Derived.Test.YtibmhpkmmcgncaaCpb29
import Derived.Test.YtibmhpkmmcgncaaCpc29
import Derived.Test.YtibmhpkmmcgncaaCpd29
import Derived.Test.YtibmhpkmmcgncaaXta29
set_option linter.unusedVariables false
set_option linter.unusedSimpArgs false
namespace Go.Vex.Call
open Go.Proofs
open Go.Vex.Ports (PortsR Bd bV bL b0 bindCode Quiet)

structure Fi where
  kind : Int
  proto : Int
  id : Int
  calm : Bool

structure Dk where
  proto : Int
  st : Int
  b : Bd
  fip : Int
  fport : Int
  tip : Int
  tport : Int
  share : Bool
  was : Int

structure Sk where
  id : Int
  o : Nat
  d : Dk

abbrev kF : Int → V := fun n => .int .i64 n
abbrev kU : Int → V := fun n => .int .u64 n
abbrev fV (f : Fi) : V := .agg [.int .u8 f.kind, .int .u8 f.proto, .int .u64 f.id, .bool f.calm]
abbrev vP : Nat → V := fun o => .ptr (some (o, 0))
def f0 : Fi := ⟨0, 0, 0, false⟩
def dkL (d : Dk) : List V := [.int .u8 d.proto, .int .u8 d.st, .int .u8 d.b.kind, .int .u32 d.b.ip, .int .u16 d.b.port, .bool d.b.share, .int .u32 d.fip, .int .u16 d.fport, .int .u32 d.tip, .int .u16 d.tport, .bool d.share, .int .u8 d.was]

theorem mtF : MT T 80 kF (fV f0) := ⟨(T 80).get rfl, 3, 42, (T 42).get rfl, rfl, rfl, rfl, rfl, KL.int (ti := (T 3).get rfl) rfl rfl⟩
theorem mtS : MT T 81 kU (.ptr none) := ⟨(T 81).get rfl, 30, 87, (T 87).get rfl, rfl, rfl, rfl, rfl, KL.int (ti := (T 30).get rfl) rfl rfl⟩

structure TS where
  most : Int
  own : List Int
  A : List (Int × Fi)
  S : List Sk
  P : List (Int × Bd)
  last : Int

def sfind (S : List Sk) (id : Int) : Option Sk := S.find? fun x => decide (id = x.id)

theorem mget_sk (S : List Sk) (id : Int) : mget (S.map fun x => (x.id, x.o)) id = (sfind S id).map Sk.o := by
  unfold mget sfind
  rw [List.find?_map, Option.map_map]
  rfl

theorem sfind_mem {S : List Sk} {id : Int} {x : Sk} (h : sfind S id = some x) : x ∈ S ∧ id = x.id := by
  unfold sfind at h
  exact ⟨List.mem_of_find?_eq_some h, by simpa using List.find?_some h⟩

/-- the table's parts at their places -/
structure At (t : Nat) (s : TS) (h : Hp) (mf ms po : Nat) (G GP : List Nat) (a : Option (Nat × Nat)) (f : Bool) : Prop where
  row : h.get t = some (.row [.int .i64 s.most, .slc a s.own.length f, .map (some mf), .map (some ms), .ptr (some (po, 0)), .int .u64 s.last] 1 false)
  own : Own 1 a s.own.length (s.own.map fun x => [V.int .u32 x]) h G
  files : ∃ o, h.get mf = some o ∧ MO kF fV s.A o
  socks : ∃ o, h.get ms = some o ∧ MO kU vP (s.S.map fun x => (x.id, x.o)) o
  desks : ∀ x ∈ s.S, h.get x.o = some (.row (dkL x.d) 1 false)
  ports : PortsR po s.P h GP
  nd : (t :: mf :: ms :: (s.S.map Sk.o ++ (G ++ GP))).Nodup

def TblR (t : Nat) (s : TS) (h : Hp) (F : List Nat) : Prop := ∃ mf ms po G GP a f, At t s h mf ms po G GP a f ∧ F = t :: mf :: ms :: (s.S.map Sk.o ++ (G ++ GP))

theorem At.loc {t : Nat} {s : TS} {h h' : Hp} {mf ms po : Nat} {G GP : List Nat} {a : Option (Nat × Nat)} {f : Bool} (r : At t s h mf ms po G GP a f) (hs : ∀ j ∈ t :: mf :: ms :: (s.S.map Sk.o ++ (G ++ GP)), h'.get j = h.get j) : At t s h' mf ms po G GP a f where
  row := by rw [hs t (by simp)]; exact r.row
  own := (Own.rep _ _ _ _).loc _ _ _ (fun j hj => hs j (by simp [hj])) r.own
  files := by obtain ⟨o, h1, h2⟩ := r.files; exact ⟨o, by rw [hs mf (by simp)]; exact h1, h2⟩
  socks := by obtain ⟨o, h1, h2⟩ := r.socks; exact ⟨o, by rw [hs ms (by simp)]; exact h1, h2⟩
  desks := fun x hx => by rw [hs x.o (by simp; exact .inr (.inr (.inr (.inl ⟨x, hx, rfl⟩))))]; exact r.desks x hx
  ports := (PortsR.rep _ _).loc _ _ _ (fun j hj => hs j (by simp [hj])) r.ports
  nd := r.nd

theorem TblR.rep (t : Nat) (s : TS) : Rep (TblR t s) where
  loc := fun h h' F hs ⟨mf, ms, po, G, GP, a, f, r, e⟩ => ⟨mf, ms, po, G, GP, a, f, r.loc (by rw [← e]; exact hs), e⟩
  dom := fun h F ⟨mf, ms, po, G, GP, a, f, r, e⟩ j hj => by
    subst e
    simp only [List.mem_cons, List.mem_append] at hj
    rcases hj with rfl | rfl | rfl | hj | hj | hj
    · exact ⟨_, r.row, rfl⟩
    · obtain ⟨o, h1, h2⟩ := r.files; exact ⟨o, h1, h2.rw⟩
    · obtain ⟨o, h1, h2⟩ := r.socks; exact ⟨o, h1, h2.rw⟩
    · obtain ⟨x, hx, rfl⟩ := List.mem_map.1 hj; exact ⟨_, r.desks x hx, rfl⟩
    · exact (Own.rep _ _ _ _).dom _ _ r.own j hj
    · exact (PortsR.rep _ _).dom _ _ r.ports j hj

theorem At.lt {t : Nat} {s : TS} {h : Hp} {mf ms po : Nat} {G GP : List Nat} {a : Option (Nat × Nat)} {f : Bool} (r : At t s h mf ms po G GP a f) (hw : h.wf) : ∀ j ∈ t :: mf :: ms :: (s.S.map Sk.o ++ (G ++ GP)), j < h.next :=
  fun j hj => (TblR.rep t s).lt hw ⟨mf, ms, po, G, GP, a, f, r, rfl⟩ hj

/-- what stands apart in a table -/
structure Apart (t mf ms : Nat) (O G GP : List Nat) : Prop where
  tm : t ≠ mf
  ts : t ≠ ms
  tO : t ∉ O
  tG : t ∉ G
  tP : t ∉ GP
  fs : mf ≠ ms
  fO : mf ∉ O
  fG : mf ∉ G
  fP : mf ∉ GP
  sO : ms ∉ O
  sG : ms ∉ G
  sP : ms ∉ GP
  OO : O.Nodup
  OG : ∀ j ∈ O, j ∉ G
  OP : ∀ j ∈ O, j ∉ GP
  GP : ∀ j ∈ G, j ∉ GP

theorem apart {t mf ms : Nat} {O G GP : List Nat} (h : (t :: mf :: ms :: (O ++ (G ++ GP))).Nodup) : Apart t mf ms O G GP := by
  simp only [List.nodup_cons, List.mem_cons, List.mem_append, not_or, List.nodup_append] at h
  obtain ⟨⟨h1, h2, h3, h4, h5⟩, ⟨h6, h7, h8, h9⟩, ⟨h10, h11, h12⟩, h13, ⟨h14, h15, h16⟩, h17⟩ := h
  exact ⟨h1, h2, h3, h4, h5, h6, h7, h8, h9, h10, h11, h12, h13, fun j hj hg => h17 j hj j (.inl hg) rfl, fun j hj hg => h17 j hj j (.inr hg) rfl, fun j hj hg => h16 j hj j hg rfl⟩

/-! ### questions -/

theorem unless_spec {h : Hp} (b : Bool) (e : Int) : XCalls Try.prog 37 [.bool b, .int .i64 e] h fun v h' => v = .int .i64 (if b then 0 else e) ∧ h' = h := by
  apply x37; unfold X37
  cases b <;> exact ⟨rfl, rfl⟩

/-- a closure that asks about a desk: its function, what it holds, what it answers -/
structure Cl where
  g : Nat
  cs : List V
  code : Dk → Int

def firstCode (d : Dk) : List Cl → Int
  | [] => 0
  | c :: l => if c.code d ≠ 0 then c.code d else firstCode d l

/-- it answers so in every heap that grew from h -/
structure Ans (h : Hp) (S : List Sk) (c : Cl) : Prop where
  is : isFn F c.g = true
  ok : ∀ x ∈ S, ∀ g : Hp, (∀ j, j < h.next → g.get j = h.get j) → XCalls Try.prog c.g (.ptr (some (x.o, 0)) :: c.cs) g fun v g' => v = .int .i64 (c.code x.d) ∧ g' = g

/-- the answer about a descriptor -/
def askC (s : TS) (fd : Int) (l : List Cl) : Int := match mget s.A fd with
  | none => 290
  | some f => if f.kind = 1 then match sfind s.S f.id with
    | none => 290
    | some x => firstCode x.d l
    else 290

/-- a row of closures in a heap -/
def ClsAt (h : Hp) (q : Nat) (l : List Cl) : Prop := h.get q = some (.row (l.map fun c => V.fn (.func c.g) [] c.cs) 1 false)

theorem asks_spec {h : Hp} {t q : Nat} {s : TS} {F : List Nat} {fd : Int} {l : List Cl} {fl : Bool} (hw : h.wf) (r : TblR t s h F) (hq : ClsAt h q l) (ha : ∀ c ∈ l, Ans h s.S c) (hl : l.length ≤ 100) :
    XCalls Try.prog 35 [.ptr (some (t, 0)), .int .i64 fd, .slc (some (q, 0)) l.length fl] h fun v h' => Quiet h h' ∧
      if askC s fd l = 0 then ∃ f x, mget s.A fd = some f ∧ sfind s.S f.id = some x ∧ v = .tup [.int .u64 f.id, .ptr (some (x.o, 0)), .int .i64 0] ∧ f.kind = 1 ∧ firstCode x.d l = 0
      else v = .tup [.int .u64 0, .ptr none, .int .i64 (askC s fd l)] := by
  obtain ⟨mf, ms, po, G, GP, a, f, at0, rfl⟩ := r
  have lt0 := at0.lt hw
  refine XCalls.cps fun K hK => ?_
  apply x35; unfold X35
  obtain ⟨oF, hF, moF⟩ := at0.files
  have hq' := hq
  unfold ClsAt at hq'
  refine ⟨some mf, by rw [Hp.ld_of at0.row]; rfl, ?_⟩
  simp only [Option.isNone_some, cond_false]
  have hlk := moF.look2 mtF fd h mf hF
  rw [lookV_getD] at hlk
  refine ⟨some mf, by rw [Hp.ld_of at0.row]; rfl, _, _, _, _, _, hlk, ?_⟩
  generalize hff : (mget s.A fd).getD f0 = ff
  rintro g1 rfl
  refine ⟨_, Hp.st_of Hp.get_alloc_self (Nat.le_of_ble_eq_true rfl), ?_⟩
  generalize hg2 : (h.alloc _).set h.next _ = g2
  have hrow2 : g2.get h.next = some (.row [.int .u8 ff.kind, .int .u8 ff.proto, .int .u64 ff.id, .bool ff.calm] 1 false) := by rw [← hg2]; exact Hp.get_set_self
  have hs2 : ∀ j, j < h.next → g2.get j = h.get j := fun j hj => by rw [← hg2, Hp.get_set_ne (by omega), Hp.get_alloc_ne (by omega)]
  have wf2 : g2.wf := by rw [← hg2]; exact hw.alloc.set (by simp [Hp.alloc_next])
  have hn2 : g2.next = h.next + 1 := by rw [← hg2]; rfl
  clear hg2
  have q2 : Quiet h g2 := ⟨hs2, by omega, wf2⟩
  have at2 := at0.loc fun j hj => hs2 j (lt0 j hj)
  obtain ⟨oS, hS, moS⟩ := at2.socks
  have hlS := moS.look mtS ff.id g2 ms hS
  rw [mget_sk] at hlS
  refine ⟨some ms, by rw [Hp.ld_of at2.row]; rfl, ff.id, by rw [Hp.ld_of hrow2]; rfl, (sfind s.S ff.id).map fun x => (x.o, 0), by rw [hlS]; cases sfind s.S ff.id <;> rfl, ?_⟩
  have bad : askC s fd l = 290 → K (.tup [.int .u64 0, .ptr none, .int .i64 290]) g2 := fun he => hK _ _ ⟨q2, by rw [if_neg (by omega), he]⟩
  cases hm : mget s.A fd with
  | none => exact bad (by unfold askC; rw [hm])
  | some f1 =>
  rw [hm] at hff
  simp only [Option.getD_some] at hff
  subst hff
  simp only [Option.isSome_some, Bool.not_true, cond_false]
  refine ⟨f1.kind, by rw [Hp.ld_of hrow2]; rfl, ?_⟩
  by_cases hk : f1.kind = 1
  · have b1 : (f1.kind != 1) = false := by simp [hk]
    simp only [b1, cond_false]
    cases hsf : sfind s.S f1.id with
    | none => exact bad (by unfold askC; rw [hm]; simp only [if_pos hk, hsf])
    | some x =>
    obtain ⟨hxm, hxi⟩ := sfind_mem hsf
    have hcode : askC s fd l = firstCode x.d l := by unfold askC; rw [hm]; simp only [if_pos hk, hsf]
    simp only [Option.map_some, Option.isNone_some, cond_false]
    refine ⟨fun vs g => match vs with
      | [.int _ i] => ∃ k : Nat, i = k ∧ k ≤ l.length ∧ firstCode x.d l = firstCode x.d (l.drop k) ∧ g = g2
      | _ => False, fun vs _ => match vs with
      | [.int _ i] => l.length - i.toNat
      | _ => 0, ⟨(by trivial), 0, rfl, Nat.zero_le _, rfl, rfl⟩, ?_⟩
    rintro bs i g ⟨k, rfl, hkl, hfc, rfl⟩
    cases c : ltI (↑k) (↑l.length) with
    | false =>
      rw [ltI_eq, decide_eq_false_iff_not] at c
      rw [List.drop_of_length_le (by omega)] at hfc
      refine ⟨f1.id, by rw [Hp.ld_of hrow2]; rfl, hK _ _ ⟨q2, ?_⟩⟩
      have h0 : firstCode x.d l = 0 := hfc
      rw [if_pos (by rw [hcode, h0])]
      exact ⟨f1, x, hm, hsf, rfl, hk, h0⟩
    | true =>
      rw [ltI_eq, decide_eq_true_eq] at c
      have hk' : k < l.length := by omega
      have hqg : g.get q = some (.row (l.map fun c => V.fn (.func c.g) [] c.cs) 1 false) := by rw [hs2 q (hw.lt hq')]; exact hq'
      have hw1 : IntKind.i64.wrap ((k : Int) + 1) = ((k + 1 : Nat) : Int) := by rw [wr (by omega) (by omega)]; rfl
      have an := ha l[k] (List.getElem_mem hk')
      refine ⟨⟨by omega, c⟩, l[k].g, l[k].cs, by rw [Hp.ld_of hqg]; simp [List.getElem?_eq_getElem hk'], ?_⟩
      rw [an.is]
      refine (an.ok x hxm g hs2).mono ?_
      rintro _ g' ⟨rfl, rfl⟩
      refine ⟨_, rfl, ?_⟩
      rw [List.drop_eq_getElem_cons hk'] at hfc
      simp only [firstCode] at hfc
      by_cases hz : l[k].code x.d = 0
      · have b2 : (l[k].code x.d != 0) = false := by simp [hz]
        simp only [b2, cond_false]
        rw [if_neg (by simp [hz])] at hfc
        refine ⟨(by trivial), ⟨k + 1, hw1, by omega, hfc, (by trivial)⟩, ?_⟩
        show l.length - Int.toNat (IntKind.i64.wrap ((k : Int) + 1)) < l.length - Int.toNat (k : Int)
        rw [hw1]; simp only [Int.toNat_natCast]; omega
      · have b2 : (l[k].code x.d != 0) = true := by simp [hz]
        simp only [b2, cond_true]
        rw [if_pos hz] at hfc
        refine hK _ _ ⟨q2, ?_⟩
        rw [if_neg (by rw [hcode, hfc]; exact hz), hcode, hfc]
  · have b1 : (f1.kind != 1) = true := by simp [hk]
    simp only [b1, cond_true]
    exact bad (by unfold askC; rw [hm]; simp only [if_neg hk])

/-! ### the closures -/

theorem stIs (n e : Int) (b : Bool) : (if b then (0 : Int) else e) = if b = true then 0 else e := rfl

theorem ans36 {h : Hp} {t : Nat} {s : TS} {F : List Nat} (hw : h.wf) (r : TblR t s h F) : Ans h s.S ⟨36, [], fun d => if d.st == 2 then 0 else 3⟩ := by
  obtain ⟨mf, ms, po, G, GP, a, f, at0, rfl⟩ := r
  refine ⟨by kernel_rfl, fun x hx g hs => ?_⟩
  have hd : g.get x.o = some (.row (dkL x.d) 1 false) := by rw [hs _ (hw.lt (at0.desks x hx))]; exact at0.desks x hx
  apply x36; unfold X36
  refine ⟨x.d.st, by rw [Hp.ld_of hd]; rfl, (unless_spec _ _).mono ?_⟩
  rintro _ g' ⟨rfl, rfl⟩
  exact ⟨_, rfl, rfl, rfl⟩

theorem ans41 {h : Hp} {t : Nat} {s : TS} {F : List Nat} (hw : h.wf) (r : TblR t s h F) : Ans h s.S ⟨41, [], fun d => if d.st == 0 then 0 else 3⟩ := by
  obtain ⟨mf, ms, po, G, GP, a, f, at0, rfl⟩ := r
  refine ⟨by kernel_rfl, fun x hx g hs => ?_⟩
  have hd : g.get x.o = some (.row (dkL x.d) 1 false) := by rw [hs _ (hw.lt (at0.desks x hx))]; exact at0.desks x hx
  apply x41; unfold X41
  refine ⟨x.d.st, by rw [Hp.ld_of hd]; rfl, (unless_spec _ _).mono ?_⟩
  rintro _ g' ⟨rfl, rfl⟩
  exact ⟨_, rfl, rfl, rfl⟩

theorem ans44 {h : Hp} {t : Nat} {s : TS} {F : List Nat} (hw : h.wf) (r : TblR t s h F) : Ans h s.S ⟨44, [], fun d => if d.proto == 2 then 0 else 2⟩ := by
  obtain ⟨mf, ms, po, G, GP, a, f, at0, rfl⟩ := r
  refine ⟨by kernel_rfl, fun x hx g hs => ?_⟩
  have hd : g.get x.o = some (.row (dkL x.d) 1 false) := by rw [hs _ (hw.lt (at0.desks x hx))]; exact at0.desks x hx
  apply x44; unfold X44
  refine ⟨x.d.proto, by rw [Hp.ld_of hd]; rfl, (unless_spec _ _).mono ?_⟩
  rintro _ g' ⟨rfl, rfl⟩
  exact ⟨_, rfl, rfl, rfl⟩

theorem ans45 {h : Hp} {t : Nat} {s : TS} {F : List Nat} (hw : h.wf) (r : TblR t s h F) : Ans h s.S ⟨45, [], fun d => if d.st != 3 then 0 else 292⟩ := by
  obtain ⟨mf, ms, po, G, GP, a, f, at0, rfl⟩ := r
  refine ⟨by kernel_rfl, fun x hx g hs => ?_⟩
  have hd : g.get x.o = some (.row (dkL x.d) 1 false) := by rw [hs _ (hw.lt (at0.desks x hx))]; exact at0.desks x hx
  apply x45; unfold X45
  refine ⟨x.d.st, by rw [Hp.ld_of hd]; rfl, (unless_spec _ _).mono ?_⟩
  rintro _ g' ⟨rfl, rfl⟩
  exact ⟨_, rfl, rfl, rfl⟩

theorem ans46 {h : Hp} {t : Nat} {s : TS} {F : List Nat} (hw : h.wf) (r : TblR t s h F) : Ans h s.S ⟨46, [], fun d => if d.st != 0 then 0 else 294⟩ := by
  obtain ⟨mf, ms, po, G, GP, a, f, at0, rfl⟩ := r
  refine ⟨by kernel_rfl, fun x hx g hs => ?_⟩
  have hd : g.get x.o = some (.row (dkL x.d) 1 false) := by rw [hs _ (hw.lt (at0.desks x hx))]; exact at0.desks x hx
  apply x46; unfold X46
  refine ⟨x.d.st, by rw [Hp.ld_of hd]; rfl, (unless_spec _ _).mono ?_⟩
  rintro _ g' ⟨rfl, rfl⟩
  exact ⟨_, rfl, rfl, rfl⟩

theorem ans38 {h : Hp} {t c1 c2 : Nat} {s : TS} {F : List Nat} {id : Int} (hw : h.wf) (r : TblR t s h F) (h1 : h.get c1 = some (.row [.int .u64 id] 1 false)) (h2 : h.get c2 = some (.row [.ptr (some (t, 0))] 1 false)) :
    Ans h s.S ⟨38, [.ptr (some (c1, 0)), .ptr (some (c2, 0))], fun _ => if 0 < id ∧ sfind s.S id = none then 0 else 2⟩ := by
  obtain ⟨mf, ms, po, G, GP, a, f, at0, rfl⟩ := r
  refine ⟨by kernel_rfl, fun x hx g hs => ?_⟩
  have lt0 := at0.lt hw
  have atg := at0.loc fun j hj => hs j (lt0 j hj)
  have g1 : g.get c1 = some (.row [.int .u64 id] 1 false) := by rw [hs _ (hw.lt h1)]; exact h1
  have g2 : g.get c2 = some (.row [.ptr (some (t, 0))] 1 false) := by rw [hs _ (hw.lt h2)]; exact h2
  apply x38; unfold X38
  refine ⟨id, by rw [Hp.ld_of g1]; rfl, ?_⟩
  by_cases hid : 0 < id
  · have : ltI 0 id = true := by rw [ltI_eq, decide_eq_true_eq]; exact hid
    rw [this]
    obtain ⟨oS, hS, moS⟩ := atg.socks
    have hlS := moS.look mtS id g ms hS
    rw [mget_sk] at hlS
    refine ⟨some (t, 0), by rw [Hp.ld_of g2]; rfl, some ms, by rw [Hp.ld_of atg.row]; rfl, id, by rw [Hp.ld_of g1]; rfl, (sfind s.S id).map fun x => (x.o, 0), by rw [hlS]; cases sfind s.S id <;> rfl, (unless_spec _ _).mono ?_⟩
    rintro _ g' ⟨rfl, rfl⟩
    refine ⟨_, rfl, ?_, rfl⟩
    cases sfind s.S id <;> simp [hid]
  · have : ltI 0 id = false := by rw [ltI_eq, decide_eq_false_iff_not]; exact hid
    rw [this]
    refine (unless_spec _ _).mono ?_
    rintro _ g' ⟨rfl, rfl⟩
    exact ⟨_, rfl, by simp [hid], rfl⟩

theorem ans39 {h : Hp} {t c1 : Nat} {s : TS} {F : List Nat} (hw : h.wf) (r : TblR t s h F) (h1 : h.get c1 = some (.row [.ptr (some (t, 0))] 1 false)) :
    Ans h s.S ⟨39, [.ptr (some (c1, 0))], fun _ => if (s.A.length : Int) < s.most then 0 else 291⟩ := by
  obtain ⟨mf, ms, po, G, GP, a, f, at0, rfl⟩ := r
  refine ⟨by kernel_rfl, fun x hx g hs => ?_⟩
  have lt0 := at0.lt hw
  have atg := at0.loc fun j hj => hs j (lt0 j hj)
  have g1 : g.get c1 = some (.row [.ptr (some (t, 0))] 1 false) := by rw [hs _ (hw.lt h1)]; exact h1
  apply x39; unfold X39
  obtain ⟨oF, hF, moF⟩ := atg.files
  refine ⟨some (t, 0), by rw [Hp.ld_of g1]; rfl, some mf, by rw [Hp.ld_of atg.row]; rfl, _, moF.len mtF g mf hF, some (t, 0), by rw [Hp.ld_of g1]; rfl, s.most, by rw [Hp.ld_of atg.row]; rfl, (unless_spec _ _).mono ?_⟩
  rintro _ g' ⟨rfl, rfl⟩
  refine ⟨_, rfl, ?_, rfl⟩
  rw [ltI_eq]; simp

/-! ### own addresses -/

def Rd32 (a : Option (Nat × Nat)) (n : Nat) (xs : List Int) (h : Hp) : Prop :=
  xs.length = n ∧ ∀ k, k < n → ∃ q o x, a = some (q, o) ∧ xs[k]? = some x ∧ h.ld q (o + k * 1) = some (.int .u32 x)

theorem Own.rd32 {a : Option (Nat × Nat)} {xs : List Int} {h : Hp} {G : List Nat} (o : Own 1 a xs.length (xs.map fun x => [V.int .u32 x]) h G) : Rd32 a xs.length xs h := by
  refine ⟨rfl, fun k hk => ?_⟩
  obtain ⟨q, o', row, e, hrow, _, hld, _⟩ := o.ld hk
  rw [List.getElem?_map, List.getElem?_eq_getElem hk] at hrow
  have := Option.some.inj hrow
  subst this
  exact ⟨q, o', xs[k], e, List.getElem?_eq_getElem hk, hld 0 (by omega)⟩

theorem contains_spec {h : Hp} {a : Option (Nat × Nat)} {n : Nat} {f : Bool} {xs : List Int} {v : Int} (r : Rd32 a n xs h) (hn : n ≤ 4611686018427387904) :
    XCalls Try.prog 31 [.slc a n f, .int .u32 v] h fun u h' => u = .bool (decide (v ∈ xs)) ∧ h' = h := by
  refine XCalls.cps fun K hK => ?_
  apply x31; unfold X31
  apply x65; unfold X65
  obtain ⟨hl, hr⟩ := r
  refine ⟨fun vs g => match vs with
    | [.int _ i] => ∃ k : Nat, i = k ∧ k ≤ n ∧ v ∉ xs.take k ∧ g = h
    | _ => False, fun vs _ => match vs with
    | [.int _ i] => n - i.toNat
    | _ => 0, ⟨(by trivial), 0, rfl, Nat.zero_le _, by simp, rfl⟩, ?_⟩
  rintro bs i g ⟨k, rfl, hk, hno, rfl⟩
  cases c : ltI (↑k) (↑n) with
  | false =>
    rw [ltI_eq, decide_eq_false_iff_not] at c
    rw [List.take_of_length_le (by omega)] at hno
    refine ⟨-1, rfl, hK _ _ ⟨?_, rfl⟩⟩
    have : ltI (-1) 0 = true := by decide
    rw [this]; simp [hno]
  | true =>
    rw [ltI_eq, decide_eq_true_eq] at c
    obtain ⟨q, o, x, rfl, hx, hld⟩ := hr k (by omega)
    have hw1 : IntKind.i64.wrap ((k : Int) + 1) = ((k + 1 : Nat) : Int) := by rw [wr (by omega) (by omega)]; rfl
    refine ⟨⟨by omega, c⟩, x, hld, ?_⟩
    by_cases e : v = x
    · have b : (v == x) = true := by simp [e]
      simp only [b, cond_true]
      refine ⟨k, rfl, hK _ _ ⟨?_, rfl⟩⟩
      have : ltI (↑k) 0 = false := by rw [ltI_eq, decide_eq_false_iff_not]; omega
      rw [this]
      have hm : v ∈ xs := by rw [e]; exact List.mem_of_getElem? hx
      simp [hm]
    · have b : (v == x) = false := by simp [e]
      simp only [b, cond_false]
      refine ⟨(by trivial), ⟨k + 1, hw1, by omega, ?_, (by trivial)⟩, ?_⟩
      · rw [List.take_add_one, hx]; simp [hno, e]
      · show n - Int.toNat (IntKind.i64.wrap ((k : Int) + 1)) < n - Int.toNat (k : Int)
        rw [hw1]; simp only [Int.toNat_natCast]; omega

theorem ans42 {h : Hp} {t c1 c2 : Nat} {s : TS} {F : List Nat} {ip port : Int} (hw : h.wf) (r : TblR t s h F) (hl : s.own.length ≤ 1000) (h1 : h.get c1 = some (.row [.int .u32 ip, .int .u16 port] 1 false)) (h2 : h.get c2 = some (.row [.ptr (some (t, 0))] 1 false)) :
    Ans h s.S ⟨42, [.ptr (some (c1, 0)), .ptr (some (c2, 0))], fun _ => if (ip = 0 ∨ ip ∈ s.own) ∧ 0 < port then 0 else 2⟩ := by
  obtain ⟨mf, ms, po, G, GP, a, f, at0, rfl⟩ := r
  refine ⟨by kernel_rfl, fun x hx g hs => ?_⟩
  have lt0 := at0.lt hw
  have atg := at0.loc fun j hj => hs j (lt0 j hj)
  have g1 : g.get c1 = some (.row [.int .u32 ip, .int .u16 port] 1 false) := by rw [hs _ (hw.lt h1)]; exact h1
  have g2 : g.get c2 = some (.row [.ptr (some (t, 0))] 1 false) := by rw [hs _ (hw.lt h2)]; exact h2
  apply x42; unfold X42
  refine ⟨ip, by rw [Hp.ld_of g1]; rfl, ?_⟩
  by_cases h0 : ip = 0
  · have b : (ip == 0) = true := by simp [h0]
    simp only [b, cond_true]
    refine ⟨port, by rw [Hp.ld_of g1]; rfl, (unless_spec _ _).mono ?_⟩
    rintro _ g' ⟨rfl, rfl⟩
    refine ⟨_, rfl, ?_, rfl⟩
    rw [ltI_eq]; simp [h0]
  · have b : (ip == 0) = false := by simp [h0]
    simp only [b, cond_false]
    refine ⟨some (t, 0), by rw [Hp.ld_of g2]; rfl, a, _, f, by rw [Hp.ld_of atg.row]; rfl, ip, by rw [Hp.ld_of g1]; rfl, (contains_spec (Own.rd32 atg.own) (by omega)).mono ?_⟩
    rintro _ g' ⟨rfl, rfl⟩
    refine ⟨_, rfl, ?_⟩
    by_cases hm : ip ∈ s.own
    · simp only [hm, decide_true, cond_true]
      refine ⟨port, by rw [Hp.ld_of g1]; rfl, (unless_spec _ _).mono ?_⟩
      rintro _ g' ⟨rfl, rfl⟩
      refine ⟨_, rfl, ?_, rfl⟩
      rw [ltI_eq]; simp
    · simp only [hm, decide_false, cond_false]
      refine (unless_spec _ _).mono ?_
      rintro _ g' ⟨rfl, rfl⟩
      exact ⟨_, rfl, by simp [h0], rfl⟩
end Go.Vex.Call
