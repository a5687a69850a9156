/-
  An end that answers (layer 27).
-/
import Derived.Test.YtkfnokgfgcfldaaGreatVexFF
import Derived.Test.YtkfnokgfgcfldaaGreatTab27
import Derived.Test.YtkfnokgfgcfldaaGreatXa27
import Derived.Test.YtkfnokgfgcfldaaGreatCa27
import Derived.Test.YtkfnokgfgcfldaaGreatCb27
import Derived.Test.YtkfnokgfgcfldaaGreatCc27
import Derived.Test.YtkfnokgfgcfldaaGreatCd27
set_option linter.unusedVariables false
set_option linter.unusedSimpArgs false
namespace Go.Vex.Tcb
open Go.Proofs

/-- a segment's row -/
abbrev xRow (x0 x1 x2 x3 x4 x5 x6 x7 x8 x9 x10 : Int) (x11 : List UInt8) : List V :=
  [.int .u32 x0, .int .u16 x1, .int .u32 x2, .int .u16 x3, .int .u32 x4, .int .u32 x5, .int .u8 x6, .int .u16 x7, .int .u16 x8, .int .u16 x9, .int .i64 x10, .str x11]

/-- which segments may be -/
def segB (x6 x9 x10 : Int) : Bool :=
  !ltI 63 x6 && (bits BinOp.and .u8 x6 2 != 0 || (x9 == 0 && x10 == (-1))) && !ltI x10 (-1) && !ltI 14 x10

section
variable {h : Hp}

theorem seg_spec (hw : h.wf) (x0 x1 x2 x3 x4 x5 x6 x7 x8 x9 x10 : Int) (x11 : List UInt8) :
    XCalls Tryz.prog 44 [.agg (xRow x0 x1 x2 x3 x4 x5 x6 x7 x8 x9 x10 x11)] h fun v h' => v = .bool (segB x6 x9 x10) ∧ Ab h.next h h' := by
  refine XCalls.cps fun K hK => ?_
  apply x44; unfold X44
  rintro h1 rfl
  have hg : (h.alloc (.row (xRow x0 x1 x2 x3 x4 x5 x6 x7 x8 x9 x10 x11) 1 false)).get h.next = some (.row (xRow x0 x1 x2 x3 x4 x5 x6 x7 x8 x9 x10 x11) 1 false) := Hp.get_alloc_self
  have ha : Ab h.next h (h.alloc (.row (xRow x0 x1 x2 x3 x4 x5 x6 x7 x8 x9 x10 x11) 1 false)) := Ab.alloc hw (Nat.le_refl _) _
  have hn1 : (h.alloc (.row (xRow x0 x1 x2 x3 x4 x5 x6 x7 x8 x9 x10 x11) 1 false)).next = h.next + 1 := rfl
  generalize h.alloc (.row (xRow x0 x1 x2 x3 x4 x5 x6 x7 x8 x9 x10 x11) 1 false) = h1 at *
  refine ⟨fun vs g => vs = [.bool (bits BinOp.and .u8 x6 2 != 0 || (x9 == 0 && x10 == (-1)))] ∧ Ab h.next h g ∧ g.get h.next = some (.row (xRow x0 x1 x2 x3 x4 x5 x6 x7 x8 x9 x10 x11) 1 false),
    ⟨x0, x1, x2, x3, x4, x5, x6, x7, x8, x9, x10, x11, by rw [Hp.lda_of hg (Nat.le_of_ble_eq_true rfl)]; rfl, ?_⟩, ?_⟩
  · apply x84; unfold X84
    rintro h2 rfl
    have hg2 : (h1.alloc (.row (xRow x0 x1 x2 x3 x4 x5 x6 x7 x8 x9 x10 x11) 1 false)).get h1.next = some (.row (xRow x0 x1 x2 x3 x4 x5 x6 x7 x8 x9 x10 x11) 1 false) := Hp.get_alloc_self
    have hgo : (h1.alloc (.row (xRow x0 x1 x2 x3 x4 x5 x6 x7 x8 x9 x10 x11) 1 false)).get h.next = some (.row (xRow x0 x1 x2 x3 x4 x5 x6 x7 x8 x9 x10 x11) 1 false) := by rw [Hp.get_alloc_ne (by omega)]; exact hg
    have a2 : Ab h.next h (h1.alloc (.row (xRow x0 x1 x2 x3 x4 x5 x6 x7 x8 x9 x10 x11) 1 false)) := ha.trans (Ab.alloc ha.wf (by omega) _)
    generalize h1.alloc (.row (xRow x0 x1 x2 x3 x4 x5 x6 x7 x8 x9 x10 x11) 1 false) = h2 at *
    refine ⟨_, rfl, ?_⟩
    apply x115; unfold X115
    refine ⟨x6, by rw [Hp.ld_of hg2]; rfl, _, rfl, ?_⟩
    cases hb : (bits BinOp.and .u8 x6 2 != 0) with
    | true => exact ⟨rfl, rfl, a2, hgo⟩
    | false =>
      refine ⟨x9, by rw [Hp.ld_of hgo]; rfl, ?_⟩
      cases hc : (x9 == 0) with
      | true => exact ⟨x10, by rw [Hp.ld_of hgo]; rfl, rfl, rfl, a2, hgo⟩
      | false => exact ⟨rfl, rfl, a2, hgo⟩
  rintro bs b g ⟨e, a2, hg2⟩
  cases e
  refine ⟨x6, by rw [Hp.ld_of hg2]; rfl, ?_⟩
  have fin : ∀ b, b = segB x6 x9 x10 → K (.bool b) g := fun b e => hK _ _ ⟨by rw [e], a2⟩
  cases e1 : ltI 63 x6 with
  | true => exact fin _ (by unfold segB; rw [e1]; rfl)
  | false =>
    cases e2 : (bits BinOp.and .u8 x6 2 != 0 || (x9 == 0 && x10 == (-1))) with
    | false => exact fin _ (by unfold segB; rw [e1, e2]; rfl)
    | true =>
      refine ⟨x10, by rw [Hp.ld_of hg2]; rfl, ?_⟩
      cases e3 : ltI x10 (-1) with
      | true => exact fin _ (by unfold segB; rw [e1, e2, e3]; rfl)
      | false => exact ⟨x10, by rw [Hp.ld_of hg2]; rfl, fin _ (by unfold segB; rw [e1, e2, e3]; rfl)⟩

theorem turn_spec (hw : h.wf) (p0 p1 p2 p3 : Int) : XCalls Tryz.prog 32 [.agg [.int .u32 p0, .int .u16 p1, .int .u32 p2, .int .u16 p3]] h fun v h' => v = .agg [.int .u32 p2, .int .u16 p3, .int .u32 p0, .int .u16 p1] ∧ Ab h.next h h' := by
  apply x32; unfold X32
  rintro h1 rfl
  rintro h2 rfl
  have a : Ab h.next h ((h.alloc (.row [.int .u32 p0, .int .u16 p1, .int .u32 p2, .int .u16 p3] 1 false)).alloc (.row [.int .u32 0, .int .u16 0, .int .u32 0, .int .u16 0] 1 false)) :=
    (Ab.alloc hw (Nat.le_refl _) _).trans (Ab.alloc hw.alloc (by rw [Hp.alloc_next]; omega) _)
  have hp : ((h.alloc (.row [.int .u32 p0, .int .u16 p1, .int .u32 p2, .int .u16 p3] 1 false)).alloc (.row [.int .u32 0, .int .u16 0, .int .u32 0, .int .u16 0] 1 false)).get h.next = some (.row [.int .u32 p0, .int .u16 p1, .int .u32 p2, .int .u16 p3] 1 false) := by
    rw [Hp.get_alloc_ne (by rw [Hp.alloc_next]; omega)]; exact Hp.get_alloc_self
  have hq : ((h.alloc (.row [.int .u32 p0, .int .u16 p1, .int .u32 p2, .int .u16 p3] 1 false)).alloc (.row [.int .u32 0, .int .u16 0, .int .u32 0, .int .u16 0] 1 false)).get (h.next + 1) = some (.row [.int .u32 0, .int .u16 0, .int .u32 0, .int .u16 0] 1 false) := Hp.get_alloc_self
  have hn : ((h.alloc (.row [.int .u32 p0, .int .u16 p1, .int .u32 p2, .int .u16 p3] 1 false)).alloc (.row [.int .u32 0, .int .u16 0, .int .u32 0, .int .u16 0] 1 false)).next = h.next + 2 := rfl
  have hn1 : (h.alloc (.row [.int .u32 p0, .int .u16 p1, .int .u32 p2, .int .u16 p3] 1 false)).next = h.next + 1 := rfl
  rw [hn1]
  generalize (h.alloc (.row [.int .u32 p0, .int .u16 p1, .int .u32 p2, .int .u16 p3] 1 false)).alloc (.row [.int .u32 0, .int .u16 0, .int .u32 0, .int .u16 0] 1 false) = g at *
  refine ⟨p2, p3, by rw [Hp.lda_of hp (Nat.le_of_ble_eq_true rfl)]; rfl, p0, p1, by rw [Hp.lda_of hp (Nat.le_of_ble_eq_true rfl)]; rfl, _, Hp.st_of hq (Nat.le_of_ble_eq_true rfl), p2, p3, p0, p1, by rw [Hp.lda_of Hp.get_set_self (Nat.le_of_ble_eq_true rfl)]; rfl, rfl, a.trans (Ab.set a.wf (by omega) (by omega) _)⟩

/-- an end at t that learns of the other one at x, whose stream stands at q -/
structure Lrn (h : Hp) (t rt q x : Nat) (X : List V) (g : Hp) : Prop where
  ex : ∃ L, TcR t L g ∧ TcI L (some q) rt ∧ L[48]? = some (.slc none 0 true)
  inr : InR (some q) g
  ne : q ≠ t
  gx : g.get x = some (.row X 1 false)
  nx : x ≠ t
  oth : ∀ j, j ≠ t → j < h.next → g.get j = h.get j
  le : h.next ≤ g.next
  wf : g.wf

section
variable {t rt q x : Nat} {X : List V} {g : Hp}

theorem Lrn.I (s : Lrn h t rt q x X g) {o : Nat} {k : IntKind} {n : Int} (hz : tZ[o]? = some (.int k n)) : ∃ m, g.ld t o = some (.int k m) := by
  obtain ⟨L, hg, i, _⟩ := s.ex
  obtain ⟨m, hm⟩ := kI i.shp hz
  exact ⟨m, by rw [Hp.ld_of hg]; exact hm⟩

theorem Lrn.st (s : Lrn h t rt q x X g) {o : Nat} {v z : V} (hz : tZ[o]? = some z) (hv : shpB z v = true) (ho : o ≠ 22 ∧ o ≠ 19 ∧ o ≠ 20 ∧ o ≠ 16 ∧ o ≠ 15 ∧ o ≠ 36) (h48 : o ≠ 48) : ∃ g', g.st t o [v] = some g' ∧ Lrn h t rt q x X g' := by
  obtain ⟨L, hg, i, e⟩ := s.ex
  have hl : o < L.length := by rw [i.len]; exact (List.getElem?_eq_some_iff.1 hz).1
  refine ⟨_, st1 hg hl v, ⟨_, Hp.get_set_self, i.set hz hv ho, by rw [List.getElem?_set_ne h48]; exact e⟩, fun p hp => ?_, s.ne, by rw [Hp.get_set_ne s.nx]; exact s.gx, s.nx, fun j h1 h2 => by rw [Hp.get_set_ne h1]; exact s.oth j h1 h2, by rw [Hp.set_next]; exact s.le, s.wf.set (s.wf.lt hg)⟩
  obtain ⟨a, m, b, e⟩ := s.inr p hp
  cases hp
  exact ⟨a, m, b, by rw [Hp.get_set_ne s.ne]; exact e⟩

theorem Lrn.ab (s : Lrn h t rt q x X g) {g' : Hp} (a : Ab g.next g g') : Lrn h t rt q x X g' := by
  obtain ⟨L, hg, i, e⟩ := s.ex
  refine ⟨⟨L, by unfold TcR; rw [a.same _ (s.wf.lt hg)]; exact hg, i, e⟩, fun p hp => ?_, s.ne, by rw [a.same _ (s.wf.lt s.gx)]; exact s.gx, s.nx, fun j h1 h2 => by
    have := s.le
    rw [a.same _ (by omega)]; exact s.oth j h1 h2, Nat.le_trans s.le a.le, a.wf⟩
  obtain ⟨b, m, c, e⟩ := s.inr p hp
  exact ⟨b, m, c, by rw [a.same _ (s.wf.lt e)]; exact e⟩
end

theorem learns_spec {t rt : Nat} {L : List V} (hg : TcR t L h) (i : TcI L none rt) (e48 : L[48]? = some (.slc none 0 true)) {c8 : Int} (e8 : L[8]? = some (.int .i64 c8)) (hc : ltI c8 1 = false ∧ ltI 16384 c8 = false) (hw : h.wf)
    (x0 x1 x2 x3 x4 x5 x6 x7 x8 x9 x10 : Int) (x11 : List UInt8) :
    XCalls Tryz.prog 86 [.ptr (some (t, 0)), .agg (xRow x0 x1 x2 x3 x4 x5 x6 x7 x8 x9 x10 x11)] h fun v h' => v = .tup [] ∧ ∃ q, Lrn h t rt q h.next (xRow x0 x1 x2 x3 x4 x5 x6 x7 x8 x9 x10 x11) h' := by
  refine XCalls.cps fun K hK => ?_
  apply x86; unfold X86
  rintro h1 rfl
  have hg1 : (h.alloc (.row (xRow x0 x1 x2 x3 x4 x5 x6 x7 x8 x9 x10 x11) 1 false)).get h.next = some (.row (xRow x0 x1 x2 x3 x4 x5 x6 x7 x8 x9 x10 x11) 1 false) := Hp.get_alloc_self
  have ha : Ab h.next h (h.alloc (.row (xRow x0 x1 x2 x3 x4 x5 x6 x7 x8 x9 x10 x11) 1 false)) := Ab.alloc hw (Nat.le_refl _) _
  have hn1 : (h.alloc (.row (xRow x0 x1 x2 x3 x4 x5 x6 x7 x8 x9 x10 x11) 1 false)).next = h.next + 1 := rfl
  generalize h.alloc (.row (xRow x0 x1 x2 x3 x4 x5 x6 x7 x8 x9 x10 x11) 1 false) = h1 at *
  have htl := hw.lt hg
  have ht1 : TcR t L h1 := by unfold TcR; rw [ha.same _ htl]; exact hg
  refine ⟨x4, by rw [Hp.ld_of hg1]; rfl, c8, by rw [Hp.ld_of ht1]; exact e8, ?_⟩
  apply x116; unfold X116
  rw [hc.1, hc.2]
  rintro h2 rfl
  rintro h3 rfl
  refine ⟨_, _, rfl, rfl, ?_⟩
  have ht3 : TcR t L ((h1.alloc (.map [] 0)).alloc (.row [.int .u32 (IntKind.u32.wrap (x4 + 1)), .slc none 0 true, .map (some h1.next), .int .i64 0, .int .i64 c8, .bool false, .int .u32 0] 1 false)) := by
    unfold TcR
    rw [Hp.get_alloc_ne (by rw [Hp.alloc_next]; omega), Hp.get_alloc_ne (by omega)]; exact ht1
  have hl : 19 < L.length := by rw [i.len]; decide
  refine ⟨_, st1 ht3 hl _, rfl, ?_⟩
  have s0 : Lrn h t rt (h1.next + 1) h.next (xRow x0 x1 x2 x3 x4 x5 x6 x7 x8 x9 x10 x11) (((h1.alloc (.map [] 0)).alloc (.row [.int .u32 (IntKind.u32.wrap (x4 + 1)), .slc none 0 true, .map (some h1.next), .int .i64 0, .int .i64 c8, .bool false, .int .u32 0] 1 false)).set t (.row (L.set 19 (.ptr (some (h1.next + 1, 0)))) 1 false)) := by
    refine ⟨⟨_, Hp.get_set_self, i.setInn _, by rw [List.getElem?_set_ne (by decide)]; exact e48⟩, fun p hp => ?_, by omega, ?_, by omega, fun j h1' h2 => ?_, ?_, ?_⟩
    · cases hp
      refine ⟨IntKind.u32.wrap (x4 + 1), .map (some h1.next), c8, ?_⟩
      rw [Hp.get_set_ne (by omega)]
      exact Hp.get_alloc_self
    · rw [Hp.get_set_ne (by omega), Hp.get_alloc_ne (by rw [Hp.alloc_next]; omega), Hp.get_alloc_ne (by omega)]; exact hg1
    · rw [Hp.get_set_ne h1', Hp.get_alloc_ne (by rw [Hp.alloc_next]; omega), Hp.get_alloc_ne (by omega), ha.same _ h2]
    · rw [Hp.set_next, Hp.alloc_next, Hp.alloc_next]; omega
    · exact ha.wf.alloc.alloc.set (by rw [Hp.alloc_next, Hp.alloc_next]; omega)
  have en : (h1.alloc (.map [] 0)).next = h1.next + 1 := rfl
  rw [en] at *
  generalize ((h1.alloc (.map [] 0)).alloc (.row [.int .u32 (IntKind.u32.wrap (x4 + 1)), .slc none 0 true, .map (some h1.next), .int .i64 0, .int .i64 c8, .bool false, .int .u32 0] 1 false)).set t (.row (L.set 19 (.ptr (some (h1.next + 1, 0)))) 1 false) = g0 at *
  generalize h1.next + 1 = q at *
  have lx : ∀ {g : Hp}, Lrn h t rt q h.next (xRow x0 x1 x2 x3 x4 x5 x6 x7 x8 x9 x10 x11) g → ∀ {o v}, (xRow x0 x1 x2 x3 x4 x5 x6 x7 x8 x9 x10 x11)[o]? = some v → g.ld h.next o = some v := fun {g} s {o v} e => by rw [Hp.ld_of s.gx]; exact e
  obtain ⟨n4, h4⟩ := s0.I (o := 5) rfl
  obtain ⟨g1, e1, s1⟩ := s0.st (o := 31) (v := .int .i64 (bif ltI 536 n4 then 536 else n4)) rfl rfl (by decide) (by decide)
  refine ⟨n4, h4, g1, e1, fun vs g => Lrn h t rt q h.next (xRow x0 x1 x2 x3 x4 x5 x6 x7 x8 x9 x10 x11) g, ⟨x9, lx s1 rfl, ?_⟩, ?_⟩
  · cases ltI 0 x9 with
    | true =>
      obtain ⟨n6, h6⟩ := s1.I (o := 5) rfl
      obtain ⟨g2, e2, s2⟩ := s1.st (o := 31) (v := .int .i64 (bif ltI (bif ltI (IntKind.i64.wrap x9) 64 then 64 else IntKind.i64.wrap x9) n6 then bif ltI (IntKind.i64.wrap x9) 64 then 64 else IntKind.i64.wrap x9 else n6)) rfl rfl (by decide) (by decide)
      exact ⟨n6, h6, x9, lx s1 rfl, g2, e2, rfl, s2⟩
    | false => exact ⟨rfl, s1⟩
  rintro bs g2 s2
  obtain ⟨n8, h8⟩ := s2.I (o := 31) rfl
  refine ⟨n8, h8, (cong_spec s2.wf n8).mono ?_⟩
  rintro _ g3 ⟨⟨a2, n9, rfl⟩, ab⟩
  have s3 := s2.ab ab
  obtain ⟨g4, e4, s4⟩ := s3.st (o := 21) (v := .ptr a2) rfl rfl (by decide) (by decide)
  refine ⟨_, _, rfl, g4, e4, fun vs g => Lrn h t rt q h.next (xRow x0 x1 x2 x3 x4 x5 x6 x7 x8 x9 x10 x11) g, ?_, ?_⟩
  · obtain ⟨n10, h10⟩ := s4.I (o := 6) rfl
    refine ⟨n10, h10, ?_⟩
    cases ltI n10 0 with
    | true =>
      obtain ⟨g5, e5, s5⟩ := s4.st (o := 30) (v := .bool false) rfl rfl (by decide) (by decide)
      exact ⟨g5, e5, rfl, s5⟩
    | false =>
      obtain ⟨g5, e5, s5⟩ := s4.st (o := 30) (v := .bool (!ltI x10 0)) rfl rfl (by decide) (by decide)
      exact ⟨x10, lx s4 rfl, g5, e5, rfl, s5⟩
  rintro bs2 g5 s5
  obtain ⟨g6, e6, s6⟩ := s5.st (o := 32) (v := .int .i64 x10) rfl rfl (by decide) (by decide)
  obtain ⟨g7, e7, s7⟩ := s6.st (o := 33) (v := .int .u32 (IntKind.u32.wrap x7)) rfl rfl (by decide) (by decide)
  obtain ⟨g8, e8', s8⟩ := s7.st (o := 34) (v := .int .u32 x4) rfl rfl (by decide) (by decide)
  obtain ⟨g9, e9, s9⟩ := s8.st (o := 35) (v := .int .u32 x5) rfl rfl (by decide) (by decide)
  exact ⟨x10, lx s5 rfl, g6, e6, x7, lx s6 rfl, x4, lx s6 rfl, x5, lx s6 rfl, g7, e7, ⟨x5, lx s7 rfl, rfl⟩, rfl, ⟨x4, lx s7 rfl, rfl⟩, rfl, rfl, rfl, g8, e8', ⟨x5, lx s8 rfl, rfl⟩, rfl, rfl, g9, e9, hK _ _ ⟨rfl, q, s9⟩⟩
end
end Go.Vex.Tcb
