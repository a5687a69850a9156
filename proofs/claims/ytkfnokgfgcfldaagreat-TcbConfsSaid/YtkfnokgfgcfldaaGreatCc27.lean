/-
  What an end says first (layer 27): a SYN; conf; a new end; an end that opens.
-/
import Derived.Test.YtkfnokgfgcfldaaGreatVexFF
import Derived.Test.YtkfnokgfgcfldaaGreatTab27
import Derived.Test.YtkfnokgfgcfldaaGreatXa27
import Derived.Test.YtkfnokgfgcfldaaGreatCa27
import Derived.Test.YtkfnokgfgcfldaaGreatCb27
set_option linter.unusedVariables false
set_option linter.unusedSimpArgs false
namespace Go.Vex.Tcb
open Go.Proofs

theorem take4 {L : List V} {a b c d : V} (h0 : L[0]? = some a) (h1 : L[1]? = some b) (h2 : L[2]? = some c) (h3 : L[3]? = some d) : ((L.drop 0).take 4) = [a, b, c, d] := by
  rcases L with _ | ⟨x0, _ | ⟨x1, _ | ⟨x2, _ | ⟨x3, L⟩⟩⟩⟩ <;> simp at h0 h1 h2 h3
  subst h0 h1 h2 h3
  rfl

section
variable {h : Hp} {t rt : Nat} {inn : Option Nat} {L : List V}

theorem say_spec (hg : TcR t L h) (i : TcI L inn rt) (e48 : L[48]? = some (.slc none 0 true)) (hi : InR inn h) (hni : ∀ p, inn = some p → p ≠ t) (hw : h.wf) (number : Int) (data : List UInt8) :
    XCalls Tryz.prog 92 [.ptr (some (t, 0)), .int .u8 2, .int .u32 number, .str data] h fun v h' => v = .tup [] ∧ (∃ L', TcR t L' h' ∧ TcI L' inn rt) ∧ (∀ j, j ≠ t → j < h.next → h'.get j = h.get j) ∧ h.next ≤ h'.next ∧ h'.wf := by
  refine XCalls.cps fun K hK => ?_
  have htl : t < h.next := hw.lt hg
  obtain ⟨n0, h0⟩ := kI i.shp (o := 0) rfl
  obtain ⟨n1, h1⟩ := kI i.shp (o := 1) rfl
  obtain ⟨n2, h2⟩ := kI i.shp (o := 2) rfl
  obtain ⟨n3, h3⟩ := kI i.shp (o := 3) rfl
  have hl4 : (0 : Nat) + 4 ≤ L.length := by rw [i.len]; decide
  have lda : ∀ {g : Hp}, TcR t L g → g.lda t 0 4 = some (.agg [.int .u32 n0, .int .u16 n1, .int .u32 n2, .int .u16 n3]) := fun {g} hg => by
    rw [Hp.lda_of hg hl4, take4 h0 h1 h2 h3]
  have hb : ltI 0 (bits BinOp.and .u8 2 2) = true := by decide +kernel
  have room : ∀ {g : Hp}, TcR t L g → InR inn g → XCalls Tryz.prog 117 [.ptr (some (t, 0)), .bool (ltI 0 (bits BinOp.and .u8 2 2))] g fun v h' => (∃ n, v = .int .u16 n) ∧ h' = g := fun {g} hg hi => by
    rw [hb]; exact room_spec hg i hi
  have inA : ∀ o, InR inn (h.alloc o) := fun o p hp => by
    obtain ⟨a, m, b, e⟩ := hi p hp
    exact ⟨a, m, b, by rw [Hp.get_alloc_ne (Nat.ne_of_lt (hw.lt e))]; exact e⟩
  have hgA : ∀ o, TcR t L (h.alloc o) := fun o => by unfold TcR; rw [Hp.get_alloc_ne (by omega)]; exact hg
  -- the tail, from a heap with the segment made
  have tail : ∀ (X : List V), shpBs xZ X = true → ∀ (o : O) {g : Hp}, g = (h.alloc o).set h.next (.row X 1 false) → X92T h.next g K t 2 := fun X sx o g eg => by
    refine say_tail (h := h.alloc o) (inn := inn) (rt := rt) ⟨⟨L, by unfold TcR; rw [eg, Hp.get_set_ne (by omega)]; exact hgA o, i, e48⟩, ⟨X, by rw [eg]; exact Hp.get_set_self, sx⟩, fun j h1 h2 => by rw [eg, Hp.get_set_ne h2], by rw [eg, Hp.set_next], by rw [eg]; exact hw.alloc.set (by rw [Hp.alloc_next]; omega)⟩ (inA o) (by omega) (fun p hp => ⟨hni p hp, by
      obtain ⟨a, m, b, e⟩ := hi p hp
      exact Nat.ne_of_lt (hw.lt e)⟩) ?_
    intro g' hx hs hn hw'
    have en : g.next = h.next + 1 := by rw [eg, Hp.set_next, Hp.alloc_next]
    exact hK _ _ ⟨rfl, hx, fun j hj hl => by rw [hs j hj (by omega) (by omega), Hp.get_alloc_ne (by omega)], by omega, hw'⟩
  apply x92; unfold X92
  refine ⟨n0, n1, n2, n3, lda hg, ?_, ?_, trivial⟩
  · refine (room hg hi).mono ?_
    rintro _ h' ⟨⟨n5, rfl⟩, e⟩
    subst e
    refine ⟨_, rfl, rfl, rfl, rfl, ⟨_, _, _, _, lda hg, rfl⟩, rfl, rfl, rfl, rfl, ?_⟩
    rintro g rfl
    refine ⟨rfl, rfl, rfl, rfl, ⟨_, _, _, _, lda (hgA _), rfl⟩, rfl, rfl, rfl, rfl, _, Hp.st_of Hp.get_alloc_self (Nat.le_of_ble_eq_true rfl), ?_⟩
    exact tail _ (by rfl) _ rfl
  · rintro g rfl
    refine ⟨rfl, rfl, rfl, rfl, rfl, rfl, rfl, ⟨_, _, _, _, lda (hgA _), rfl⟩, rfl, rfl, rfl, rfl, ?_⟩
    refine (room (hgA _) (inA _)).mono ?_
    rintro _ g ⟨⟨n5, rfl⟩, rfl⟩
    refine ⟨_, rfl, rfl, rfl, rfl, ⟨_, _, _, _, lda (hgA _), rfl⟩, rfl, rfl, rfl, rfl, _, Hp.st_of Hp.get_alloc_self (Nat.le_of_ble_eq_true rfl), ?_⟩
    exact tail _ (by rfl) _ rfl

theorem syn_spec (hg : TcR t L h) (i : TcI L inn rt) (e48 : L[48]? = some (.slc none 0 true)) (hi : InR inn h) (hni : ∀ p, inn = some p → p ≠ t) (hw : h.wf) :
    XCalls Tryz.prog 58 [.ptr (some (t, 0))] h fun v h' => v = .tup [] ∧ (∃ L', TcR t L' h' ∧ TcI L' inn rt) ∧ (∀ j, j ≠ t → j < h.next → h'.get j = h.get j) ∧ h.next ≤ h'.next ∧ h'.wf := by
  obtain ⟨n, hn⟩ := kI i.shp (o := 4) rfl
  apply x58; unfold X58
  refine ⟨n, by rw [Hp.ld_of hg]; exact hn, (say_spec hg i e48 hi hni hw n []).mono ?_⟩
  rintro v h' ⟨_, q⟩
  exact ⟨rfl, q⟩

/-- its first words: a SYN, and what turns behind it -/
theorem first_spec {b : Nat} {h0 : Hp} (ha : Ab b h0 h) (hb : b ≤ t) (hg : TcR t L h) (i : TcI L inn rt) (e48 : L[48]? = some (.slc none 0 true)) (hi : InR inn h) (hni : ∀ p, inn = some p → p ≠ t)
    (hr : h.get rt = some (.row rtoRow 1 false)) (hne : rt ≠ t) {K : V → Hp → Prop} (hK : ∀ h', Ab b h0 h' → K (.tup [.ptr (some (t, 0)), .int .i64 0]) h') :
    XCalls Tryz.prog 58 [.ptr (some (t, 0))] h fun v h' => XCalls Tryz.prog 59 [.ptr (some (t, 0))] h' fun v2 h'' => K (.tup [.ptr (some (t, 0)), .int .i64 0]) h'' := by
  have htl : t < h.next := ha.wf.lt hg
  refine (syn_spec hg i e48 hi hni ha.wf).mono ?_
  rintro _ h1 ⟨rfl, hx, hs, hn, hw1⟩
  have hrl := ha.wf.lt hr
  refine (settles_spec (h := h1) (g := h1) ⟨hx, fun _ _ => rfl, rfl, hw1⟩ (by rw [hs rt hne hrl]; exact hr) hne).mono ?_
  rintro _ h2 ⟨rfl, s⟩
  refine hK _ ⟨fun j hj => ?_, ?_, s.wf⟩
  · have hal := ha.le
    have hbl : b ≤ h.next := by omega
    rw [s.oth j (by omega), hs j (by omega) (by omega), ha.same j hj]
  · have := s.nx
    have := ha.le
    omega

end

/-- which confs may be -/
def mayB (c5 c6 c7 c8 c10 c11 c12 c13 now : Int) : Bool :=
  !ltI c5 64 && !ltI 1460 c5 && !ltI c6 (-1) && !ltI 14 c6 && !ltI c7 1 && !ltI 16384 c7 && !ltI c8 1 && !ltI 16384 c8 && !ltI c10 0 && !ltI 1073741824 c10 && !ltI c11 0 && !ltI 1073741824 c11 &&
  !ltI c12 1 && !ltI 16 c12 && !ltI c13 1 && !ltI 1073741824 c13 && (ltI c6 0 || ltI 0 (c8.fdiv (2 ^ c6.toNat))) && !ltI now 0 && !ltI 17592186044416 now

/-- a conf's row -/
abbrev cRow (c0 c1 c2 c3 c4 c5 c6 c7 c8 : Int) (c9 : Bool) (c10 c11 c12 c13 : Int) : List V :=
  [.int .u32 c0, .int .u16 c1, .int .u32 c2, .int .u16 c3, .int .u32 c4, .int .i64 c5, .int .i64 c6, .int .i64 c7, .int .i64 c8, .bool c9, .int .i64 c10, .int .i64 c11, .int .i64 c12, .int .i64 c13]

theorem may_spec {h : Hp} (hw : h.wf) (c0 c1 c2 c3 c4 c5 c6 c7 c8 : Int) (c9 : Bool) (c10 c11 c12 c13 now : Int) :
    XCalls Tryz.prog 89 [.agg (cRow c0 c1 c2 c3 c4 c5 c6 c7 c8 c9 c10 c11 c12 c13), .int .i64 now] h fun v h' => v = .bool (mayB c5 c6 c7 c8 c10 c11 c12 c13 now) ∧ Ab h.next h h' := by
  refine XCalls.cps fun K hK => ?_
  apply x89; unfold X89
  rintro h1 rfl
  have hg : (h.alloc (.row (cRow c0 c1 c2 c3 c4 c5 c6 c7 c8 c9 c10 c11 c12 c13) 1 false)).get h.next = some (.row (cRow c0 c1 c2 c3 c4 c5 c6 c7 c8 c9 c10 c11 c12 c13) 1 false) := Hp.get_alloc_self
  have ha : Ab h.next h (h.alloc (.row (cRow c0 c1 c2 c3 c4 c5 c6 c7 c8 c9 c10 c11 c12 c13) 1 false)) := Ab.alloc hw (Nat.le_refl _) _
  generalize h.alloc (.row (cRow c0 c1 c2 c3 c4 c5 c6 c7 c8 c9 c10 c11 c12 c13) 1 false) = h1 at *
  have ld : ∀ {o v}, (cRow c0 c1 c2 c3 c4 c5 c6 c7 c8 c9 c10 c11 c12 c13)[o]? = some v → h1.ld h.next o = some v := fun {o v} e => by rw [Hp.ld_of hg]; exact e
  have fin : ∀ b, b = mayB c5 c6 c7 c8 c10 c11 c12 c13 now → K (.bool b) h1 := fun b e => hK _ _ ⟨by rw [e], ha⟩
  refine ⟨fun vs g => vs = [.bool (!ltI c5 64 && !ltI 1460 c5 && !ltI c6 (-1) && !ltI 14 c6)] ∧ g = h1, ⟨c5, ld rfl, ?_⟩, ?_⟩
  · cases ltI c5 64 with
    | true => exact ⟨rfl, rfl, rfl⟩
    | false =>
      refine ⟨c5, ld rfl, ?_⟩
      cases ltI 1460 c5 with
      | true => exact ⟨rfl, rfl, rfl⟩
      | false =>
        refine ⟨c6, ld rfl, ?_⟩
        cases ltI c6 (-1) with
        | true => exact ⟨rfl, rfl, rfl⟩
        | false => exact ⟨c6, ld rfl, rfl, rfl, rfl⟩
  rintro bs b1 g ⟨e, eg⟩
  cases e
  subst eg
  refine ⟨fun vs g' => vs = [.bool (!ltI c7 1 && !ltI 16384 c7 && !ltI c8 1 && !ltI 16384 c8 && !ltI c12 1 && !ltI 16 c12)] ∧ g' = g, ⟨c7, ld rfl, ?_⟩, ?_⟩
  · cases ltI c7 1 with
    | true => exact ⟨rfl, rfl, rfl⟩
    | false =>
      refine ⟨c7, ld rfl, ?_⟩
      cases ltI 16384 c7 with
      | true => exact ⟨rfl, rfl, rfl⟩
      | false =>
        refine ⟨c8, ld rfl, ?_⟩
        cases ltI c8 1 with
        | true => exact ⟨rfl, rfl, rfl⟩
        | false =>
          refine ⟨c8, ld rfl, ?_⟩
          cases ltI 16384 c8 with
          | true => exact ⟨rfl, rfl, rfl⟩
          | false =>
            refine ⟨c12, ld rfl, ?_⟩
            cases ltI c12 1 with
            | true => exact ⟨rfl, rfl, rfl⟩
            | false => exact ⟨c12, ld rfl, rfl, rfl, rfl⟩
  rintro bs b2 g' ⟨e, eg⟩
  cases e
  subst eg
  refine ⟨fun vs g => vs = [.bool (!ltI c10 0 && !ltI 1073741824 c10 && !ltI c11 0 && !ltI 1073741824 c11 && !ltI c13 1 && !ltI 1073741824 c13)] ∧ g = g', ⟨c10, ld rfl, ?_⟩, ?_⟩
  · cases ltI c10 0 with
    | true => exact ⟨rfl, rfl, rfl⟩
    | false =>
      refine ⟨c10, ld rfl, ?_⟩
      cases ltI 1073741824 c10 with
      | true => exact ⟨rfl, rfl, rfl⟩
      | false =>
        refine ⟨c11, ld rfl, ?_⟩
        cases ltI c11 0 with
        | true => exact ⟨rfl, rfl, rfl⟩
        | false =>
          refine ⟨c11, ld rfl, ?_⟩
          cases ltI 1073741824 c11 with
          | true => exact ⟨rfl, rfl, rfl⟩
          | false =>
            refine ⟨c13, ld rfl, ?_⟩
            cases ltI c13 1 with
            | true => exact ⟨rfl, rfl, rfl⟩
            | false => exact ⟨c13, ld rfl, rfl, rfl, rfl⟩
  rintro bs b3 g ⟨e, eg⟩
  cases e
  subst eg
  cases e1 : (!ltI c5 64 && !ltI 1460 c5 && !ltI c6 (-1) && !ltI 14 c6) with
  | false => exact fin _ (by unfold mayB; rw [e1]; rfl)
  | true =>
  cases e2 : (!ltI c7 1 && !ltI 16384 c7 && !ltI c8 1 && !ltI 16384 c8 && !ltI c12 1 && !ltI 16 c12) with
  | false =>
    refine fin _ ?_
    unfold mayB
    revert e2
    cases ltI c7 1 <;> cases ltI 16384 c7 <;> cases ltI c8 1 <;> cases ltI 16384 c8 <;> cases ltI c12 1 <;> cases ltI 16 c12 <;> simp
  | true =>
  cases e3 : (!ltI c10 0 && !ltI 1073741824 c10 && !ltI c11 0 && !ltI 1073741824 c11 && !ltI c13 1 && !ltI 1073741824 c13) with
  | false =>
    refine fin _ ?_
    unfold mayB
    revert e3
    cases ltI c10 0 <;> cases ltI 1073741824 c10 <;> cases ltI c11 0 <;> cases ltI 1073741824 c11 <;> cases ltI c13 1 <;> cases ltI 1073741824 c13 <;> simp
  | true =>
  simp only [Bool.and_eq_true, Bool.not_eq_true'] at e1 e2 e3
  obtain ⟨⟨⟨a1, a2⟩, a3⟩, a4⟩ := e1
  obtain ⟨⟨⟨⟨⟨a5, a6⟩, a7⟩, a8⟩, a9⟩, b1⟩ := e2
  obtain ⟨⟨⟨⟨⟨b2, b3⟩, b4⟩, b5⟩, b6⟩, b7⟩ := e3
  have em : mayB c5 c6 c7 c8 c10 c11 c12 c13 now = ((ltI c6 0 || ltI 0 (c8.fdiv (2 ^ c6.toNat))) && !ltI now 0 && !ltI 17592186044416 now) := by
    unfold mayB
    simp only [a1, a2, a3, a4, a5, a6, a7, a8, a9, b1, b2, b3, b4, b5, b6, b7, Bool.not_false, Bool.true_and]
  refine ⟨c6, ld rfl, ?_⟩
  cases e6 : ltI c6 0 with
  | true =>
    cases e7 : ltI now 0 with
    | true => exact fin _ (by rw [em, e6, e7]; rfl)
    | false => exact fin _ (by rw [em, e6, e7]; rfl)
  | false =>
    have h6 : ¬ c6 < 0 := by simpa [ltI_eq] using e6
    have h14 : ¬ 14 < c6 := by simpa [ltI_eq] using a4
    have hm : min c6.toNat IntKind.i64.bits = c6.toNat := Nat.min_eq_left (by show c6.toNat ≤ 64; omega)
    refine ⟨c8, ld rfl, c6, ld rfl, h6, ?_⟩
    rw [hm]
    cases e8 : ltI 0 (c8.fdiv (2 ^ c6.toNat)) with
    | false => exact fin _ (by rw [em, e6, e8]; rfl)
    | true =>
      cases e7 : ltI now 0 with
      | true => exact fin _ (by rw [em, e6, e8, e7]; rfl)
      | false => exact fin _ (by rw [em, e6, e8, e7]; rfl)
end Go.Vex.Tcb
