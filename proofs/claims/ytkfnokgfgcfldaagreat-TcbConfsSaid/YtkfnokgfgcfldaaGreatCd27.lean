/-
  An end that is new, that opens, that answers (layer 27).
-/
import Derived.Test.YtkfnokgfgcfldaaGreatVexFF
import Derived.Test.YtkfnokgfgcfldaaGreatTab27
import Derived.Test.YtkfnokgfgcfldaaGreatXa27
import Derived.Test.YtkfnokgfgcfldaaGreatCa27
import Derived.Test.YtkfnokgfgcfldaaGreatCb27
import Derived.Test.YtkfnokgfgcfldaaGreatCc27
set_option linter.unusedVariables false
set_option linter.unusedSimpArgs false
namespace Go.Vex.Tcb
open Go.Proofs

theorem TcI.setInn {L : List V} {inn : Option Nat} {rt : Nat} (i : TcI L inn rt) (q : Nat) : TcI (L.set 19 (.ptr (some (q, 0)))) (some q) rt := by
  have g : ∀ p, p ≠ 19 → (L.set 19 (.ptr (some (q, 0))))[p]? = L[p]? := fun p hp => List.getElem?_set_ne (Ne.symm hp)
  have hl : 19 < L.length := by rw [i.len]; decide
  exact ⟨shp_set (o := 19) i.shp rfl rfl, by rw [g _ (by decide)]; exact i.syned, List.getElem?_set_self hl, by rw [g _ (by decide)]; exact i.rto, by rw [g _ (by decide)]; exact i.over, by rw [g _ (by decide)]; exact i.state, by rw [g _ (by decide)]; exact i.owed⟩

section
variable {h : Hp}

theorem out_spec (hw : h.wf) (a0 most : Int) : XCalls Tryz.prog 90 [.int .u32 a0, .int .i64 most] h fun v h' => (∃ a n, v = .tup [.ptr a, .int .i64 n]) ∧ Ab h.next h h' := by
  apply x90; unfold X90
  cases ltI most 1 with
  | true => exact ⟨⟨_, _, rfl⟩, Ab.refl hw⟩
  | false =>
    cases ltI 16384 most with
    | true => exact ⟨⟨_, _, rfl⟩, Ab.refl hw⟩
    | false =>
      rintro _ rfl
      exact ⟨⟨_, _, rfl⟩, Ab.alloc hw (Nat.le_refl _) _⟩

theorem cong_spec (hw : h.wf) (mss : Int) : XCalls Tryz.prog 91 [.int .i64 mss] h fun v h' => (∃ a n, v = .tup [.ptr a, .int .i64 n]) ∧ Ab h.next h h' := by
  apply x91; unfold X91
  cases ltI mss 1 with
  | true => exact ⟨⟨_, _, rfl⟩, Ab.refl hw⟩
  | false =>
    cases ltI 65535 mss with
    | true => exact ⟨⟨_, _, rfl⟩, Ab.refl hw⟩
    | false =>
      rintro _ rfl
      exact ⟨⟨_, _, rfl⟩, Ab.alloc hw (Nat.le_refl _) _⟩

/-- the row of a new end -/
abbrev lB (c0 c1 c2 c3 c4 c5 c6 c7 c8 : Int) (c9 : Bool) (c10 c11 c12 c13 now : Int) (rt : Nat) (a2 a3 : Option (Nat × Nat)) : List V :=
  [.int .u32 c0, .int .u16 c1, .int .u32 c2, .int .u16 c3, .int .u32 c4, .int .i64 c5, .int .i64 c6, .int .i64 c7, .int .i64 c8, .bool c9, .int .i64 c10, .int .i64 c11, .int .i64 c12, .int .i64 c13,
   .int .i64 now, .int .u8 0, .int .u8 0, .bool false, .ptr a2, .ptr none, .ptr (some (rt, 0)), .ptr a3, .bool false, .bool false, .bool false, .bool false, .bool false, .bool false, .bool false, .int .u32 0, .bool false, .int .i64 (bif ltI 536 c5 then 536 else c5), .int .i64 0, .int .u32 0, .int .u32 0, .int .u32 0, .bool false, .int .i64 0,
   .int .i64 (-1), .int .i64 (-1), .int .i64 (-1), .int .i64 (-1), .int .i64 (-1), .int .i64 0, .int .i64 0, .bool false, .int .u32 0, .int .i64 0, .slc none 0 true]

theorem begun_spec (hw : h.wf) (c0 c1 c2 c3 c4 c5 c6 c7 c8 : Int) (c9 : Bool) (c10 c11 c12 c13 now : Int) :
    XCalls Tryz.prog 57 [.agg (cRow c0 c1 c2 c3 c4 c5 c6 c7 c8 c9 c10 c11 c12 c13), .int .i64 now] h fun v h' => Ab h.next h h' ∧
      ((mayB c5 c6 c7 c8 c10 c11 c12 c13 now = false ∧ v = .tup [.ptr none, .int .i64 2]) ∨
       (mayB c5 c6 c7 c8 c10 c11 c12 c13 now = true ∧ ∃ t rt a2 a3, v = .tup [.ptr (some (t, 0)), .int .i64 0] ∧ h.next ≤ t ∧ h'.get t = some (.row (lB c0 c1 c2 c3 c4 c5 c6 c7 c8 c9 c10 c11 c12 c13 now rt a2 a3) 1 false) ∧ h'.get rt = some (.row rtoRow 1 false) ∧ rt ≠ t)) := by
  refine XCalls.cps fun K hK => ?_
  apply x57; unfold X57
  rintro h1 rfl
  have hg : (h.alloc (.row (cRow c0 c1 c2 c3 c4 c5 c6 c7 c8 c9 c10 c11 c12 c13) 1 false)).get h.next = some (.row (cRow c0 c1 c2 c3 c4 c5 c6 c7 c8 c9 c10 c11 c12 c13) 1 false) := Hp.get_alloc_self
  have ha : Ab h.next h (h.alloc (.row (cRow c0 c1 c2 c3 c4 c5 c6 c7 c8 c9 c10 c11 c12 c13) 1 false)) := Ab.alloc hw (Nat.le_refl _) _
  have hn1 : (h.alloc (.row (cRow c0 c1 c2 c3 c4 c5 c6 c7 c8 c9 c10 c11 c12 c13) 1 false)).next = h.next + 1 := rfl
  generalize h.alloc (.row (cRow c0 c1 c2 c3 c4 c5 c6 c7 c8 c9 c10 c11 c12 c13) 1 false) = h1 at *
  have lda : ∀ {g : Hp}, g.get h.next = some (.row (cRow c0 c1 c2 c3 c4 c5 c6 c7 c8 c9 c10 c11 c12 c13) 1 false) → g.lda h.next 0 14 = some (.agg (cRow c0 c1 c2 c3 c4 c5 c6 c7 c8 c9 c10 c11 c12 c13)) := fun {g} e => by
    rw [Hp.lda_of e (Nat.le_of_ble_eq_true rfl)]; rfl
  refine ⟨c0, c1, c2, c3, c4, c5, c6, c7, c8, c9, c10, c11, c12, c13, lda hg, (may_spec ha.wf c0 c1 c2 c3 c4 c5 c6 c7 c8 c9 c10 c11 c12 c13 now).mono ?_⟩
  rintro _ h2 ⟨rfl, a2⟩
  refine ⟨_, rfl, ?_⟩
  have a2' : Ab h.next h h2 := ha.trans ⟨fun j hj => a2.same j (by omega), a2.le, a2.wf⟩
  cases em : mayB c5 c6 c7 c8 c10 c11 c12 c13 now with
  | false => exact hK _ _ ⟨a2', Or.inl ⟨em, rfl⟩⟩
  | true =>
  have hg2 : h2.get h.next = some (.row (cRow c0 c1 c2 c3 c4 c5 c6 c7 c8 c9 c10 c11 c12 c13) 1 false) := by rw [a2.same _ (by omega)]; exact hg
  have hl2 := a2'.wf.lt hg2
  refine ⟨c0, c1, c2, c3, c4, c5, c6, c7, c8, c9, c10, c11, c12, c13, lda hg2, c5, by rw [Hp.ld_of hg2]; rfl, ?_⟩
  apply x38; unfold X38
  rintro h3 rfl
  have a3 : Ab h2.next h2 (h2.alloc (.row rtoRow 1 false)) := Ab.alloc a2'.wf (Nat.le_refl _) _
  have hr3 : (h2.alloc (.row rtoRow 1 false)).get h2.next = some (.row rtoRow 1 false) := Hp.get_alloc_self
  have n3 : (h2.alloc (.row rtoRow 1 false)).next = h2.next + 1 := rfl
  generalize h2.alloc (.row rtoRow 1 false) = h3 at *
  have hg3 : h3.get h.next = some (.row (cRow c0 c1 c2 c3 c4 c5 c6 c7 c8 c9 c10 c11 c12 c13) 1 false) := by rw [a3.same _ hl2]; exact hg2
  refine ⟨_, rfl, rfl, ⟨c5, by rw [Hp.ld_of hg3]; rfl, rfl⟩, rfl, rfl, ⟨c0, c1, c2, c3, c4, c5, c6, c7, c8, c9, c10, c11, c12, c13, lda hg3, rfl⟩, ?_⟩
  rintro h4 rfl
  have a4 : Ab h3.next h3 (h3.alloc (.row ((lB c0 c1 c2 c3 c4 c5 c6 c7 c8 c9 c10 c11 c12 c13 now h2.next none none)) 1 false)) := Ab.alloc a3.wf (Nat.le_refl _) _
  have ht4 : (h3.alloc (.row ((lB c0 c1 c2 c3 c4 c5 c6 c7 c8 c9 c10 c11 c12 c13 now h2.next none none)) 1 false)).get h3.next = some (.row ((lB c0 c1 c2 c3 c4 c5 c6 c7 c8 c9 c10 c11 c12 c13 now h2.next none none)) 1 false) := Hp.get_alloc_self
  have n4 : (h3.alloc (.row ((lB c0 c1 c2 c3 c4 c5 c6 c7 c8 c9 c10 c11 c12 c13 now h2.next none none)) 1 false)).next = h3.next + 1 := rfl
  generalize h3.alloc (.row ((lB c0 c1 c2 c3 c4 c5 c6 c7 c8 c9 c10 c11 c12 c13 now h2.next none none)) 1 false) = h4 at *
  have hg4 : h4.get h.next = some (.row (cRow c0 c1 c2 c3 c4 c5 c6 c7 c8 c9 c10 c11 c12 c13) 1 false) := by rw [a4.same _ (by omega)]; exact hg3
  have hr4 : h4.get h2.next = some (.row rtoRow 1 false) := by rw [a4.same _ (by omega)]; exact hr3
  refine ⟨c4, by rw [Hp.ld_of hg4]; rfl, c7, by rw [Hp.ld_of hg4]; rfl, (out_spec a4.wf _ _).mono ?_⟩
  rintro _ h5 ⟨⟨p2, n2, rfl⟩, a5⟩
  have ht5 : h5.get h3.next = some (.row ((lB c0 c1 c2 c3 c4 c5 c6 c7 c8 c9 c10 c11 c12 c13 now h2.next none none)) 1 false) := by rw [a5.same _ (by omega)]; exact ht4
  have hr5 : h5.get h2.next = some (.row rtoRow 1 false) := by rw [a5.same _ (by omega)]; exact hr4
  refine ⟨_, _, rfl, _, st1 ht5 (Nat.le_of_ble_eq_true rfl) _, ?_⟩
  have ht6 : (h5.set h3.next (.row ((lB c0 c1 c2 c3 c4 c5 c6 c7 c8 c9 c10 c11 c12 c13 now h2.next none none).set 18 (.ptr p2)) 1 false)).get h3.next = some (.row ((lB c0 c1 c2 c3 c4 c5 c6 c7 c8 c9 c10 c11 c12 c13 now h2.next p2 none)) 1 false) := Hp.get_set_self
  have hr6 : (h5.set h3.next (.row ((lB c0 c1 c2 c3 c4 c5 c6 c7 c8 c9 c10 c11 c12 c13 now h2.next none none).set 18 (.ptr p2)) 1 false)).get h2.next = some (.row rtoRow 1 false) := by rw [Hp.get_set_ne (by omega)]; exact hr5
  have l5 := a5.le
  have a6 : Ab h.next h (h5.set h3.next (.row ((lB c0 c1 c2 c3 c4 c5 c6 c7 c8 c9 c10 c11 c12 c13 now h2.next none none).set 18 (.ptr p2)) 1 false)) := by
    refine ⟨fun j hj => ?_, ?_, a5.wf.set (by omega)⟩
    · rw [Hp.get_set_ne (by omega), a5.same _ (by omega), a4.same _ (by omega), a3.same _ (by omega), a2'.same _ hj]
    · rw [Hp.set_next]; omega
  have n6 : (h5.set h3.next (.row ((lB c0 c1 c2 c3 c4 c5 c6 c7 c8 c9 c10 c11 c12 c13 now h2.next none none).set 18 (.ptr p2)) 1 false)).next = h5.next := rfl
  generalize h5.set h3.next (.row ((lB c0 c1 c2 c3 c4 c5 c6 c7 c8 c9 c10 c11 c12 c13 now h2.next none none).set 18 (.ptr p2)) 1 false) = h6 at *
  refine ⟨_, by rw [Hp.ld_of ht6]; rfl, (cong_spec a6.wf _).mono ?_⟩
  rintro _ h7 ⟨⟨p3, n3', rfl⟩, a7⟩
  have ht7 : h7.get h3.next = some (.row ((lB c0 c1 c2 c3 c4 c5 c6 c7 c8 c9 c10 c11 c12 c13 now h2.next p2 none)) 1 false) := by rw [a7.same _ (by omega)]; exact ht6
  have hr7 : h7.get h2.next = some (.row rtoRow 1 false) := by rw [a7.same _ (by omega)]; exact hr6
  have l7 := a7.le
  refine ⟨_, _, rfl, _, st1 ht7 (Nat.le_of_ble_eq_true rfl) _, hK _ _ ⟨⟨fun j hj => ?_, ?_, a7.wf.set (by omega)⟩, Or.inr ⟨em, h3.next, h2.next, p2, p3, rfl, by omega, Hp.get_set_self, by rw [Hp.get_set_ne (by omega)]; exact hr7, by omega⟩⟩⟩
  · rw [Hp.get_set_ne (by omega), a7.same _ (by omega), a6.same _ hj]
  · rw [Hp.set_next]; omega

/-- an end that opens -/
theorem open_spec (hw : h.wf) (c0 c1 c2 c3 c4 c5 c6 c7 c8 : Int) (c9 : Bool) (c10 c11 c12 c13 now : Int) :
    XCalls Tryz.prog 21 [.agg (cRow c0 c1 c2 c3 c4 c5 c6 c7 c8 c9 c10 c11 c12 c13), .int .i64 now] h fun v h' => Ab h.next h h' ∧
      ∃ a, v = .tup [.ptr a, .int .i64 (bif mayB c5 c6 c7 c8 c10 c11 c12 c13 now then 0 else 2)] ∧ a.isNone = !mayB c5 c6 c7 c8 c10 c11 c12 c13 now := by
  refine XCalls.cps fun K hK => ?_
  apply x21; unfold X21
  rintro h1 rfl
  have hg : (h.alloc (.row (cRow c0 c1 c2 c3 c4 c5 c6 c7 c8 c9 c10 c11 c12 c13) 1 false)).get h.next = some (.row (cRow c0 c1 c2 c3 c4 c5 c6 c7 c8 c9 c10 c11 c12 c13) 1 false) := Hp.get_alloc_self
  have ha : Ab h.next h (h.alloc (.row (cRow c0 c1 c2 c3 c4 c5 c6 c7 c8 c9 c10 c11 c12 c13) 1 false)) := Ab.alloc hw (Nat.le_refl _) _
  have hn1 : (h.alloc (.row (cRow c0 c1 c2 c3 c4 c5 c6 c7 c8 c9 c10 c11 c12 c13) 1 false)).next = h.next + 1 := rfl
  generalize h.alloc (.row (cRow c0 c1 c2 c3 c4 c5 c6 c7 c8 c9 c10 c11 c12 c13) 1 false) = h1 at *
  refine ⟨c0, c1, c2, c3, c4, c5, c6, c7, c8, c9, c10, c11, c12, c13, by rw [Hp.lda_of hg (Nat.le_of_ble_eq_true rfl)]; rfl, (begun_spec ha.wf c0 c1 c2 c3 c4 c5 c6 c7 c8 c9 c10 c11 c12 c13 now).mono ?_⟩
  rintro _ h2 ⟨a2, ⟨em, rfl⟩ | ⟨em, t, rt, p2, p3, rfl, ht, hg2, hr, hne⟩⟩
  · exact ⟨_, _, rfl, hK _ _ ⟨ha.trans ⟨fun j hj => a2.same j (by omega), a2.le, a2.wf⟩, _, by rw [em]; rfl, by rw [em]; rfl⟩⟩
  · refine ⟨_, _, rfl, ?_⟩
    refine ⟨_, st1 (o := 15) hg2 (Nat.le_of_ble_eq_true rfl) _, ?_⟩
    have a2' : Ab h.next h h2 := ha.trans ⟨fun j hj => a2.same j (by omega), a2.le, a2.wf⟩
    refine first_spec (b := h.next) (h0 := h) (inn := none) (rt := rt) (L := (lB c0 c1 c2 c3 c4 c5 c6 c7 c8 c9 c10 c11 c12 c13 now rt p2 p3).set 15 (.int .u8 2)) (a2'.trans (Ab.set a2.wf (by omega) (a2.wf.lt hg2) _)) (by omega) Hp.get_set_self
      ⟨rfl, rfl, rfl, rfl, rfl, ⟨2, rfl, Or.inl rfl⟩, rfl⟩ rfl (fun q hq => by cases hq) (fun q hq => by cases hq) (by rw [Hp.get_set_ne hne]; exact hr) hne ?_
    intro h' ab
    exact hK _ _ ⟨ab, _, by rw [em]; rfl, by rw [em]; rfl⟩
end
end Go.Vex.Tcb
