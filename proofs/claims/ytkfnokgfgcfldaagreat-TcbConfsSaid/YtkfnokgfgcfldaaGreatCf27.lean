/-
  An end that answers a first segment (layer 27).
-/
import Derived.Test.YtkfnokgfgcfldaaGreatVexFF
import Derived.Test.YtkfnokgfgcfldaaGreatTab27
import Derived.Test.YtkfnokgfgcfldaaGreatXa27
import Derived.Test.YtkfnokgfgcfldaaGreatCa27
import Derived.Test.YtkfnokgfgcfldaaGreatCb27
import Derived.Test.YtkfnokgfgcfldaaGreatCc27
import Derived.Test.YtkfnokgfgcfldaaGreatCd27
import Derived.Test.YtkfnokgfgcfldaaGreatCe27
set_option linter.unusedVariables false
set_option linter.unusedSimpArgs false
namespace Go.Vex.Tcb
open Go.Proofs

/-- which first segments may be answered -/
def ansB (c0 c1 c2 c3 x0 x1 x2 x3 x6 x9 x10 : Int) : Bool :=
  segB x6 x9 x10 && (x0 == c2 && (x1 == c3 && true) && (x2 == c0 && (x3 == c1 && true) && true)) && (bits BinOp.and .u8 x6 23 == 2)

section
variable {h : Hp}

theorem answer_spec (hw : h.wf) (c0 c1 c2 c3 c4 c5 c6 c7 c8 : Int) (c9 : Bool) (c10 c11 c12 c13 x0 x1 x2 x3 x4 x5 x6 x7 x8 x9 x10 : Int) (x11 : List UInt8) (now : Int) :
    XCalls Tryz.prog 47 [.agg (cRow c0 c1 c2 c3 c4 c5 c6 c7 c8 c9 c10 c11 c12 c13), .agg (xRow x0 x1 x2 x3 x4 x5 x6 x7 x8 x9 x10 x11), .int .i64 now] h fun v h' => Ab h.next h h' ∧
      ∃ a, v = .tup [.ptr a, .int .i64 (bif mayB c5 c6 c7 c8 c10 c11 c12 c13 now && ansB c0 c1 c2 c3 x0 x1 x2 x3 x6 x9 x10 then 0 else 2)] ∧ a.isNone = !(mayB c5 c6 c7 c8 c10 c11 c12 c13 now && ansB c0 c1 c2 c3 x0 x1 x2 x3 x6 x9 x10) := by
  refine XCalls.cps fun K hK => ?_
  apply x47; unfold X47
  rintro h1 rfl
  rintro h2 rfl
  have n1 : (h.alloc (.row (cRow c0 c1 c2 c3 c4 c5 c6 c7 c8 c9 c10 c11 c12 c13) 1 false)).next = h.next + 1 := rfl
  rw [n1]
  have a2 : Ab h.next h ((h.alloc (.row (cRow c0 c1 c2 c3 c4 c5 c6 c7 c8 c9 c10 c11 c12 c13) 1 false)).alloc (.row (xRow x0 x1 x2 x3 x4 x5 x6 x7 x8 x9 x10 x11) 1 false)) :=
    (Ab.alloc hw (Nat.le_refl _) _).trans (Ab.alloc hw.alloc (by rw [Hp.alloc_next]; omega) _)
  have hc : ((h.alloc (.row (cRow c0 c1 c2 c3 c4 c5 c6 c7 c8 c9 c10 c11 c12 c13) 1 false)).alloc (.row (xRow x0 x1 x2 x3 x4 x5 x6 x7 x8 x9 x10 x11) 1 false)).get h.next = some (.row (cRow c0 c1 c2 c3 c4 c5 c6 c7 c8 c9 c10 c11 c12 c13) 1 false) := by
    rw [Hp.get_alloc_ne (by rw [Hp.alloc_next]; omega)]; exact Hp.get_alloc_self
  have hx : ((h.alloc (.row (cRow c0 c1 c2 c3 c4 c5 c6 c7 c8 c9 c10 c11 c12 c13) 1 false)).alloc (.row (xRow x0 x1 x2 x3 x4 x5 x6 x7 x8 x9 x10 x11) 1 false)).get (h.next + 1) = some (.row (xRow x0 x1 x2 x3 x4 x5 x6 x7 x8 x9 x10 x11) 1 false) := Hp.get_alloc_self
  have n2 : ((h.alloc (.row (cRow c0 c1 c2 c3 c4 c5 c6 c7 c8 c9 c10 c11 c12 c13) 1 false)).alloc (.row (xRow x0 x1 x2 x3 x4 x5 x6 x7 x8 x9 x10 x11) 1 false)).next = h.next + 2 := rfl
  generalize (h.alloc (.row (cRow c0 c1 c2 c3 c4 c5 c6 c7 c8 c9 c10 c11 c12 c13) 1 false)).alloc (.row (xRow x0 x1 x2 x3 x4 x5 x6 x7 x8 x9 x10 x11) 1 false) = h2 at *
  have bad : ∀ g, Ab h.next h g → (mayB c5 c6 c7 c8 c10 c11 c12 c13 now && ansB c0 c1 c2 c3 x0 x1 x2 x3 x6 x9 x10) = false → K (.tup [.ptr none, .int .i64 2]) g := fun g ab e => hK _ _ ⟨ab, none, by rw [e]; rfl, by rw [e]; rfl⟩
  refine ⟨c0, c1, c2, c3, c4, c5, c6, c7, c8, c9, c10, c11, c12, c13, by rw [Hp.lda_of hc (Nat.le_of_ble_eq_true rfl)]; rfl, (begun_spec a2.wf c0 c1 c2 c3 c4 c5 c6 c7 c8 c9 c10 c11 c12 c13 now).mono ?_⟩
  rintro _ h3 ⟨a3, ⟨em, rfl⟩ | ⟨em, t, rt, p2, p3, rfl, ht, hg3, hr3, hne⟩⟩
  · exact ⟨_, _, rfl, bad _ (a2.trans ⟨fun j hj => a3.same j (by omega), a3.le, a3.wf⟩) (by rw [em]; rfl)⟩
  refine ⟨_, _, rfl, ?_⟩
  have l3 := a3.le
  have a3' : Ab h.next h h3 := a2.trans ⟨fun j hj => a3.same j (by omega), a3.le, a3.wf⟩
  have hc3 : h3.get h.next = some (.row (cRow c0 c1 c2 c3 c4 c5 c6 c7 c8 c9 c10 c11 c12 c13) 1 false) := by rw [a3.same _ (by omega)]; exact hc
  have hx3 : h3.get (h.next + 1) = some (.row (xRow x0 x1 x2 x3 x4 x5 x6 x7 x8 x9 x10 x11) 1 false) := by rw [a3.same _ (by omega)]; exact hx
  refine ⟨x0, x1, x2, x3, x4, x5, x6, x7, x8, x9, x10, x11, by rw [Hp.lda_of hx3 (Nat.le_of_ble_eq_true rfl)]; rfl, (seg_spec a3.wf x0 x1 x2 x3 x4 x5 x6 x7 x8 x9 x10 x11).mono ?_⟩
  rintro _ h4 ⟨rfl, a4⟩
  have l4 := a4.le
  have a4' : Ab h.next h h4 := a3'.trans ⟨fun j hj => a4.same j (by omega), a4.le, a4.wf⟩
  refine ⟨_, rfl, ?_⟩
  cases es : segB x6 x9 x10 with
  | false => exact bad _ a4' (by unfold ansB; rw [es, em]; rfl)
  | true =>
  have tl3 := a3.wf.lt hg3
  have rl3 := a3.wf.lt hr3
  have hc4 : h4.get h.next = some (.row (cRow c0 c1 c2 c3 c4 c5 c6 c7 c8 c9 c10 c11 c12 c13) 1 false) := by rw [a4.same _ (by omega)]; exact hc3
  have hx4 : h4.get (h.next + 1) = some (.row (xRow x0 x1 x2 x3 x4 x5 x6 x7 x8 x9 x10 x11) 1 false) := by rw [a4.same _ (by omega)]; exact hx3
  refine ⟨x0, x1, x2, x3, by rw [Hp.lda_of hx4 (Nat.le_of_ble_eq_true rfl)]; rfl, c0, c1, c2, c3, by rw [Hp.lda_of hc4 (Nat.le_of_ble_eq_true rfl)]; rfl, (turn_spec a4.wf c0 c1 c2 c3).mono ?_⟩
  rintro _ h5 ⟨rfl, a5⟩
  have l5 := a5.le
  have a5' : Ab h.next h h5 := a4'.trans ⟨fun j hj => a5.same j (by omega), a5.le, a5.wf⟩
  have hx5 : h5.get (h.next + 1) = some (.row (xRow x0 x1 x2 x3 x4 x5 x6 x7 x8 x9 x10 x11) 1 false) := by rw [a5.same _ (by omega)]; exact hx4
  have hg5 : h5.get t = some (.row (lB c0 c1 c2 c3 c4 c5 c6 c7 c8 c9 c10 c11 c12 c13 now rt p2 p3) 1 false) := by rw [a5.same _ (by omega), a4.same _ (by omega)]; exact hg3
  have hr5 : h5.get rt = some (.row rtoRow 1 false) := by rw [a5.same _ (by omega), a4.same _ (by omega)]; exact hr3
  refine ⟨_, _, _, _, rfl, ⟨x0, x1, x2, x3, by rw [Hp.lda_of hx5 (Nat.le_of_ble_eq_true rfl)]; rfl, rfl⟩, rfl, ?_⟩
  cases ep : (x0 == c2 && (x1 == c3 && true) && (x2 == c0 && (x3 == c1 && true) && true)) with
  | false => exact bad _ a5' (by unfold ansB; rw [es, em, ep]; rfl)
  | true =>
  refine ⟨x6, by rw [Hp.ld_of hx5]; rfl, ?_⟩
  cases ef : (bits BinOp.and .u8 x6 23 == 2) with
  | false => 
    have : (bits BinOp.and .u8 x6 23 != 2) = true := by rw [bne, ef]; rfl
    rw [this]
    exact bad _ a5' (by unfold ansB; rw [es, em, ep, ef]; rfl)
  | true =>
  have : (bits BinOp.and .u8 x6 23 != 2) = false := by rw [bne, ef]; rfl
  rw [this]
  have good : (mayB c5 c6 c7 c8 c10 c11 c12 c13 now && ansB c0 c1 c2 c3 x0 x1 x2 x3 x6 x9 x10) = true := by unfold ansB; rw [es, em, ep, ef]; rfl
  refine ⟨_, st1 (o := 15) hg5 (Nat.le_of_ble_eq_true rfl) _, ?_⟩
  have hg6 : (h5.set t (.row ((lB c0 c1 c2 c3 c4 c5 c6 c7 c8 c9 c10 c11 c12 c13 now rt p2 p3).set 15 (.int .u8 3)) 1 false)).get t = some (.row ((lB c0 c1 c2 c3 c4 c5 c6 c7 c8 c9 c10 c11 c12 c13 now rt p2 p3).set 15 (.int .u8 3)) 1 false) := Hp.get_set_self
  have hx6 : (h5.set t (.row ((lB c0 c1 c2 c3 c4 c5 c6 c7 c8 c9 c10 c11 c12 c13 now rt p2 p3).set 15 (.int .u8 3)) 1 false)).get (h.next + 1) = some (.row (xRow x0 x1 x2 x3 x4 x5 x6 x7 x8 x9 x10 x11) 1 false) := by rw [Hp.get_set_ne (by omega)]; exact hx5
  have hr6 : (h5.set t (.row ((lB c0 c1 c2 c3 c4 c5 c6 c7 c8 c9 c10 c11 c12 c13 now rt p2 p3).set 15 (.int .u8 3)) 1 false)).get rt = some (.row rtoRow 1 false) := by rw [Hp.get_set_ne hne]; exact hr5
  have a6 : Ab h.next h (h5.set t (.row ((lB c0 c1 c2 c3 c4 c5 c6 c7 c8 c9 c10 c11 c12 c13 now rt p2 p3).set 15 (.int .u8 3)) 1 false)) := a5'.trans (Ab.set a5.wf (by omega) (by omega) _)
  generalize h5.set t (.row ((lB c0 c1 c2 c3 c4 c5 c6 c7 c8 c9 c10 c11 c12 c13 now rt p2 p3).set 15 (.int .u8 3)) 1 false) = h6 at *
  have i6 : TcI ((lB c0 c1 c2 c3 c4 c5 c6 c7 c8 c9 c10 c11 c12 c13 now rt p2 p3).set 15 (.int .u8 3)) none rt := ⟨rfl, rfl, rfl, rfl, rfl, ⟨3, rfl, Or.inr rfl⟩, rfl⟩
  have hc8 : ltI c8 1 = false ∧ ltI 16384 c8 = false := by
    unfold mayB at em
    simp only [Bool.and_eq_true, Bool.not_eq_true'] at em
    exact ⟨em.1.1.1.1.1.1.1.1.1.1.1.1.2, em.1.1.1.1.1.1.1.1.1.1.1.2⟩
  refine ⟨x0, x1, x2, x3, x4, x5, x6, x7, x8, x9, x10, x11, by rw [Hp.lda_of hx6 (Nat.le_of_ble_eq_true rfl)]; rfl, (learns_spec hg6 i6 rfl (c8 := c8) rfl hc8 a6.wf x0 x1 x2 x3 x4 x5 x6 x7 x8 x9 x10 x11).mono ?_⟩
  rintro _ h7 ⟨rfl, q, s⟩
  obtain ⟨L, hL, iL, e48⟩ := s.ex
  have rl6 := a6.wf.lt hr6
  have a7 : Ab h.next h h7 := a6.trans ⟨fun j hj => s.oth j (by omega) (by have := a6.le; omega), s.le, s.wf⟩
  refine first_spec (b := h.next) (h0 := h) a7 (by omega) hL iL e48 s.inr (fun p hp => by cases hp; exact s.ne) (by rw [s.oth _ hne rl6]; exact hr6) hne ?_
  intro h' ab
  exact hK _ _ ⟨ab, _, by rw [good]; rfl, by rw [good]; rfl⟩
end
end Go.Vex.Tcb
