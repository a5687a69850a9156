/-
  works (layer 27), by the evaluator, with the calls of begun and does known piece by piece.
-/
import Derived.Test.YtkfnokgfgcfldaaGreatWd27
set_option linter.unusedVariables false
namespace Go.Vex.Tcb
open Go.Proofs

def pieces : List Piece := [p0, p1, p2, p3, p4, p5, p6, p7, p8, p9, p10, p11, p12, p13, p14, p15, p16, p17, p18, p19, p20, p21, p22, p23, p24, p25, p26, p27, p28, p29, p30, p31, p32, p33, p34]

theorem pieces_ok : ∀ p ∈ pieces, p.ok Tryz.prog := List.forall_mem_cons.2 ⟨ok0, List.forall_mem_cons.2 ⟨ok1, List.forall_mem_cons.2 ⟨ok2, List.forall_mem_cons.2 ⟨ok3, List.forall_mem_cons.2 ⟨ok4, List.forall_mem_cons.2 ⟨ok5, List.forall_mem_cons.2 ⟨ok6, List.forall_mem_cons.2 ⟨ok7, List.forall_mem_cons.2 ⟨ok8, List.forall_mem_cons.2 ⟨ok9, List.forall_mem_cons.2 ⟨ok10, List.forall_mem_cons.2 ⟨ok11, List.forall_mem_cons.2 ⟨ok12, List.forall_mem_cons.2 ⟨ok13, List.forall_mem_cons.2 ⟨ok14, List.forall_mem_cons.2 ⟨ok15, List.forall_mem_cons.2 ⟨ok16, List.forall_mem_cons.2 ⟨ok17, List.forall_mem_cons.2 ⟨ok18, List.forall_mem_cons.2 ⟨ok19, List.forall_mem_cons.2 ⟨ok20, List.forall_mem_cons.2 ⟨ok21, List.forall_mem_cons.2 ⟨ok22, List.forall_mem_cons.2 ⟨ok23, List.forall_mem_cons.2 ⟨ok24, List.forall_mem_cons.2 ⟨ok25, List.forall_mem_cons.2 ⟨ok26, List.forall_mem_cons.2 ⟨ok27, List.forall_mem_cons.2 ⟨ok28, List.forall_mem_cons.2 ⟨ok29, List.forall_mem_cons.2 ⟨ok30, List.forall_mem_cons.2 ⟨ok31, List.forall_mem_cons.2 ⟨ok32, List.forall_mem_cons.2 ⟨ok33, List.forall_mem_cons.2 ⟨ok34, fun _ h => (by cases h)⟩⟩⟩⟩⟩⟩⟩⟩⟩⟩⟩⟩⟩⟩⟩⟩⟩⟩⟩⟩⟩⟩⟩⟩⟩⟩⟩⟩⟩⟩⟩⟩⟩⟩⟩

set_option maxRecDepth 100000 in
theorem works_ev : (evK Vex.T Vex.F (fun _ => []) quietF (pick pieces) 100000).call 12 [] h0 isT = true := by kernel_rfl

theorem works_spec {h : Hp} {K : V → Hp → Prop} (hk : ∀ h', K (.bool true) h') : XCalls Tryz.prog 12 [] h K :=
  (XCalls.fresh (K := fun v => v = .bool true) rfl (fun v hv => by subst hv; rfl) (XCalls.evK tok fok mixed (fun _ => []) quietF (pick_ok pieces_ok) 100000 works_ev fun _ _ hv => isT_spec hv)).mono fun v h' hv => by rw [hv.1]; exact hk h'
end Go.Vex.Tcb
