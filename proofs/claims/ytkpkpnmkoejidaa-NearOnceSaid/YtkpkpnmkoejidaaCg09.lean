/-
  alive (layer 9): the law's own example, by the evaluator.
-/
import Derived.Test.YtkpkpnmkoejidaaVexEE
import Derived.Test.YtkpkpnmkoejidaaVexFF
import Derived.Test.YtkpkpnmkoejidaaVexGG
import Derived.Test.YtkpkpnmkoejidaaTab09
import Derived.Test.YtkpkpnmkoejidaaXa09
import Derived.Test.YtkpkpnmkoejidaaCa09
import Derived.KernelRfl
set_option linter.unusedVariables false
set_option linter.unusedSimpArgs false
namespace Go.Vex.Nr
open Go.Proofs

set_option maxRecDepth 100000 in
theorem alive_ev : (ev Vex.T Vex.F (fun _ => []) 100000).call 7 [] h0 isT = true := by kernel_rfl

theorem alive_spec {h : Hp} {K : V → Hp → Prop} (hk : ∀ h', K (.bool true) h') : XCalls Try.prog 7 [] h K :=
  (XCalls.fresh (K := fun v => v = .bool true) rfl (fun v hv => by subst hv; rfl) (XCalls.ev tok fok mixed (fun _ => []) 100000 alive_ev fun _ _ hv => isT_spec hv)).mono fun v h' hv => by rw [hv.1]; exact hk h'

/-- the near one of the law: what it stands on lies behind c -/
structure NJ (n : Nat) (c : Nat) (o : O) (S : NS) (F : List Nat) (g : Hp) : Prop where
  r : NearR n S g F
  lo : ∀ j ∈ F, c < j
  sh : g.get c = some o
  wf : g.wf

theorem NJ.lt {n c : Nat} {o : O} {S : NS} {F : List Nat} {g : Hp} (j : NJ n c o S F g) : c < g.next := j.wf _ _ j.sh

theorem NJ.upd {n c : Nat} {o : O} {S S' : NS} {F F' : List Nat} {g g' : Hp} (j : NJ n c o S F g) (r : NearR n S' g' F') (u : Upd g g' F F') (w : g'.wf) : NJ n c o S' F' g' :=
  ⟨r, fun x hx => by
    rcases u.new x hx with h1 | h1
    · exact j.lo x h1
    · have := j.lt; omega, by rw [u.same c j.lt (fun hF => by have := j.lo c hF; omega)]; exact j.sh, w⟩
end Go.Vex.Nr
