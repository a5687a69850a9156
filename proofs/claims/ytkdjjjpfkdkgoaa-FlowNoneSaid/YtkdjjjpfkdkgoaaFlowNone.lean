/-
  FlowNone of layer 26: whatever the arguments, the law returns true and leaves the input as it was. No condition.
-/
import Derived.Test.YtkdjjjpfkdkgoaaVexT
import Derived.Test.YtkdjjjpfkdkgoaaTab26
import Derived.Test.YtkdjjjpfkdkgoaaRows
import Derived.WalkKit
import Derived.ProofKit
import Derived.OpenShut
import Derived.KernelRfl
namespace Go.Proofs.Ytkdjjjpfkdkgoaa.flowNone
open Go.ChangeShapes Go.WideShapes Go.ChangeAt Go.RowKit Go.Vex
open Go.ChangeMaps (open_string shut_string)

theorem own : ownKnob Try.prog.godebug = none := by kernel_rfl

def sp : FuncId → List Nat := fun f => bif Nat.beq f 8 then [11] else []

set_option maxRecDepth 100000 in
theorem law_ev (a0 : Int) (s1 : List UInt8) : (ev Vex.T Vex.F sp 100000).call 8 [.int .u32 a0, .str s1] h0 isT = true := by
  cases s1 with
  | nil => kernel_rfl
  | cons c t => kernel_rfl

theorem law_calls (a0 : Int) (s1 : List UInt8) : XCalls Try.prog 8 [.int .u32 a0, .str s1] h0 fun v _ => v = .bool true :=
  XCalls.ev tok fok mixed sp 100000 (law_ev a0 s1) fun _ _ hv => isT_spec hv

theorem walk (a0 : Int) (a1 : ByteArray) (w : World) : Calls Try.prog 8 #[.int .u32 a0, .string a1] w fun e w' => e = .returned (.bool true) ∧ Below w.heap.size w w' :=
  XCalls.true' (ρ := fun _ => ⟨0, 0, 0, 0⟩) (Sat.none w _) (vs := [.int .u32 a0, .str a1.data.toList]) ⟨_, _, rfl, rfl, ⟨_, _, rfl, rfl, rfl⟩⟩ (law_calls a0 (a1.data.toList))

set_option maxRecDepth 100000 in
theorem lifted (os : Os) (started : os.Started) (H : Type) (enc : TypeId × Value → H) :
    ReturnsInHanded {} Try.checked os 8 .any (Rows.flowNoneSpec.pre6 enc Try.prog Try.f8 Rows.flowNoneRow.domain false) (Rows.flowNoneSpec.post enc Try.prog Try.f8 false true false false) := by
  refine returnsInHanded_of_change (C := Try.checked) own started (by kernel_rfl) Try.func8
    (ChangeSpec.witness6 (enc := enc) (C := Try.checked) false ⟨#[], #[.int .u32 0, .string ⟨#[]⟩], []⟩ 8 (by kernel_rfl) (by kernel_rfl) (by kernel_rfl) (by kernel_rfl)) ?_
  intro W base args ds gs before hval0 hW hcnd _
  have hval : ∀ (j : Nat) t v, Try.f8.params[j]? = some t → args[j]? = some v → Value.okWide Try.prog W .any base t v := hval0
  have hW' := hW
  obtain ⟨p, q, hA0, hV, rfl, hfz, hnd⟩ := hW
  have hA : DataW.TrodAll enc Try.prog W 0 (fun _ => true) true Try.f8.params.toList args.toList ds p := hA0
  rw [Try.params8] at hA hval
  obtain ⟨v0, vs0, d0, ds0, p0, q0, hargs, rfl, rfl, h0, r0⟩ := trodAll_cons hA
  obtain ⟨v1, vs1, d1, ds1, p1, q1, rfl, rfl, rfl, h1, r1⟩ := trodAll_cons r0
  obtain ⟨rfl, rfl, rfl⟩ := trodAll_nil r1
  obtain rfl : args = #[v0, v1] := by cases args; simp_all
  obtain ⟨rfl, rfl⟩ := trodVars_none hV
  obtain ⟨a0, rfl, rfl, rfl, w0⟩ := open_int Try.underlying22 (hval 0 22 v0 rfl rfl) h0
  obtain ⟨a1, rfl, rfl, rfl, w1⟩ := open_string Try.underlying9 (hval 1 9 v1 rfl rfl) h1
  refine (walk a0 a1 W).mono fun e W' ⟨he, hb⟩ => ?_
  subst he
  exact ⟨_, rfl, post_true (by kernel_rfl) hW' hb rfl (fun gs hg => by subst hg; rfl) (tb := 4) rfl Try.underlying4 (by decide +kernel)⟩

theorem over : Rows.flowNoneRow.holds Try.pinned (OpenSpec.ofChange Rows.flowNoneSpec) :=
  OpenClaim.holds_of_wide 8 Try.f8 rfl rfl rfl rfl rfl rfl rfl ⟨rfl, rfl, rfl, rfl, rfl⟩ rfl rfl rfl rfl rfl (by kernel_rfl) Try.func8 (by kernel_rfl)
    (of_decide_eq_true (by kernel_rfl)) (by unfold Func.isWrapper; first | (rw [if_pos (by decide +kernel)]; kernel_rfl) | (rw [if_neg (by decide +kernel)]; exact ⟨rfl, rfl⟩))
    (fun os started H enc _ => lifted os started H enc)

theorem proved : Rows.FlowNoneSaid :=
  over
#print axioms proved
end Go.Proofs.Ytkdjjjpfkdkgoaa.flowNone

