/-
  PoolNone of layer 17: whatever the number and the holder, the law returns true and leaves the input as it was. No condition.
-/
import Derived.Test.YteblfacfbmlceaaVexT
import Derived.Test.YteblfacfbmlceaaTab17
import Derived.Test.YteblfacfbmlceaaRows
import Derived.WalkKit
import Derived.ProofKit
import Derived.OpenShut
import Derived.KernelRfl
namespace Go.Proofs.Yteblfacfbmlceaa.poolNone
open Go.ChangeShapes Go.WideShapes Go.ChangeAt Go.RowKit Go.Vex
open Go.ChangeMaps (open_string shut_string)

theorem own : ownKnob Try.prog.godebug = none := by kernel_rfl

def sp7 : FuncId → List Nat := fun f => bif Nat.beq f 7 then [12] else []

set_option maxRecDepth 100000 in
theorem none_ev (id : Int) (who : List UInt8) : (ev Vex.T Vex.F sp7 100000).call 7 [.int .u64 id, .str who] h0 isT = true := by kernel_rfl

theorem none_calls (id : Int) (who : List UInt8) : XCalls Try.prog 7 [.int .u64 id, .str who] h0 fun v _ => v = .bool true :=
  XCalls.ev tok fok mixed sp7 100000 (none_ev id who) fun _ _ hv => isT_spec hv

theorem walk (id : Int) (s : ByteArray) (w : World) : Calls Try.prog 7 #[.int .u64 id, .string s] w fun e w' => e = .returned (.bool true) ∧ Below w.heap.size w w' :=
  XCalls.true' (ρ := fun _ => ⟨0, 0, 0, 0⟩) (Sat.none w _) (vs := [.int .u64 id, .str s.data.toList]) ⟨_, _, rfl, rfl, _, _, rfl, rfl, rfl⟩ (none_calls id s.data.toList)

set_option maxRecDepth 100000 in
theorem lifted (os : Os) (started : os.Started) (H : Type) (enc : TypeId × Value → H) :
    ReturnsInHanded {} Try.checked os 7 .any (Rows.poolNoneSpec.pre6 enc Try.prog Try.f7 Rows.poolNoneRow.domain false) (Rows.poolNoneSpec.post enc Try.prog Try.f7 false true false false) := by
  refine returnsInHanded_of_change (C := Try.checked) own started (by kernel_rfl) Try.func7
    (ChangeSpec.witness6 (enc := enc) (C := Try.checked) false ⟨#[], #[.int .u64 0, .string ⟨#[]⟩], []⟩ 8 (by kernel_rfl) (by kernel_rfl) (by kernel_rfl) (by kernel_rfl)) ?_
  intro W base args ds gs before hval0 hW hcnd _
  have hval : ∀ (j : Nat) t v, Try.f7.params[j]? = some t → args[j]? = some v → Value.okWide Try.prog W .any base t v := hval0
  have hW' := hW
  obtain ⟨p, q, hA0, hV, rfl, hfz, hnd⟩ := hW
  have hA : DataW.TrodAll enc Try.prog W 0 (fun _ => true) true Try.f7.params.toList args.toList ds p := hA0
  rw [Try.params7] at hA hval
  obtain ⟨v0, vs0, d0, ds0, p0, q0, hargs, rfl, rfl, h0, r0⟩ := trodAll_cons hA
  obtain ⟨v1, vs1, d1, ds1, p1, q1, rfl, rfl, rfl, h1, r1⟩ := trodAll_cons r0
  obtain ⟨rfl, rfl, rfl⟩ := trodAll_nil r1
  obtain rfl : args = #[v0, v1] := by cases args; simp_all
  obtain ⟨rfl, rfl⟩ := trodVars_none hV
  obtain ⟨a0, rfl, rfl, rfl, w0⟩ := open_int Try.underlying28 (hval 0 28 v0 rfl rfl) h0
  obtain ⟨a1, rfl, rfl, rfl, w1⟩ := open_string Try.underlying9 (hval 1 9 v1 rfl rfl) h1
  refine (walk a0 a1 W).mono fun e W' ⟨he, hb⟩ => ?_
  subst he
  exact ⟨_, rfl, post_true (by kernel_rfl) hW' hb rfl (fun gs hg => by subst hg; rfl) (tb := 4) rfl Try.underlying4 (by decide +kernel)⟩

theorem over : Rows.poolNoneRow.holds Try.pinned (OpenSpec.ofChange Rows.poolNoneSpec) :=
  OpenClaim.holds_of_wide 7 Try.f7 rfl rfl rfl rfl rfl rfl rfl ⟨rfl, rfl, rfl, rfl, rfl⟩ rfl rfl rfl rfl rfl (by kernel_rfl) Try.func7 (by kernel_rfl)
    (of_decide_eq_true (by kernel_rfl)) (by unfold Func.isWrapper; first | (rw [if_pos (by decide +kernel)]; kernel_rfl) | (rw [if_neg (by decide +kernel)]; exact ⟨rfl, rfl⟩))
    (fun os started H enc _ => lifted os started H enc)

theorem proved : Rows.PoolNoneSaid :=
  over
#print axioms proved
end Go.Proofs.Yteblfacfbmlceaa.poolNone
