/-
  CallNone of layer 29: whatever the arguments, the law returns true and leaves the input as it was. No condition.
-/
import Derived.Test.YtibmhpkmmcgncaaVexT
import Derived.Test.YtibmhpkmmcgncaaTab29
import Derived.Test.YtibmhpkmmcgncaaRows
import Derived.WalkKit
import Derived.ProofKit
import Derived.OpenShut
import Derived.KernelRfl
namespace Go.Proofs.Ytibmhpkmmcgncaa.callNone
open Go.ChangeShapes Go.WideShapes Go.ChangeAt Go.RowKit Go.Vex
open Go.ChangeMaps (open_string shut_string)

theorem own : ownKnob Try.prog.godebug = none := by kernel_rfl

def sp : FuncId → List Nat := fun _ => []

set_option maxRecDepth 100000 in
theorem law_ev (a0 : Int) (a1 : Int) (a2_0 : Int) (a2_1 : Int) : (ev Vex.T Vex.F sp 100000).call 7 [.int .i64 a0, .int .u64 a1, .agg [.int .u32 a2_0, .int .u16 a2_1]] h0 isT = true := by kernel_rfl

theorem law_calls (a0 : Int) (a1 : Int) (a2_0 : Int) (a2_1 : Int) : XCalls Try.prog 7 [.int .i64 a0, .int .u64 a1, .agg [.int .u32 a2_0, .int .u16 a2_1]] h0 fun v _ => v = .bool true :=
  XCalls.ev tok fok mixed sp 100000 (law_ev a0 a1 a2_0 a2_1) fun _ _ hv => isT_spec hv

theorem walk (a0 : Int) (a1 : Int) (a2_0 : Int) (a2_1 : Int) (w : World) : Calls Try.prog 7 #[.int .i64 a0, .int .u64 a1, .agg #[.int .u32 a2_0, .int .u16 a2_1]] w fun e w' => e = .returned (.bool true) ∧ Below w.heap.size w w' :=
  XCalls.true' (ρ := fun _ => ⟨0, 0, 0, 0⟩) (Sat.none w _) (vs := [.int .i64 a0, .int .u64 a1, .agg [.int .u32 a2_0, .int .u16 a2_1]]) ⟨_, _, rfl, rfl, ⟨_, _, rfl, rfl, ⟨_, _, rfl, ⟨_, rfl, ⟨_, _, rfl, rfl, ⟨_, _, rfl, rfl, rfl⟩⟩⟩, rfl⟩⟩⟩ (law_calls a0 a1 a2_0 a2_1)

set_option maxRecDepth 100000 in
theorem lifted (os : Os) (started : os.Started) (H : Type) (enc : TypeId × Value → H) :
    ReturnsInHanded {} Try.checked os 7 .any (Rows.callNoneSpec.pre6 enc Try.prog Try.f7 Rows.callNoneRow.domain false) (Rows.callNoneSpec.post enc Try.prog Try.f7 false true false false) := by
  refine returnsInHanded_of_change (C := Try.checked) own started (by kernel_rfl) Try.func7
    (ChangeSpec.witness6 (enc := enc) (C := Try.checked) false ⟨#[], #[.int .i64 0, .int .u64 0, .agg #[.int .u32 0, .int .u16 0]], []⟩ 8 (by kernel_rfl) (by kernel_rfl) (by kernel_rfl) (by kernel_rfl)) ?_
  intro W base args ds gs before hval0 hW hcnd _
  have hval : ∀ (j : Nat) t v, Try.f7.params[j]? = some t → args[j]? = some v → Value.okWide Try.prog W .any base t v := hval0
  have hW' := hW
  obtain ⟨p, q, hA0, hV, rfl, hfz, hnd⟩ := hW
  have hA : DataW.TrodAll enc Try.prog W 0 (fun _ => true) true Try.f7.params.toList args.toList ds p := hA0
  rw [Try.params7] at hA hval
  obtain ⟨v0, vs0, d0, ds0, p0, q0, hargs, rfl, rfl, h0, r0⟩ := trodAll_cons hA
  obtain ⟨v1, vs1, d1, ds1, p1, q1, rfl, rfl, rfl, h1, r1⟩ := trodAll_cons r0
  obtain ⟨v2, vs2, d2, ds2, p2, q2, rfl, rfl, rfl, h2, r2⟩ := trodAll_cons r1
  obtain ⟨rfl, rfl, rfl⟩ := trodAll_nil r2
  obtain rfl : args = #[v0, v1, v2] := by cases args; simp_all
  obtain ⟨rfl, rfl⟩ := trodVars_none hV
  obtain ⟨a0, rfl, rfl, rfl, w0⟩ := open_int Try.underlying3 (hval 0 3 v0 rfl rfl) h0
  obtain ⟨a1, rfl, rfl, rfl, w1⟩ := open_int Try.underlying30 (hval 1 30 v1 rfl rfl) h1
  obtain ⟨cs2, rfl, hsz2, hc2⟩ := open_flat Try.underlying25 (ts := [22, 23]) (by kernel_rfl) (by kernel_rfl) (hval 2 25 v2 rfl rfl)
  obtain ⟨x2_0, hx2_0, ok2_0⟩ := hc2 0 22 rfl
  obtain ⟨a2_0, rfl⟩ := cell_int Try.underlying22 ok2_0
  obtain ⟨x2_1, hx2_1, ok2_1⟩ := hc2 1 23 rfl
  obtain ⟨a2_1, rfl⟩ := cell_int Try.underlying23 ok2_1
  obtain rfl := arr_of (l := [.int .u32 a2_0, .int .u16 a2_1]) hsz2 (fun j x hj => by
    match j, hj with
    | 0, hj => cases hj; exact hx2_0
    | 1, hj => cases hj; exact hx2_1
    | j + 2, hj => simp at hj)
  refine (walk a0 a1 a2_0 a2_1 W).mono fun e W' ⟨he, hb⟩ => ?_
  subst he
  exact ⟨_, rfl, post_true (by kernel_rfl) hW' hb rfl (fun gs hg => by subst hg; rfl) (tb := 4) rfl Try.underlying4 (by decide +kernel)⟩

theorem over : Rows.callNoneRow.holds Try.pinned (OpenSpec.ofChange Rows.callNoneSpec) :=
  OpenClaim.holds_of_wide 7 Try.f7 rfl rfl rfl rfl rfl rfl rfl ⟨rfl, rfl, rfl, rfl, rfl⟩ rfl rfl rfl rfl rfl (by kernel_rfl) Try.func7 (by kernel_rfl)
    (of_decide_eq_true (by kernel_rfl)) (by unfold Func.isWrapper; first | (rw [if_pos (by decide +kernel)]; kernel_rfl) | (rw [if_neg (by decide +kernel)]; exact ⟨rfl, rfl⟩))
    (fun os started H enc _ => lifted os started H enc)

theorem proved : Rows.CallNoneSaid :=
  over
#print axioms proved
end Go.Proofs.Ytibmhpkmmcgncaa.callNone

