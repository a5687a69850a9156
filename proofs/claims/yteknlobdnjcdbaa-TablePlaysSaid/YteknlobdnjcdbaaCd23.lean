/-
  works (layer 23), by the evaluator with Shard's answer known.
-/
import Derived.Test.YteknlobdnjcdbaaVexFF
import Derived.Test.YteknlobdnjcdbaaTab23
import Derived.Test.YteknlobdnjcdbaaXa23
import Derived.Test.YteknlobdnjcdbaaCa23
import Derived.Test.YteknlobdnjcdbaaCb23
import Derived.Test.YteknlobdnjcdbaaCc23
import Derived.KernelRfl
set_option linter.unusedVariables false
set_option linter.unusedSimpArgs false
namespace Go.Vex.Tbl
open Go.Proofs

set_option maxRecDepth 100000 in
theorem shard_works : shard ⟨1, 80, 2, 5⟩ = 5 := by kernel_rfl

def isPair : List V → Bool
  | [.int .u32 a, .int .u16 b, .int .u32 c, .int .u16 d] => a == 1 && (b == 80 && (c == 2 && d == 5))
  | _ => false

theorem isPair_eq {vs : List V} (h : isPair vs = true) : vs = [.int .u32 1, .int .u16 80, .int .u32 2, .int .u16 5] := by
  unfold isPair at h
  split at h
  · simp only [Bool.and_eq_true, beq_iff_eq] at h
    obtain ⟨rfl, rfl, rfl, rfl⟩ := h
    rfl
  · cases h

def known (f : FuncId) (vs : List V) : Option V := bif Nat.beq f 15 then (match vs with
  | [.agg l] => bif isPair l then some (.int .i64 5) else none
  | _ => none) else none

theorem known_ok (f : FuncId) (vs : List V) (v : V) (h : Hp) (hk : known f vs = some v) : XCalls Try.prog f vs h fun u h' => u = v ∧ h' = h := by
  unfold known at hk
  cases hf : Nat.beq f 15 with
  | false => rw [hf] at hk; cases hk
  | true =>
    rw [hf] at hk
    have := Nat.eq_of_beq_eq_true hf
    subst this
    simp only [cond_true] at hk
    split at hk
    · rename_i l
      cases hc : isPair l with
      | false => rw [hc] at hk; cases hk
      | true =>
        rw [hc] at hk
        cases hk
        have := isPair_eq hc
        subst this
        have := shard_spec (h := h) ⟨1, 80, 2, 5⟩
        rw [shard_works] at this
        exact this
    · cases hk

set_option maxRecDepth 100000 in
theorem works_ev : (evA Vex.T Vex.F (fun _ => []) known 100000).call 8 [] h0 isT = true := by kernel_rfl

theorem works_spec {h : Hp} {K : V → Hp → Prop} (hk : ∀ h', K (.bool true) h') : XCalls Try.prog 8 [] h K :=
  (XCalls.fresh (K := fun v => v = .bool true) rfl (fun v hv => by subst hv; rfl) (XCalls.evA tok fok mixed known_ok (fun _ => []) 100000 works_ev fun _ _ hv => isT_spec hv)).mono fun v h' hv => by rw [hv.1]; exact hk h'
end Go.Vex.Tbl
