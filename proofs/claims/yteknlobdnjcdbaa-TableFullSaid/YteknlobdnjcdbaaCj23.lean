/-
  What none of layer 23 answers, and how many entries rest.
-/
import Derived.Test.YteknlobdnjcdbaaVexFF
import Derived.Test.YteknlobdnjcdbaaVexGG
import Derived.Test.YteknlobdnjcdbaaTab23
import Derived.Test.YteknlobdnjcdbaaXa23
import Derived.Test.YteknlobdnjcdbaaCa23
import Derived.Test.YteknlobdnjcdbaaCb23
import Derived.Test.YteknlobdnjcdbaaCc23
import Derived.Test.YteknlobdnjcdbaaXb23
import Derived.Test.YteknlobdnjcdbaaCe23
import Derived.Test.YteknlobdnjcdbaaCf23
import Derived.Test.YteknlobdnjcdbaaCi23
import Derived.KernelRfl
set_option linter.unusedVariables false
set_option linter.unusedSimpArgs false
namespace Go.Vex.Tbl
open Go.Proofs

def isI (n : Int) : V → Hp → Bool := fun v _ => match v with
  | .int .i64 x => x == n
  | _ => false
theorem isI_spec {n : Int} {v : V} {h : Hp} (hv : isI n v h = true) : v = .int .i64 n := by
  unfold isI at hv
  split at hv
  · simpa using hv
  · cases hv
def isF : V → Hp → Bool := fun v _ => match v with
  | .tup [.int .u8 a, .int .u64 b] => a == 0 && b == 0
  | _ => false
theorem isF_spec {v : V} {h : Hp} (hv : isF v h = true) : v = .tup [.int .u8 0, .int .u64 0] := by
  unfold isF at hv
  split at hv
  · simp only [Bool.and_eq_true, beq_iff_eq] at hv
    obtain ⟨rfl, rfl⟩ := hv; rfl
  · cases hv

def pr11 : V := .agg [.int .u32 1, .int .u16 1, .int .u32 2, .int .u16 1]

set_option maxRecDepth 100000 in
theorem find_nil {h : Hp} : XCalls Try.prog 14 [.ptr none, pr11, .int .u32 0, .int .i64 0] h fun v h' => v = .tup [.int .u8 0, .int .u64 0] ∧ h' = h :=
  XCalls.aside rfl (fun v hv => by subst hv; rfl) (XCalls.ev tok fok mixed (fun _ => []) 1000 (by kernel_rfl : (ev Vex.T Vex.F (fun _ => []) 1000).call 14 [.ptr none, pr11, .int .u32 0, .int .i64 0] h0 isF = true) fun _ _ hv => isF_spec hv)
set_option maxRecDepth 100000 in
theorem put_nil {h : Hp} : XCalls Try.prog 10 [.ptr none, pr11, .int .u64 1] h fun v h' => v = .int .i64 1 ∧ h' = h :=
  XCalls.aside rfl (fun v hv => by subst hv; rfl) (XCalls.ev tok fok mixed (fun _ => []) 1000 (by kernel_rfl : (ev Vex.T Vex.F (fun _ => []) 1000).call 10 [.ptr none, pr11, .int .u64 1] h0 (isI 1) = true) fun _ _ hv => isI_spec hv)
set_option maxRecDepth 100000 in
theorem rest_nil {h : Hp} : XCalls Try.prog 11 [.ptr none, pr11, .int .i64 5] h fun v h' => v = .int .i64 1 ∧ h' = h :=
  XCalls.aside rfl (fun v hv => by subst hv; rfl) (XCalls.ev tok fok mixed (fun _ => []) 1000 (by kernel_rfl : (ev Vex.T Vex.F (fun _ => []) 1000).call 11 [.ptr none, pr11, .int .i64 5] h0 (isI 1) = true) fun _ _ hv => isI_spec hv)
set_option maxRecDepth 100000 in
theorem listen_nil {h : Hp} : XCalls Try.prog 13 [.ptr none, .int .u64 1, .agg [.int .u32 0, .int .u16 0]] h fun v h' => v = .int .i64 1 ∧ h' = h :=
  XCalls.aside rfl (fun v hv => by subst hv; rfl) (XCalls.ev tok fok mixed (fun _ => []) 1000 (by kernel_rfl : (ev Vex.T Vex.F (fun _ => []) 1000).call 13 [.ptr none, .int .u64 1, .agg [.int .u32 0, .int .u16 0]] h0 (isI 1) = true) fun _ _ hv => isI_spec hv)
set_option maxRecDepth 100000 in
theorem old_nil {h : Hp} : XCalls Try.prog 12 [.ptr none, .int .i64 5] h fun v h' => v = .int .i64 0 ∧ h' = h :=
  XCalls.aside rfl (fun v hv => by subst hv; rfl) (XCalls.ev tok fok mixed (fun _ => []) 1000 (by kernel_rfl : (ev Vex.T Vex.F (fun _ => []) 1000).call 12 [.ptr none, .int .i64 5] h0 (isI 0) = true) fun _ _ hv => isI_spec hv)
set_option maxRecDepth 100000 in
theorem conns_nil {h : Hp} : XCalls Try.prog 24 [.ptr none] h fun v h' => v = .int .i64 0 ∧ h' = h :=
  XCalls.aside rfl (fun v hv => by subst hv; rfl) (XCalls.ev tok fok mixed (fun _ => []) 1000 (by kernel_rfl : (ev Vex.T Vex.F (fun _ => []) 1000).call 24 [.ptr none] h0 (isI 0) = true) fun _ _ hv => isI_spec hv)
set_option maxRecDepth 100000 in
theorem rests_nil {h : Hp} : XCalls Try.prog 25 [.ptr none] h fun v h' => v = .int .i64 0 ∧ h' = h :=
  XCalls.aside rfl (fun v hv => by subst hv; rfl) (XCalls.ev tok fok mixed (fun _ => []) 1000 (by kernel_rfl : (ev Vex.T Vex.F (fun _ => []) 1000).call 25 [.ptr none] h0 (isI 0) = true) fun _ _ hv => isI_spec hv)
set_option maxRecDepth 100000 in
theorem deaf_nil {h : Hp} {i : Nat} : XCalls Try.prog 16 [.ptr none, .slc (some (i, 0)) 1 true] h fun v _ => v = .int .i64 0 :=
  XCalls.ev tok fok mixed (fun _ => []) 1000 (by kernel_rfl : (ev Vex.T Vex.F (fun _ => []) 1000).call 16 [.ptr none, .slc (some (i, 0)) 1 true] h (isI 0) = true) fun _ _ hv => isI_spec hv
end Go.Vex.Tbl
