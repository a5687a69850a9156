/-
  maps.Keys, slices.Collect, slices.Sorted as statements about data (printed by VexPrint).
-/
import Derived.Test.YteknlobdnjcdbaaVexX
import Derived.Test.YteknlobdnjcdbaaTab23
set_option linter.unusedVariables false
set_option maxRecDepth 100000
namespace Go.Vex
open Go.Proofs
/-! 39: maps.Keys[map[uint64]stevedore/api.Addr,uint64,stevedore/api.Addr] -/
def jl39 : Nat → Option JT := fun r => none
def jj39 : Nat → Option JT := fun r => none
def X39 (h : Hp) (K : V → Hp → Prop) (m : Option Nat) : Prop :=
  ∀ (h'1 : Hp), h'1 = h.alloc (O.row [V.map m] (1 : Nat) false) → K (V.fn (Fn.func (51 : Nat)) [] [V.ptr (some (h.next, (0 : Nat)))]) h'1
theorem y39 (h : Hp) (K : V → Hp → Prop) (m : Option Nat) : X39 h K m = fnX Try.prog T F jl39 jj39 Try.f39 [V.map m] h K := by kernel_rfl
theorem x39 {h : Hp} {K : V → Hp → Prop} (m : Option Nat) (hx : X39 h K m) : XCalls Try.prog 39 [V.map m] h K :=
  XCalls.ofX tok fok mixed (JL := jl39) (JJ := jj39) Try.func39 ((y39 h K m) ▸ hx)
/-! 51: maps.Keys[map[uint64]stevedore/api.Addr,uint64,stevedore/api.Addr]$1 -/
-- loop 1: stays yield(0), (5); turns 
def jl51 : Nat → Option JT := fun r => bif Nat.beq r 1 then some ⟨[0, 5], [], []⟩ else none
def jj51 : Nat → Option JT := fun r => none
def X51 (h : Hp) (K : V → Hp → Prop) (yield : Nat) (c1 : Nat) : Prop :=
  ∃ (r1 : Option Nat),
  h.ld c1 (0 : Nat) = some (V.map r1) ∧
    ∃ (h'1 : Hp),
      xrange T h (64 : Nat) (V.map r1) = some (V.ptr (some (h.next, (0 : Nat))), h'1) ∧
        ∃ (I1 : List V → Hp → Prop),
          ∃ (x1 : List V → Hp → Nat),
            ([V.yld yield, V.ptr (some (h.next, (0 : Nat)))] = [V.yld yield, V.ptr (some (h.next, (0 : Nat)))] ∧ I1 [] h'1) ∧
              ∀ (bs1 : Nat → Option V) (h1 : Hp),
                I1 [] h1 →
                  ∃ (l1 : List (V × Hp)),
                    xnext h1 (V.ptr (some (h.next, (0 : Nat)))) = some l1 ∧
                      (List.Mem (V.tup [V.bool false], h1) l1 → K (V.tup []) h1) ∧
                        (∀ (r2 : V × Hp), List.Mem r2 l1 → r2 = (V.tup [V.bool false], h1) ∨ ∃ (a1 : V), ∃ (b1 : V), r2.1 = V.tup [V.bool true, a1, b1]) ∧
                          ∀ (a2 b2 : V) (h'2 : Hp),
                            List.Mem (V.tup [V.bool true, a2, b2], h'2) l1 →
                              ∃ (n1 : Int),
                                ∃ (v1 : V),
                                  xentry h'2 (V.ptr (some (h.next, (0 : Nat)))) = some (V.tup [V.int IntKind.u64 n1, v1]) ∧
                                    XYield Try.prog yield [V.int IntKind.u64 n1] h'2 fun (v2 : V) (h'3 : Hp) =>
                                      ∃ (b3 : Bool),
                                        v2 = V.bool b3 ∧
                                          bif !b3 then K (V.tup []) h'3
                                          else [V.yld yield, V.ptr (some (h.next, (0 : Nat)))] = [V.yld yield, V.ptr (some (h.next, (0 : Nat)))] ∧ I1 [] h'3 ∧ x1 [] h'3 < x1 [] h1
theorem y51 (h : Hp) (K : V → Hp → Prop) (yield : Nat) (c1 : Nat) : X51 h K yield c1 = fnX Try.prog T F jl51 jj51 Try.f51 [V.yld yield, V.ptr (some (c1, (0 : Nat)))] h K := by kernel_rfl
theorem x51 {h : Hp} {K : V → Hp → Prop} (yield : Nat) (c1 : Nat) (hx : X51 h K yield c1) : XCalls Try.prog 51 [V.yld yield, V.ptr (some (c1, (0 : Nat)))] h K :=
  XCalls.ofX tok fok mixed (JL := jl51) (JJ := jj51) Try.func51 ((y51 h K yield c1) ▸ hx)
/-! 57: slices.AppendSeq[[]uint64,uint64] -/
def jl57 : Nat → Option JT := fun r => none
def jj57 : Nat → Option JT := fun r => none
def X57 (h : Hp) (K : V → Hp → Prop) (s : Option (Nat × Nat)) (s_n : Nat) (s_f : Bool) (seq_0 : Nat) : Prop :=
  ∀ (h'1 : Hp),
  h'1 = h.alloc (O.row [V.slc s s_n s_f] (1 : Nat) false) →
    ∀ (rec1 : LoopState → Option Code → O),
      LRec rec1 →
        ∀ (h'2 : Hp),
          h'2 = (h'1.alloc (O.dfr true)).alloc (rec1 LoopState.ready none) →
            (∀ (n1 : Int) (h1 : Hp) (K1 : V → Hp → Prop),
                h1.get (h'1.next + (1 : Nat)) = some (rec1 LoopState.ready none) →
                  (h1.get (h'1.next + (1 : Nat)) = some (rec1 LoopState.ready none) ∧
                      ∀ (h2 : Hp),
                        h2 = h1.set (h'1.next + (1 : Nat)) (rec1 LoopState.busy none) →
                          ∃ (a1 : Option (Nat × Nat)),
                            ∃ (n2 : Nat),
                              ∃ (f1 : Bool),
                                h2.ld h.next (0 : Nat) = some (V.slc a1 n2 f1) ∧
                                  ∀ (h'3 : Hp),
                                    h'3 = h2.alloc (O.row [V.int IntKind.u64 n1] (1 : Nat) false) →
                                      ∃ (p1 : Option (Nat × Nat)),
                                        ∃ (n3 : Nat),
                                          ∃ (f2 : Bool),
                                            ∃ (h'4 : Hp),
                                              xapp T h'3 (75 : Nat) (75 : Nat) (V.slc a1 n2 f1) (V.slc (some (h2.next, (0 : Nat))) (1 : Nat) true) = some (V.slc p1 n3 f2, h'4) ∧
                                                ∃ (h'5 : Hp),
                                                  h'4.st h.next (0 : Nat) [V.slc p1 n3 f2] = some h'5 ∧
                                                    h'5.get (h'1.next + (1 : Nat)) = some (rec1 LoopState.busy none) ∧
                                                      ∀ (h'6 : Hp), h'6 = h'5.set (h'1.next + (1 : Nat)) (rec1 LoopState.ready none) → K1 (V.bool true) h'6) →
                    XYield Try.prog (h'1.next + (1 : Nat)) [V.int IntKind.u64 n1] h1 fun (a2 : V) (a3 : Hp) => K1 a2 a3) →
              XCalls Try.prog (51 : Nat) [V.yld (h'1.next + (1 : Nat)), V.ptr (some (seq_0, (0 : Nat)))] h'2 fun (a4 : V) (a5 : Hp) =>
                (a5.get (h'1.next + (1 : Nat)) = some (rec1 LoopState.ready none) ∧
                    ∀ (h'7 : Hp),
                      h'7 = a5.set (h'1.next + (1 : Nat)) (rec1 LoopState.exhausted none) →
                        ∃ (a6 : Option (Nat × Nat)),
                          ∃ (n4 : Nat), ∃ (f3 : Bool), h'7.ld h.next (0 : Nat) = some (V.slc a6 n4 f3) ∧ ∃ (h'8 : Hp), shut [h'1.next] h'7 = some h'8 ∧ K (V.slc a6 n4 f3) h'8) ∨
                  False
theorem y57 (h : Hp) (K : V → Hp → Prop) (s : Option (Nat × Nat)) (s_n : Nat) (s_f : Bool) (seq_0 : Nat) : X57 h K s s_n s_f seq_0 = fnX Try.prog T F jl57 jj57 Try.f57 [V.slc s s_n s_f, V.fn (Fn.func (51 : Nat)) [] [V.ptr (some (seq_0, (0 : Nat)))]] h K := by kernel_rfl
theorem x57 {h : Hp} {K : V → Hp → Prop} (s : Option (Nat × Nat)) (s_n : Nat) (s_f : Bool) (seq_0 : Nat) (hx : X57 h K s s_n s_f seq_0) : XCalls Try.prog 57 [V.slc s s_n s_f, V.fn (Fn.func (51 : Nat)) [] [V.ptr (some (seq_0, (0 : Nat)))]] h K :=
  XCalls.ofX tok fok mixed (JL := jl57) (JJ := jj57) Try.func57 ((y57 h K s s_n s_f seq_0) ▸ hx)
/-! 49: slices.Collect[uint64] -/
def jl49 : Nat → Option JT := fun r => none
def jj49 : Nat → Option JT := fun r => none
def X49 (h : Hp) (K : V → Hp → Prop) (seq_0 : Nat) : Prop :=
  XCalls Try.prog (57 : Nat) [V.slc none (0 : Nat) true, V.fn (Fn.func (51 : Nat)) [] [V.ptr (some (seq_0, (0 : Nat)))]] h fun (v1 : V) (h'1 : Hp) =>
  ∃ (a1 : Option (Nat × Nat)), ∃ (n1 : Nat), ∃ (f1 : Bool), v1 = V.slc a1 n1 f1 ∧ K (V.slc a1 n1 f1) h'1
theorem y49 (h : Hp) (K : V → Hp → Prop) (seq_0 : Nat) : X49 h K seq_0 = fnX Try.prog T F jl49 jj49 Try.f49 [V.fn (Fn.func (51 : Nat)) [] [V.ptr (some (seq_0, (0 : Nat)))]] h K := by kernel_rfl
theorem x49 {h : Hp} {K : V → Hp → Prop} (seq_0 : Nat) (hx : X49 h K seq_0) : XCalls Try.prog 49 [V.fn (Fn.func (51 : Nat)) [] [V.ptr (some (seq_0, (0 : Nat)))]] h K :=
  XCalls.ofX tok fok mixed (JL := jl49) (JJ := jj49) Try.func49 ((y49 h K seq_0) ▸ hx)
/-! 38: slices.Sorted[uint64] -/
def jl38 : Nat → Option JT := fun r => none
def jj38 : Nat → Option JT := fun r => none
def X38 (h : Hp) (K : V → Hp → Prop) (seq_0 : Nat) : Prop :=
  XCalls Try.prog (49 : Nat) [V.fn (Fn.func (51 : Nat)) [] [V.ptr (some (seq_0, (0 : Nat)))]] h fun (v1 : V) (h'1 : Hp) =>
  ∃ (a1 : Option (Nat × Nat)), ∃ (n1 : Nat), ∃ (f1 : Bool), v1 = V.slc a1 n1 f1 ∧ XCalls Try.prog (50 : Nat) [V.slc a1 n1 f1] h'1 fun (v2 : V) (h'2 : Hp) => K (V.slc a1 n1 f1) h'2
theorem y38 (h : Hp) (K : V → Hp → Prop) (seq_0 : Nat) : X38 h K seq_0 = fnX Try.prog T F jl38 jj38 Try.f38 [V.fn (Fn.func (51 : Nat)) [] [V.ptr (some (seq_0, (0 : Nat)))]] h K := by kernel_rfl
theorem x38 {h : Hp} {K : V → Hp → Prop} (seq_0 : Nat) (hx : X38 h K seq_0) : XCalls Try.prog 38 [V.fn (Fn.func (51 : Nat)) [] [V.ptr (some (seq_0, (0 : Nat)))]] h K :=
  XCalls.ofX tok fok mixed (JL := jl38) (JJ := jj38) Try.func38 ((y38 h K seq_0) ▸ hx)
end Go.Vex
