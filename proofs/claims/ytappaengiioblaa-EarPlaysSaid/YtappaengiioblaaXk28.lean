/-
  maps.Keys, slices.Collect, slices.Sorted as statements about data (printed by VexPrint).
-/
import Derived.Test.YtappaengiioblaaVexX
import Derived.Test.YtappaengiioblaaTab28
set_option linter.unusedVariables false
set_option maxRecDepth 100000
namespace Go.Vex
open Go.Proofs
/-! 43: maps.Keys[map[uint64]stevedore/inet.child,uint64,stevedore/inet.child] -/
def jl43 : Nat → Option JT := fun r => none
def jj43 : Nat → Option JT := fun r => none
def X43 (h : Hp) (K : V → Hp → Prop) (m : Option Nat) : Prop :=
  ∀ (h'1 : Hp), h'1 = h.alloc (O.row [V.map m] (1 : Nat) false) → K (V.fn (Fn.func (47 : Nat)) [] [V.ptr (some (h.next, (0 : Nat)))]) h'1
theorem y43 (h : Hp) (K : V → Hp → Prop) (m : Option Nat) : X43 h K m = fnX Try.prog T F jl43 jj43 Try.f43 [V.map m] h K := by kernel_rfl
theorem x43 {h : Hp} {K : V → Hp → Prop} (m : Option Nat) (hx : X43 h K m) : XCalls Try.prog 43 [V.map m] h K :=
  XCalls.ofX tok fok mixed (JL := jl43) (JJ := jj43) Try.func43 ((y43 h K m) ▸ hx)
/-! 47: maps.Keys[map[uint64]stevedore/inet.child,uint64,stevedore/inet.child]$1 -/
-- loop 1: stays yield(0), (5); turns 
def jl47 : Nat → Option JT := fun r => bif Nat.beq r 1 then some ⟨[0, 5], [], []⟩ else none
def jj47 : Nat → Option JT := fun r => none
def X47 (h : Hp) (K : V → Hp → Prop) (yield : Nat) (c1 : Nat) : Prop :=
  ∃ (r1 : Option Nat),
  h.ld c1 (0 : Nat) = some (V.map r1) ∧
    ∃ (h'1 : Hp),
      xrange T h (87 : Nat) (V.map r1) = some (V.ptr (some (h.next, (0 : Nat))), h'1) ∧
        ∃ (I1 : List V → Hp → Prop),
          ∃ (x1 : List V → Hp → Nat),
            ([V.yld yield, V.ptr (some (h.next, (0 : Nat)))] = [V.yld yield, V.ptr (some (h.next, (0 : Nat)))] ∧ I1 [] h'1) ∧
              ∀ (bs1 : Nat → Option V) (h1 : Hp),
                I1 [] h1 →
                  ∃ (l1 : List (V × Hp)),
                    xnext h1 (V.ptr (some (h.next, (0 : Nat)))) = some l1 ∧
                      (List.Mem (V.tup [V.bool false], h1) l1 → K (V.tup []) h1) ∧
                        (∀ (r2 : V × Hp), List.Mem r2 l1 → r2 = (V.tup [V.bool false], h1) ∨ ∃ (a1 : V), ∃ (b1 : V), r2.1 = V.tup [V.bool true, a1, b1]) ∧
                          ∀ (a2 b2 : V) (h'2 : Hp),
                            List.Mem (V.tup [V.bool true, a2, b2], h'2) l1 →
                              ∃ (n1 : Int),
                                ∃ (v1 : V),
                                  xentry h'2 (V.ptr (some (h.next, (0 : Nat)))) = some (V.tup [V.int IntKind.u64 n1, v1]) ∧
                                    XYield Try.prog yield [V.int IntKind.u64 n1] h'2 fun (v2 : V) (h'3 : Hp) =>
                                      ∃ (b3 : Bool),
                                        v2 = V.bool b3 ∧
                                          bif !b3 then K (V.tup []) h'3
                                          else [V.yld yield, V.ptr (some (h.next, (0 : Nat)))] = [V.yld yield, V.ptr (some (h.next, (0 : Nat)))] ∧ I1 [] h'3 ∧ x1 [] h'3 < x1 [] h1
theorem y47 (h : Hp) (K : V → Hp → Prop) (yield : Nat) (c1 : Nat) : X47 h K yield c1 = fnX Try.prog T F jl47 jj47 Try.f47 [V.yld yield, V.ptr (some (c1, (0 : Nat)))] h K := by kernel_rfl
theorem x47 {h : Hp} {K : V → Hp → Prop} (yield : Nat) (c1 : Nat) (hx : X47 h K yield c1) : XCalls Try.prog 47 [V.yld yield, V.ptr (some (c1, (0 : Nat)))] h K :=
  XCalls.ofX tok fok mixed (JL := jl47) (JJ := jj47) Try.func47 ((y47 h K yield c1) ▸ hx)
/-! 48: slices.AppendSeq[[]uint64,uint64] -/
def jl48 : Nat → Option JT := fun r => none
def jj48 : Nat → Option JT := fun r => none
def X48 (h : Hp) (K : V → Hp → Prop) (s : Option (Nat × Nat)) (s_n : Nat) (s_f : Bool) (seq_0 : Nat) : Prop :=
  ∀ (h'1 : Hp),
  h'1 = h.alloc (O.row [V.slc s s_n s_f] (1 : Nat) false) →
    ∀ (rec1 : LoopState → Option Code → O),
      LRec rec1 →
        ∀ (h'2 : Hp),
          h'2 = (h'1.alloc (O.dfr true)).alloc (rec1 LoopState.ready none) →
            (∀ (n1 : Int) (h1 : Hp) (K1 : V → Hp → Prop),
                h1.get (h'1.next + (1 : Nat)) = some (rec1 LoopState.ready none) →
                  (h1.get (h'1.next + (1 : Nat)) = some (rec1 LoopState.ready none) ∧
                      ∀ (h2 : Hp),
                        h2 = h1.set (h'1.next + (1 : Nat)) (rec1 LoopState.busy none) →
                          ∃ (a1 : Option (Nat × Nat)),
                            ∃ (n2 : Nat),
                              ∃ (f1 : Bool),
                                h2.ld h.next (0 : Nat) = some (V.slc a1 n2 f1) ∧
                                  ∀ (h'3 : Hp),
                                    h'3 = h2.alloc (O.row [V.int IntKind.u64 n1] (1 : Nat) false) →
                                      ∃ (p1 : Option (Nat × Nat)),
                                        ∃ (n3 : Nat),
                                          ∃ (f2 : Bool),
                                            ∃ (h'4 : Hp),
                                              xapp T h'3 (28 : Nat) (28 : Nat) (V.slc a1 n2 f1) (V.slc (some (h2.next, (0 : Nat))) (1 : Nat) true) = some (V.slc p1 n3 f2, h'4) ∧
                                                ∃ (h'5 : Hp),
                                                  h'4.st h.next (0 : Nat) [V.slc p1 n3 f2] = some h'5 ∧
                                                    h'5.get (h'1.next + (1 : Nat)) = some (rec1 LoopState.busy none) ∧
                                                      ∀ (h'6 : Hp), h'6 = h'5.set (h'1.next + (1 : Nat)) (rec1 LoopState.ready none) → K1 (V.bool true) h'6) →
                    XYield Try.prog (h'1.next + (1 : Nat)) [V.int IntKind.u64 n1] h1 fun (a2 : V) (a3 : Hp) => K1 a2 a3) →
              XCalls Try.prog (47 : Nat) [V.yld (h'1.next + (1 : Nat)), V.ptr (some (seq_0, (0 : Nat)))] h'2 fun (a4 : V) (a5 : Hp) =>
                (a5.get (h'1.next + (1 : Nat)) = some (rec1 LoopState.ready none) ∧
                    ∀ (h'7 : Hp),
                      h'7 = a5.set (h'1.next + (1 : Nat)) (rec1 LoopState.exhausted none) →
                        ∃ (a6 : Option (Nat × Nat)),
                          ∃ (n4 : Nat), ∃ (f3 : Bool), h'7.ld h.next (0 : Nat) = some (V.slc a6 n4 f3) ∧ ∃ (h'8 : Hp), shut [h'1.next] h'7 = some h'8 ∧ K (V.slc a6 n4 f3) h'8) ∨
                  False
theorem y48 (h : Hp) (K : V → Hp → Prop) (s : Option (Nat × Nat)) (s_n : Nat) (s_f : Bool) (seq_0 : Nat) : X48 h K s s_n s_f seq_0 = fnX Try.prog T F jl48 jj48 Try.f48 [V.slc s s_n s_f, V.fn (Fn.func (47 : Nat)) [] [V.ptr (some (seq_0, (0 : Nat)))]] h K := by kernel_rfl
theorem x48 {h : Hp} {K : V → Hp → Prop} (s : Option (Nat × Nat)) (s_n : Nat) (s_f : Bool) (seq_0 : Nat) (hx : X48 h K s s_n s_f seq_0) : XCalls Try.prog 48 [V.slc s s_n s_f, V.fn (Fn.func (47 : Nat)) [] [V.ptr (some (seq_0, (0 : Nat)))]] h K :=
  XCalls.ofX tok fok mixed (JL := jl48) (JJ := jj48) Try.func48 ((y48 h K s s_n s_f seq_0) ▸ hx)
/-! 45: slices.Collect[uint64] -/
def jl45 : Nat → Option JT := fun r => none
def jj45 : Nat → Option JT := fun r => none
def X45 (h : Hp) (K : V → Hp → Prop) (seq_0 : Nat) : Prop :=
  XCalls Try.prog (48 : Nat) [V.slc none (0 : Nat) true, V.fn (Fn.func (47 : Nat)) [] [V.ptr (some (seq_0, (0 : Nat)))]] h fun (v1 : V) (h'1 : Hp) =>
  ∃ (a1 : Option (Nat × Nat)), ∃ (n1 : Nat), ∃ (f1 : Bool), v1 = V.slc a1 n1 f1 ∧ K (V.slc a1 n1 f1) h'1
theorem y45 (h : Hp) (K : V → Hp → Prop) (seq_0 : Nat) : X45 h K seq_0 = fnX Try.prog T F jl45 jj45 Try.f45 [V.fn (Fn.func (47 : Nat)) [] [V.ptr (some (seq_0, (0 : Nat)))]] h K := by kernel_rfl
theorem x45 {h : Hp} {K : V → Hp → Prop} (seq_0 : Nat) (hx : X45 h K seq_0) : XCalls Try.prog 45 [V.fn (Fn.func (47 : Nat)) [] [V.ptr (some (seq_0, (0 : Nat)))]] h K :=
  XCalls.ofX tok fok mixed (JL := jl45) (JJ := jj45) Try.func45 ((y45 h K seq_0) ▸ hx)
/-! 42: slices.Sorted[uint64] -/
def jl42 : Nat → Option JT := fun r => none
def jj42 : Nat → Option JT := fun r => none
def X42 (h : Hp) (K : V → Hp → Prop) (seq_0 : Nat) : Prop :=
  XCalls Try.prog (45 : Nat) [V.fn (Fn.func (47 : Nat)) [] [V.ptr (some (seq_0, (0 : Nat)))]] h fun (v1 : V) (h'1 : Hp) =>
  ∃ (a1 : Option (Nat × Nat)), ∃ (n1 : Nat), ∃ (f1 : Bool), v1 = V.slc a1 n1 f1 ∧ XCalls Try.prog (46 : Nat) [V.slc a1 n1 f1] h'1 fun (v2 : V) (h'2 : Hp) => K (V.slc a1 n1 f1) h'2
theorem y42 (h : Hp) (K : V → Hp → Prop) (seq_0 : Nat) : X42 h K seq_0 = fnX Try.prog T F jl42 jj42 Try.f42 [V.fn (Fn.func (47 : Nat)) [] [V.ptr (some (seq_0, (0 : Nat)))]] h K := by kernel_rfl
theorem x42 {h : Hp} {K : V → Hp → Prop} (seq_0 : Nat) (hx : X42 h K seq_0) : XCalls Try.prog 42 [V.fn (Fn.func (47 : Nat)) [] [V.ptr (some (seq_0, (0 : Nat)))]] h K :=
  XCalls.ofX tok fok mixed (JL := jl42) (JJ := jj42) Try.func42 ((y42 h K seq_0) ▸ hx)
end Go.Vex
