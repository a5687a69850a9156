/-
  Functions of layer 26 as statements about data (printed by VexPrint).
-/
import Derived.Test.YtkdjjjpfkdkgoaaVexX
import Derived.Test.YtkdjjjpfkdkgoaaTab26
set_option linter.unusedVariables false
set_option maxRecDepth 100000
namespace Go.Vex
open Go.Proofs
/-! 13: (*stevedore/stevedoreref26.Out).Write -/
def jl13 : Nat → Option JT := fun r => none
def jj13 : Nat → Option JT := fun r => none
def X13 (h : Hp) (K : V → Hp → Prop) (o : Nat) (text : List UInt8) : Prop :=
  ∃ (n1 : Int),
  h.ld o (3 : Nat) = some (V.int IntKind.i64 n1) ∧
    ∃ (s1 : List UInt8),
      h.ld o (1 : Nat) = some (V.str s1) ∧
        ∃ (s2 : List UInt8),
          h.ld o (1 : Nat) = some (V.str s2) ∧
            ((0 : Int) ≤ bif ltI (IntKind.i64.wrap (n1 - (↑s1.length : Int))) (↑text.length : Int) then IntKind.i64.wrap (n1 - (↑s1.length : Int)) else (↑text.length : Int)) ∧
              ((0 : Nat) ≤ (bif ltI (IntKind.i64.wrap (n1 - (↑s1.length : Int))) (↑text.length : Int) then IntKind.i64.wrap (n1 - (↑s1.length : Int)) else (↑text.length : Int)).toNat ∧
                  (bif ltI (IntKind.i64.wrap (n1 - (↑s1.length : Int))) (↑text.length : Int) then IntKind.i64.wrap (n1 - (↑s1.length : Int)) else (↑text.length : Int)).toNat ≤ text.length) ∧
                s2.length +
                      (List.take
                          ((bif ltI (IntKind.i64.wrap (n1 - (↑s1.length : Int))) (↑text.length : Int) then IntKind.i64.wrap (n1 - (↑s1.length : Int)) else (↑text.length : Int)).toNat - (0 : Nat))
                          (List.drop (0 : Nat) text)).length ≤
                    (9223372036854775807 : Nat) ∧
                  ∃ (h'1 : Hp),
                    h.st o (1 : Nat)
                          [V.str
                              (s2 ++
                                List.take
                                  ((bif ltI (IntKind.i64.wrap (n1 - (↑s1.length : Int))) (↑text.length : Int) then IntKind.i64.wrap (n1 - (↑s1.length : Int)) else (↑text.length : Int)).toNat -
                                    (0 : Nat))
                                  (List.drop (0 : Nat) text))] =
                        some h'1 ∧
                      K (V.int IntKind.i64 (bif ltI (IntKind.i64.wrap (n1 - (↑s1.length : Int))) (↑text.length : Int) then IntKind.i64.wrap (n1 - (↑s1.length : Int)) else (↑text.length : Int))) h'1
theorem x13 {h : Hp} {K : V → Hp → Prop} (o : Nat) (text : List UInt8) (hx : X13 h K o text) : XCalls Try.prog 13 [V.ptr (some (o, (0 : Nat))), V.str text] h K :=
  XCalls.ofX tok fok mixed (JL := jl13) (JJ := jj13) Try.func13 (cast (by kernel_rfl) hx)
/-! 15: (*stevedore/stevedoreref26.Out).Sent -/
def jl15 : Nat → Option JT := fun r => none
def jj15 : Nat → Option JT := fun r => none
def X15 (h : Hp) (K : V → Hp → Prop) (o : Nat) (to : Int) : Prop :=
  XCalls Try.prog (41 : Nat) [V.ptr (some (o, (0 : Nat))), V.int IntKind.u32 to] h fun (v1 : V) (h'1 : Hp) =>
  ∃ (n1 : Int),
    v1 = V.int IntKind.i64 n1 ∧
      bif ltI n1 (0 : Int) then K (V.int IntKind.i64 (2 : Int)) h'1
      else
        ∃ (n2 : Int),
          h'1.ld o (2 : Nat) = some (V.int IntKind.i64 n2) ∧ ∃ (h'2 : Hp), h'1.st o (2 : Nat) [V.int IntKind.i64 (bif ltI n2 n1 then n1 else n2)] = some h'2 ∧ K (V.int IntKind.i64 (0 : Int)) h'2
theorem x15 {h : Hp} {K : V → Hp → Prop} (o : Nat) (to : Int) (hx : X15 h K o to) : XCalls Try.prog 15 [V.ptr (some (o, (0 : Nat))), V.int IntKind.u32 to] h K :=
  XCalls.ofX tok fok mixed (JL := jl15) (JJ := jj15) Try.func15 (cast (by kernel_rfl) hx)
/-! 17: (*stevedore/stevedoreref26.Out).Ack -/
def jl17 : Nat → Option JT := fun r => none
def jj17 : Nat → Option JT := fun r => none
def X17 (h : Hp) (K : V → Hp → Prop) (o : Nat) (to : Int) : Prop :=
  XCalls Try.prog (41 : Nat) [V.ptr (some (o, (0 : Nat))), V.int IntKind.u32 to] h fun (v1 : V) (h'1 : Hp) =>
  ∃ (n1 : Int),
    v1 = V.int IntKind.i64 n1 ∧
      bif !ltI (0 : Int) n1 then K (V.tup [V.int IntKind.i64 (0 : Int), V.bool false]) h'1
      else
        ∃ (n2 : Int),
          h'1.ld o (2 : Nat) = some (V.int IntKind.i64 n2) ∧
            bif ltI n2 n1 then K (V.tup [V.int IntKind.i64 (0 : Int), V.bool false]) h'1
            else
              ∃ (s1 : List UInt8),
                h'1.ld o (1 : Nat) = some (V.str s1) ∧
                  (0 : Int) ≤ n1 ∧
                    (n1.toNat ≤ s1.length ∧ s1.length ≤ s1.length) ∧
                      ∃ (h'2 : Hp),
                        h'1.st o (1 : Nat) [V.str (List.take (s1.length - n1.toNat) (List.drop n1.toNat s1))] = some h'2 ∧
                          ∃ (h'3 : Hp),
                            h'2.st o (0 : Nat) [V.int IntKind.u32 to] = some h'3 ∧
                              ∃ (n3 : Int),
                                h'3.ld o (2 : Nat) = some (V.int IntKind.i64 n3) ∧
                                  ∃ (h'4 : Hp), h'3.st o (2 : Nat) [V.int IntKind.i64 (IntKind.i64.wrap (n3 - n1))] = some h'4 ∧ K (V.tup [V.int IntKind.i64 n1, V.bool true]) h'4
theorem x17 {h : Hp} {K : V → Hp → Prop} (o : Nat) (to : Int) (hx : X17 h K o to) : XCalls Try.prog 17 [V.ptr (some (o, (0 : Nat))), V.int IntKind.u32 to] h K :=
  XCalls.ofX tok fok mixed (JL := jl17) (JJ := jj17) Try.func17 (cast (by kernel_rfl) hx)
/-! 23: (*stevedore/stevedoreref26.Out).Get -/
def jl23 : Nat → Option JT := fun r => none
def jj23 : Nat → Option JT := fun r => none
def X23 (h : Hp) (K : V → Hp → Prop) (o : Nat) (a1 : Int) (n : Int) : Prop :=
  XCalls Try.prog (41 : Nat) [V.ptr (some (o, (0 : Nat))), V.int IntKind.u32 a1] h fun (v1 : V) (h'1 : Hp) =>
  ∃ (n1 : Int),
    v1 = V.int IntKind.i64 n1 ∧
      bif ltI n1 (0 : Int) then K (V.str []) h'1
      else
        bif !ltI (0 : Int) n then K (V.str []) h'1
        else
          ∃ (s1 : List UInt8),
            h'1.ld o (1 : Nat) = some (V.str s1) ∧
              ∃ (s2 : List UInt8),
                h'1.ld o (1 : Nat) = some (V.str s2) ∧
                  (0 : Int) ≤ n1 ∧
                    ((0 : Int) ≤
                        bif ltI (IntKind.i64.wrap (n1 + bif ltI (16384 : Int) n then (16384 : Int) else n)) (↑s2.length : Int) then
                          IntKind.i64.wrap (n1 + bif ltI (16384 : Int) n then (16384 : Int) else n)
                        else (↑s2.length : Int)) ∧
                      (n1.toNat ≤
                            (bif ltI (IntKind.i64.wrap (n1 + bif ltI (16384 : Int) n then (16384 : Int) else n)) (↑s2.length : Int) then
                                IntKind.i64.wrap (n1 + bif ltI (16384 : Int) n then (16384 : Int) else n)
                              else (↑s2.length : Int)).toNat ∧
                          (bif ltI (IntKind.i64.wrap (n1 + bif ltI (16384 : Int) n then (16384 : Int) else n)) (↑s2.length : Int) then
                                IntKind.i64.wrap (n1 + bif ltI (16384 : Int) n then (16384 : Int) else n)
                              else (↑s2.length : Int)).toNat ≤
                            s1.length) ∧
                        K
                          (V.str
                            (List.take
                              ((bif ltI (IntKind.i64.wrap (n1 + bif ltI (16384 : Int) n then (16384 : Int) else n)) (↑s2.length : Int) then
                                    IntKind.i64.wrap (n1 + bif ltI (16384 : Int) n then (16384 : Int) else n)
                                  else (↑s2.length : Int)).toNat -
                                n1.toNat)
                              (List.drop n1.toNat s1)))
                          h'1
theorem x23 {h : Hp} {K : V → Hp → Prop} (o : Nat) (a1 : Int) (n : Int) (hx : X23 h K o a1 n) : XCalls Try.prog 23 [V.ptr (some (o, (0 : Nat))), V.int IntKind.u32 a1, V.int IntKind.i64 n] h K :=
  XCalls.ofX tok fok mixed (JL := jl23) (JJ := jj23) Try.func23 (cast (by kernel_rfl) hx)
/-! 41: (*stevedore/stevedoreref26.Out).place -/
def jl41 : Nat → Option JT := fun r => none
def jj41 : Nat → Option JT := fun r => none
def X41 (h : Hp) (K : V → Hp → Prop) (o : Nat) (a1 : Int) : Prop :=
  ∃ (n1 : Int),
  h.ld o (0 : Nat) = some (V.int IntKind.u32 n1) ∧
    ∃ (s1 : List UInt8),
      h.ld o (1 : Nat) = some (V.str s1) ∧
        bif ltI (IntKind.u64.wrap (↑s1.length : Int)) (IntKind.u64.wrap (IntKind.u32.wrap (a1 - n1))) then K (V.int IntKind.i64 (-1 : Int)) h
        else K (V.int IntKind.i64 (IntKind.i64.wrap (IntKind.u32.wrap (a1 - n1)))) h
theorem x41 {h : Hp} {K : V → Hp → Prop} (o : Nat) (a1 : Int) (hx : X41 h K o a1) : XCalls Try.prog 41 [V.ptr (some (o, (0 : Nat))), V.int IntKind.u32 a1] h K :=
  XCalls.ofX tok fok mixed (JL := jl41) (JJ := jj41) Try.func41 (cast (by kernel_rfl) hx)
end Go.Vex
