/-
  Functions of layer 28 as statements about data (printed by VexPrint).
-/
import Derived.Test.YtappaengiioblaaVexX
import Derived.Test.YtappaengiioblaaTab28
set_option linter.unusedVariables false
namespace Go.Vex
open Go.Proofs
/-! 4: stevedore/stevedorelaw28.BitsRise -/
-- loop 6: stays l(0), b(3); turns was(4), n(5), i(6)
def jl4 : Nat → Option JT := fun r => bif Nat.beq r 6 then some ⟨[0, 3], [4, 5, 6], [V.int IntKind.u32 (0 : Int), V.int IntKind.u64 (0 : Int), V.int IntKind.i64 (0 : Int)]⟩ else none
def jj4 : Nat → Option JT := fun r => none
def X4 (h : Hp) (K : V → Hp → Prop) (l : Option (Nat × Nat)) (l_n : Nat) (l_f : Bool) : Prop :=
  bif ltI (500 : Int) (↑l_n : Int) then XCalls Try.prog (9 : Nat) [] h fun (v1 : V) (h'1 : Hp) => ∃ (b1 : Bool), v1 = V.bool b1 ∧ K (V.bool b1) h'1
else
  XCalls Try.prog (17 : Nat) [] h fun (v2 : V) (h'2 : Hp) =>
    ∃ (a1 : Option (Nat × Nat)),
      v2 = V.ptr a1 ∧
        ∃ (I1 : List V → Hp → Prop),
          ∃ (x1 : List V → Hp → Nat),
            ([V.slc l l_n l_f, V.ptr a1] = [V.slc l l_n l_f, V.ptr a1] ∧ I1 [V.int IntKind.u32 (0 : Int), V.int IntKind.u64 (0 : Int), V.int IntKind.i64 (0 : Int)] h'2) ∧
              ∀ (bs1 : Nat → Option V) (n1 n2 n3 : Int) (h1 : Hp),
                I1 [V.int IntKind.u32 n1, V.int IntKind.u64 n2, V.int IntKind.i64 n3] h1 →
                  bif ltI n3 (↑l_n : Int) then
                    ((0 : Int) ≤ n3 ∧ n3 < (↑l_n : Int)) ∧
                      onS l fun (i1 o1 : Nat) =>
                        ∃ (n4 : Int),
                          h1.ld i1 (o1 + n3.toNat * (1 : Nat)) = some (V.int IntKind.u32 n4) ∧
                            bif bits BinOp.andNot IntKind.u32 n4 n1 != (0 : Int) then
                              ((0 : Int) ≤ n3 ∧ n3 < (↑l_n : Int)) ∧
                                onS l fun (i2 o2 : Nat) =>
                                  ∃ (n5 : Int),
                                    h1.ld i2 (o2 + n3.toNat * (1 : Nat)) = some (V.int IntKind.u32 n5) ∧
                                      ((0 : Int) ≤ n3 ∧ n3 < (↑l_n : Int)) ∧
                                        onS l fun (i3 o3 : Nat) =>
                                          ∃ (n6 : Int),
                                            h1.ld i3 (o3 + n3.toNat * (1 : Nat)) = some (V.int IntKind.u32 n6) ∧
                                              XCalls Try.prog (18 : Nat) [V.ptr a1, V.int IntKind.u32 n6] h1 fun (v3 : V) (h'3 : Hp) =>
                                                ∃ (b2 : Bool),
                                                  v3 = V.bool b2 ∧
                                                    bif !b2 == (bits BinOp.andNot IntKind.u32 n4 n1 != (0 : Int)) then K (V.bool false) h'3
                                                    else
                                                      XCalls Try.prog (19 : Nat) [V.ptr a1] h'3 fun (v4 : V) (h'4 : Hp) =>
                                                        ∃ (n7 : Int),
                                                          ∃ (n8 : Int),
                                                            v4 = V.tup [V.int IntKind.u32 n7, V.int IntKind.u64 n8] ∧
                                                              bif n7 != n5 then K (V.bool false) h'4
                                                              else
                                                                bif n8 != IntKind.u64.wrap (n2 + (1 : Int)) then K (V.bool false) h'4
                                                                else
                                                                  [V.slc l l_n l_f, V.ptr a1] = [V.slc l l_n l_f, V.ptr a1] ∧
                                                                    I1
                                                                        [V.int IntKind.u32 n5, V.int IntKind.u64 (IntKind.u64.wrap (n2 + (1 : Int))),
                                                                          V.int IntKind.i64 (IntKind.i64.wrap (n3 + (1 : Int)))]
                                                                        h'4 ∧
                                                                      x1
                                                                          [V.int IntKind.u32 n5, V.int IntKind.u64 (IntKind.u64.wrap (n2 + (1 : Int))),
                                                                            V.int IntKind.i64 (IntKind.i64.wrap (n3 + (1 : Int)))]
                                                                          h'4 <
                                                                        x1 [V.int IntKind.u32 n1, V.int IntKind.u64 n2, V.int IntKind.i64 n3] h1
                            else
                              ((0 : Int) ≤ n3 ∧ n3 < (↑l_n : Int)) ∧
                                onS l fun (i4 o4 : Nat) =>
                                  ∃ (n9 : Int),
                                    h1.ld i4 (o4 + n3.toNat * (1 : Nat)) = some (V.int IntKind.u32 n9) ∧
                                      ((0 : Int) ≤ n3 ∧ n3 < (↑l_n : Int)) ∧
                                        onS l fun (i5 o5 : Nat) =>
                                          ∃ (n10 : Int),
                                            h1.ld i5 (o5 + n3.toNat * (1 : Nat)) = some (V.int IntKind.u32 n10) ∧
                                              XCalls Try.prog (18 : Nat) [V.ptr a1, V.int IntKind.u32 n10] h1 fun (v5 : V) (h'5 : Hp) =>
                                                ∃ (b3 : Bool),
                                                  v5 = V.bool b3 ∧
                                                    bif !b3 == (bits BinOp.andNot IntKind.u32 n4 n1 != (0 : Int)) then K (V.bool false) h'5
                                                    else
                                                      XCalls Try.prog (19 : Nat) [V.ptr a1] h'5 fun (v6 : V) (h'6 : Hp) =>
                                                        ∃ (n11 : Int),
                                                          ∃ (n12 : Int),
                                                            v6 = V.tup [V.int IntKind.u32 n11, V.int IntKind.u64 n12] ∧
                                                              bif n11 != n9 then K (V.bool false) h'6
                                                              else
                                                                bif n12 != n2 then K (V.bool false) h'6
                                                                else
                                                                  [V.slc l l_n l_f, V.ptr a1] = [V.slc l l_n l_f, V.ptr a1] ∧
                                                                    I1 [V.int IntKind.u32 n9, V.int IntKind.u64 n2, V.int IntKind.i64 (IntKind.i64.wrap (n3 + (1 : Int)))] h'6 ∧
                                                                      x1 [V.int IntKind.u32 n9, V.int IntKind.u64 n2, V.int IntKind.i64 (IntKind.i64.wrap (n3 + (1 : Int)))] h'6 <
                                                                        x1 [V.int IntKind.u32 n1, V.int IntKind.u64 n2, V.int IntKind.i64 n3] h1
                  else XCalls Try.prog (9 : Nat) [] h1 fun (v7 : V) (h'7 : Hp) => ∃ (b4 : Bool), v7 = V.bool b4 ∧ K (V.bool b4) h'7
theorem x4 {h : Hp} {K : V → Hp → Prop} (l : Option (Nat × Nat)) (l_n : Nat) (l_f : Bool) (hx : X4 h K l l_n l_f) : XCalls Try.prog 4 [V.slc l l_n l_f] h K :=
  XCalls.ofX tok fok mixed (JL := jl4) (JJ := jj4) Try.func4 (cast (by kernel_rfl) hx)
/-! 17: stevedore/inet.NewBits -/
def jl17 : Nat → Option JT := fun r => none
def jj17 : Nat → Option JT := fun r => none
def X17 (h : Hp) (K : V → Hp → Prop)  : Prop :=
  ∀ (h'1 : Hp), h'1 = h.alloc (O.row [V.int IntKind.u32 (0 : Int), V.int IntKind.u64 (0 : Int)] (1 : Nat) false) → K (V.ptr (some (h.next, (0 : Nat)))) h'1
theorem x17 {h : Hp} {K : V → Hp → Prop}  (hx : X17 h K ) : XCalls Try.prog 17 [] h K :=
  XCalls.ofX tok fok mixed (JL := jl17) (JJ := jj17) Try.func17 (cast (by kernel_rfl) hx)
/-! 18: (*stevedore/inet.Bits).Set -/
def jl18 : Nat → Option JT := fun r => none
def jj18 : Nat → Option JT := fun r => none
def X18 (h : Hp) (K : V → Hp → Prop) (b : Nat) (ready : Int) : Prop :=
  ∃ (n1 : Int),
  h.ld b (0 : Nat) = some (V.int IntKind.u32 n1) ∧
    bif bits BinOp.andNot IntKind.u32 ready n1 != (0 : Int) then
      ∃ (n2 : Int),
        h.ld b (1 : Nat) = some (V.int IntKind.u64 n2) ∧
          ∃ (h'1 : Hp),
            h.st b (1 : Nat) [V.int IntKind.u64 (IntKind.u64.wrap (n2 + (1 : Int)))] = some h'1 ∧
              ∃ (h'2 : Hp), h'1.st b (0 : Nat) [V.int IntKind.u32 ready] = some h'2 ∧ K (V.bool (bits BinOp.andNot IntKind.u32 ready n1 != (0 : Int))) h'2
    else ∃ (h'3 : Hp), h.st b (0 : Nat) [V.int IntKind.u32 ready] = some h'3 ∧ K (V.bool (bits BinOp.andNot IntKind.u32 ready n1 != (0 : Int))) h'3
theorem x18 {h : Hp} {K : V → Hp → Prop} (b : Nat) (ready : Int) (hx : X18 h K b ready) : XCalls Try.prog 18 [V.ptr (some (b, (0 : Nat))), V.int IntKind.u32 ready] h K :=
  XCalls.ofX tok fok mixed (JL := jl18) (JJ := jj18) Try.func18 (cast (by kernel_rfl) hx)
/-! 19: (*stevedore/inet.Bits).Get -/
def jl19 : Nat → Option JT := fun r => none
def jj19 : Nat → Option JT := fun r => none
def X19 (h : Hp) (K : V → Hp → Prop) (b : Nat) : Prop :=
  ∃ (n1 : Int), h.ld b (0 : Nat) = some (V.int IntKind.u32 n1) ∧ ∃ (n2 : Int), h.ld b (1 : Nat) = some (V.int IntKind.u64 n2) ∧ K (V.tup [V.int IntKind.u32 n1, V.int IntKind.u64 n2]) h
theorem x19 {h : Hp} {K : V → Hp → Prop} (b : Nat) (hx : X19 h K b) : XCalls Try.prog 19 [V.ptr (some (b, (0 : Nat)))] h K :=
  XCalls.ofX tok fok mixed (JL := jl19) (JJ := jj19) Try.func19 (cast (by kernel_rfl) hx)
end Go.Vex
