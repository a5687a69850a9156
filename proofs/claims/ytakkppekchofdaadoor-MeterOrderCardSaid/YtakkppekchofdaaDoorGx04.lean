/-
  The laws' own functions as statements about data (printed by VexPrint).
  The laws' own functions (layer 4): heavy, works, filled, alike.
-/
import Derived.Test.YtakkppekchofdaaDoorVexX
import Derived.Test.YtakkppekchofdaaDoorTab04
import Derived.Test.YtakkppekchofdaaDoorVexFF
import Derived.Test.YtakkppekchofdaaDoorPx04
import Derived.Test.YtakkppekchofdaaDoorMx04
import Derived.Test.YtakkppekchofdaaDoorRx04
import Derived.KernelRfl
set_option linter.unusedVariables false
set_option linter.unusedSimpArgs false
set_option maxRecDepth 100000
namespace Go.Vex
open Go.Proofs
/-! 7: stevedore/stevedorelaw04.heavy -/
-- loop 3: stays l(0); turns n(3), i(4)
-- join 6: stays l(0); turns n(3)
def jl7 : Nat → Option JT := fun r => bif Nat.beq r 3 then some ⟨[0], [3, 4], [V.int IntKind.i64 (0 : Int), V.int IntKind.i64 (0 : Int)]⟩ else none
def jj7 : Nat → Option JT := fun r => bif Nat.beq r 6 then some ⟨[0], [3], [V.int IntKind.i64 (0 : Int)]⟩ else none
def X7 (h : Hp) (K : V → Hp → Prop) (l : Option (Nat × Nat)) (l_n : Nat) (l_f : Bool) : Prop :=
  ∃ (Q1 : List V → Hp → Prop),
  (∃ (I1 : List V → Hp → Prop),
      ∃ (x1 : List V → Hp → Nat),
        ([V.slc l l_n l_f] = [V.slc l l_n l_f] ∧ I1 [V.int IntKind.i64 (0 : Int), V.int IntKind.i64 (0 : Int)] h) ∧
          ∀ (bs1 : Nat → Option V) (n1 n2 : Int) (h1 : Hp),
            I1 [V.int IntKind.i64 n1, V.int IntKind.i64 n2] h1 →
              bif ltI n2 (↑l_n : Int) then
                bif ltI n2 (500 : Int) then
                  ((0 : Int) ≤ n2 ∧ n2 < (↑l_n : Int)) ∧
                    onS l fun (i1 o1 : Nat) =>
                      ∃ (s1 : List UInt8),
                        h1.ld i1 (o1 + n2.toNat * (3 : Nat) + (0 : Nat)) = some (V.str s1) ∧
                          [V.slc l l_n l_f] = [V.slc l l_n l_f] ∧
                            I1 [V.int IntKind.i64 (IntKind.i64.wrap (n1 + (↑s1.length : Int))), V.int IntKind.i64 (IntKind.i64.wrap (n2 + (1 : Int)))] h1 ∧
                              x1 [V.int IntKind.i64 (IntKind.i64.wrap (n1 + (↑s1.length : Int))), V.int IntKind.i64 (IntKind.i64.wrap (n2 + (1 : Int)))] h1 <
                                x1 [V.int IntKind.i64 n1, V.int IntKind.i64 n2] h1
                else [V.slc l l_n l_f] = [V.slc l l_n l_f] ∧ Q1 [V.int IntKind.i64 n1] h1
              else [V.slc l l_n l_f] = [V.slc l l_n l_f] ∧ Q1 [V.int IntKind.i64 n1] h1) ∧
    ∀ (bs2 : Nat → Option V) (n3 : Int) (h2 : Hp), Q1 [V.int IntKind.i64 n3] h2 → bif ltI (200 : Int) (↑l_n : Int) then K (V.bool true) h2 else K (V.bool (ltI (8192 : Int) n3)) h2
theorem y7 (h : Hp) (K : V → Hp → Prop) (l : Option (Nat × Nat)) (l_n : Nat) (l_f : Bool) : X7 h K l l_n l_f = fnX Tryd.prog T F jl7 jj7 Tryd.f7 [V.slc l l_n l_f] h K := by kernel_rfl
theorem x7 {h : Hp} {K : V → Hp → Prop} (l : Option (Nat × Nat)) (l_n : Nat) (l_f : Bool) (hx : X7 h K l l_n l_f) : XCalls Tryd.prog 7 [V.slc l l_n l_f] h K :=
  XCalls.ofX tok fok mixed (JL := jl7) (JJ := jj7) Tryd.func7 ((y7 h K l l_n l_f) ▸ hx)
/-! 9: stevedore/stevedorelaw04.filled -/
-- loop 4: stays l(0), m(5), r(6); turns i(7)
def jl9 : Nat → Option JT := fun r => bif Nat.beq r 4 then some ⟨[0, 5, 6], [7], [V.int IntKind.i64 (0 : Int)]⟩ else none
def jj9 : Nat → Option JT := fun r => none
def X9 (h : Hp) (K : V → Hp → Prop) (l : Option (Nat × Nat)) (l_n : Nat) (l_f : Bool) : Prop :=
  XCalls Tryd.prog (17 : Nat) [] h fun (v1 : V) (h'1 : Hp) =>
  ∃ (a1 : Option (Nat × Nat)),
    v1 = V.ptr a1 ∧
      ∀ (h'2 : Hp),
        h'2 = h'1.alloc (O.row [V.slc none (0 : Nat) true] (1 : Nat) false) →
          ∃ (I1 : List V → Hp → Prop),
            ∃ (x1 : List V → Hp → Nat),
              ([V.slc l l_n l_f, V.ptr a1, V.ptr (some (h'1.next, (0 : Nat)))] = [V.slc l l_n l_f, V.ptr a1, V.ptr (some (h'1.next, (0 : Nat)))] ∧ I1 [V.int IntKind.i64 (0 : Int)] h'2) ∧
                ∀ (bs1 : Nat → Option V) (n1 : Int) (h1 : Hp),
                  I1 [V.int IntKind.i64 n1] h1 →
                    bif ltI n1 (↑l_n : Int) then
                      ((0 : Int) ≤ n1 ∧ n1 < (↑l_n : Int)) ∧
                        onS l fun (i1 o1 : Nat) =>
                          ∃ (s1 : List UInt8),
                            h1.ld i1 (o1 + n1.toNat * (3 : Nat) + (0 : Nat)) = some (V.str s1) ∧
                              ((0 : Int) ≤ n1 ∧ n1 < (↑l_n : Int)) ∧
                                onS l fun (i2 o2 : Nat) =>
                                  ∃ (n2 : Int),
                                    h1.ld i2 (o2 + n1.toNat * (3 : Nat) + (1 : Nat)) = some (V.int IntKind.i64 n2) ∧
                                      ((0 : Int) ≤ n1 ∧ n1 < (↑l_n : Int)) ∧
                                        onS l fun (i3 o3 : Nat) =>
                                          ∃ (n3 : Int),
                                            h1.ld i3 (o3 + n1.toNat * (3 : Nat) + (2 : Nat)) = some (V.int IntKind.i64 n3) ∧
                                              ((0 : Int) ≤ n1 ∧ n1 < (↑l_n : Int)) ∧
                                                onS l fun (i4 o4 : Nat) =>
                                                  ∃ (s2 : List UInt8),
                                                    h1.ld i4 (o4 + n1.toNat * (3 : Nat) + (0 : Nat)) = some (V.str s2) ∧
                                                      ((0 : Int) ≤ n1 ∧ n1 < (↑l_n : Int)) ∧
                                                        onS l fun (i5 o5 : Nat) =>
                                                          ∃ (n4 : Int),
                                                            h1.ld i5 (o5 + n1.toNat * (3 : Nat) + (1 : Nat)) = some (V.int IntKind.i64 n4) ∧
                                                              ((0 : Int) ≤ n1 ∧ n1 < (↑l_n : Int)) ∧
                                                                onS l fun (i6 o6 : Nat) =>
                                                                  ∃ (n5 : Int),
                                                                    h1.ld i6 (o6 + n1.toNat * (3 : Nat) + (2 : Nat)) = some (V.int IntKind.i64 n5) ∧
                                                                      XCalls Tryd.prog (18 : Nat) [V.ptr a1, V.str s1, V.int IntKind.i64 n2, V.int IntKind.i64 n3] h1 fun (v2 : V) (h'3 : Hp) =>
                                                                        ∃ (n6 : Int),
                                                                          v2 = V.int IntKind.i64 n6 ∧
                                                                            (∃ (n7 : Int),
                                                                                h'3.ld i6 (o6 + n1.toNat * (3 : Nat) + (2 : Nat)) = some (V.int IntKind.i64 n7) ∧
                                                                                  V.int IntKind.i64 n7 = V.int IntKind.i64 n5) ∧
                                                                              V.ptr (some (i6, o6 + n1.toNat * (3 : Nat) + (2 : Nat))) = V.ptr (some (i6, o6 + n1.toNat * (3 : Nat) + (2 : Nat))) ∧
                                                                                (((0 : Int) ≤ n1 ∧ n1 < (↑l_n : Int)) ∧
                                                                                    onS l fun (i7 o7 : Nat) =>
                                                                                      V.ptr (some (i7, o7 + n1.toNat * (3 : Nat))) = V.ptr (some (i6, o6 + n1.toNat * (3 : Nat)))) ∧
                                                                                  V.int IntKind.i64 n1 = V.int IntKind.i64 n1 ∧
                                                                                    V.slc l l_n l_f = V.slc l l_n l_f ∧
                                                                                      (∃ (n8 : Int),
                                                                                          h'3.ld i5 (o5 + n1.toNat * (3 : Nat) + (1 : Nat)) = some (V.int IntKind.i64 n8) ∧
                                                                                            V.int IntKind.i64 n8 = V.int IntKind.i64 n4) ∧
                                                                                        V.ptr (some (i5, o5 + n1.toNat * (3 : Nat) + (1 : Nat))) =
                                                                                            V.ptr (some (i5, o5 + n1.toNat * (3 : Nat) + (1 : Nat))) ∧
                                                                                          (((0 : Int) ≤ n1 ∧ n1 < (↑l_n : Int)) ∧
                                                                                              onS l fun (i8 o8 : Nat) =>
                                                                                                V.ptr (some (i8, o8 + n1.toNat * (3 : Nat))) = V.ptr (some (i5, o5 + n1.toNat * (3 : Nat)))) ∧
                                                                                            V.int IntKind.i64 n1 = V.int IntKind.i64 n1 ∧
                                                                                              V.slc l l_n l_f = V.slc l l_n l_f ∧
                                                                                                (∃ (s3 : List UInt8),
                                                                                                    h'3.ld i4 (o4 + n1.toNat * (3 : Nat) + (0 : Nat)) = some (V.str s3) ∧ V.str s3 = V.str s2) ∧
                                                                                                  V.ptr (some (i4, o4 + n1.toNat * (3 : Nat) + (0 : Nat))) =
                                                                                                      V.ptr (some (i4, o4 + n1.toNat * (3 : Nat) + (0 : Nat))) ∧
                                                                                                    (((0 : Int) ≤ n1 ∧ n1 < (↑l_n : Int)) ∧
                                                                                                        onS l fun (i9 o9 : Nat) =>
                                                                                                          V.ptr (some (i9, o9 + n1.toNat * (3 : Nat))) = V.ptr (some (i4, o4 + n1.toNat * (3 : Nat)))) ∧
                                                                                                      V.int IntKind.i64 n1 = V.int IntKind.i64 n1 ∧
                                                                                                        V.slc l l_n l_f = V.slc l l_n l_f ∧
                                                                                                          V.ptr (some (h'1.next, (0 : Nat))) = V.ptr (some (h'1.next, (0 : Nat))) ∧
                                                                                                            XCalls Tryd.prog (23 : Nat)
                                                                                                              [V.ptr (some (h'1.next, (0 : Nat))), V.str s2, V.int IntKind.i64 n4, V.int IntKind.i64 n5]
                                                                                                              h'3 fun (v3 : V) (h'4 : Hp) =>
                                                                                                              ∃ (n9 : Int),
                                                                                                                v3 = V.int IntKind.i64 n9 ∧
                                                                                                                  bif n6 != n9 then
                                                                                                                    K (V.tup [V.ptr a1, V.ptr (some (h'1.next, (0 : Nat))), V.bool false]) h'4
                                                                                                                  else
                                                                                                                    [V.slc l l_n l_f, V.ptr a1, V.ptr (some (h'1.next, (0 : Nat)))] =
                                                                                                                        [V.slc l l_n l_f, V.ptr a1, V.ptr (some (h'1.next, (0 : Nat)))] ∧
                                                                                                                      I1 [V.int IntKind.i64 (IntKind.i64.wrap (n1 + (1 : Int)))] h'4 ∧
                                                                                                                        x1 [V.int IntKind.i64 (IntKind.i64.wrap (n1 + (1 : Int)))] h'4 <
                                                                                                                          x1 [V.int IntKind.i64 n1] h1
                    else K (V.tup [V.ptr a1, V.ptr (some (h'1.next, (0 : Nat))), V.bool true]) h1
theorem y9 (h : Hp) (K : V → Hp → Prop) (l : Option (Nat × Nat)) (l_n : Nat) (l_f : Bool) : X9 h K l l_n l_f = fnX Tryd.prog T F jl9 jj9 Tryd.f9 [V.slc l l_n l_f] h K := by kernel_rfl
theorem x9 {h : Hp} {K : V → Hp → Prop} (l : Option (Nat × Nat)) (l_n : Nat) (l_f : Bool) (hx : X9 h K l l_n l_f) : XCalls Tryd.prog 9 [V.slc l l_n l_f] h K :=
  XCalls.ofX tok fok mixed (JL := jl9) (JJ := jj9) Tryd.func9 ((y9 h K l l_n l_f) ▸ hx)
/-! 10: stevedore/stevedorelaw04.alike -/
-- loop 5: stays m(0), r(1), l(5); turns i(6)
def jl10 : Nat → Option JT := fun r => bif Nat.beq r 5 then some ⟨[0, 1, 5], [6], [V.int IntKind.i64 (0 : Int)]⟩ else none
def jj10 : Nat → Option JT := fun r => none
def X10 (h : Hp) (K : V → Hp → Prop) (m : Nat) (r : Nat) : Prop :=
  XCalls Tryd.prog (19 : Nat) [V.ptr (some (m, (0 : Nat)))] h fun (v1 : V) (h'1 : Hp) =>
  ∃ (a1 : Option (Nat × Nat)),
    ∃ (n1 : Nat),
      ∃ (f1 : Bool),
        v1 = V.slc a1 n1 f1 ∧
          ∃ (a2 : Option (Nat × Nat)),
            ∃ (n2 : Nat),
              ∃ (f2 : Bool),
                h'1.ld r (0 : Nat) = some (V.slc a2 n2 f2) ∧
                  bif (↑n1 : Int) != (↑n2 : Int) then K (V.bool false) h'1
                  else
                    ∃ (I1 : List V → Hp → Prop),
                      ∃ (x1 : List V → Hp → Nat),
                        ([V.ptr (some (m, (0 : Nat))), V.ptr (some (r, (0 : Nat))), V.slc a1 n1 f1] = [V.ptr (some (m, (0 : Nat))), V.ptr (some (r, (0 : Nat))), V.slc a1 n1 f1] ∧
                            I1 [V.int IntKind.i64 (0 : Int)] h'1) ∧
                          ∀ (bs1 : Nat → Option V) (n3 : Int) (h1 : Hp),
                            I1 [V.int IntKind.i64 n3] h1 →
                              bif ltI n3 (↑n1 : Int) then
                                ((0 : Int) ≤ n3 ∧ n3 < (↑n1 : Int)) ∧
                                  onS a1 fun (i1 o1 : Nat) =>
                                    ∃ (s1 : List UInt8),
                                      ∃ (n4 : Int),
                                        ∃ (n5 : Int),
                                          h1.lda i1 (o1 + n3.toNat * (3 : Nat)) (3 : Nat) = some (V.agg [V.str s1, V.int IntKind.i64 n4, V.int IntKind.i64 n5]) ∧
                                            ∃ (a3 : Option (Nat × Nat)),
                                              ∃ (n6 : Nat),
                                                ∃ (f3 : Bool),
                                                  h1.ld r (0 : Nat) = some (V.slc a3 n6 f3) ∧
                                                    ((0 : Int) ≤ n3 ∧ n3 < (↑n6 : Int)) ∧
                                                      onS a3 fun (i2 o2 : Nat) =>
                                                        ∃ (s2 : List UInt8),
                                                          ∃ (n7 : Int),
                                                            ∃ (n8 : Int),
                                                              h1.lda i2 (o2 + n3.toNat * (3 : Nat)) (3 : Nat) = some (V.agg [V.str s2, V.int IntKind.i64 n7, V.int IntKind.i64 n8]) ∧
                                                                bif !(s1 == s2 && (n4 == n7 && (n5 == n8 && true))) then K (V.bool false) h1
                                                                else
                                                                  ((0 : Int) ≤ n3 ∧ n3 < (↑n1 : Int)) ∧
                                                                    onS a1 fun (i3 o3 : Nat) =>
                                                                      ∃ (s3 : List UInt8),
                                                                        h1.ld i3 (o3 + n3.toNat * (3 : Nat) + (0 : Nat)) = some (V.str s3) ∧
                                                                          ((0 : Int) ≤ n3 ∧ n3 < (↑n1 : Int)) ∧
                                                                            onS a1 fun (i4 o4 : Nat) =>
                                                                              ∃ (n9 : Int),
                                                                                h1.ld i4 (o4 + n3.toNat * (3 : Nat) + (1 : Nat)) = some (V.int IntKind.i64 n9) ∧
                                                                                  ((0 : Int) ≤ n3 ∧ n3 < (↑n1 : Int)) ∧
                                                                                    onS a1 fun (i5 o5 : Nat) =>
                                                                                      ∃ (n10 : Int),
                                                                                        h1.ld i5 (o5 + n3.toNat * (3 : Nat) + (2 : Nat)) = some (V.int IntKind.i64 n10) ∧
                                                                                          XCalls Tryd.prog (13 : Nat) [V.ptr (some (m, (0 : Nat))), V.str s3] h1 fun (v2 : V) (h'2 : Hp) =>
                                                                                            ∃ (a4 : Nat),
                                                                                              ∃ (b1 : Nat),
                                                                                                v2 = V.cplx FloatKind.f64 a4 b1 ∧
                                                                                                  (∃ (n11 : Int),
                                                                                                      h'2.ld i5 (o5 + n3.toNat * (3 : Nat) + (2 : Nat)) = some (V.int IntKind.i64 n11) ∧
                                                                                                        V.int IntKind.i64 n11 = V.int IntKind.i64 n10) ∧
                                                                                                    V.ptr (some (i5, o5 + n3.toNat * (3 : Nat) + (2 : Nat))) =
                                                                                                        V.ptr (some (i5, o5 + n3.toNat * (3 : Nat) + (2 : Nat))) ∧
                                                                                                      (((0 : Int) ≤ n3 ∧ n3 < (↑n1 : Int)) ∧
                                                                                                          onS a1 fun (i6 o6 : Nat) =>
                                                                                                            V.ptr (some (i6, o6 + n3.toNat * (3 : Nat))) =
                                                                                                              V.ptr (some (i5, o5 + n3.toNat * (3 : Nat)))) ∧
                                                                                                        V.int IntKind.i64 n3 = V.int IntKind.i64 n3 ∧
                                                                                                          V.slc a1 n1 f1 = V.slc a1 n1 f1 ∧
                                                                                                            (∃ (n12 : Int),
                                                                                                                h'2.ld i4 (o4 + n3.toNat * (3 : Nat) + (1 : Nat)) = some (V.int IntKind.i64 n12) ∧
                                                                                                                  V.int IntKind.i64 n12 = V.int IntKind.i64 n9) ∧
                                                                                                              V.ptr (some (i4, o4 + n3.toNat * (3 : Nat) + (1 : Nat))) =
                                                                                                                  V.ptr (some (i4, o4 + n3.toNat * (3 : Nat) + (1 : Nat))) ∧
                                                                                                                (((0 : Int) ≤ n3 ∧ n3 < (↑n1 : Int)) ∧
                                                                                                                    onS a1 fun (i7 o7 : Nat) =>
                                                                                                                      V.ptr (some (i7, o7 + n3.toNat * (3 : Nat))) =
                                                                                                                        V.ptr (some (i4, o4 + n3.toNat * (3 : Nat)))) ∧
                                                                                                                  V.int IntKind.i64 n3 = V.int IntKind.i64 n3 ∧
                                                                                                                    V.slc a1 n1 f1 = V.slc a1 n1 f1 ∧
                                                                                                                      XCalls Tryd.prog (12 : Nat)
                                                                                                                        [V.cplx FloatKind.f64 a4 b1, V.int IntKind.i64 n9, V.int IntKind.i64 n10] h'2
                                                                                                                        fun (v3 : V) (h'3 : Hp) =>
                                                                                                                        ∃ (b2 : Bool),
                                                                                                                          v3 = V.bool b2 ∧
                                                                                                                            bif !b2 then K (V.bool false) h'3
                                                                                                                            else
                                                                                                                              [V.ptr (some (m, (0 : Nat))), V.ptr (some (r, (0 : Nat))),
                                                                                                                                    V.slc a1 n1 f1] =
                                                                                                                                  [V.ptr (some (m, (0 : Nat))), V.ptr (some (r, (0 : Nat))),
                                                                                                                                    V.slc a1 n1 f1] ∧
                                                                                                                                I1 [V.int IntKind.i64 (IntKind.i64.wrap (n3 + (1 : Int)))] h'3 ∧
                                                                                                                                  x1 [V.int IntKind.i64 (IntKind.i64.wrap (n3 + (1 : Int)))] h'3 <
                                                                                                                                    x1 [V.int IntKind.i64 n3] h1
                              else
                                XCalls Tryd.prog (24 : Nat) [V.ptr (some (r, (0 : Nat)))] h1 fun (v4 : V) (h'4 : Hp) =>
                                  ∃ (n13 : Int),
                                    ∃ (n14 : Int),
                                      v4 = V.tup [V.int IntKind.i64 n13, V.int IntKind.i64 n14] ∧
                                        XCalls Tryd.prog (20 : Nat) [V.ptr (some (m, (0 : Nat)))] h'4 fun (v5 : V) (h'5 : Hp) =>
                                          ∃ (a5 : Nat),
                                            ∃ (b3 : Nat),
                                              v5 = V.cplx FloatKind.f64 a5 b3 ∧
                                                XCalls Tryd.prog (12 : Nat) [V.cplx FloatKind.f64 a5 b3, V.int IntKind.i64 n13, V.int IntKind.i64 n14] h'5 fun (v6 : V) (h'6 : Hp) =>
                                                  ∃ (b4 : Bool), v6 = V.bool b4 ∧ K (V.bool b4) h'6
theorem y10 (h : Hp) (K : V → Hp → Prop) (m : Nat) (r : Nat) : X10 h K m r = fnX Tryd.prog T F jl10 jj10 Tryd.f10 [V.ptr (some (m, (0 : Nat))), V.ptr (some (r, (0 : Nat)))] h K := by kernel_rfl
theorem x10 {h : Hp} {K : V → Hp → Prop} (m : Nat) (r : Nat) (hx : X10 h K m r) : XCalls Tryd.prog 10 [V.ptr (some (m, (0 : Nat))), V.ptr (some (r, (0 : Nat)))] h K :=
  XCalls.ofX tok fok mixed (JL := jl10) (JJ := jj10) Tryd.func10 ((y10 h K m r) ▸ hx)
/-! 3: stevedore/stevedorelaw04.MeterPlays -/
def jl3 : Nat → Option JT := fun r => none
def jj3 : Nat → Option JT := fun r => none
def X3 (h : Hp) (K : V → Hp → Prop) (l : Option (Nat × Nat)) (l_n : Nat) (l_f : Bool) (name : List UInt8) : Prop :=
  XCalls Tryd.prog (7 : Nat) [V.slc l l_n l_f] h fun (v1 : V) (h'1 : Hp) =>
  ∃ (b1 : Bool),
    v1 = V.bool b1 ∧
      bif b1 then XCalls Tryd.prog (8 : Nat) [] h'1 fun (v2 : V) (h'2 : Hp) => ∃ (b2 : Bool), v2 = V.bool b2 ∧ K (V.bool b2) h'2
      else
        bif ltI (1024 : Int) (↑name.length : Int) then XCalls Tryd.prog (8 : Nat) [] h'1 fun (v3 : V) (h'3 : Hp) => ∃ (b3 : Bool), v3 = V.bool b3 ∧ K (V.bool b3) h'3
        else
          XCalls Tryd.prog (9 : Nat) [V.slc l l_n l_f] h'1 fun (v4 : V) (h'4 : Hp) =>
            ∃ (a1 : Option (Nat × Nat)),
              ∃ (a2 : Option (Nat × Nat)),
                ∃ (b4 : Bool),
                  v4 = V.tup [V.ptr a1, V.ptr a2, V.bool b4] ∧
                    bif !b4 then K (V.bool false) h'4
                    else
                      XCalls Tryd.prog (10 : Nat) [V.ptr a1, V.ptr a2] h'4 fun (v5 : V) (h'5 : Hp) =>
                        ∃ (b5 : Bool),
                          v5 = V.bool b5 ∧
                            bif !b5 then K (V.bool false) h'5
                            else
                              XCalls Tryd.prog (11 : Nat) [V.ptr a2, V.str name] h'5 fun (v6 : V) (h'6 : Hp) =>
                                ∃ (n1 : Int),
                                  v6 = V.int IntKind.i64 n1 ∧
                                    bif !ltI n1 (0 : Int) then XCalls Tryd.prog (8 : Nat) [] h'6 fun (v7 : V) (h'7 : Hp) => ∃ (b6 : Bool), v7 = V.bool b6 ∧ K (V.bool b6) h'7
                                    else
                                      XCalls Tryd.prog (13 : Nat) [V.ptr a1, V.str name] h'6 fun (v8 : V) (h'8 : Hp) =>
                                        ∃ (a3 : Nat),
                                          ∃ (b7 : Nat),
                                            v8 = V.cplx FloatKind.f64 a3 b7 ∧
                                              XCalls Tryd.prog (12 : Nat) [V.cplx FloatKind.f64 a3 b7, V.int IntKind.i64 (0 : Int), V.int IntKind.i64 (0 : Int)] h'8 fun (v9 : V) (h'9 : Hp) =>
                                                ∃ (b8 : Bool),
                                                  v9 = V.bool b8 ∧
                                                    bif b8 then XCalls Tryd.prog (8 : Nat) [] h'9 fun (v10 : V) (h'10 : Hp) => ∃ (b9 : Bool), v10 = V.bool b9 ∧ K (V.bool b9) h'10
                                                    else K (V.bool false) h'9
theorem y3 (h : Hp) (K : V → Hp → Prop) (l : Option (Nat × Nat)) (l_n : Nat) (l_f : Bool) (name : List UInt8) : X3 h K l l_n l_f name = fnX Tryd.prog T F jl3 jj3 Tryd.f3 [V.slc l l_n l_f, V.str name] h K := by kernel_rfl
theorem x3 {h : Hp} {K : V → Hp → Prop} (l : Option (Nat × Nat)) (l_n : Nat) (l_f : Bool) (name : List UInt8) (hx : X3 h K l l_n l_f name) : XCalls Tryd.prog 3 [V.slc l l_n l_f, V.str name] h K :=
  XCalls.ofX tok fok mixed (JL := jl3) (JJ := jj3) Tryd.func3 ((y3 h K l l_n l_f name) ▸ hx)
end Go.Vex
namespace Go.Vex.Mtr
open Go.Proofs Fl

theorem works_ev : (ev Vex.T Vex.F (fun _ => []) 100000).call 8 [] h0 isT = true := by kernel_rfl

theorem works_spec {h : Hp} {K : V → Hp → Prop} (hk : ∀ h', K (.bool true) h') : XCalls Tryd.prog 8 [] h K :=
  (XCalls.fresh (K := fun v => v = .bool true) rfl (fun v hv => by subst hv; rfl) (XCalls.ev tok fok mixed (fun _ => []) 100000 works_ev fun _ _ hv => isT_spec hv)).mono fun v h' hv => by rw [hv.1]; exact hk h'

abbrev St := Nm × Int × Int
def sRow (x : St) : List V := [.str x.1, .int .i64 x.2.1, .int .i64 x.2.2]
def stepZ : List V := [.str [], .int .i64 0, .int .i64 0]

theorem steps_of : ∀ {rows : List (List V)}, (∀ r ∈ rows, shpBs stepZ r = true) → ∃ Ss : List St, rows = Ss.map sRow
  | [], _ => ⟨[], rfl⟩
  | r :: rows, h => by
    obtain ⟨Ss, rfl⟩ := steps_of (rows := rows) fun x hx => h x (List.mem_cons_of_mem _ hx)
    have h1 := h r (List.mem_cons_self ..)
    rcases r with _ | ⟨v1, _ | ⟨v2, _ | ⟨v3, _ | ⟨v4, r⟩⟩⟩⟩ <;> simp only [stepZ, shpBs, Bool.and_eq_true, and_true, Bool.false_eq_true, and_false] at h1
    obtain ⟨e1, e2, e3⟩ := h1
    cases v1 <;> simp [shpB] at e1
    cases v2 <;> simp [shpB] at e2
    cases v3 <;> simp [shpB] at e3
    subst e2 e3
    exact ⟨(_, _, _) :: Ss, rfl⟩

theorem sRow_len (Ss : List St) : ∀ r ∈ Ss.map sRow, r.length = 3 := fun r hr => by
  obtain ⟨x, _, rfl⟩ := List.mem_map.1 hr; rfl

def play (R : List Row) (Ss : List St) : List Row := Ss.foldl (fun R x => (addR R x.1 x.2.1 x.2.2).2) R

theorem play_snoc (R : List Row) (Ss : List St) {i : Nat} {x : St} (h : Ss[i]? = some x) : play R (Ss.take (i + 1)) = (addR (play R (Ss.take i)) x.1 x.2.1 x.2.2).2 := by
  unfold play
  rw [List.take_add_one, h, List.foldl_append]; rfl

theorem play_good : ∀ (Ss : List St) {R : List Row}, Good R → Good (play R Ss)
  | [], _, g => g
  | x :: Ss, _, g => play_good Ss (addR_good g _ _ _)

section
variable {g0 h : Hp} {a : Option (Nat × Nat)} {n : Nat} {f : Bool} {Ss : List St}

theorem heavy_spec (ha : RoSlc g0 a n (Ss.map sRow) 3) (hk : g0.keeps h) (hn : n ≤ 9223372036854775806) :
    XCalls Tryd.prog 7 [.slc a n f] h fun v h' => (∃ b : Bool, v = .bool b ∧ (b = false → n ≤ 200)) ∧ h' = h := by
  refine XCalls.cps fun K hK => ?_
  have hl : Ss.length = n := by have := ha.1; simpa using this
  apply x7; unfold X7
  refine ⟨fun vs g' => (∃ x, vs = [.int .i64 x]) ∧ g' = h, ⟨fun vs g' => match vs with
    | [.int _ _, .int _ k] => ∃ i : Nat, k = (i : Int) ∧ i ≤ n ∧ g' = h
    | _ => False, fun vs _ => match vs with
    | [_, .int _ k] => ((n : Int) - k).toNat
    | _ => 0, ⟨rfl, 0, rfl, by omega, rfl⟩, ?_⟩, ?_⟩
  · rintro bs x k g1 ⟨i, rfl, hi, rfl⟩
    cases hc : ltI (i : Int) (n : Int) with
    | false => exact ⟨rfl, ⟨x, rfl⟩, rfl⟩
    | true =>
      rw [ltI_eq, decide_eq_true_eq] at hc
      cases hc2 : ltI (i : Int) 500 with
      | false => exact ⟨rfl, ⟨x, rfl⟩, rfl⟩
      | true =>
        obtain ⟨q, r, rfl, hr, hld, _⟩ := ha.ld hk (k := i) (by omega) (sRow_len Ss)
        obtain ⟨y, hy⟩ : ∃ y, Ss[i]? = some y := ⟨_, List.getElem?_eq_getElem (by omega)⟩
        rw [List.getElem?_map, hy] at hr
        obtain rfl := Option.some.inj hr
        refine ⟨⟨by omega, hc⟩, y.1, by rw [Int.toNat_natCast, hld 0 (by omega)]; rfl, rfl, ⟨i + 1, ?_, by omega, rfl⟩, ?_⟩
        · rw [wr (by omega) (by omega)]; rfl
        · show ((n : Int) - IntKind.i64.wrap ((i : Int) + 1)).toNat < ((n : Int) - (i : Int)).toNat
          rw [wr (by omega) (by omega)]; omega
  · rintro bs x g1 ⟨⟨y, hy⟩, rfl⟩
    cases hc : ltI 200 (n : Int) with
    | true => exact hK _ _ ⟨⟨true, rfl, fun h => by cases h⟩, rfl⟩
    | false =>
      rw [ltI_eq, decide_eq_false_iff_not] at hc
      exact hK _ _ ⟨⟨_, rfl, fun _ => by omega⟩, rfl⟩

theorem filled_spec (ha : RoSlc g0 a n (Ss.map sRow) 3) (hk : g0.keeps h) (hw : h.wf) (hn : n ≤ 200) :
    XCalls Tryd.prog 9 [.slc a n f] h fun v h' => ∃ p q F Fr, v = .tup [.ptr (some (p, 0)), .ptr (some (q, 0)), .bool true] ∧ MtR p (play [] Ss) h' F ∧ RfR q (play [] Ss) h' Fr ∧ Quiet h h' ∧ (∀ j ∈ F, h.next ≤ j) ∧ (∀ j ∈ Fr, h.next ≤ j) ∧ ∀ j ∈ F, j ∉ Fr := by
  refine XCalls.cps fun K hK => ?_
  have hl : Ss.length = n := by have := ha.1; simpa using this
  apply x9; unfold X9
  refine (new_spec hw).mono ?_
  rintro _ h1 ⟨rfl, m1, q1, n1⟩
  refine ⟨_, rfl, ?_⟩
  rintro h2 rfl
  have q2 := Quiet.alloc q1.wf (.row [.slc none 0 true] 1 false)
  have m2 : MtR (h.next + 1) [] (h1.alloc (.row [.slc none 0 true] 1 false)) [h.next + 1, h.next] := (MtR.rep _ _).loc _ _ _ (fun j hj => q2.same j ((MtR.rep _ _).lt q1.wf m1 hj)) m1
  have r2 : RfR h1.next [] (h1.alloc (.row [.slc none 0 true] 1 false)) [h1.next] := ⟨none, true, [], rfl, by simp, Hp.get_alloc_self, Own.nil 3 _⟩
  generalize h1.alloc (.row [.slc none 0 true] 1 false) = h2 at *
  refine ⟨fun vs g' => match vs with
    | [.int _ k] => ∃ (i : Nat) (Fr : List Nat), k = (i : Int) ∧ i ≤ n ∧ Quiet h g' ∧ MtR (h.next + 1) (play [] (Ss.take i)) g' [h.next + 1, h.next] ∧ RfR h1.next (play [] (Ss.take i)) g' Fr ∧ (∀ j ∈ Fr, h.next + 2 ≤ j)
    | _ => False, fun vs _ => match vs with
    | [.int _ k] => ((n : Int) - k).toNat
    | _ => 0, ⟨rfl, 0, _, rfl, by omega, q1.trans q2, m2, r2, fun j hj => by rw [List.mem_singleton] at hj; omega⟩, ?_⟩
  rintro bs k g1 ⟨i, Fr, rfl, hi, q3, m3, r3, hFr⟩
  have hdis : ∀ j ∈ [h.next + 1, h.next], j ∉ Fr := fun j hj hh => by
    have := hFr j hh
    simp only [List.mem_cons, List.not_mem_nil, or_false] at hj; omega
  cases hc : ltI (i : Int) (n : Int) with
  | false =>
    rw [ltI_eq, decide_eq_false_iff_not] at hc
    obtain rfl : i = n := by omega
    rw [List.take_of_length_le (by omega)] at m3 r3
    exact hK _ _ ⟨h.next + 1, h1.next, _, Fr, rfl, m3, r3, q3, fun j hj => by simp only [List.mem_cons, List.not_mem_nil, or_false] at hj; omega, fun j hj => by have := hFr j hj; omega, hdis⟩
  | true =>
    rw [ltI_eq, decide_eq_true_eq] at hc
    have hgood : Good (play [] (Ss.take i)) := play_good _ Good.nil
    have hk1 : g0.keeps g1 := hk.stay hw q3.same
    obtain ⟨q, r, rfl, hr, hld, _⟩ := ha.ld hk1 (k := i) (by omega) (sRow_len Ss)
    obtain ⟨x, hx⟩ : ∃ x, Ss[i]? = some x := ⟨_, List.getElem?_eq_getElem (by omega)⟩
    rw [List.getElem?_map, hx] at hr
    obtain rfl := Option.some.inj hr
    have bnd : (0 : Int) ≤ (i : Int) ∧ (i : Int) < (n : Int) := ⟨by omega, hc⟩
    have l0 : g1.ld q (0 + (i : Int).toNat * 3 + 0) = some (.str x.1) := by rw [Int.toNat_natCast, hld 0 (by omega)]; rfl
    have l1 : g1.ld q (0 + (i : Int).toNat * 3 + 1) = some (.int .i64 x.2.1) := by rw [Int.toNat_natCast, hld 1 (by omega)]; rfl
    have l2 : g1.ld q (0 + (i : Int).toNat * 3 + 2) = some (.int .i64 x.2.2) := by rw [Int.toNat_natCast, hld 2 (by omega)]; rfl
    refine ⟨bnd, x.1, l0, bnd, x.2.1, l1, bnd, x.2.2, l2, bnd, x.1, l0, bnd, x.2.1, l1, bnd, x.2.2, l2, ?_⟩
    refine (add_spec q3.wf m3 hgood x.1 x.2.1 x.2.2).mono ?_
    rintro _ h3 ⟨rfl, m4, u4, n4, w4⟩
    have hk3 : g0.keeps h3 := u4.keeps (MtR.rep _ _) q3.wf m3 hk1
    obtain ⟨r4, _⟩ := u4.frame (RfR.rep _ _) q3.wf r3 hdis
    obtain ⟨q', r', e, hr', hld', _⟩ := ha.ld hk3 (k := i) (by omega) (sRow_len Ss)
    cases e
    rw [List.getElem?_map, hx] at hr'
    obtain rfl := Option.some.inj hr'
    have l0' : h3.ld q (0 + (i : Int).toNat * 3 + 0) = some (.str x.1) := by rw [Int.toNat_natCast, hld' 0 (by omega)]; rfl
    have l1' : h3.ld q (0 + (i : Int).toNat * 3 + 1) = some (.int .i64 x.2.1) := by rw [Int.toNat_natCast, hld' 1 (by omega)]; rfl
    have l2' : h3.ld q (0 + (i : Int).toNat * 3 + 2) = some (.int .i64 x.2.2) := by rw [Int.toNat_natCast, hld' 2 (by omega)]; rfl
    refine ⟨_, rfl, ⟨x.2.2, l2', rfl⟩, rfl, ⟨bnd, rfl⟩, rfl, rfl, ⟨x.2.1, l1', rfl⟩, rfl, ⟨bnd, rfl⟩, rfl, rfl, ⟨x.1, l0', rfl⟩, rfl, ⟨bnd, rfl⟩, rfl, rfl, rfl, ?_⟩
    refine (radd_spec w4 r4 hgood x.1 x.2.1 x.2.2).mono ?_
    rintro _ h5 ⟨Fr', rfl, r5, u5, w5⟩
    have hdis' : ∀ j ∈ Fr, j ∉ [h.next + 1, h.next] := fun j hj hh => hdis j hh hj
    obtain ⟨m5, _⟩ := u5.frame (MtR.rep _ _) w4 m4 hdis'
    refine ⟨_, rfl, ?_⟩
    have hb : ((addR (play [] (Ss.take i)) x.1 x.2.1 x.2.2).1 != (addR (play [] (Ss.take i)) x.1 x.2.1 x.2.2).1) = false := by simp
    rw [hb]
    have le3 := q3.le
    have le5 := u5.le
    have nlt : h.next + 2 ≤ g1.next := by have := (MtR.rep _ _).lt q3.wf m3 (show h.next + 1 ∈ [h.next + 1, h.next] by simp); omega
    refine ⟨rfl, ⟨i + 1, Fr', ?_, by omega, ⟨fun j hj => ?_, by omega, w5⟩, ?_, ?_, fun j hj => ?_⟩, ?_⟩
    · rw [wr (by omega) (by omega)]; rfl
    · rw [u5.same j (by omega) (fun hh => by have := hFr j hh; omega), u4.same j (by omega) (fun hh => by simp only [List.mem_cons, List.not_mem_nil, or_false] at hh; omega), q3.same j hj]
    · rw [play_snoc _ _ hx]; exact m5
    · rw [play_snoc _ _ hx]; exact r5
    · rcases u5.new j hj with hh | hh
      · exact hFr j hh
      · omega
    · show ((n : Int) - IntKind.i64.wrap ((i : Int) + 1)).toNat < ((n : Int) - (i : Int)).toNat
      rw [wr (by omega) (by omega)]; omega
end

section
variable {h : Hp} {p q : Nat} {R : List Row} {F Fr : List Nat}

theorem alike_spec (hw : h.wf) (hm : MtR p R h F) (hr : RfR q R h Fr) (g : Good R) :
    XCalls Tryd.prog 10 [.ptr (some (p, 0)), .ptr (some (q, 0))] h fun v h' => v = .bool true ∧ Quiet h h' := by
  refine XCalls.cps fun K hK => ?_
  have hgl := g.len
  apply x10; unfold X10
  refine (all_spec hw hm g).mono ?_
  rintro _ h1 ⟨a, f, G, rfl, ho, q1, hG⟩
  have hr1 : RfR q R h1 Fr := (RfR.rep _ _).loc _ _ _ (fun j hj => q1.same j ((RfR.rep _ _).lt hw hr hj)) hr
  have hm1 : MtR p R h1 F := (MtR.rep _ _).loc _ _ _ (fun j hj => q1.same j ((MtR.rep _ _).lt hw hm hj)) hm
  obtain ⟨b, fb, Gb, rfl, hqG, hgq, hob⟩ := hr1
  refine ⟨_, _, _, rfl, b, R.length, fb, by rw [Hp.ld_of hgq]; rfl, ?_⟩
  have hne : ((R.length : Int) != (R.length : Int)) = false := by simp
  rw [hne]
  refine ⟨fun vs g' => match vs with
    | [.int _ k] => ∃ i : Nat, k = (i : Int) ∧ i ≤ R.length ∧ g' = h1
    | _ => False, fun vs _ => match vs with
    | [.int _ k] => ((R.length : Int) - k).toNat
    | _ => 0, ⟨rfl, 0, rfl, by omega, rfl⟩, ?_⟩
  rintro bs k h1 ⟨i, rfl, hi, rfl⟩
  cases hc : ltI (i : Int) (R.length : Int) with
  | false =>
    have hr1 : RfR q R h1 (q :: Gb) := ⟨b, fb, Gb, rfl, hqG, hgq, hob⟩
    refine (rtotal_spec hr1 g).mono ?_
    rintro _ h1 ⟨rfl, rfl⟩
    refine ⟨_, _, rfl, ?_⟩
    refine (total_spec q1.wf hm1 g).mono ?_
    rintro _ h2 ⟨rfl, q2⟩
    refine ⟨_, _, rfl, ?_⟩
    obtain ⟨t1, t2⟩ := tot_le R
    refine (is_spec t1 t2).mono ?_
    rintro _ h2 ⟨rfl, rfl⟩
    exact ⟨_, rfl, hK _ _ ⟨rfl, q1.trans q2⟩⟩
  | true =>
    rw [ltI_eq, decide_eq_true_eq] at hc
    have hk : i < R.length := by omega
    have bnd : (0 : Int) ≤ (i : Int) ∧ (i : Int) < (R.length : Int) := ⟨by omega, hc⟩
    obtain ⟨u, o', r0, rfl, hr0, _, hld, hlda⟩ := ho.ld hk
    obtain ⟨u', o'', r0', rfl, hr0', _, _, hlda'⟩ := hob.ld hk
    obtain ⟨r, hrr⟩ : ∃ r, R[i]? = some r := ⟨_, List.getElem?_eq_getElem hk⟩
    rw [rws_get hrr] at hr0 hr0'
    obtain rfl := Option.some.inj hr0
    obtain rfl := Option.some.inj hr0'
    have hmem : r ∈ R := List.mem_of_getElem? hrr
    obtain ⟨b1, b2⟩ := g.bnd r hmem
    have l0 : h1.ld u (o' + (i : Int).toNat * 3 + 0) = some (.str r.1) := by rw [Int.toNat_natCast, hld 0 (by omega)]; rfl
    have l1 : h1.ld u (o' + (i : Int).toNat * 3 + 1) = some (.int .i64 r.2.1) := by rw [Int.toNat_natCast, hld 1 (by omega)]; rfl
    have l2 : h1.ld u (o' + (i : Int).toNat * 3 + 2) = some (.int .i64 r.2.2) := by rw [Int.toNat_natCast, hld 2 (by omega)]; rfl
    refine ⟨bnd, r.1, r.2.1, r.2.2, by rw [Int.toNat_natCast]; exact hlda, some (u', o''), R.length, fb, by rw [Hp.ld_of hgq]; rfl, bnd, r.1, r.2.1, r.2.2, by rw [Int.toNat_natCast]; exact hlda', ?_⟩
    have he : (!(r.1 == r.1 && ((r.2.1 : Int) == (r.2.1 : Int) && ((r.2.2 : Int) == (r.2.2 : Int) && true)))) = false := by simp
    rw [he]
    refine ⟨bnd, r.1, l0, bnd, r.2.1, l1, bnd, r.2.2, l2, ?_⟩
    refine (get_spec hm1 g r.1).mono ?_
    rintro _ h1 ⟨rfl, rfl⟩
    rw [mget_of g.nd (show (r.1, r.2) ∈ R from hmem), Option.getD_some]
    refine ⟨_, _, rfl, ⟨r.2.2, l2, rfl⟩, rfl, ⟨bnd, rfl⟩, rfl, rfl, ⟨r.2.1, l1, rfl⟩, rfl, ⟨bnd, rfl⟩, rfl, rfl, ?_⟩
    refine (is_spec b1 b2).mono ?_
    rintro _ h1 ⟨rfl, rfl⟩
    refine ⟨_, rfl, rfl, ⟨i + 1, ?_, by omega, rfl⟩, ?_⟩
    · rw [wr (by omega) (by omega)]; rfl
    · show ((R.length : Int) - IntKind.i64.wrap ((i : Int) + 1)).toNat < ((R.length : Int) - (i : Int)).toNat
      rw [wr (by omega) (by omega)]; omega
end
end Go.Vex.Mtr
