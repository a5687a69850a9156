/- The laws' own functions as statements about data (printed by VexPrint).
-/
import Derived.Test.YtakkppekchofdaaDoorVexX
import Derived.Test.YtakkppekchofdaaDoorTab04
set_option linter.unusedVariables false
set_option maxRecDepth 100000
namespace Go.Vex
open Go.Proofs
/-! 5: stevedore/stevedorelaw04.MeterOrder -/
-- loop 25: stays a(6), x(12), y(13), z(14); turns sum(15), i(16)
-- loop 10: stays l(0), at(1), a(6), b(7), c(8), d(9); turns i(10)
-- loop 4: stays l(0), at(1); turns i(5)
def jl5 : Nat → Option JT := fun r => bif Nat.beq r 25 then some ⟨[6, 12, 13, 14], [15, 16], [V.cplx FloatKind.f64 (0 : Nat) (0 : Nat), V.int IntKind.i64 (0 : Int)]⟩ else bif Nat.beq r 10 then some ⟨[0, 1, 6, 7, 8, 9], [10], [V.int
  IntKind.i64 (0 : Int)]⟩ else bif Nat.beq r 4 then some ⟨[0, 1], [5], [V.int IntKind.i64 (0 : Int)]⟩ else none
def jj5 : Nat → Option JT := fun r => none
def X5 (h : Hp) (K : V → Hp → Prop) (l : Option (Nat × Nat)) (l_n : Nat) (l_f : Bool) (a1 : Int) : Prop := XCalls Tryd.prog (7 : Nat) [V.slc l l_n l_f] h fun (v1 : V) (h'1 : Hp) => ∃ (b1 : Bool), v1 = V.bool b1 ∧ bif b1 then XCalls Tryd.prog
  (8 : Nat) [] h'1 fun (v2 : V) (h'2 : Hp) => ∃ (b2 : Bool), v2 = V.bool b2 ∧ K (V.bool b2) h'2 else bif ltI (50 : Int) (↑l_n : Int) then XCalls Tryd.prog (8 : Nat) [] h'1 fun (v3 : V) (h'3 : Hp) => ∃ (b3 : Bool), v3 = V.bool b3 ∧ K (V.bool
  b3) h'3 else ∃ (I1 : List V → Hp → Prop), ∃ (x1 : List V → Hp → Nat), ([V.slc l l_n l_f, V.int IntKind.u8 a1] = [V.slc l l_n l_f, V.int IntKind.u8 a1] ∧ I1 [V.int IntKind.i64 (0 : Int)] h'1) ∧ ∀ (bs1 : Nat → Option V) (n1 : Int) (h1 : Hp),
  I1 [V.int IntKind.i64 n1] h1 → bif ltI n1 (↑l_n : Int) then ((0 : Int) ≤ n1 ∧ n1 < (↑l_n : Int)) ∧ onS l fun (i1 o1 : Nat) => ∃ (n2 : Int), h1.ld i1 (o1 + n1.toNat * (3 : Nat) + (1 : Nat)) = some (V.int IntKind.i64 n2) ∧ bif ltI
  (1099511627776 : Int) n2 then XCalls Tryd.prog (8 : Nat) [] h1 fun (v4 : V) (h'4 : Hp) => ∃ (b4 : Bool), v4 = V.bool b4 ∧ K (V.bool b4) h'4 else ((0 : Int) ≤ n1 ∧ n1 < (↑l_n : Int)) ∧ onS l fun (i2 o2 : Nat) => ∃ (n3 : Int), h1.ld i2 (o2 +
  n1.toNat * (3 : Nat) + (2 : Nat)) = some (V.int IntKind.i64 n3) ∧ bif ltI (1099511627776 : Int) n3 then XCalls Tryd.prog (8 : Nat) [] h1 fun (v5 : V) (h'5 : Hp) => ∃ (b5 : Bool), v5 = V.bool b5 ∧ K (V.bool b5) h'5 else ((0 : Int) ≤ n1 ∧ n1
  < (↑l_n : Int)) ∧ onS l fun (i3 o3 : Nat) => ∃ (s1 : List UInt8), h1.ld i3 (o3 + n1.toNat * (3 : Nat) + (0 : Nat)) = some (V.str s1) ∧ XCalls Tryd.prog (16 : Nat) [V.str s1] h1 fun (v6 : V) (h'6 : Hp) => ∃ (b6 : Bool), v6 = V.bool b6 ∧ bif
  !b6 then XCalls Tryd.prog (8 : Nat) [] h'6 fun (v7 : V) (h'7 : Hp) => ∃ (b7 : Bool), v7 = V.bool b7 ∧ K (V.bool b7) h'7 else [V.slc l l_n l_f, V.int IntKind.u8 a1] = [V.slc l l_n l_f, V.int IntKind.u8 a1] ∧ I1 [V.int IntKind.i64
  (IntKind.i64.wrap (n1 + (1 : Int)))] h'6 ∧ x1 [V.int IntKind.i64 (IntKind.i64.wrap (n1 + (1 : Int)))] h'6 < x1 [V.int IntKind.i64 n1] h1 else XCalls Tryd.prog (17 : Nat) [] h1 fun (v8 : V) (h'8 : Hp) => ∃ (a1_1 : Option (Nat × Nat)), v8 =
  V.ptr a1_1 ∧ XCalls Tryd.prog (17 : Nat) [] h'8 fun (v9 : V) (h'9 : Hp) => ∃ (a2 : Option (Nat × Nat)), v9 = V.ptr a2 ∧ XCalls Tryd.prog (17 : Nat) [] h'9 fun (v10 : V) (h'10 : Hp) => ∃ (a3 : Option (Nat × Nat)), v10 = V.ptr a3 ∧ XCalls
  Tryd.prog (17 : Nat) [] h'10 fun (v11 : V) (h'11 : Hp) => ∃ (a4 : Option (Nat × Nat)), v11 = V.ptr a4 ∧ ∃ (I2 : List V → Hp → Prop), ∃ (x2 : List V → Hp → Nat), ([V.slc l l_n l_f, V.int IntKind.u8 a1, V.ptr a1_1, V.ptr a2, V.ptr a3, V.ptr
  a4] = [V.slc l l_n l_f, V.int IntKind.u8 a1, V.ptr a1_1, V.ptr a2, V.ptr a3, V.ptr a4] ∧ I2 [V.int IntKind.i64 (0 : Int)] h'11) ∧ ∀ (bs2 : Nat → Option V) (n4 : Int) (h2 : Hp), I2 [V.int IntKind.i64 n4] h2 → bif ltI n4 (↑l_n : Int) then
  ((0 : Int) ≤ IntKind.i64.wrap (IntKind.i64.wrap ((↑l_n : Int) - (1 : Int)) - n4) ∧ IntKind.i64.wrap (IntKind.i64.wrap ((↑l_n : Int) - (1 : Int)) - n4) < (↑l_n : Int)) ∧ onS l fun (i4 o4 : Nat) => ∃ (s2 : List UInt8), ∃ (n5 : Int), ∃ (n6 :
  Int), h2.lda i4 (o4 + (IntKind.i64.wrap (IntKind.i64.wrap ((↑l_n : Int) - (1 : Int)) - n4)).toNat * (3 : Nat)) (3 : Nat) = some (V.agg [V.str s2, V.int IntKind.i64 n5, V.int IntKind.i64 n6]) ∧ ∀ (h'12 : Hp), h'12 = h2.alloc (O.row [V.str
  [], V.int IntKind.i64 (0 : Int), V.int IntKind.i64 (0 : Int)] (1 : Nat) false) → ∃ (h'13 : Hp), h'12.st h2.next (0 : Nat) [V.str s2, V.int IntKind.i64 n5, V.int IntKind.i64 n6] = some h'13 ∧ ((0 : Int) ≤ n4 ∧ n4 < (↑l_n : Int)) ∧ onS l fun
  (i5 o5 : Nat) => ∃ (s3 : List UInt8), h'13.ld i5 (o5 + n4.toNat * (3 : Nat) + (0 : Nat)) = some (V.str s3) ∧ ((0 : Int) ≤ n4 ∧ n4 < (↑l_n : Int)) ∧ onS l fun (i6 o6 : Nat) => ∃ (n7 : Int), h'13.ld i6 (o6 + n4.toNat * (3 : Nat) + (1 : Nat))
  = some (V.int IntKind.i64 n7) ∧ ((0 : Int) ≤ n4 ∧ n4 < (↑l_n : Int)) ∧ onS l fun (i7 o7 : Nat) => ∃ (n8 : Int), h'13.ld i7 (o7 + n4.toNat * (3 : Nat) + (2 : Nat)) = some (V.int IntKind.i64 n8) ∧ XCalls Tryd.prog (18 : Nat) [V.ptr a1_1,
  V.str s3, V.int IntKind.i64 n7, V.int IntKind.i64 n8] h'13 fun (v12 : V) (h'14 : Hp) => ∃ (n9 : Int), v12 = V.int IntKind.i64 n9 ∧ ∃ (s4 : List UInt8), h'14.ld h2.next (0 : Nat) = some (V.str s4) ∧ ∃ (n10 : Int), h'14.ld h2.next (1 : Nat)
  = some (V.int IntKind.i64 n10) ∧ ∃ (n11 : Int), h'14.ld h2.next (2 : Nat) = some (V.int IntKind.i64 n11) ∧ XCalls Tryd.prog (18 : Nat) [V.ptr a2, V.str s4, V.int IntKind.i64 n10, V.int IntKind.i64 n11] h'14 fun (v13 : V) (h'15 : Hp) => ∃
  (n12 : Int), v13 = V.int IntKind.i64 n12 ∧ ¬IntKind.i64.wrap ((↑l_n : Int) + (1 : Int)) = (0 : Int) ∧ bif ltI n4 ((IntKind.i64.wrap a1).tmod (IntKind.i64.wrap ((↑l_n : Int) + (1 : Int)))) then ((0 : Int) ≤ n4 ∧ n4 < (↑l_n : Int)) ∧ onS l
  fun (i8 o8 : Nat) => ∃ (s5 : List UInt8), h'15.ld i8 (o8 + n4.toNat * (3 : Nat) + (0 : Nat)) = some (V.str s5) ∧ ((0 : Int) ≤ n4 ∧ n4 < (↑l_n : Int)) ∧ onS l fun (i9 o9 : Nat) => ∃ (n13 : Int), h'15.ld i9 (o9 + n4.toNat * (3 : Nat) + (1 :
  Nat)) = some (V.int IntKind.i64 n13) ∧ ((0 : Int) ≤ n4 ∧ n4 < (↑l_n : Int)) ∧ onS l fun (i10 o10 : Nat) => ∃ (n14 : Int), h'15.ld i10 (o10 + n4.toNat * (3 : Nat) + (2 : Nat)) = some (V.int IntKind.i64 n14) ∧ XCalls Tryd.prog (18 : Nat)
  [V.ptr a3, V.str s5, V.int IntKind.i64 n13, V.int IntKind.i64 n14] h'15 fun (v14 : V) (h'16 : Hp) => ∃ (n15 : Int), v14 = V.int IntKind.i64 n15 ∧ [V.slc l l_n l_f, V.int IntKind.u8 a1, V.ptr a1_1, V.ptr a2, V.ptr a3, V.ptr a4] = [V.slc l
  l_n l_f, V.int IntKind.u8 a1, V.ptr a1_1, V.ptr a2, V.ptr a3, V.ptr a4] ∧ I2 [V.int IntKind.i64 (IntKind.i64.wrap (n4 + (1 : Int)))] h'16 ∧ x2 [V.int IntKind.i64 (IntKind.i64.wrap (n4 + (1 : Int)))] h'16 < x2 [V.int IntKind.i64 n4] h2 else
  ((0 : Int) ≤ n4 ∧ n4 < (↑l_n : Int)) ∧ onS l fun (i11 o11 : Nat) => ∃ (s6 : List UInt8), h'15.ld i11 (o11 + n4.toNat * (3 : Nat) + (0 : Nat)) = some (V.str s6) ∧ ((0 : Int) ≤ n4 ∧ n4 < (↑l_n : Int)) ∧ onS l fun (i12 o12 : Nat) => ∃ (n16 :
  Int), h'15.ld i12 (o12 + n4.toNat * (3 : Nat) + (1 : Nat)) = some (V.int IntKind.i64 n16) ∧ ((0 : Int) ≤ n4 ∧ n4 < (↑l_n : Int)) ∧ onS l fun (i13 o13 : Nat) => ∃ (n17 : Int), h'15.ld i13 (o13 + n4.toNat * (3 : Nat) + (2 : Nat)) = some
  (V.int IntKind.i64 n17) ∧ XCalls Tryd.prog (18 : Nat) [V.ptr a4, V.str s6, V.int IntKind.i64 n16, V.int IntKind.i64 n17] h'15 fun (v15 : V) (h'17 : Hp) => ∃ (n18 : Int), v15 = V.int IntKind.i64 n18 ∧ [V.slc l l_n l_f, V.int IntKind.u8 a1,
  V.ptr a1_1, V.ptr a2, V.ptr a3, V.ptr a4] = [V.slc l l_n l_f, V.int IntKind.u8 a1, V.ptr a1_1, V.ptr a2, V.ptr a3, V.ptr a4] ∧ I2 [V.int IntKind.i64 (IntKind.i64.wrap (n4 + (1 : Int)))] h'17 ∧ x2 [V.int IntKind.i64 (IntKind.i64.wrap (n4 +
  (1 : Int)))] h'17 < x2 [V.int IntKind.i64 n4] h2 else ∀ (h'18 : Hp), h'18 = h2.alloc (O.row [V.ptr a3] (1 : Nat) false) → XCalls Tryd.prog (14 : Nat) [V.ptr a4, V.slc (some (h2.next, (0 : Nat))) (1 : Nat) true] h'18 fun (v16 : V) (h'19 :
  Hp) => ∃ (n19 : Int), v16 = V.int IntKind.i64 n19 ∧ bif n19 != (0 : Int) then K (V.bool false) h'19 else XCalls Tryd.prog (19 : Nat) [V.ptr a1_1] h'19 fun (v17 : V) (h'20 : Hp) => ∃ (a5 : Option (Nat × Nat)), ∃ (n20 : Nat), ∃ (f1 : Bool),
  v17 = V.slc a5 n20 f1 ∧ XCalls Tryd.prog (19 : Nat) [V.ptr a2] h'20 fun (v18 : V) (h'21 : Hp) => ∃ (a6 : Option (Nat × Nat)), ∃ (n21 : Nat), ∃ (f2 : Bool), v18 = V.slc a6 n21 f2 ∧ XCalls Tryd.prog (19 : Nat) [V.ptr a4] h'21 fun (v19 : V)
  (h'22 : Hp) => ∃ (a7 : Option (Nat × Nat)), ∃ (n22 : Nat), ∃ (f3 : Bool), v19 = V.slc a7 n22 f3 ∧ bif (↑n20 : Int) != (↑n21 : Int) then K (V.bool false) h'22 else bif (↑n20 : Int) != (↑n22 : Int) then K (V.bool false) h'22 else XCalls
  Tryd.prog (20 : Nat) [V.ptr a1_1] h'22 fun (v20 : V) (h'23 : Hp) => ∃ (a8 : Nat), ∃ (b8 : Nat), v20 = V.cplx FloatKind.f64 a8 b8 ∧ XCalls Tryd.prog (20 : Nat) [V.ptr a2] h'23 fun (v21 : V) (h'24 : Hp) => ∃ (a9 : Nat), ∃ (b9 : Nat), v21 =
  V.cplx FloatKind.f64 a9 b9 ∧ FloatKind.f64 = FloatKind.f64 ∧ bif !(fIs FloatKind.f64 Ordering.eq a8 a9 && fIs FloatKind.f64 Ordering.eq b8 b9) then K (V.bool false) h'24 else XCalls Tryd.prog (20 : Nat) [V.ptr a1_1] h'24 fun (v22 : V)
  (h'25 : Hp) => ∃ (a10 : Nat), ∃ (b10 : Nat), v22 = V.cplx FloatKind.f64 a10 b10 ∧ XCalls Tryd.prog (20 : Nat) [V.ptr a4] h'25 fun (v23 : V) (h'26 : Hp) => ∃ (a11 : Nat), ∃ (b11 : Nat), v23 = V.cplx FloatKind.f64 a11 b11 ∧ FloatKind.f64 =
  FloatKind.f64 ∧ bif !(fIs FloatKind.f64 Ordering.eq a10 a11 && fIs FloatKind.f64 Ordering.eq b10 b11) then K (V.bool false) h'26 else ∃ (I3 : List V → Hp → Prop), ∃ (x3 : List V → Hp → Nat), ([V.ptr a1_1, V.slc a5 n20 f1, V.slc a6 n21 f2,
  V.slc a7 n22 f3] = [V.ptr a1_1, V.slc a5 n20 f1, V.slc a6 n21 f2, V.slc a7 n22 f3] ∧ I3 [V.cplx FloatKind.f64 (0 : Nat) (0 : Nat), V.int IntKind.i64 (0 : Int)] h'26) ∧ ∀ (bs3 : Nat → Option V) (a12 b12 : Nat) (n23 : Int) (h3 : Hp), I3
  [V.cplx FloatKind.f64 a12 b12, V.int IntKind.i64 n23] h3 → bif ltI n23 (↑n20 : Int) then ((0 : Int) ≤ n23 ∧ n23 < (↑n20 : Int)) ∧ onS a5 fun (i14 o14 : Nat) => ∃ (s7 : List UInt8), ∃ (n24 : Int), ∃ (n25 : Int), h3.lda i14 (o14 + n23.toNat
  * (3 : Nat)) (3 : Nat) = some (V.agg [V.str s7, V.int IntKind.i64 n24, V.int IntKind.i64 n25]) ∧ ((0 : Int) ≤ n23 ∧ n23 < (↑n21 : Int)) ∧ onS a6 fun (i15 o15 : Nat) => ∃ (s8 : List UInt8), ∃ (n26 : Int), ∃ (n27 : Int), h3.lda i15 (o15 +
  n23.toNat * (3 : Nat)) (3 : Nat) = some (V.agg [V.str s8, V.int IntKind.i64 n26, V.int IntKind.i64 n27]) ∧ bif !(s7 == s8 && (n24 == n26 && (n25 == n27 && true))) then K (V.bool false) h3 else ((0 : Int) ≤ n23 ∧ n23 < (↑n20 : Int)) ∧ onS
  a5 fun (i16 o16 : Nat) => ∃ (s9 : List UInt8), ∃ (n28 : Int), ∃ (n29 : Int), h3.lda i16 (o16 + n23.toNat * (3 : Nat)) (3 : Nat) = some (V.agg [V.str s9, V.int IntKind.i64 n28, V.int IntKind.i64 n29]) ∧ ((0 : Int) ≤ n23 ∧ n23 < (↑n22 :
  Int)) ∧ onS a7 fun (i17 o17 : Nat) => ∃ (s10 : List UInt8), ∃ (n30 : Int), ∃ (n31 : Int), h3.lda i17 (o17 + n23.toNat * (3 : Nat)) (3 : Nat) = some (V.agg [V.str s10, V.int IntKind.i64 n30, V.int IntKind.i64 n31]) ∧ bif !(s9 == s10 && (n28
  == n30 && (n29 == n31 && true))) then K (V.bool false) h3 else ((0 : Int) ≤ n23 ∧ n23 < (↑n20 : Int)) ∧ onS a5 fun (i18 o18 : Nat) => ∃ (s11 : List UInt8), h3.ld i18 (o18 + n23.toNat * (3 : Nat) + (0 : Nat)) = some (V.str s11) ∧ XCalls
  Tryd.prog (13 : Nat) [V.ptr a1_1, V.str s11] h3 fun (v24 : V) (h'27 : Hp) => ∃ (a13 : Nat), ∃ (b13 : Nat), v24 = V.cplx FloatKind.f64 a13 b13 ∧ FloatKind.f64 = FloatKind.f64 ∧ ∃ (x4 : Nat), ∃ (y1 : Nat), (fAdd FloatKind.f64 a12 a13 = some
  x4 ∧ fAdd FloatKind.f64 b12 b13 = some y1) ∧ [V.ptr a1_1, V.slc a5 n20 f1, V.slc a6 n21 f2, V.slc a7 n22 f3] = [V.ptr a1_1, V.slc a5 n20 f1, V.slc a6 n21 f2, V.slc a7 n22 f3] ∧ I3 [V.cplx FloatKind.f64 x4 y1, V.int IntKind.i64
  (IntKind.i64.wrap (n23 + (1 : Int)))] h'27 ∧ x3 [V.cplx FloatKind.f64 x4 y1, V.int IntKind.i64 (IntKind.i64.wrap (n23 + (1 : Int)))] h'27 < x3 [V.cplx FloatKind.f64 a12 b12, V.int IntKind.i64 n23] h3 else XCalls Tryd.prog (20 : Nat) [V.ptr
  a1_1] h3 fun (v25 : V) (h'28 : Hp) => ∃ (a14 : Nat), ∃ (b14 : Nat), v25 = V.cplx FloatKind.f64 a14 b14 ∧ FloatKind.f64 = FloatKind.f64 ∧ bif fIs FloatKind.f64 Ordering.eq a12 a14 && fIs FloatKind.f64 Ordering.eq b12 b14 then XCalls
  Tryd.prog (8 : Nat) [] h'28 fun (v26 : V) (h'29 : Hp) => ∃ (b15 : Bool), v26 = V.bool b15 ∧ K (V.bool b15) h'29 else K (V.bool false) h'28
theorem y5 (h : Hp) (K : V → Hp → Prop) (l : Option (Nat × Nat)) (l_n : Nat) (l_f : Bool) (a1 : Int) : X5 h K l l_n l_f a1 = fnX Tryd.prog T F jl5 jj5 Tryd.f5 [V.slc l l_n l_f, V.int IntKind.u8 a1] h K := by kernel_rfl
theorem x5 {h : Hp} {K : V → Hp → Prop} (l : Option (Nat × Nat)) (l_n : Nat) (l_f : Bool) (a1 : Int) (hx : X5 h K l l_n l_f a1) : XCalls Tryd.prog 5 [V.slc l l_n l_f, V.int IntKind.u8 a1] h K :=
  XCalls.ofX tok fok mixed (JL := jl5) (JJ := jj5) Tryd.func5 ((y5 h K l l_n l_f a1) ▸ hx) 
end Go.Vex
