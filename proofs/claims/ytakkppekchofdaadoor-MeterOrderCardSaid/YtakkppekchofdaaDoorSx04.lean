/-
  maps.Keys, slices.Collect, slices.Sorted as statements about data (printed by VexPrint).
  Contracts of Go's slices.Sort, first part: insertion, heap.
  Contracts of Go's slices.Sort, second part: turning round, medians, how many bits, patterns broken, the pivot.
  Contracts of Go's slices.Sort, third part: partition, the nearly sorted, the whole.
  Contracts of Go's slices.Sort, last part: pattern-defeating quicksort sorts; slices.Sort.
  Contracts of slices.Sorted(maps.Keys(m)).
-/
import Derived.Test.YtakkppekchofdaaDoorVexBB
import Derived.Test.YtakkppekchofdaaDoorTab04
import Derived.Test.YtakkppekchofdaaDoorVexX
import Derived.Test.YtakkppekchofdaaDoorPx04
import Derived.Test.YtakkppekchofdaaDoorVexCC
set_option linter.unusedVariables false
set_option linter.unusedSimpArgs false
/- Go's slices.Sort at string as statements about data (printed by VexPrint).
-/
set_option maxRecDepth 100000
namespace Go.Vex
open Go.Proofs
/-! 73: cmp.isNaN[string] -/
def jl73 : Nat → Option JT := fun r => none
def jj73 : Nat → Option JT := fun r => none
def X73 (h : Hp) (K : V → Hp → Prop) (x : List UInt8) : Prop := K (V.bool !x == x) h
theorem y73 (h : Hp) (K : V → Hp → Prop) (x : List UInt8) : X73 h K x = fnX Tryd.prog T F jl73 jj73 Tryd.f73 [V.str x] h K := by kernel_rfl
theorem x73 {h : Hp} {K : V → Hp → Prop} (x : List UInt8) (hx : X73 h K x) : XCalls Tryd.prog 73 [V.str x] h K :=
  XCalls.ofX tok fok mixed (JL := jl73) (JJ := jj73) Tryd.func73 ((y73 h K x) ▸ hx)
/-! 60: cmp.Less[string] -/
def jl60 : Nat → Option JT := fun r => none
def jj60 : Nat → Option JT := fun r => none
def X60 (h : Hp) (K : V → Hp → Prop) (x : List UInt8) (y : List UInt8) : Prop := XCalls Tryd.prog (73 : Nat) [V.str x] h fun (v1 : V) (h'1 : Hp) => ∃ (b1 : Bool), v1 = V.bool b1 ∧ bif b1 then XCalls Tryd.prog (73 : Nat) [V.str y] h'1 fun (v2
  : V) (h'2 : Hp) => ∃ (b2 : Bool), v2 = V.bool b2 ∧ bif !b2 then K (V.bool true) h'2 else K (V.bool (Op.bytesLess x y)) h'2 else K (V.bool (Op.bytesLess x y)) h'1
theorem y60 (h : Hp) (K : V → Hp → Prop) (x : List UInt8) (y : List UInt8) : X60 h K x y = fnX Tryd.prog T F jl60 jj60 Tryd.f60 [V.str x, V.str y] h K := by kernel_rfl
theorem x60 {h : Hp} {K : V → Hp → Prop} (x : List UInt8) (y : List UInt8) (hx : X60 h K x y) : XCalls Tryd.prog 60 [V.str x, V.str y] h K :=
  XCalls.ofX tok fok mixed (JL := jl60) (JJ := jj60) Tryd.func60 ((y60 h K x y) ▸ hx)
/-! 54: slices.insertionSortOrdered[string] -/
-- loop 4: stays data(0), a(1), b(2), i(6); turns j(7)
-- loop 1: stays data(0), a(1), b(2); turns i(6)
def jl54 : Nat → Option JT := fun r => bif Nat.beq r 4 then some ⟨[0, 1, 2, 6], [7], [V.int IntKind.i64 (0 : Int)]⟩ else bif Nat.beq r 1 then some ⟨[0, 1, 2], [6], [V.int IntKind.i64 (0 : Int)]⟩ else none
def jj54 : Nat → Option JT := fun r => none
def X54 (h : Hp) (K : V → Hp → Prop) (data : Option (Nat × Nat)) (data_n : Nat) (data_f : Bool) (a : Int) (b : Int) : Prop := ∃ (I1 : List V → Hp → Prop), ∃ (x1 : List V → Hp → Nat), ([V.slc data data_n data_f, V.int IntKind.i64 a, V.int
  IntKind.i64 b] = [V.slc data data_n data_f, V.int IntKind.i64 a, V.int IntKind.i64 b] ∧ I1 [V.int IntKind.i64 (IntKind.i64.wrap (a + (1 : Int)))] h) ∧ ∀ (bs1 : Nat → Option V) (n1 : Int) (h1 : Hp), I1 [V.int IntKind.i64 n1] h1 → bif ltI n1
  b then ∃ (I2 : List V → Hp → Prop), ∃ (x2 : List V → Hp → Nat), ([V.slc data data_n data_f, V.int IntKind.i64 a, V.int IntKind.i64 b, V.int IntKind.i64 n1] = [V.slc data data_n data_f, V.int IntKind.i64 a, V.int IntKind.i64 b, V.int
  IntKind.i64 n1] ∧ I2 [V.int IntKind.i64 n1] h1) ∧ ∀ (bs2 : Nat → Option V) (n2 : Int) (h2 : Hp), I2 [V.int IntKind.i64 n2] h2 → bif ltI a n2 then ((0 : Int) ≤ n2 ∧ n2 < (↑data_n : Int)) ∧ onS data fun (i1 o1 : Nat) => ∃ (s1 : List UInt8),
  h2.ld i1 (o1 + n2.toNat * (1 : Nat)) = some (V.str s1) ∧ ((0 : Int) ≤ IntKind.i64.wrap (n2 - (1 : Int)) ∧ IntKind.i64.wrap (n2 - (1 : Int)) < (↑data_n : Int)) ∧ onS data fun (i2 o2 : Nat) => ∃ (s2 : List UInt8), h2.ld i2 (o2 +
  (IntKind.i64.wrap (n2 - (1 : Int))).toNat * (1 : Nat)) = some (V.str s2) ∧ XCalls Tryd.prog (60 : Nat) [V.str s1, V.str s2] h2 fun (v1 : V) (h'1 : Hp) => ∃ (b1 : Bool), v1 = V.bool b1 ∧ bif b1 then ((0 : Int) ≤ IntKind.i64.wrap (n2 - (1 :
  Int)) ∧ IntKind.i64.wrap (n2 - (1 : Int)) < (↑data_n : Int)) ∧ onS data fun (i3 o3 : Nat) => ∃ (s3 : List UInt8), h'1.ld i3 (o3 + (IntKind.i64.wrap (n2 - (1 : Int))).toNat * (1 : Nat)) = some (V.str s3) ∧ ((0 : Int) ≤ n2 ∧ n2 < (↑data_n :
  Int)) ∧ onS data fun (i4 o4 : Nat) => ∃ (s4 : List UInt8), h'1.ld i4 (o4 + n2.toNat * (1 : Nat)) = some (V.str s4) ∧ ((0 : Int) ≤ n2 ∧ n2 < (↑data_n : Int)) ∧ onS data fun (i5 o5 : Nat) => ∃ (h'2 : Hp), h'1.st i5 (o5 + n2.toNat * (1 :
  Nat)) [V.str s3] = some h'2 ∧ V.int IntKind.i64 (IntKind.i64.wrap (n2 - (1 : Int))) = V.int IntKind.i64 (IntKind.i64.wrap (n2 - (1 : Int))) ∧ V.int IntKind.i64 n2 = V.int IntKind.i64 n2 ∧ V.slc data data_n data_f = V.slc data data_n data_f
  ∧ ((0 : Int) ≤ IntKind.i64.wrap (n2 - (1 : Int)) ∧ IntKind.i64.wrap (n2 - (1 : Int)) < (↑data_n : Int)) ∧ onS data fun (i6 o6 : Nat) => ∃ (h'3 : Hp), h'2.st i6 (o6 + (IntKind.i64.wrap (n2 - (1 : Int))).toNat * (1 : Nat)) [V.str s4] = some
  h'3 ∧ [V.slc data data_n data_f, V.int IntKind.i64 a, V.int IntKind.i64 b, V.int IntKind.i64 n1] = [V.slc data data_n data_f, V.int IntKind.i64 a, V.int IntKind.i64 b, V.int IntKind.i64 n1] ∧ I2 [V.int IntKind.i64 (IntKind.i64.wrap (n2 -
  (1 : Int)))] h'3 ∧ x2 [V.int IntKind.i64 (IntKind.i64.wrap (n2 - (1 : Int)))] h'3 < x2 [V.int IntKind.i64 n2] h2 else [V.slc data data_n data_f, V.int IntKind.i64 a, V.int IntKind.i64 b] = [V.slc data data_n data_f, V.int IntKind.i64 a,
  V.int IntKind.i64 b] ∧ I1 [V.int IntKind.i64 (IntKind.i64.wrap (n1 + (1 : Int)))] h'1 ∧ x1 [V.int IntKind.i64 (IntKind.i64.wrap (n1 + (1 : Int)))] h'1 < x1 [V.int IntKind.i64 n1] h1 else [V.slc data data_n data_f, V.int IntKind.i64 a,
  V.int IntKind.i64 b] = [V.slc data data_n data_f, V.int IntKind.i64 a, V.int IntKind.i64 b] ∧ I1 [V.int IntKind.i64 (IntKind.i64.wrap (n1 + (1 : Int)))] h2 ∧ x1 [V.int IntKind.i64 (IntKind.i64.wrap (n1 + (1 : Int)))] h2 < x1 [V.int
  IntKind.i64 n1] h1 else K (V.tup []) h1
theorem y54 (h : Hp) (K : V → Hp → Prop) (data : Option (Nat × Nat)) (data_n : Nat) (data_f : Bool) (a : Int) (b : Int) : X54 h K data data_n data_f a b = fnX Tryd.prog T F jl54 jj54 Tryd.f54 [V.slc data data_n data_f, V.int IntKind.i64 a, V.int IntKind.i64 b] h K := by kernel_rfl
theorem x54 {h : Hp} {K : V → Hp → Prop} (data : Option (Nat × Nat)) (data_n : Nat) (data_f : Bool) (a : Int) (b : Int) (hx : X54 h K data data_n data_f a b) : XCalls Tryd.prog 54 [V.slc data data_n data_f, V.int IntKind.i64 a, V.int IntKind.i64 b] h K :=
  XCalls.ofX tok fok mixed (JL := jl54) (JJ := jj54) Tryd.func54 ((y54 h K data data_n data_f a b) ▸ hx)
/-! 68: slices.siftDownOrdered[string] -/
-- loop 1: stays data(0), hi(2), first(3); turns root(8)
-- join 5: stays data(0), first(3), root(8), hi(2); turns child(9)
def jl68 : Nat → Option JT := fun r => bif Nat.beq r 1 then some ⟨[0, 2, 3], [8], [V.int IntKind.i64 (0 : Int)]⟩ else none
def jj68 : Nat → Option JT := fun r => bif Nat.beq r 5 then some ⟨[0, 3, 8, 2], [9], [V.int IntKind.i64 (0 : Int)]⟩ else none
def X68 (h : Hp) (K : V → Hp → Prop) (data : Option (Nat × Nat)) (data_n : Nat) (data_f : Bool) (lo : Int) (hi : Int) (first : Int) : Prop := ∃ (I1 : List V → Hp → Prop), ∃ (x1 : List V → Hp → Nat), ([V.slc data data_n data_f, V.int
  IntKind.i64 hi, V.int IntKind.i64 first] = [V.slc data data_n data_f, V.int IntKind.i64 hi, V.int IntKind.i64 first] ∧ I1 [V.int IntKind.i64 lo] h) ∧ ∀ (bs1 : Nat → Option V) (n1 : Int) (h1 : Hp), I1 [V.int IntKind.i64 n1] h1 → bif !ltI
  (IntKind.i64.wrap (IntKind.i64.wrap ((2 : Int) * n1) + (1 : Int))) hi then K (V.tup []) h1 else ∃ (Q1 : List V → Hp → Prop), (bif ltI (IntKind.i64.wrap (IntKind.i64.wrap (IntKind.i64.wrap ((2 : Int) * n1) + (1 : Int)) + (1 : Int))) hi then
  ((0 : Int) ≤ IntKind.i64.wrap (first + IntKind.i64.wrap (IntKind.i64.wrap ((2 : Int) * n1) + (1 : Int))) ∧ IntKind.i64.wrap (first + IntKind.i64.wrap (IntKind.i64.wrap ((2 : Int) * n1) + (1 : Int))) < (↑data_n : Int)) ∧ onS data fun (i1 o1
  : Nat) => ∃ (s1 : List UInt8), h1.ld i1 (o1 + (IntKind.i64.wrap (first + IntKind.i64.wrap (IntKind.i64.wrap ((2 : Int) * n1) + (1 : Int)))).toNat * (1 : Nat)) = some (V.str s1) ∧ ((0 : Int) ≤ IntKind.i64.wrap (IntKind.i64.wrap (first +
  IntKind.i64.wrap (IntKind.i64.wrap ((2 : Int) * n1) + (1 : Int))) + (1 : Int)) ∧ IntKind.i64.wrap (IntKind.i64.wrap (first + IntKind.i64.wrap (IntKind.i64.wrap ((2 : Int) * n1) + (1 : Int))) + (1 : Int)) < (↑data_n : Int)) ∧ onS data fun
  (i2 o2 : Nat) => ∃ (s2 : List UInt8), h1.ld i2 (o2 + (IntKind.i64.wrap (IntKind.i64.wrap (first + IntKind.i64.wrap (IntKind.i64.wrap ((2 : Int) * n1) + (1 : Int))) + (1 : Int))).toNat * (1 : Nat)) = some (V.str s2) ∧ XCalls Tryd.prog (60 :
  Nat) [V.str s1, V.str s2] h1 fun (v1 : V) (h'1 : Hp) => ∃ (b1 : Bool), v1 = V.bool b1 ∧ bif b1 then [V.slc data data_n data_f, V.int IntKind.i64 first, V.int IntKind.i64 n1, V.int IntKind.i64 hi] = [V.slc data data_n data_f, V.int
  IntKind.i64 first, V.int IntKind.i64 n1, V.int IntKind.i64 hi] ∧ Q1 [V.int IntKind.i64 (IntKind.i64.wrap (IntKind.i64.wrap (IntKind.i64.wrap ((2 : Int) * n1) + (1 : Int)) + (1 : Int)))] h'1 else [V.slc data data_n data_f, V.int IntKind.i64
  first, V.int IntKind.i64 n1, V.int IntKind.i64 hi] = [V.slc data data_n data_f, V.int IntKind.i64 first, V.int IntKind.i64 n1, V.int IntKind.i64 hi] ∧ Q1 [V.int IntKind.i64 (IntKind.i64.wrap (IntKind.i64.wrap ((2 : Int) * n1) + (1 :
  Int)))] h'1 else [V.slc data data_n data_f, V.int IntKind.i64 first, V.int IntKind.i64 n1, V.int IntKind.i64 hi] = [V.slc data data_n data_f, V.int IntKind.i64 first, V.int IntKind.i64 n1, V.int IntKind.i64 hi] ∧ Q1 [V.int IntKind.i64
  (IntKind.i64.wrap (IntKind.i64.wrap ((2 : Int) * n1) + (1 : Int)))] h1) ∧ ∀ (bs2 : Nat → Option V) (n2 : Int) (h2 : Hp), Q1 [V.int IntKind.i64 n2] h2 → ((0 : Int) ≤ IntKind.i64.wrap (first + n1) ∧ IntKind.i64.wrap (first + n1) < (↑data_n :
  Int)) ∧ onS data fun (i3 o3 : Nat) => ∃ (s3 : List UInt8), h2.ld i3 (o3 + (IntKind.i64.wrap (first + n1)).toNat * (1 : Nat)) = some (V.str s3) ∧ ((0 : Int) ≤ IntKind.i64.wrap (first + n2) ∧ IntKind.i64.wrap (first + n2) < (↑data_n : Int))
  ∧ onS data fun (i4 o4 : Nat) => ∃ (s4 : List UInt8), h2.ld i4 (o4 + (IntKind.i64.wrap (first + n2)).toNat * (1 : Nat)) = some (V.str s4) ∧ XCalls Tryd.prog (60 : Nat) [V.str s3, V.str s4] h2 fun (v2 : V) (h'2 : Hp) => ∃ (b2 : Bool), v2 =
  V.bool b2 ∧ bif !b2 then K (V.tup []) h'2 else ((0 : Int) ≤ IntKind.i64.wrap (first + n2) ∧ IntKind.i64.wrap (first + n2) < (↑data_n : Int)) ∧ onS data fun (i5 o5 : Nat) => ∃ (s5 : List UInt8), h'2.ld i5 (o5 + (IntKind.i64.wrap (first +
  n2)).toNat * (1 : Nat)) = some (V.str s5) ∧ ((0 : Int) ≤ IntKind.i64.wrap (first + n1) ∧ IntKind.i64.wrap (first + n1) < (↑data_n : Int)) ∧ onS data fun (i6 o6 : Nat) => ∃ (s6 : List UInt8), h'2.ld i6 (o6 + (IntKind.i64.wrap (first +
  n1)).toNat * (1 : Nat)) = some (V.str s6) ∧ ((0 : Int) ≤ IntKind.i64.wrap (first + n1) ∧ IntKind.i64.wrap (first + n1) < (↑data_n : Int)) ∧ onS data fun (i7 o7 : Nat) => ∃ (h'3 : Hp), h'2.st i7 (o7 + (IntKind.i64.wrap (first + n1)).toNat *
  (1 : Nat)) [V.str s5] = some h'3 ∧ V.int IntKind.i64 (IntKind.i64.wrap (first + n2)) = V.int IntKind.i64 (IntKind.i64.wrap (first + n2)) ∧ V.int IntKind.i64 n2 = V.int IntKind.i64 n2 ∧ V.int IntKind.i64 first = V.int IntKind.i64 first ∧
  V.slc data data_n data_f = V.slc data data_n data_f ∧ ((0 : Int) ≤ IntKind.i64.wrap (first + n2) ∧ IntKind.i64.wrap (first + n2) < (↑data_n : Int)) ∧ onS data fun (i8 o8 : Nat) => ∃ (h'4 : Hp), h'3.st i8 (o8 + (IntKind.i64.wrap (first +
  n2)).toNat * (1 : Nat)) [V.str s6] = some h'4 ∧ [V.slc data data_n data_f, V.int IntKind.i64 hi, V.int IntKind.i64 first] = [V.slc data data_n data_f, V.int IntKind.i64 hi, V.int IntKind.i64 first] ∧ I1 [V.int IntKind.i64 n2] h'4 ∧ x1
  [V.int IntKind.i64 n2] h'4 < x1 [V.int IntKind.i64 n1] h1
theorem y68 (h : Hp) (K : V → Hp → Prop) (data : Option (Nat × Nat)) (data_n : Nat) (data_f : Bool) (lo : Int) (hi : Int) (first : Int) : X68 h K data data_n data_f lo hi first = fnX Tryd.prog T F jl68 jj68 Tryd.f68 [V.slc data data_n
  data_f, V.int IntKind.i64 lo, V.int IntKind.i64 hi, V.int IntKind.i64 first] h K := by kernel_rfl
theorem x68 {h : Hp} {K : V → Hp → Prop} (data : Option (Nat × Nat)) (data_n : Nat) (data_f : Bool) (lo : Int) (hi : Int) (first : Int) (hx : X68 h K data data_n data_f lo hi first) : XCalls Tryd.prog 68 [V.slc data data_n data_f, V.int
  IntKind.i64 lo, V.int IntKind.i64 hi, V.int IntKind.i64 first] h K :=
  XCalls.ofX tok fok mixed (JL := jl68) (JJ := jj68) Tryd.func68 ((y68 h K data data_n data_f lo hi first) ▸ hx)
/-! 55: slices.heapSortOrdered[string] -/
-- loop 8: stays data(0), first(6), lo(7); turns i(10)
-- loop 4: stays data(0), first(6), lo(7), hi(8); turns i(9)
def jl55 : Nat → Option JT := fun r => bif Nat.beq r 8 then some ⟨[0, 6, 7], [10], [V.int IntKind.i64 (0 : Int)]⟩ else bif Nat.beq r 4 then some ⟨[0, 6, 7, 8], [9], [V.int IntKind.i64 (0 : Int)]⟩ else none
def jj55 : Nat → Option JT := fun r => none
def X55 (h : Hp) (K : V → Hp → Prop) (data : Option (Nat × Nat)) (data_n : Nat) (data_f : Bool) (a : Int) (b : Int) : Prop := ¬(2 : Int) = (0 : Int) ∧ ∃ (I1 : List V → Hp → Prop), ∃ (x1 : List V → Hp → Nat), ([V.slc data data_n data_f, V.int
  IntKind.i64 a, V.int IntKind.i64 (0 : Int), V.int IntKind.i64 (IntKind.i64.wrap (b - a))] = [V.slc data data_n data_f, V.int IntKind.i64 a, V.int IntKind.i64 (0 : Int), V.int IntKind.i64 (IntKind.i64.wrap (b - a))] ∧ I1 [V.int IntKind.i64
  (IntKind.i64.wrap ((IntKind.i64.wrap (IntKind.i64.wrap (b - a) - (1 : Int))).tdiv (2 : Int)))] h) ∧ ∀ (bs1 : Nat → Option V) (n1 : Int) (h1 : Hp), I1 [V.int IntKind.i64 n1] h1 → bif !ltI n1 (0 : Int) then XCalls Tryd.prog (68 : Nat) [V.slc
  data data_n data_f, V.int IntKind.i64 n1, V.int IntKind.i64 (IntKind.i64.wrap (b - a)), V.int IntKind.i64 a] h1 fun (v1 : V) (h'1 : Hp) => [V.slc data data_n data_f, V.int IntKind.i64 a, V.int IntKind.i64 (0 : Int), V.int IntKind.i64
  (IntKind.i64.wrap (b - a))] = [V.slc data data_n data_f, V.int IntKind.i64 a, V.int IntKind.i64 (0 : Int), V.int IntKind.i64 (IntKind.i64.wrap (b - a))] ∧ I1 [V.int IntKind.i64 (IntKind.i64.wrap (n1 - (1 : Int)))] h'1 ∧ x1 [V.int
  IntKind.i64 (IntKind.i64.wrap (n1 - (1 : Int)))] h'1 < x1 [V.int IntKind.i64 n1] h1 else ∃ (I2 : List V → Hp → Prop), ∃ (x2 : List V → Hp → Nat), ([V.slc data data_n data_f, V.int IntKind.i64 a, V.int IntKind.i64 (0 : Int)] = [V.slc data
  data_n data_f, V.int IntKind.i64 a, V.int IntKind.i64 (0 : Int)] ∧ I2 [V.int IntKind.i64 (IntKind.i64.wrap (IntKind.i64.wrap (b - a) - (1 : Int)))] h1) ∧ ∀ (bs2 : Nat → Option V) (n2 : Int) (h2 : Hp), I2 [V.int IntKind.i64 n2] h2 → bif
  !ltI n2 (0 : Int) then ((0 : Int) ≤ IntKind.i64.wrap (a + n2) ∧ IntKind.i64.wrap (a + n2) < (↑data_n : Int)) ∧ onS data fun (i1 o1 : Nat) => ∃ (s1 : List UInt8), h2.ld i1 (o1 + (IntKind.i64.wrap (a + n2)).toNat * (1 : Nat)) = some (V.str
  s1) ∧ ((0 : Int) ≤ a ∧ a < (↑data_n : Int)) ∧ onS data fun (i2 o2 : Nat) => ∃ (s2 : List UInt8), h2.ld i2 (o2 + a.toNat * (1 : Nat)) = some (V.str s2) ∧ ((0 : Int) ≤ a ∧ a < (↑data_n : Int)) ∧ onS data fun (i3 o3 : Nat) => ∃ (h'2 : Hp),
  h2.st i3 (o3 + a.toNat * (1 : Nat)) [V.str s1] = some h'2 ∧ V.int IntKind.i64 (IntKind.i64.wrap (a + n2)) = V.int IntKind.i64 (IntKind.i64.wrap (a + n2)) ∧ V.int IntKind.i64 n2 = V.int IntKind.i64 n2 ∧ V.int IntKind.i64 a = V.int
  IntKind.i64 a ∧ V.slc data data_n data_f = V.slc data data_n data_f ∧ ((0 : Int) ≤ IntKind.i64.wrap (a + n2) ∧ IntKind.i64.wrap (a + n2) < (↑data_n : Int)) ∧ onS data fun (i4 o4 : Nat) => ∃ (h'3 : Hp), h'2.st i4 (o4 + (IntKind.i64.wrap (a
  + n2)).toNat * (1 : Nat)) [V.str s2] = some h'3 ∧ XCalls Tryd.prog (68 : Nat) [V.slc data data_n data_f, V.int IntKind.i64 (0 : Int), V.int IntKind.i64 n2, V.int IntKind.i64 a] h'3 fun (v2 : V) (h'4 : Hp) => [V.slc data data_n data_f,
  V.int IntKind.i64 a, V.int IntKind.i64 (0 : Int)] = [V.slc data data_n data_f, V.int IntKind.i64 a, V.int IntKind.i64 (0 : Int)] ∧ I2 [V.int IntKind.i64 (IntKind.i64.wrap (n2 - (1 : Int)))] h'4 ∧ x2 [V.int IntKind.i64 (IntKind.i64.wrap (n2
  - (1 : Int)))] h'4 < x2 [V.int IntKind.i64 n2] h2 else K (V.tup []) h2
theorem y55 (h : Hp) (K : V → Hp → Prop) (data : Option (Nat × Nat)) (data_n : Nat) (data_f : Bool) (a : Int) (b : Int) : X55 h K data data_n data_f a b = fnX Tryd.prog T F jl55 jj55 Tryd.f55 [V.slc data data_n data_f, V.int IntKind.i64 a, V.int IntKind.i64 b] h K := by kernel_rfl
theorem x55 {h : Hp} {K : V → Hp → Prop} (data : Option (Nat × Nat)) (data_n : Nat) (data_f : Bool) (a : Int) (b : Int) (hx : X55 h K data data_n data_f a b) : XCalls Tryd.prog 55 [V.slc data data_n data_f, V.int IntKind.i64 a, V.int IntKind.i64 b] h K :=
  XCalls.ofX tok fok mixed (JL := jl55) (JJ := jj55) Tryd.func55 ((y55 h K data data_n data_f a b) ▸ hx)
/-! 58: slices.reverseRangeOrdered[string] -/
-- loop 2: stays data(0); turns i(6), j(7)
def jl58 : Nat → Option JT := fun r => bif Nat.beq r 2 then some ⟨[0], [6, 7], [V.int IntKind.i64 (0 : Int), V.int IntKind.i64 (0 : Int)]⟩ else none
def jj58 : Nat → Option JT := fun r => none
def X58 (h : Hp) (K : V → Hp → Prop) (data : Option (Nat × Nat)) (data_n : Nat) (data_f : Bool) (a : Int) (b : Int) : Prop := ∃ (I1 : List V → Hp → Prop), ∃ (x1 : List V → Hp → Nat), ([V.slc data data_n data_f] = [V.slc data data_n data_f] ∧
  I1 [V.int IntKind.i64 a, V.int IntKind.i64 (IntKind.i64.wrap (b - (1 : Int)))] h) ∧ ∀ (bs1 : Nat → Option V) (n1 n2 : Int) (h1 : Hp), I1 [V.int IntKind.i64 n1, V.int IntKind.i64 n2] h1 → bif ltI n1 n2 then ((0 : Int) ≤ n2 ∧ n2 < (↑data_n :
  Int)) ∧ onS data fun (i1 o1 : Nat) => ∃ (s1 : List UInt8), h1.ld i1 (o1 + n2.toNat * (1 : Nat)) = some (V.str s1) ∧ ((0 : Int) ≤ n1 ∧ n1 < (↑data_n : Int)) ∧ onS data fun (i2 o2 : Nat) => ∃ (s2 : List UInt8), h1.ld i2 (o2 + n1.toNat * (1 :
  Nat)) = some (V.str s2) ∧ ((0 : Int) ≤ n1 ∧ n1 < (↑data_n : Int)) ∧ onS data fun (i3 o3 : Nat) => ∃ (h'1 : Hp), h1.st i3 (o3 + n1.toNat * (1 : Nat)) [V.str s1] = some h'1 ∧ V.int IntKind.i64 n2 = V.int IntKind.i64 n2 ∧ V.slc data data_n
  data_f = V.slc data data_n data_f ∧ ((0 : Int) ≤ n2 ∧ n2 < (↑data_n : Int)) ∧ onS data fun (i4 o4 : Nat) => ∃ (h'2 : Hp), h'1.st i4 (o4 + n2.toNat * (1 : Nat)) [V.str s2] = some h'2 ∧ [V.slc data data_n data_f] = [V.slc data data_n data_f]
  ∧ I1 [V.int IntKind.i64 (IntKind.i64.wrap (n1 + (1 : Int))), V.int IntKind.i64 (IntKind.i64.wrap (n2 - (1 : Int)))] h'2 ∧ x1 [V.int IntKind.i64 (IntKind.i64.wrap (n1 + (1 : Int))), V.int IntKind.i64 (IntKind.i64.wrap (n2 - (1 : Int)))] h'2
  < x1 [V.int IntKind.i64 n1, V.int IntKind.i64 n2] h1 else K (V.tup []) h1
theorem y58 (h : Hp) (K : V → Hp → Prop) (data : Option (Nat × Nat)) (data_n : Nat) (data_f : Bool) (a : Int) (b : Int) : X58 h K data data_n data_f a b = fnX Tryd.prog T F jl58 jj58 Tryd.f58 [V.slc data data_n data_f, V.int IntKind.i64 a, V.int IntKind.i64 b] h K := by kernel_rfl
theorem x58 {h : Hp} {K : V → Hp → Prop} (data : Option (Nat × Nat)) (data_n : Nat) (data_f : Bool) (a : Int) (b : Int) (hx : X58 h K data data_n data_f a b) : XCalls Tryd.prog 58 [V.slc data data_n data_f, V.int IntKind.i64 a, V.int IntKind.i64 b] h K :=
  XCalls.ofX tok fok mixed (JL := jl58) (JJ := jj58) Tryd.func58 ((y58 h K data data_n data_f a b) ▸ hx)
/-! 78: slices.order2Ordered[string] -/
def jl78 : Nat → Option JT := fun r => none
def jj78 : Nat → Option JT := fun r => none
def X78 (h : Hp) (K : V → Hp → Prop) (data : Option (Nat × Nat)) (data_n : Nat) (data_f : Bool) (a : Int) (b : Int) (swaps : Nat) : Prop := ((0 : Int) ≤ b ∧ b < (↑data_n : Int)) ∧ onS data fun (i1 o1 : Nat) => ∃ (s1 : List UInt8), h.ld i1
  (o1 + b.toNat * (1 : Nat)) = some (V.str s1) ∧ ((0 : Int) ≤ a ∧ a < (↑data_n : Int)) ∧ onS data fun (i2 o2 : Nat) => ∃ (s2 : List UInt8), h.ld i2 (o2 + a.toNat * (1 : Nat)) = some (V.str s2) ∧ XCalls Tryd.prog (60 : Nat) [V.str s1, V.str
  s2] h fun (v1 : V) (h'1 : Hp) => ∃ (b1 : Bool), v1 = V.bool b1 ∧ bif b1 then ∃ (n1 : Int), h'1.ld swaps (0 : Nat) = some (V.int IntKind.i64 n1) ∧ ∃ (h'2 : Hp), h'1.st swaps (0 : Nat) [V.int IntKind.i64 (IntKind.i64.wrap (n1 + (1 : Int)))]
  = some h'2 ∧ K (V.tup [V.int IntKind.i64 b, V.int IntKind.i64 a]) h'2 else K (V.tup [V.int IntKind.i64 a, V.int IntKind.i64 b]) h'1
theorem y78 (h : Hp) (K : V → Hp → Prop) (data : Option (Nat × Nat)) (data_n : Nat) (data_f : Bool) (a : Int) (b : Int) (swaps : Nat) : X78 h K data data_n data_f a b swaps = fnX Tryd.prog T F jl78 jj78 Tryd.f78 [V.slc data data_n data_f,
  V.int IntKind.i64 a, V.int IntKind.i64 b, V.ptr (some (swaps, (0 : Nat)))] h K := by kernel_rfl
theorem x78 {h : Hp} {K : V → Hp → Prop} (data : Option (Nat × Nat)) (data_n : Nat) (data_f : Bool) (a : Int) (b : Int) (swaps : Nat) (hx : X78 h K data data_n data_f a b swaps) : XCalls Tryd.prog 78 [V.slc data data_n data_f, V.int
  IntKind.i64 a, V.int IntKind.i64 b, V.ptr (some (swaps, (0 : Nat)))] h K :=
  XCalls.ofX tok fok mixed (JL := jl78) (JJ := jj78) Tryd.func78 ((y78 h K data data_n data_f a b swaps) ▸ hx)
/-! 72: slices.medianOrdered[string] -/
def jl72 : Nat → Option JT := fun r => none
def jj72 : Nat → Option JT := fun r => none
def X72 (h : Hp) (K : V → Hp → Prop) (data : Option (Nat × Nat)) (data_n : Nat) (data_f : Bool) (a : Int) (b : Int) (c : Int) (swaps : Nat) : Prop := XCalls Tryd.prog (78 : Nat) [V.slc data data_n data_f, V.int IntKind.i64 a, V.int
  IntKind.i64 b, V.ptr (some (swaps, (0 : Nat)))] h fun (v1 : V) (h'1 : Hp) => ∃ (n1 : Int), ∃ (n2 : Int), v1 = V.tup [V.int IntKind.i64 n1, V.int IntKind.i64 n2] ∧ XCalls Tryd.prog (78 : Nat) [V.slc data data_n data_f, V.int IntKind.i64 n2,
  V.int IntKind.i64 c, V.ptr (some (swaps, (0 : Nat)))] h'1 fun (v2 : V) (h'2 : Hp) => ∃ (n3 : Int), ∃ (n4 : Int), v2 = V.tup [V.int IntKind.i64 n3, V.int IntKind.i64 n4] ∧ XCalls Tryd.prog (78 : Nat) [V.slc data data_n data_f, V.int
  IntKind.i64 n1, V.int IntKind.i64 n3, V.ptr (some (swaps, (0 : Nat)))] h'2 fun (v3 : V) (h'3 : Hp) => ∃ (n5 : Int), ∃ (n6 : Int), v3 = V.tup [V.int IntKind.i64 n5, V.int IntKind.i64 n6] ∧ K (V.int IntKind.i64 n6) h'3
theorem y72 (h : Hp) (K : V → Hp → Prop) (data : Option (Nat × Nat)) (data_n : Nat) (data_f : Bool) (a : Int) (b : Int) (c : Int) (swaps : Nat) : X72 h K data data_n data_f a b c swaps = fnX Tryd.prog T F jl72 jj72 Tryd.f72 [V.slc data
  data_n data_f, V.int IntKind.i64 a, V.int IntKind.i64 b, V.int IntKind.i64 c, V.ptr (some (swaps, (0 : Nat)))] h K := by kernel_rfl
theorem x72 {h : Hp} {K : V → Hp → Prop} (data : Option (Nat × Nat)) (data_n : Nat) (data_f : Bool) (a : Int) (b : Int) (c : Int) (swaps : Nat) (hx : X72 h K data data_n data_f a b c swaps) : XCalls Tryd.prog 72 [V.slc data data_n data_f,
  V.int IntKind.i64 a, V.int IntKind.i64 b, V.int IntKind.i64 c, V.ptr (some (swaps, (0 : Nat)))] h K :=
  XCalls.ofX tok fok mixed (JL := jl72) (JJ := jj72) Tryd.func72 ((y72 h K data data_n data_f a b c swaps) ▸ hx)
/-! 71: slices.medianAdjacentOrdered[string] -/
def jl71 : Nat → Option JT := fun r => none
def jj71 : Nat → Option JT := fun r => none
def X71 (h : Hp) (K : V → Hp → Prop) (data : Option (Nat × Nat)) (data_n : Nat) (data_f : Bool) (a : Int) (swaps : Nat) : Prop := XCalls Tryd.prog (72 : Nat) [V.slc data data_n data_f, V.int IntKind.i64 (IntKind.i64.wrap (a - (1 : Int))),
  V.int IntKind.i64 a, V.int IntKind.i64 (IntKind.i64.wrap (a + (1 : Int))), V.ptr (some (swaps, (0 : Nat)))] h fun (v1 : V) (h'1 : Hp) => ∃ (n1 : Int), v1 = V.int IntKind.i64 n1 ∧ K (V.int IntKind.i64 n1) h'1
theorem y71 (h : Hp) (K : V → Hp → Prop) (data : Option (Nat × Nat)) (data_n : Nat) (data_f : Bool) (a : Int) (swaps : Nat) : X71 h K data data_n data_f a swaps = fnX Tryd.prog T F jl71 jj71 Tryd.f71 [V.slc data data_n data_f, V.int
  IntKind.i64 a, V.ptr (some (swaps, (0 : Nat)))] h K := by kernel_rfl
theorem x71 {h : Hp} {K : V → Hp → Prop} (data : Option (Nat × Nat)) (data_n : Nat) (data_f : Bool) (a : Int) (swaps : Nat) (hx : X71 h K data data_n data_f a swaps) : XCalls Tryd.prog 71 [V.slc data data_n data_f, V.int IntKind.i64 a, V.ptr (some (swaps, (0 : Nat)))] h K :=
  XCalls.ofX tok fok mixed (JL := jl71) (JJ := jj71) Tryd.func71 ((y71 h K data data_n data_f a swaps) ▸ hx)
/-! 70: (*slices.xorshift).Next -/
def jl70 : Nat → Option JT := fun r => none
def jj70 : Nat → Option JT := fun r => none
def X70 (h : Hp) (K : V → Hp → Prop) (r : Nat) : Prop := ∃ (n1 : Int), h.ld r (0 : Nat) = some (V.int IntKind.u64 n1) ∧ ∃ (n2 : Int), h.ld r (0 : Nat) = some (V.int IntKind.u64 n2) ∧ ¬(13 : Int) < (0 : Int) ∧ ∃ (h'1 : Hp), h.st r (0 : Nat)
  [V.int IntKind.u64 (bits BinOp.xor IntKind.u64 n1 (IntKind.u64.wrap (n2 * (2 : Int) ^ min (Int.toNat (13 : Int)) IntKind.u64.bits)))] = some h'1 ∧ ∃ (n3 : Int), h'1.ld r (0 : Nat) = some (V.int IntKind.u64 n3) ∧ ∃ (n4 : Int), h'1.ld r (0 :
  Nat) = some (V.int IntKind.u64 n4) ∧ ¬(7 : Int) < (0 : Int) ∧ ∃ (h'2 : Hp), h'1.st r (0 : Nat) [V.int IntKind.u64 (bits BinOp.xor IntKind.u64 n3 (n4.fdiv ((2 : Int) ^ min (Int.toNat (7 : Int)) IntKind.u64.bits)))] = some h'2 ∧ ∃ (n5 :
  Int), h'2.ld r (0 : Nat) = some (V.int IntKind.u64 n5) ∧ ∃ (n6 : Int), h'2.ld r (0 : Nat) = some (V.int IntKind.u64 n6) ∧ ¬(17 : Int) < (0 : Int) ∧ ∃ (h'3 : Hp), h'2.st r (0 : Nat) [V.int IntKind.u64 (bits BinOp.xor IntKind.u64 n5
  (IntKind.u64.wrap (n6 * (2 : Int) ^ min (Int.toNat (17 : Int)) IntKind.u64.bits)))] = some h'3 ∧ ∃ (n7 : Int), h'3.ld r (0 : Nat) = some (V.int IntKind.u64 n7) ∧ K (V.int IntKind.u64 n7) h'3
theorem y70 (h : Hp) (K : V → Hp → Prop) (r : Nat) : X70 h K r = fnX Tryd.prog T F jl70 jj70 Tryd.f70 [V.ptr (some (r, (0 : Nat)))] h K := by kernel_rfl
theorem x70 {h : Hp} {K : V → Hp → Prop} (r : Nat) (hx : X70 h K r) : XCalls Tryd.prog 70 [V.ptr (some (r, (0 : Nat)))] h K :=
  XCalls.ofX tok fok mixed (JL := jl70) (JJ := jj70) Tryd.func70 ((y70 h K r) ▸ hx)
/-! 64: math/bits.Len64 -/
-- join 7: stays ; turns x(0), n(2)
-- join 4: stays ; turns x(0), n(2)
def jl64 : Nat → Option JT := fun r => none
def jj64 : Nat → Option JT := fun r => bif Nat.beq r 7 then some ⟨[], [0, 2], [V.int IntKind.u64 (0 : Int), V.int IntKind.i64 (0 : Int)]⟩ else bif Nat.beq r 4 then some ⟨[], [0, 2], [V.int IntKind.u64 (0 : Int), V.int IntKind.i64 (0 : Int)]⟩ else none
def X64 (h : Hp) (K : V → Hp → Prop) (x : Int) : Prop := ∃ (Q1 : List V → Hp → Prop), (bif !ltI x (4294967296 : Int) then ¬(32 : Int) < (0 : Int) ∧ ([] : List V) = [] ∧ Q1 [V.int IntKind.u64 (x.fdiv ((2 : Int) ^ min (Int.toNat (32 : Int))
  IntKind.u64.bits)), V.int IntKind.i64 (32 : Int)] h else ([] : List V) = [] ∧ Q1 [V.int IntKind.u64 x, V.int IntKind.i64 (0 : Int)] h) ∧ ∀ (bs1 : Nat → Option V) (n1 n2 : Int) (h1 : Hp), Q1 [V.int IntKind.u64 n1, V.int IntKind.i64 n2] h1 →
  ∃ (Q2 : List V → Hp → Prop), (bif !ltI n1 (65536 : Int) then ¬(16 : Int) < (0 : Int) ∧ ([] : List V) = [] ∧ Q2 [V.int IntKind.u64 (n1.fdiv ((2 : Int) ^ min (Int.toNat (16 : Int)) IntKind.u64.bits)), V.int IntKind.i64 (IntKind.i64.wrap (n2
  + (16 : Int)))] h1 else ([] : List V) = [] ∧ Q2 [V.int IntKind.u64 n1, V.int IntKind.i64 n2] h1) ∧ ∀ (bs2 : Nat → Option V) (n3 n4 : Int) (h2 : Hp), Q2 [V.int IntKind.u64 n3, V.int IntKind.i64 n4] h2 → bif !ltI n3 (256 : Int) then ¬(8 :
  Int) < (0 : Int) ∧ (0 : Int) ≤ IntKind.u8.wrap (n3.fdiv ((2 : Int) ^ min (Int.toNat (8 : Int)) IntKind.u64.bits)) ∧ ∃ (b1 : UInt8), bitTab.get?Internal (IntKind.u8.wrap (n3.fdiv ((2 : Int) ^ min (Int.toNat (8 : Int))
  IntKind.u64.bits))).toNat = some b1 ∧ K (V.int IntKind.i64 (IntKind.i64.wrap (IntKind.i64.wrap (n4 + (8 : Int)) + IntKind.i64.wrap (↑b1.toNat : Int)))) h2 else (0 : Int) ≤ IntKind.u8.wrap n3 ∧ ∃ (b2 : UInt8), bitTab.get?Internal
  (IntKind.u8.wrap n3).toNat = some b2 ∧ K (V.int IntKind.i64 (IntKind.i64.wrap (n4 + IntKind.i64.wrap (↑b2.toNat : Int)))) h2
theorem y64 (h : Hp) (K : V → Hp → Prop) (x : Int) : X64 h K x = fnX Tryd.prog T F jl64 jj64 Tryd.f64 [V.int IntKind.u64 x] h K := by kernel_rfl
theorem x64 {h : Hp} {K : V → Hp → Prop} (x : Int) (hx : X64 h K x) : XCalls Tryd.prog 64 [V.int IntKind.u64 x] h K :=
  XCalls.ofX tok fok mixed (JL := jl64) (JJ := jj64) Tryd.func64 ((y64 h K x) ▸ hx)
/-! 49: math/bits.Len -/
def jl49 : Nat → Option JT := fun r => none
def jj49 : Nat → Option JT := fun r => none
def X49 (h : Hp) (K : V → Hp → Prop) (x : Int) : Prop := XCalls Tryd.prog (64 : Nat) [V.int IntKind.u64 x] h fun (v1 : V) (h'1 : Hp) => ∃ (n1 : Int), v1 = V.int IntKind.i64 n1 ∧ K (V.int IntKind.i64 n1) h'1
theorem y49 (h : Hp) (K : V → Hp → Prop) (x : Int) : X49 h K x = fnX Tryd.prog T F jl49 jj49 Tryd.f49 [V.int IntKind.u64 x] h K := by kernel_rfl
theorem x49 {h : Hp} {K : V → Hp → Prop} (x : Int) (hx : X49 h K x) : XCalls Tryd.prog 49 [V.int IntKind.u64 x] h K :=
  XCalls.ofX tok fok mixed (JL := jl49) (JJ := jj49) Tryd.func49 ((y49 h K x) ▸ hx)
/-! 69: slices.nextPowerOfTwo -/
def jl69 : Nat → Option JT := fun r => none
def jj69 : Nat → Option JT := fun r => none
def X69 (h : Hp) (K : V → Hp → Prop) (length : Int) : Prop := XCalls Tryd.prog (49 : Nat) [V.int IntKind.u64 (IntKind.u64.wrap length)] h fun (v1 : V) (h'1 : Hp) => ∃ (n1 : Int), v1 = V.int IntKind.i64 n1 ∧ ¬n1 < (0 : Int) ∧ K (V.int
  IntKind.u64 (IntKind.u64.wrap ((1 : Int) * (2 : Int) ^ min n1.toNat IntKind.u64.bits))) h'1
theorem y69 (h : Hp) (K : V → Hp → Prop) (length : Int) : X69 h K length = fnX Tryd.prog T F jl69 jj69 Tryd.f69 [V.int IntKind.i64 length] h K := by kernel_rfl
theorem x69 {h : Hp} {K : V → Hp → Prop} (length : Int) (hx : X69 h K length) : XCalls Tryd.prog 69 [V.int IntKind.i64 length] h K :=
  XCalls.ofX tok fok mixed (JL := jl69) (JJ := jj69) Tryd.func69 ((y69 h K length) ▸ hx)
/-! 56: slices.breakPatternsOrdered[string] -/
-- loop 5: stays data(0), a(1), length(6), random(7), modulus(8); turns idx(9)
-- join 10: stays data(0), idx(9), a(1), length(6), random(7), modulus(8); turns other(10)
def jl56 : Nat → Option JT := fun r => bif Nat.beq r 5 then some ⟨[0, 1, 6, 7, 8], [9], [V.int IntKind.i64 (0 : Int)]⟩ else none
def jj56 : Nat → Option JT := fun r => bif Nat.beq r 10 then some ⟨[0, 9, 1, 6, 7, 8], [10], [V.int IntKind.i64 (0 : Int)]⟩ else none
def X56 (h : Hp) (K : V → Hp → Prop) (data : Option (Nat × Nat)) (data_n : Nat) (data_f : Bool) (a : Int) (b : Int) : Prop := bif !ltI (IntKind.i64.wrap (b - a)) (8 : Int) then ∀ (h'1 : Hp), h'1 = h.alloc (O.row [V.int IntKind.u64 (0 : Int)]
  (1 : Nat) false) → ∃ (h'2 : Hp), h'1.st h.next (0 : Nat) [V.int IntKind.u64 (IntKind.u64.wrap (IntKind.i64.wrap (b - a)))] = some h'2 ∧ XCalls Tryd.prog (69 : Nat) [V.int IntKind.i64 (IntKind.i64.wrap (b - a))] h'2 fun (v1 : V) (h'3 : Hp)
  => ∃ (n1 : Int), v1 = V.int IntKind.u64 n1 ∧ ¬(4 : Int) = (0 : Int) ∧ ∃ (I1 : List V → Hp → Prop), ∃ (x1 : List V → Hp → Nat), ([V.slc data data_n data_f, V.int IntKind.i64 a, V.int IntKind.i64 (IntKind.i64.wrap (b - a)), V.ptr (some
  (h.next, (0 : Nat))), V.int IntKind.u64 n1] = [V.slc data data_n data_f, V.int IntKind.i64 a, V.int IntKind.i64 (IntKind.i64.wrap (b - a)), V.ptr (some (h.next, (0 : Nat))), V.int IntKind.u64 n1] ∧ I1 [V.int IntKind.i64 (IntKind.i64.wrap
  (IntKind.i64.wrap (a + IntKind.i64.wrap (IntKind.i64.wrap ((IntKind.i64.wrap (b - a)).tdiv (4 : Int)) * (2 : Int))) - (1 : Int)))] h'3) ∧ ∀ (bs1 : Nat → Option V) (n2 : Int) (h1 : Hp), I1 [V.int IntKind.i64 n2] h1 → ¬(4 : Int) = (0 : Int)
  ∧ bif !ltI (IntKind.i64.wrap (IntKind.i64.wrap (a + IntKind.i64.wrap (IntKind.i64.wrap ((IntKind.i64.wrap (b - a)).tdiv (4 : Int)) * (2 : Int))) + (1 : Int))) n2 then XCalls Tryd.prog (70 : Nat) [V.ptr (some (h.next, (0 : Nat)))] h1 fun
  (v2 : V) (h'4 : Hp) => ∃ (n3 : Int), v2 = V.int IntKind.u64 n3 ∧ ∃ (Q1 : List V → Hp → Prop), (bif !ltI (IntKind.i64.wrap (bits BinOp.and IntKind.u64 n3 (IntKind.u64.wrap (n1 - (1 : Int))))) (IntKind.i64.wrap (b - a)) then [V.slc data
  data_n data_f, V.int IntKind.i64 n2, V.int IntKind.i64 a, V.int IntKind.i64 (IntKind.i64.wrap (b - a)), V.ptr (some (h.next, (0 : Nat))), V.int IntKind.u64 n1] = [V.slc data data_n data_f, V.int IntKind.i64 n2, V.int IntKind.i64 a, V.int
  IntKind.i64 (IntKind.i64.wrap (b - a)), V.ptr (some (h.next, (0 : Nat))), V.int IntKind.u64 n1] ∧ Q1 [V.int IntKind.i64 (IntKind.i64.wrap (IntKind.i64.wrap (bits BinOp.and IntKind.u64 n3 (IntKind.u64.wrap (n1 - (1 : Int)))) -
  IntKind.i64.wrap (b - a)))] h'4 else [V.slc data data_n data_f, V.int IntKind.i64 n2, V.int IntKind.i64 a, V.int IntKind.i64 (IntKind.i64.wrap (b - a)), V.ptr (some (h.next, (0 : Nat))), V.int IntKind.u64 n1] = [V.slc data data_n data_f,
  V.int IntKind.i64 n2, V.int IntKind.i64 a, V.int IntKind.i64 (IntKind.i64.wrap (b - a)), V.ptr (some (h.next, (0 : Nat))), V.int IntKind.u64 n1] ∧ Q1 [V.int IntKind.i64 (IntKind.i64.wrap (bits BinOp.and IntKind.u64 n3 (IntKind.u64.wrap (n1
  - (1 : Int)))))] h'4) ∧ ∀ (bs2 : Nat → Option V) (n4 : Int) (h2 : Hp), Q1 [V.int IntKind.i64 n4] h2 → ((0 : Int) ≤ IntKind.i64.wrap (a + n4) ∧ IntKind.i64.wrap (a + n4) < (↑data_n : Int)) ∧ onS data fun (i1 o1 : Nat) => ∃ (s1 : List
  UInt8), h2.ld i1 (o1 + (IntKind.i64.wrap (a + n4)).toNat * (1 : Nat)) = some (V.str s1) ∧ ((0 : Int) ≤ n2 ∧ n2 < (↑data_n : Int)) ∧ onS data fun (i2 o2 : Nat) => ∃ (s2 : List UInt8), h2.ld i2 (o2 + n2.toNat * (1 : Nat)) = some (V.str s2) ∧
  ((0 : Int) ≤ n2 ∧ n2 < (↑data_n : Int)) ∧ onS data fun (i3 o3 : Nat) => ∃ (h'5 : Hp), h2.st i3 (o3 + n2.toNat * (1 : Nat)) [V.str s1] = some h'5 ∧ V.int IntKind.i64 (IntKind.i64.wrap (a + n4)) = V.int IntKind.i64 (IntKind.i64.wrap (a +
  n4)) ∧ V.int IntKind.i64 n4 = V.int IntKind.i64 n4 ∧ V.int IntKind.i64 a = V.int IntKind.i64 a ∧ V.slc data data_n data_f = V.slc data data_n data_f ∧ ((0 : Int) ≤ IntKind.i64.wrap (a + n4) ∧ IntKind.i64.wrap (a + n4) < (↑data_n : Int)) ∧
  onS data fun (i4 o4 : Nat) => ∃ (h'6 : Hp), h'5.st i4 (o4 + (IntKind.i64.wrap (a + n4)).toNat * (1 : Nat)) [V.str s2] = some h'6 ∧ [V.slc data data_n data_f, V.int IntKind.i64 a, V.int IntKind.i64 (IntKind.i64.wrap (b - a)), V.ptr (some
  (h.next, (0 : Nat))), V.int IntKind.u64 n1] = [V.slc data data_n data_f, V.int IntKind.i64 a, V.int IntKind.i64 (IntKind.i64.wrap (b - a)), V.ptr (some (h.next, (0 : Nat))), V.int IntKind.u64 n1] ∧ I1 [V.int IntKind.i64 (IntKind.i64.wrap
  (n2 + (1 : Int)))] h'6 ∧ x1 [V.int IntKind.i64 (IntKind.i64.wrap (n2 + (1 : Int)))] h'6 < x1 [V.int IntKind.i64 n2] h1 else K (V.tup []) h1 else K (V.tup []) h
theorem y56 (h : Hp) (K : V → Hp → Prop) (data : Option (Nat × Nat)) (data_n : Nat) (data_f : Bool) (a : Int) (b : Int) : X56 h K data data_n data_f a b = fnX Tryd.prog T F jl56 jj56 Tryd.f56 [V.slc data data_n data_f, V.int IntKind.i64 a, V.int IntKind.i64 b] h K := by kernel_rfl
theorem x56 {h : Hp} {K : V → Hp → Prop} (data : Option (Nat × Nat)) (data_n : Nat) (data_f : Bool) (a : Int) (b : Int) (hx : X56 h K data data_n data_f a b) : XCalls Tryd.prog 56 [V.slc data data_n data_f, V.int IntKind.i64 a, V.int IntKind.i64 b] h K :=
  XCalls.ofX tok fok mixed (JL := jl56) (JJ := jj56) Tryd.func56 ((y56 h K data data_n data_f a b) ▸ hx)
/-! 57: slices.choosePivotOrdered[string] -/
-- join 12: stays swaps(9); turns j(11)
def jl57 : Nat → Option JT := fun r => none
def jj57 : Nat → Option JT := fun r => bif Nat.beq r 12 then some ⟨[9], [11], [V.int IntKind.i64 (0 : Int)]⟩ else none
def X57 (h : Hp) (K : V → Hp → Prop) (data : Option (Nat × Nat)) (data_n : Nat) (data_f : Bool) (a : Int) (b : Int) : Prop := ∀ (h'1 : Hp), h'1 = h.alloc (O.row [V.int IntKind.i64 (0 : Int)] (1 : Nat) false) → ¬(4 : Int) = (0 : Int) ∧ ¬(4 :
  Int) = (0 : Int) ∧ ¬(4 : Int) = (0 : Int) ∧ ∃ (Q1 : List V → Hp → Prop), (bif !ltI (IntKind.i64.wrap (b - a)) (8 : Int) then bif !ltI (IntKind.i64.wrap (b - a)) (50 : Int) then XCalls Tryd.prog (71 : Nat) [V.slc data data_n data_f, V.int
  IntKind.i64 (IntKind.i64.wrap (a + IntKind.i64.wrap (IntKind.i64.wrap ((IntKind.i64.wrap (b - a)).tdiv (4 : Int)) * (1 : Int)))), V.ptr (some (h.next, (0 : Nat)))] h'1 fun (v1 : V) (h'2 : Hp) => ∃ (n1 : Int), v1 = V.int IntKind.i64 n1 ∧
  XCalls Tryd.prog (71 : Nat) [V.slc data data_n data_f, V.int IntKind.i64 (IntKind.i64.wrap (a + IntKind.i64.wrap (IntKind.i64.wrap ((IntKind.i64.wrap (b - a)).tdiv (4 : Int)) * (2 : Int)))), V.ptr (some (h.next, (0 : Nat)))] h'2 fun (v2 :
  V) (h'3 : Hp) => ∃ (n2 : Int), v2 = V.int IntKind.i64 n2 ∧ XCalls Tryd.prog (71 : Nat) [V.slc data data_n data_f, V.int IntKind.i64 (IntKind.i64.wrap (a + IntKind.i64.wrap (IntKind.i64.wrap ((IntKind.i64.wrap (b - a)).tdiv (4 : Int)) * (3
  : Int)))), V.ptr (some (h.next, (0 : Nat)))] h'3 fun (v3 : V) (h'4 : Hp) => ∃ (n3 : Int), v3 = V.int IntKind.i64 n3 ∧ XCalls Tryd.prog (72 : Nat) [V.slc data data_n data_f, V.int IntKind.i64 n1, V.int IntKind.i64 n2, V.int IntKind.i64 n3,
  V.ptr (some (h.next, (0 : Nat)))] h'4 fun (v4 : V) (h'5 : Hp) => ∃ (n4 : Int), v4 = V.int IntKind.i64 n4 ∧ [V.ptr (some (h.next, (0 : Nat)))] = [V.ptr (some (h.next, (0 : Nat)))] ∧ Q1 [V.int IntKind.i64 n4] h'5 else XCalls Tryd.prog (72 :
  Nat) [V.slc data data_n data_f, V.int IntKind.i64 (IntKind.i64.wrap (a + IntKind.i64.wrap (IntKind.i64.wrap ((IntKind.i64.wrap (b - a)).tdiv (4 : Int)) * (1 : Int)))), V.int IntKind.i64 (IntKind.i64.wrap (a + IntKind.i64.wrap
  (IntKind.i64.wrap ((IntKind.i64.wrap (b - a)).tdiv (4 : Int)) * (2 : Int)))), V.int IntKind.i64 (IntKind.i64.wrap (a + IntKind.i64.wrap (IntKind.i64.wrap ((IntKind.i64.wrap (b - a)).tdiv (4 : Int)) * (3 : Int)))), V.ptr (some (h.next, (0 :
  Nat)))] h'1 fun (v5 : V) (h'6 : Hp) => ∃ (n5 : Int), v5 = V.int IntKind.i64 n5 ∧ [V.ptr (some (h.next, (0 : Nat)))] = [V.ptr (some (h.next, (0 : Nat)))] ∧ Q1 [V.int IntKind.i64 n5] h'6 else [V.ptr (some (h.next, (0 : Nat)))] = [V.ptr (some
  (h.next, (0 : Nat)))] ∧ Q1 [V.int IntKind.i64 (IntKind.i64.wrap (a + IntKind.i64.wrap (IntKind.i64.wrap ((IntKind.i64.wrap (b - a)).tdiv (4 : Int)) * (2 : Int))))] h'1) ∧ ∀ (bs1 : Nat → Option V) (n6 : Int) (h1 : Hp), Q1 [V.int IntKind.i64
  n6] h1 → ∃ (n7 : Int), h1.ld h.next (0 : Nat) = some (V.int IntKind.i64 n7) ∧ bif n7 == (0 : Int) then K (V.tup [V.int IntKind.i64 n6, V.int IntKind.i64 (1 : Int)]) h1 else bif n7 == (12 : Int) then K (V.tup [V.int IntKind.i64 n6, V.int
  IntKind.i64 (2 : Int)]) h1 else K (V.tup [V.int IntKind.i64 n6, V.int IntKind.i64 (0 : Int)]) h1
theorem y57 (h : Hp) (K : V → Hp → Prop) (data : Option (Nat × Nat)) (data_n : Nat) (data_f : Bool) (a : Int) (b : Int) : X57 h K data data_n data_f a b = fnX Tryd.prog T F jl57 jj57 Tryd.f57 [V.slc data data_n data_f, V.int IntKind.i64 a, V.int IntKind.i64 b] h K := by kernel_rfl
theorem x57 {h : Hp} {K : V → Hp → Prop} (data : Option (Nat × Nat)) (data_n : Nat) (data_f : Bool) (a : Int) (b : Int) (hx : X57 h K data data_n data_f a b) : XCalls Tryd.prog 57 [V.slc data data_n data_f, V.int IntKind.i64 a, V.int IntKind.i64 b] h K :=
  XCalls.ofX tok fok mixed (JL := jl57) (JJ := jj57) Tryd.func57 ((y57 h K data data_n data_f a b) ▸ hx)
/-! 62: slices.partitionOrdered[string] -/
-- loop 15: stays data(0), a(1), i(10); turns j(11)
-- loop 13: stays data(0), a(1); turns i(10), j(11)
-- loop 5: stays data(0), a(1), i(10); turns j(11)
-- loop 3: stays data(0), a(1), j(11); turns i(10)
-- join 17: stays i(10), data(0), a(1); turns j(11)
-- join 15: stays j(11), data(0), a(1); turns i(10)
-- join 7: stays i(10), data(0), a(1); turns j(11)
-- join 5: stays j(11), data(0), a(1); turns i(10)
def jl62 : Nat → Option JT := fun r => bif Nat.beq r 15 then some ⟨[0, 1, 10], [11], [V.int IntKind.i64 (0 : Int)]⟩ else bif Nat.beq r 13 then some ⟨[0, 1], [10, 11], [V.int IntKind.i64 (0 : Int), V.int IntKind.i64 (0 : Int)]⟩ else bif
  Nat.beq r 5 then some ⟨[0, 1, 10], [11], [V.int IntKind.i64 (0 : Int)]⟩ else bif Nat.beq r 3 then some ⟨[0, 1, 11], [10], [V.int IntKind.i64 (0 : Int)]⟩ else none
def jj62 : Nat → Option JT := fun r => bif Nat.beq r 17 then some ⟨[10, 0, 1], [11], [V.int IntKind.i64 (0 : Int)]⟩ else bif Nat.beq r 15 then some ⟨[11, 0, 1], [10], [V.int IntKind.i64 (0 : Int)]⟩ else bif Nat.beq r 7 then some ⟨[10, 0, 1],
  [11], [V.int IntKind.i64 (0 : Int)]⟩ else bif Nat.beq r 5 then some ⟨[11, 0, 1], [10], [V.int IntKind.i64 (0 : Int)]⟩ else none
def X62 (h : Hp) (K : V → Hp → Prop) (data : Option (Nat × Nat)) (data_n : Nat) (data_f : Bool) (a : Int) (b : Int) (pivot : Int) : Prop := ((0 : Int) ≤ pivot ∧ pivot < (↑data_n : Int)) ∧ onS data fun (i1 o1 : Nat) => ∃ (s1 : List UInt8),
  h.ld i1 (o1 + pivot.toNat * (1 : Nat)) = some (V.str s1) ∧ ((0 : Int) ≤ a ∧ a < (↑data_n : Int)) ∧ onS data fun (i2 o2 : Nat) => ∃ (s2 : List UInt8), h.ld i2 (o2 + a.toNat * (1 : Nat)) = some (V.str s2) ∧ ((0 : Int) ≤ a ∧ a < (↑data_n :
  Int)) ∧ onS data fun (i3 o3 : Nat) => ∃ (h'1 : Hp), h.st i3 (o3 + a.toNat * (1 : Nat)) [V.str s1] = some h'1 ∧ V.int IntKind.i64 pivot = V.int IntKind.i64 pivot ∧ V.slc data data_n data_f = V.slc data data_n data_f ∧ ((0 : Int) ≤ pivot ∧
  pivot < (↑data_n : Int)) ∧ onS data fun (i4 o4 : Nat) => ∃ (h'2 : Hp), h'1.st i4 (o4 + pivot.toNat * (1 : Nat)) [V.str s2] = some h'2 ∧ ∃ (Q1 : List V → Hp → Prop), (∃ (I1 : List V → Hp → Prop), ∃ (x1 : List V → Hp → Nat), ([V.slc data
  data_n data_f, V.int IntKind.i64 a, V.int IntKind.i64 (IntKind.i64.wrap (b - (1 : Int)))] = [V.slc data data_n data_f, V.int IntKind.i64 a, V.int IntKind.i64 (IntKind.i64.wrap (b - (1 : Int)))] ∧ I1 [V.int IntKind.i64 (IntKind.i64.wrap (a
  + (1 : Int)))] h'2) ∧ ∀ (bs1 : Nat → Option V) (n1 : Int) (h1 : Hp), I1 [V.int IntKind.i64 n1] h1 → bif !ltI (IntKind.i64.wrap (b - (1 : Int))) n1 then ((0 : Int) ≤ n1 ∧ n1 < (↑data_n : Int)) ∧ onS data fun (i5 o5 : Nat) => ∃ (s3 : List
  UInt8), h1.ld i5 (o5 + n1.toNat * (1 : Nat)) = some (V.str s3) ∧ ((0 : Int) ≤ a ∧ a < (↑data_n : Int)) ∧ onS data fun (i6 o6 : Nat) => ∃ (s4 : List UInt8), h1.ld i6 (o6 + a.toNat * (1 : Nat)) = some (V.str s4) ∧ XCalls Tryd.prog (60 : Nat)
  [V.str s3, V.str s4] h1 fun (v1 : V) (h'3 : Hp) => ∃ (b1 : Bool), v1 = V.bool b1 ∧ bif b1 then [V.slc data data_n data_f, V.int IntKind.i64 a, V.int IntKind.i64 (IntKind.i64.wrap (b - (1 : Int)))] = [V.slc data data_n data_f, V.int
  IntKind.i64 a, V.int IntKind.i64 (IntKind.i64.wrap (b - (1 : Int)))] ∧ I1 [V.int IntKind.i64 (IntKind.i64.wrap (n1 + (1 : Int)))] h'3 ∧ x1 [V.int IntKind.i64 (IntKind.i64.wrap (n1 + (1 : Int)))] h'3 < x1 [V.int IntKind.i64 n1] h1 else
  [V.int IntKind.i64 (IntKind.i64.wrap (b - (1 : Int))), V.slc data data_n data_f, V.int IntKind.i64 a] = [V.int IntKind.i64 (IntKind.i64.wrap (b - (1 : Int))), V.slc data data_n data_f, V.int IntKind.i64 a] ∧ Q1 [V.int IntKind.i64 n1] h'3
  else [V.int IntKind.i64 (IntKind.i64.wrap (b - (1 : Int))), V.slc data data_n data_f, V.int IntKind.i64 a] = [V.int IntKind.i64 (IntKind.i64.wrap (b - (1 : Int))), V.slc data data_n data_f, V.int IntKind.i64 a] ∧ Q1 [V.int IntKind.i64 n1]
  h1) ∧ ∀ (bs2 : Nat → Option V) (n2 : Int) (h2 : Hp), Q1 [V.int IntKind.i64 n2] h2 → ∃ (Q2 : List V → Hp → Prop), (∃ (I2 : List V → Hp → Prop), ∃ (x2 : List V → Hp → Nat), ([V.slc data data_n data_f, V.int IntKind.i64 a, V.int IntKind.i64
  n2] = [V.slc data data_n data_f, V.int IntKind.i64 a, V.int IntKind.i64 n2] ∧ I2 [V.int IntKind.i64 (IntKind.i64.wrap (b - (1 : Int)))] h2) ∧ ∀ (bs3 : Nat → Option V) (n3 : Int) (h3 : Hp), I2 [V.int IntKind.i64 n3] h3 → bif !ltI n3 n2 then
  ((0 : Int) ≤ n3 ∧ n3 < (↑data_n : Int)) ∧ onS data fun (i7 o7 : Nat) => ∃ (s5 : List UInt8), h3.ld i7 (o7 + n3.toNat * (1 : Nat)) = some (V.str s5) ∧ ((0 : Int) ≤ a ∧ a < (↑data_n : Int)) ∧ onS data fun (i8 o8 : Nat) => ∃ (s6 : List
  UInt8), h3.ld i8 (o8 + a.toNat * (1 : Nat)) = some (V.str s6) ∧ XCalls Tryd.prog (60 : Nat) [V.str s5, V.str s6] h3 fun (v2 : V) (h'4 : Hp) => ∃ (b2 : Bool), v2 = V.bool b2 ∧ bif !b2 then [V.slc data data_n data_f, V.int IntKind.i64 a,
  V.int IntKind.i64 n2] = [V.slc data data_n data_f, V.int IntKind.i64 a, V.int IntKind.i64 n2] ∧ I2 [V.int IntKind.i64 (IntKind.i64.wrap (n3 - (1 : Int)))] h'4 ∧ x2 [V.int IntKind.i64 (IntKind.i64.wrap (n3 - (1 : Int)))] h'4 < x2 [V.int
  IntKind.i64 n3] h3 else [V.int IntKind.i64 n2, V.slc data data_n data_f, V.int IntKind.i64 a] = [V.int IntKind.i64 n2, V.slc data data_n data_f, V.int IntKind.i64 a] ∧ Q2 [V.int IntKind.i64 n3] h'4 else [V.int IntKind.i64 n2, V.slc data
  data_n data_f, V.int IntKind.i64 a] = [V.int IntKind.i64 n2, V.slc data data_n data_f, V.int IntKind.i64 a] ∧ Q2 [V.int IntKind.i64 n3] h3) ∧ ∀ (bs4 : Nat → Option V) (n4 : Int) (h4 : Hp), Q2 [V.int IntKind.i64 n4] h4 → bif ltI n4 n2 then
  ((0 : Int) ≤ a ∧ a < (↑data_n : Int)) ∧ onS data fun (i9 o9 : Nat) => ∃ (s7 : List UInt8), h4.ld i9 (o9 + a.toNat * (1 : Nat)) = some (V.str s7) ∧ ((0 : Int) ≤ n4 ∧ n4 < (↑data_n : Int)) ∧ onS data fun (i10 o10 : Nat) => ∃ (s8 : List
  UInt8), h4.ld i10 (o10 + n4.toNat * (1 : Nat)) = some (V.str s8) ∧ ((0 : Int) ≤ n4 ∧ n4 < (↑data_n : Int)) ∧ onS data fun (i11 o11 : Nat) => ∃ (h'5 : Hp), h4.st i11 (o11 + n4.toNat * (1 : Nat)) [V.str s7] = some h'5 ∧ V.int IntKind.i64 a =
  V.int IntKind.i64 a ∧ V.slc data data_n data_f = V.slc data data_n data_f ∧ ((0 : Int) ≤ a ∧ a < (↑data_n : Int)) ∧ onS data fun (i12 o12 : Nat) => ∃ (h'6 : Hp), h'5.st i12 (o12 + a.toNat * (1 : Nat)) [V.str s8] = some h'6 ∧ K (V.tup
  [V.int IntKind.i64 n4, V.bool true]) h'6 else ((0 : Int) ≤ n4 ∧ n4 < (↑data_n : Int)) ∧ onS data fun (i13 o13 : Nat) => ∃ (s9 : List UInt8), h4.ld i13 (o13 + n4.toNat * (1 : Nat)) = some (V.str s9) ∧ ((0 : Int) ≤ n2 ∧ n2 < (↑data_n : Int))
  ∧ onS data fun (i14 o14 : Nat) => ∃ (s10 : List UInt8), h4.ld i14 (o14 + n2.toNat * (1 : Nat)) = some (V.str s10) ∧ ((0 : Int) ≤ n2 ∧ n2 < (↑data_n : Int)) ∧ onS data fun (i15 o15 : Nat) => ∃ (h'7 : Hp), h4.st i15 (o15 + n2.toNat * (1 :
  Nat)) [V.str s9] = some h'7 ∧ V.int IntKind.i64 n4 = V.int IntKind.i64 n4 ∧ V.slc data data_n data_f = V.slc data data_n data_f ∧ ((0 : Int) ≤ n4 ∧ n4 < (↑data_n : Int)) ∧ onS data fun (i16 o16 : Nat) => ∃ (h'8 : Hp), h'7.st i16 (o16 +
  n4.toNat * (1 : Nat)) [V.str s10] = some h'8 ∧ ∃ (I3 : List V → Hp → Prop), ∃ (x3 : List V → Hp → Nat), ([V.slc data data_n data_f, V.int IntKind.i64 a] = [V.slc data data_n data_f, V.int IntKind.i64 a] ∧ I3 [V.int IntKind.i64
  (IntKind.i64.wrap (n2 + (1 : Int))), V.int IntKind.i64 (IntKind.i64.wrap (n4 - (1 : Int)))] h'8) ∧ ∀ (bs5 : Nat → Option V) (n5 n6 : Int) (h5 : Hp), I3 [V.int IntKind.i64 n5, V.int IntKind.i64 n6] h5 → ∃ (Q3 : List V → Hp → Prop), (∃ (I4 :
  List V → Hp → Prop), ∃ (x4 : List V → Hp → Nat), ([V.slc data data_n data_f, V.int IntKind.i64 a] = [V.slc data data_n data_f, V.int IntKind.i64 a] ∧ I4 [V.int IntKind.i64 n5, V.int IntKind.i64 n6] h5) ∧ ∀ (bs6 : Nat → Option V) (n7 n8 :
  Int) (h6 : Hp), I4 [V.int IntKind.i64 n7, V.int IntKind.i64 n8] h6 → bif !ltI n8 n7 then ((0 : Int) ≤ n7 ∧ n7 < (↑data_n : Int)) ∧ onS data fun (i17 o17 : Nat) => ∃ (s11 : List UInt8), h6.ld i17 (o17 + n7.toNat * (1 : Nat)) = some (V.str
  s11) ∧ ((0 : Int) ≤ a ∧ a < (↑data_n : Int)) ∧ onS data fun (i18 o18 : Nat) => ∃ (s12 : List UInt8), h6.ld i18 (o18 + a.toNat * (1 : Nat)) = some (V.str s12) ∧ XCalls Tryd.prog (60 : Nat) [V.str s11, V.str s12] h6 fun (v3 : V) (h'9 : Hp)
  => ∃ (b3 : Bool), v3 = V.bool b3 ∧ bif b3 then [V.slc data data_n data_f, V.int IntKind.i64 a] = [V.slc data data_n data_f, V.int IntKind.i64 a] ∧ I4 [V.int IntKind.i64 (IntKind.i64.wrap (n7 + (1 : Int))), V.int IntKind.i64 n8] h'9 ∧ x4
  [V.int IntKind.i64 (IntKind.i64.wrap (n7 + (1 : Int))), V.int IntKind.i64 n8] h'9 < x4 [V.int IntKind.i64 n7, V.int IntKind.i64 n8] h6 else [V.int IntKind.i64 n8, V.slc data data_n data_f, V.int IntKind.i64 a] = [V.int IntKind.i64 n6,
  V.slc data data_n data_f, V.int IntKind.i64 a] ∧ Q3 [V.int IntKind.i64 n7] h'9 else [V.int IntKind.i64 n8, V.slc data data_n data_f, V.int IntKind.i64 a] = [V.int IntKind.i64 n6, V.slc data data_n data_f, V.int IntKind.i64 a] ∧ Q3 [V.int
  IntKind.i64 n7] h6) ∧ ∀ (bs7 : Nat → Option V) (n9 : Int) (h7 : Hp), Q3 [V.int IntKind.i64 n9] h7 → ∃ (Q4 : List V → Hp → Prop), (∃ (I5 : List V → Hp → Prop), ∃ (x5 : List V → Hp → Nat), ([V.slc data data_n data_f, V.int IntKind.i64 a,
  V.int IntKind.i64 n9] = [V.slc data data_n data_f, V.int IntKind.i64 a, V.int IntKind.i64 n9] ∧ I5 [V.int IntKind.i64 n6] h7) ∧ ∀ (bs8 : Nat → Option V) (n10 : Int) (h8 : Hp), I5 [V.int IntKind.i64 n10] h8 → bif !ltI n10 n9 then ((0 : Int)
  ≤ n10 ∧ n10 < (↑data_n : Int)) ∧ onS data fun (i19 o19 : Nat) => ∃ (s13 : List UInt8), h8.ld i19 (o19 + n10.toNat * (1 : Nat)) = some (V.str s13) ∧ ((0 : Int) ≤ a ∧ a < (↑data_n : Int)) ∧ onS data fun (i20 o20 : Nat) => ∃ (s14 : List
  UInt8), h8.ld i20 (o20 + a.toNat * (1 : Nat)) = some (V.str s14) ∧ XCalls Tryd.prog (60 : Nat) [V.str s13, V.str s14] h8 fun (v4 : V) (h'10 : Hp) => ∃ (b4 : Bool), v4 = V.bool b4 ∧ bif !b4 then [V.slc data data_n data_f, V.int IntKind.i64
  a, V.int IntKind.i64 n9] = [V.slc data data_n data_f, V.int IntKind.i64 a, V.int IntKind.i64 n9] ∧ I5 [V.int IntKind.i64 (IntKind.i64.wrap (n10 - (1 : Int)))] h'10 ∧ x5 [V.int IntKind.i64 (IntKind.i64.wrap (n10 - (1 : Int)))] h'10 < x5
  [V.int IntKind.i64 n10] h8 else [V.int IntKind.i64 n9, V.slc data data_n data_f, V.int IntKind.i64 a] = [V.int IntKind.i64 n9, V.slc data data_n data_f, V.int IntKind.i64 a] ∧ Q4 [V.int IntKind.i64 n10] h'10 else [V.int IntKind.i64 n9,
  V.slc data data_n data_f, V.int IntKind.i64 a] = [V.int IntKind.i64 n9, V.slc data data_n data_f, V.int IntKind.i64 a] ∧ Q4 [V.int IntKind.i64 n10] h8) ∧ ∀ (bs9 : Nat → Option V) (n11 : Int) (h9 : Hp), Q4 [V.int IntKind.i64 n11] h9 → bif
  ltI n11 n9 then ((0 : Int) ≤ a ∧ a < (↑data_n : Int)) ∧ onS data fun (i21 o21 : Nat) => ∃ (s15 : List UInt8), h9.ld i21 (o21 + a.toNat * (1 : Nat)) = some (V.str s15) ∧ ((0 : Int) ≤ n11 ∧ n11 < (↑data_n : Int)) ∧ onS data fun (i22 o22 :
  Nat) => ∃ (s16 : List UInt8), h9.ld i22 (o22 + n11.toNat * (1 : Nat)) = some (V.str s16) ∧ ((0 : Int) ≤ n11 ∧ n11 < (↑data_n : Int)) ∧ onS data fun (i23 o23 : Nat) => ∃ (h'11 : Hp), h9.st i23 (o23 + n11.toNat * (1 : Nat)) [V.str s15] =
  some h'11 ∧ V.int IntKind.i64 a = V.int IntKind.i64 a ∧ V.slc data data_n data_f = V.slc data data_n data_f ∧ ((0 : Int) ≤ a ∧ a < (↑data_n : Int)) ∧ onS data fun (i24 o24 : Nat) => ∃ (h'12 : Hp), h'11.st i24 (o24 + a.toNat * (1 : Nat))
  [V.str s16] = some h'12 ∧ K (V.tup [V.int IntKind.i64 n11, V.bool false]) h'12 else ((0 : Int) ≤ n11 ∧ n11 < (↑data_n : Int)) ∧ onS data fun (i25 o25 : Nat) => ∃ (s17 : List UInt8), h9.ld i25 (o25 + n11.toNat * (1 : Nat)) = some (V.str
  s17) ∧ ((0 : Int) ≤ n9 ∧ n9 < (↑data_n : Int)) ∧ onS data fun (i26 o26 : Nat) => ∃ (s18 : List UInt8), h9.ld i26 (o26 + n9.toNat * (1 : Nat)) = some (V.str s18) ∧ ((0 : Int) ≤ n9 ∧ n9 < (↑data_n : Int)) ∧ onS data fun (i27 o27 : Nat) => ∃
  (h'13 : Hp), h9.st i27 (o27 + n9.toNat * (1 : Nat)) [V.str s17] = some h'13 ∧ V.int IntKind.i64 n11 = V.int IntKind.i64 n11 ∧ V.slc data data_n data_f = V.slc data data_n data_f ∧ ((0 : Int) ≤ n11 ∧ n11 < (↑data_n : Int)) ∧ onS data fun
  (i28 o28 : Nat) => ∃ (h'14 : Hp), h'13.st i28 (o28 + n11.toNat * (1 : Nat)) [V.str s18] = some h'14 ∧ [V.slc data data_n data_f, V.int IntKind.i64 a] = [V.slc data data_n data_f, V.int IntKind.i64 a] ∧ I3 [V.int IntKind.i64
  (IntKind.i64.wrap (n9 + (1 : Int))), V.int IntKind.i64 (IntKind.i64.wrap (n11 - (1 : Int)))] h'14 ∧ x3 [V.int IntKind.i64 (IntKind.i64.wrap (n9 + (1 : Int))), V.int IntKind.i64 (IntKind.i64.wrap (n11 - (1 : Int)))] h'14 < x3 [V.int
  IntKind.i64 n5, V.int IntKind.i64 n6] h5
theorem y62 (h : Hp) (K : V → Hp → Prop) (data : Option (Nat × Nat)) (data_n : Nat) (data_f : Bool) (a : Int) (b : Int) (pivot : Int) : X62 h K data data_n data_f a b pivot = fnX Tryd.prog T F jl62 jj62 Tryd.f62 [V.slc data data_n data_f,
  V.int IntKind.i64 a, V.int IntKind.i64 b, V.int IntKind.i64 pivot] h K := by kernel_rfl
theorem x62 {h : Hp} {K : V → Hp → Prop} (data : Option (Nat × Nat)) (data_n : Nat) (data_f : Bool) (a : Int) (b : Int) (pivot : Int) (hx : X62 h K data data_n data_f a b pivot) : XCalls Tryd.prog 62 [V.slc data data_n data_f, V.int
  IntKind.i64 a, V.int IntKind.i64 b, V.int IntKind.i64 pivot] h K :=
  XCalls.ofX tok fok mixed (JL := jl62) (JJ := jj62) Tryd.func62 ((y62 h K data data_n data_f a b pivot) ▸ hx)
/-! 61: slices.partitionEqualOrdered[string] -/
-- loop 5: stays data(0), a(1), i(9); turns j(10)
-- loop 3: stays data(0), a(1); turns i(9), j(10)
-- join 7: stays i(9), data(0), a(1); turns j(10)
-- join 5: stays j(10), data(0), a(1); turns i(9)
def jl61 : Nat → Option JT := fun r => bif Nat.beq r 5 then some ⟨[0, 1, 9], [10], [V.int IntKind.i64 (0 : Int)]⟩ else bif Nat.beq r 3 then some ⟨[0, 1], [9, 10], [V.int IntKind.i64 (0 : Int), V.int IntKind.i64 (0 : Int)]⟩ else none
def jj61 : Nat → Option JT := fun r => bif Nat.beq r 7 then some ⟨[9, 0, 1], [10], [V.int IntKind.i64 (0 : Int)]⟩ else bif Nat.beq r 5 then some ⟨[10, 0, 1], [9], [V.int IntKind.i64 (0 : Int)]⟩ else none
def X61 (h : Hp) (K : V → Hp → Prop) (data : Option (Nat × Nat)) (data_n : Nat) (data_f : Bool) (a : Int) (b : Int) (pivot : Int) : Prop := ((0 : Int) ≤ pivot ∧ pivot < (↑data_n : Int)) ∧ onS data fun (i1 o1 : Nat) => ∃ (s1 : List UInt8),
  h.ld i1 (o1 + pivot.toNat * (1 : Nat)) = some (V.str s1) ∧ ((0 : Int) ≤ a ∧ a < (↑data_n : Int)) ∧ onS data fun (i2 o2 : Nat) => ∃ (s2 : List UInt8), h.ld i2 (o2 + a.toNat * (1 : Nat)) = some (V.str s2) ∧ ((0 : Int) ≤ a ∧ a < (↑data_n :
  Int)) ∧ onS data fun (i3 o3 : Nat) => ∃ (h'1 : Hp), h.st i3 (o3 + a.toNat * (1 : Nat)) [V.str s1] = some h'1 ∧ V.int IntKind.i64 pivot = V.int IntKind.i64 pivot ∧ V.slc data data_n data_f = V.slc data data_n data_f ∧ ((0 : Int) ≤ pivot ∧
  pivot < (↑data_n : Int)) ∧ onS data fun (i4 o4 : Nat) => ∃ (h'2 : Hp), h'1.st i4 (o4 + pivot.toNat * (1 : Nat)) [V.str s2] = some h'2 ∧ ∃ (I1 : List V → Hp → Prop), ∃ (x1 : List V → Hp → Nat), ([V.slc data data_n data_f, V.int IntKind.i64
  a] = [V.slc data data_n data_f, V.int IntKind.i64 a] ∧ I1 [V.int IntKind.i64 (IntKind.i64.wrap (a + (1 : Int))), V.int IntKind.i64 (IntKind.i64.wrap (b - (1 : Int)))] h'2) ∧ ∀ (bs1 : Nat → Option V) (n1 n2 : Int) (h1 : Hp), I1 [V.int
  IntKind.i64 n1, V.int IntKind.i64 n2] h1 → ∃ (Q1 : List V → Hp → Prop), (∃ (I2 : List V → Hp → Prop), ∃ (x2 : List V → Hp → Nat), ([V.slc data data_n data_f, V.int IntKind.i64 a] = [V.slc data data_n data_f, V.int IntKind.i64 a] ∧ I2
  [V.int IntKind.i64 n1, V.int IntKind.i64 n2] h1) ∧ ∀ (bs2 : Nat → Option V) (n3 n4 : Int) (h2 : Hp), I2 [V.int IntKind.i64 n3, V.int IntKind.i64 n4] h2 → bif !ltI n4 n3 then ((0 : Int) ≤ a ∧ a < (↑data_n : Int)) ∧ onS data fun (i5 o5 :
  Nat) => ∃ (s3 : List UInt8), h2.ld i5 (o5 + a.toNat * (1 : Nat)) = some (V.str s3) ∧ ((0 : Int) ≤ n3 ∧ n3 < (↑data_n : Int)) ∧ onS data fun (i6 o6 : Nat) => ∃ (s4 : List UInt8), h2.ld i6 (o6 + n3.toNat * (1 : Nat)) = some (V.str s4) ∧
  XCalls Tryd.prog (60 : Nat) [V.str s3, V.str s4] h2 fun (v1 : V) (h'3 : Hp) => ∃ (b1 : Bool), v1 = V.bool b1 ∧ bif !b1 then [V.slc data data_n data_f, V.int IntKind.i64 a] = [V.slc data data_n data_f, V.int IntKind.i64 a] ∧ I2 [V.int
  IntKind.i64 (IntKind.i64.wrap (n3 + (1 : Int))), V.int IntKind.i64 n4] h'3 ∧ x2 [V.int IntKind.i64 (IntKind.i64.wrap (n3 + (1 : Int))), V.int IntKind.i64 n4] h'3 < x2 [V.int IntKind.i64 n3, V.int IntKind.i64 n4] h2 else [V.int IntKind.i64
  n4, V.slc data data_n data_f, V.int IntKind.i64 a] = [V.int IntKind.i64 n2, V.slc data data_n data_f, V.int IntKind.i64 a] ∧ Q1 [V.int IntKind.i64 n3] h'3 else [V.int IntKind.i64 n4, V.slc data data_n data_f, V.int IntKind.i64 a] = [V.int
  IntKind.i64 n2, V.slc data data_n data_f, V.int IntKind.i64 a] ∧ Q1 [V.int IntKind.i64 n3] h2) ∧ ∀ (bs3 : Nat → Option V) (n5 : Int) (h3 : Hp), Q1 [V.int IntKind.i64 n5] h3 → ∃ (Q2 : List V → Hp → Prop), (∃ (I3 : List V → Hp → Prop), ∃ (x3
  : List V → Hp → Nat), ([V.slc data data_n data_f, V.int IntKind.i64 a, V.int IntKind.i64 n5] = [V.slc data data_n data_f, V.int IntKind.i64 a, V.int IntKind.i64 n5] ∧ I3 [V.int IntKind.i64 n2] h3) ∧ ∀ (bs4 : Nat → Option V) (n6 : Int) (h4
  : Hp), I3 [V.int IntKind.i64 n6] h4 → bif !ltI n6 n5 then ((0 : Int) ≤ a ∧ a < (↑data_n : Int)) ∧ onS data fun (i7 o7 : Nat) => ∃ (s5 : List UInt8), h4.ld i7 (o7 + a.toNat * (1 : Nat)) = some (V.str s5) ∧ ((0 : Int) ≤ n6 ∧ n6 < (↑data_n :
  Int)) ∧ onS data fun (i8 o8 : Nat) => ∃ (s6 : List UInt8), h4.ld i8 (o8 + n6.toNat * (1 : Nat)) = some (V.str s6) ∧ XCalls Tryd.prog (60 : Nat) [V.str s5, V.str s6] h4 fun (v2 : V) (h'4 : Hp) => ∃ (b2 : Bool), v2 = V.bool b2 ∧ bif b2 then
  [V.slc data data_n data_f, V.int IntKind.i64 a, V.int IntKind.i64 n5] = [V.slc data data_n data_f, V.int IntKind.i64 a, V.int IntKind.i64 n5] ∧ I3 [V.int IntKind.i64 (IntKind.i64.wrap (n6 - (1 : Int)))] h'4 ∧ x3 [V.int IntKind.i64
  (IntKind.i64.wrap (n6 - (1 : Int)))] h'4 < x3 [V.int IntKind.i64 n6] h4 else [V.int IntKind.i64 n5, V.slc data data_n data_f, V.int IntKind.i64 a] = [V.int IntKind.i64 n5, V.slc data data_n data_f, V.int IntKind.i64 a] ∧ Q2 [V.int
  IntKind.i64 n6] h'4 else [V.int IntKind.i64 n5, V.slc data data_n data_f, V.int IntKind.i64 a] = [V.int IntKind.i64 n5, V.slc data data_n data_f, V.int IntKind.i64 a] ∧ Q2 [V.int IntKind.i64 n6] h4) ∧ ∀ (bs5 : Nat → Option V) (n7 : Int)
  (h5 : Hp), Q2 [V.int IntKind.i64 n7] h5 → bif ltI n7 n5 then K (V.int IntKind.i64 n5) h5 else ((0 : Int) ≤ n7 ∧ n7 < (↑data_n : Int)) ∧ onS data fun (i9 o9 : Nat) => ∃ (s7 : List UInt8), h5.ld i9 (o9 + n7.toNat * (1 : Nat)) = some (V.str
  s7) ∧ ((0 : Int) ≤ n5 ∧ n5 < (↑data_n : Int)) ∧ onS data fun (i10 o10 : Nat) => ∃ (s8 : List UInt8), h5.ld i10 (o10 + n5.toNat * (1 : Nat)) = some (V.str s8) ∧ ((0 : Int) ≤ n5 ∧ n5 < (↑data_n : Int)) ∧ onS data fun (i11 o11 : Nat) => ∃
  (h'5 : Hp), h5.st i11 (o11 + n5.toNat * (1 : Nat)) [V.str s7] = some h'5 ∧ V.int IntKind.i64 n7 = V.int IntKind.i64 n7 ∧ V.slc data data_n data_f = V.slc data data_n data_f ∧ ((0 : Int) ≤ n7 ∧ n7 < (↑data_n : Int)) ∧ onS data fun (i12 o12
  : Nat) => ∃ (h'6 : Hp), h'5.st i12 (o12 + n7.toNat * (1 : Nat)) [V.str s8] = some h'6 ∧ [V.slc data data_n data_f, V.int IntKind.i64 a] = [V.slc data data_n data_f, V.int IntKind.i64 a] ∧ I1 [V.int IntKind.i64 (IntKind.i64.wrap (n5 + (1 :
  Int))), V.int IntKind.i64 (IntKind.i64.wrap (n7 - (1 : Int)))] h'6 ∧ x1 [V.int IntKind.i64 (IntKind.i64.wrap (n5 + (1 : Int))), V.int IntKind.i64 (IntKind.i64.wrap (n7 - (1 : Int)))] h'6 < x1 [V.int IntKind.i64 n1, V.int IntKind.i64 n2] h1
theorem y61 (h : Hp) (K : V → Hp → Prop) (data : Option (Nat × Nat)) (data_n : Nat) (data_f : Bool) (a : Int) (b : Int) (pivot : Int) : X61 h K data data_n data_f a b pivot = fnX Tryd.prog T F jl61 jj61 Tryd.f61 [V.slc data data_n data_f,
  V.int IntKind.i64 a, V.int IntKind.i64 b, V.int IntKind.i64 pivot] h K := by kernel_rfl
theorem x61 {h : Hp} {K : V → Hp → Prop} (data : Option (Nat × Nat)) (data_n : Nat) (data_f : Bool) (a : Int) (b : Int) (pivot : Int) (hx : X61 h K data data_n data_f a b pivot) : XCalls Tryd.prog 61 [V.slc data data_n data_f, V.int
  IntKind.i64 a, V.int IntKind.i64 b, V.int IntKind.i64 pivot] h K :=
  XCalls.ofX tok fok mixed (JL := jl61) (JJ := jj61) Tryd.func61 ((y61 h K data data_n data_f a b pivot) ▸ hx)
/-! 59: slices.partialInsertionSortOrdered[string] -/
-- loop 20: stays data(0), a(1), b(2), i(7), j(8); turns j(10)
-- loop 14: stays data(0), a(1), b(2), i(7), j(8); turns j(9)
-- loop 5: stays data(0), a(1), b(2), j(8); turns i(7)
-- loop 3: stays data(0), a(1), b(2); turns i(7), j(8)
-- join 18: stays b(2), i(7), data(0), j(8), a(1); turns 
-- join 7: stays b(2), a(1), data(0), j(8); turns i(7)
def jl59 : Nat → Option JT := fun r => bif Nat.beq r 20 then some ⟨[0, 1, 2, 7, 8], [10], [V.int IntKind.i64 (0 : Int)]⟩ else bif Nat.beq r 14 then some ⟨[0, 1, 2, 7, 8], [9], [V.int IntKind.i64 (0 : Int)]⟩ else bif Nat.beq r 5 then some
  ⟨[0, 1, 2, 8], [7], [V.int IntKind.i64 (0 : Int)]⟩ else bif Nat.beq r 3 then some ⟨[0, 1, 2], [7, 8], [V.int IntKind.i64 (0 : Int), V.int IntKind.i64 (0 : Int)]⟩ else none
def jj59 : Nat → Option JT := fun r => bif Nat.beq r 18 then some ⟨[2, 7, 0, 8, 1], [], []⟩ else bif Nat.beq r 7 then some ⟨[2, 1, 0, 8], [7], [V.int IntKind.i64 (0 : Int)]⟩ else none
def X59 (h : Hp) (K : V → Hp → Prop) (data : Option (Nat × Nat)) (data_n : Nat) (data_f : Bool) (a : Int) (b : Int) : Prop := ∃ (I1 : List V → Hp → Prop), ∃ (x1 : List V → Hp → Nat), ([V.slc data data_n data_f, V.int IntKind.i64 a, V.int
  IntKind.i64 b] = [V.slc data data_n data_f, V.int IntKind.i64 a, V.int IntKind.i64 b] ∧ I1 [V.int IntKind.i64 (IntKind.i64.wrap (a + (1 : Int))), V.int IntKind.i64 (0 : Int)] h) ∧ ∀ (bs1 : Nat → Option V) (n1 n2 : Int) (h1 : Hp), I1 [V.int
  IntKind.i64 n1, V.int IntKind.i64 n2] h1 → bif ltI n2 (5 : Int) then ∃ (Q1 : List V → Hp → Prop), (∃ (I2 : List V → Hp → Prop), ∃ (x2 : List V → Hp → Nat), ([V.slc data data_n data_f, V.int IntKind.i64 a, V.int IntKind.i64 b, V.int
  IntKind.i64 n2] = [V.slc data data_n data_f, V.int IntKind.i64 a, V.int IntKind.i64 b, V.int IntKind.i64 n2] ∧ I2 [V.int IntKind.i64 n1] h1) ∧ ∀ (bs2 : Nat → Option V) (n3 : Int) (h2 : Hp), I2 [V.int IntKind.i64 n3] h2 → bif ltI n3 b then
  ((0 : Int) ≤ n3 ∧ n3 < (↑data_n : Int)) ∧ onS data fun (i1 o1 : Nat) => ∃ (s1 : List UInt8), h2.ld i1 (o1 + n3.toNat * (1 : Nat)) = some (V.str s1) ∧ ((0 : Int) ≤ IntKind.i64.wrap (n3 - (1 : Int)) ∧ IntKind.i64.wrap (n3 - (1 : Int)) <
  (↑data_n : Int)) ∧ onS data fun (i2 o2 : Nat) => ∃ (s2 : List UInt8), h2.ld i2 (o2 + (IntKind.i64.wrap (n3 - (1 : Int))).toNat * (1 : Nat)) = some (V.str s2) ∧ XCalls Tryd.prog (60 : Nat) [V.str s1, V.str s2] h2 fun (v1 : V) (h'1 : Hp) =>
  ∃ (b1 : Bool), v1 = V.bool b1 ∧ bif !b1 then [V.slc data data_n data_f, V.int IntKind.i64 a, V.int IntKind.i64 b, V.int IntKind.i64 n2] = [V.slc data data_n data_f, V.int IntKind.i64 a, V.int IntKind.i64 b, V.int IntKind.i64 n2] ∧ I2
  [V.int IntKind.i64 (IntKind.i64.wrap (n3 + (1 : Int)))] h'1 ∧ x2 [V.int IntKind.i64 (IntKind.i64.wrap (n3 + (1 : Int)))] h'1 < x2 [V.int IntKind.i64 n3] h2 else [V.int IntKind.i64 b, V.int IntKind.i64 a, V.slc data data_n data_f, V.int
  IntKind.i64 n2] = [V.int IntKind.i64 b, V.int IntKind.i64 a, V.slc data data_n data_f, V.int IntKind.i64 n2] ∧ Q1 [V.int IntKind.i64 n3] h'1 else [V.int IntKind.i64 b, V.int IntKind.i64 a, V.slc data data_n data_f, V.int IntKind.i64 n2] =
  [V.int IntKind.i64 b, V.int IntKind.i64 a, V.slc data data_n data_f, V.int IntKind.i64 n2] ∧ Q1 [V.int IntKind.i64 n3] h2) ∧ ∀ (bs3 : Nat → Option V) (n4 : Int) (h3 : Hp), Q1 [V.int IntKind.i64 n4] h3 → bif n4 == b then K (V.bool true) h3
  else bif ltI (IntKind.i64.wrap (b - a)) (50 : Int) then K (V.bool false) h3 else ((0 : Int) ≤ IntKind.i64.wrap (n4 - (1 : Int)) ∧ IntKind.i64.wrap (n4 - (1 : Int)) < (↑data_n : Int)) ∧ onS data fun (i3 o3 : Nat) => ∃ (s3 : List UInt8),
  h3.ld i3 (o3 + (IntKind.i64.wrap (n4 - (1 : Int))).toNat * (1 : Nat)) = some (V.str s3) ∧ ((0 : Int) ≤ n4 ∧ n4 < (↑data_n : Int)) ∧ onS data fun (i4 o4 : Nat) => ∃ (s4 : List UInt8), h3.ld i4 (o4 + n4.toNat * (1 : Nat)) = some (V.str s4) ∧
  ((0 : Int) ≤ n4 ∧ n4 < (↑data_n : Int)) ∧ onS data fun (i5 o5 : Nat) => ∃ (h'2 : Hp), h3.st i5 (o5 + n4.toNat * (1 : Nat)) [V.str s3] = some h'2 ∧ V.int IntKind.i64 (IntKind.i64.wrap (n4 - (1 : Int))) = V.int IntKind.i64 (IntKind.i64.wrap
  (n4 - (1 : Int))) ∧ V.int IntKind.i64 n4 = V.int IntKind.i64 n4 ∧ V.slc data data_n data_f = V.slc data data_n data_f ∧ ((0 : Int) ≤ IntKind.i64.wrap (n4 - (1 : Int)) ∧ IntKind.i64.wrap (n4 - (1 : Int)) < (↑data_n : Int)) ∧ onS data fun
  (i6 o6 : Nat) => ∃ (h'3 : Hp), h'2.st i6 (o6 + (IntKind.i64.wrap (n4 - (1 : Int))).toNat * (1 : Nat)) [V.str s4] = some h'3 ∧ ∃ (Q2 : List V → Hp → Prop), (bif !ltI (IntKind.i64.wrap (n4 - a)) (2 : Int) then ∃ (I3 : List V → Hp → Prop), ∃
  (x3 : List V → Hp → Nat), ([V.slc data data_n data_f, V.int IntKind.i64 a, V.int IntKind.i64 b, V.int IntKind.i64 n4, V.int IntKind.i64 n2] = [V.slc data data_n data_f, V.int IntKind.i64 a, V.int IntKind.i64 b, V.int IntKind.i64 n4, V.int
  IntKind.i64 n2] ∧ I3 [V.int IntKind.i64 (IntKind.i64.wrap (n4 - (1 : Int)))] h'3) ∧ ∀ (bs4 : Nat → Option V) (n5 : Int) (h4 : Hp), I3 [V.int IntKind.i64 n5] h4 → bif !ltI n5 (1 : Int) then ((0 : Int) ≤ n5 ∧ n5 < (↑data_n : Int)) ∧ onS data
  fun (i7 o7 : Nat) => ∃ (s5 : List UInt8), h4.ld i7 (o7 + n5.toNat * (1 : Nat)) = some (V.str s5) ∧ ((0 : Int) ≤ IntKind.i64.wrap (n5 - (1 : Int)) ∧ IntKind.i64.wrap (n5 - (1 : Int)) < (↑data_n : Int)) ∧ onS data fun (i8 o8 : Nat) => ∃ (s6
  : List UInt8), h4.ld i8 (o8 + (IntKind.i64.wrap (n5 - (1 : Int))).toNat * (1 : Nat)) = some (V.str s6) ∧ XCalls Tryd.prog (60 : Nat) [V.str s5, V.str s6] h4 fun (v2 : V) (h'4 : Hp) => ∃ (b2 : Bool), v2 = V.bool b2 ∧ bif !b2 then [V.int
  IntKind.i64 b, V.int IntKind.i64 n4, V.slc data data_n data_f, V.int IntKind.i64 n2, V.int IntKind.i64 a] = [V.int IntKind.i64 b, V.int IntKind.i64 n4, V.slc data data_n data_f, V.int IntKind.i64 n2, V.int IntKind.i64 a] ∧ Q2 [] h'4 else
  ((0 : Int) ≤ IntKind.i64.wrap (n5 - (1 : Int)) ∧ IntKind.i64.wrap (n5 - (1 : Int)) < (↑data_n : Int)) ∧ onS data fun (i9 o9 : Nat) => ∃ (s7 : List UInt8), h'4.ld i9 (o9 + (IntKind.i64.wrap (n5 - (1 : Int))).toNat * (1 : Nat)) = some (V.str
  s7) ∧ ((0 : Int) ≤ n5 ∧ n5 < (↑data_n : Int)) ∧ onS data fun (i10 o10 : Nat) => ∃ (s8 : List UInt8), h'4.ld i10 (o10 + n5.toNat * (1 : Nat)) = some (V.str s8) ∧ ((0 : Int) ≤ n5 ∧ n5 < (↑data_n : Int)) ∧ onS data fun (i11 o11 : Nat) => ∃
  (h'5 : Hp), h'4.st i11 (o11 + n5.toNat * (1 : Nat)) [V.str s7] = some h'5 ∧ V.int IntKind.i64 (IntKind.i64.wrap (n5 - (1 : Int))) = V.int IntKind.i64 (IntKind.i64.wrap (n5 - (1 : Int))) ∧ V.int IntKind.i64 n5 = V.int IntKind.i64 n5 ∧ V.slc
  data data_n data_f = V.slc data data_n data_f ∧ ((0 : Int) ≤ IntKind.i64.wrap (n5 - (1 : Int)) ∧ IntKind.i64.wrap (n5 - (1 : Int)) < (↑data_n : Int)) ∧ onS data fun (i12 o12 : Nat) => ∃ (h'6 : Hp), h'5.st i12 (o12 + (IntKind.i64.wrap (n5 -
  (1 : Int))).toNat * (1 : Nat)) [V.str s8] = some h'6 ∧ [V.slc data data_n data_f, V.int IntKind.i64 a, V.int IntKind.i64 b, V.int IntKind.i64 n4, V.int IntKind.i64 n2] = [V.slc data data_n data_f, V.int IntKind.i64 a, V.int IntKind.i64 b,
  V.int IntKind.i64 n4, V.int IntKind.i64 n2] ∧ I3 [V.int IntKind.i64 (IntKind.i64.wrap (n5 - (1 : Int)))] h'6 ∧ x3 [V.int IntKind.i64 (IntKind.i64.wrap (n5 - (1 : Int)))] h'6 < x3 [V.int IntKind.i64 n5] h4 else [V.int IntKind.i64 b, V.int
  IntKind.i64 n4, V.slc data data_n data_f, V.int IntKind.i64 n2, V.int IntKind.i64 a] = [V.int IntKind.i64 b, V.int IntKind.i64 n4, V.slc data data_n data_f, V.int IntKind.i64 n2, V.int IntKind.i64 a] ∧ Q2 [] h4 else [V.int IntKind.i64 b,
  V.int IntKind.i64 n4, V.slc data data_n data_f, V.int IntKind.i64 n2, V.int IntKind.i64 a] = [V.int IntKind.i64 b, V.int IntKind.i64 n4, V.slc data data_n data_f, V.int IntKind.i64 n2, V.int IntKind.i64 a] ∧ Q2 [] h'3) ∧ ∀ (bs5 : Nat →
  Option V) (h5 : Hp), Q2 [] h5 → bif !ltI (IntKind.i64.wrap (b - n4)) (2 : Int) then ∃ (I4 : List V → Hp → Prop), ∃ (x4 : List V → Hp → Nat), ([V.slc data data_n data_f, V.int IntKind.i64 a, V.int IntKind.i64 b, V.int IntKind.i64 n4, V.int
  IntKind.i64 n2] = [V.slc data data_n data_f, V.int IntKind.i64 a, V.int IntKind.i64 b, V.int IntKind.i64 n4, V.int IntKind.i64 n2] ∧ I4 [V.int IntKind.i64 (IntKind.i64.wrap (n4 + (1 : Int)))] h5) ∧ ∀ (bs6 : Nat → Option V) (n6 : Int) (h6 :
  Hp), I4 [V.int IntKind.i64 n6] h6 → bif ltI n6 b then ((0 : Int) ≤ n6 ∧ n6 < (↑data_n : Int)) ∧ onS data fun (i13 o13 : Nat) => ∃ (s9 : List UInt8), h6.ld i13 (o13 + n6.toNat * (1 : Nat)) = some (V.str s9) ∧ ((0 : Int) ≤ IntKind.i64.wrap
  (n6 - (1 : Int)) ∧ IntKind.i64.wrap (n6 - (1 : Int)) < (↑data_n : Int)) ∧ onS data fun (i14 o14 : Nat) => ∃ (s10 : List UInt8), h6.ld i14 (o14 + (IntKind.i64.wrap (n6 - (1 : Int))).toNat * (1 : Nat)) = some (V.str s10) ∧ XCalls Tryd.prog
  (60 : Nat) [V.str s9, V.str s10] h6 fun (v3 : V) (h'7 : Hp) => ∃ (b3 : Bool), v3 = V.bool b3 ∧ bif !b3 then [V.slc data data_n data_f, V.int IntKind.i64 a, V.int IntKind.i64 b] = [V.slc data data_n data_f, V.int IntKind.i64 a, V.int
  IntKind.i64 b] ∧ I1 [V.int IntKind.i64 n4, V.int IntKind.i64 (IntKind.i64.wrap (n2 + (1 : Int)))] h'7 ∧ x1 [V.int IntKind.i64 n4, V.int IntKind.i64 (IntKind.i64.wrap (n2 + (1 : Int)))] h'7 < x1 [V.int IntKind.i64 n1, V.int IntKind.i64 n2]
  h1 else ((0 : Int) ≤ IntKind.i64.wrap (n6 - (1 : Int)) ∧ IntKind.i64.wrap (n6 - (1 : Int)) < (↑data_n : Int)) ∧ onS data fun (i15 o15 : Nat) => ∃ (s11 : List UInt8), h'7.ld i15 (o15 + (IntKind.i64.wrap (n6 - (1 : Int))).toNat * (1 : Nat))
  = some (V.str s11) ∧ ((0 : Int) ≤ n6 ∧ n6 < (↑data_n : Int)) ∧ onS data fun (i16 o16 : Nat) => ∃ (s12 : List UInt8), h'7.ld i16 (o16 + n6.toNat * (1 : Nat)) = some (V.str s12) ∧ ((0 : Int) ≤ n6 ∧ n6 < (↑data_n : Int)) ∧ onS data fun (i17
  o17 : Nat) => ∃ (h'8 : Hp), h'7.st i17 (o17 + n6.toNat * (1 : Nat)) [V.str s11] = some h'8 ∧ V.int IntKind.i64 (IntKind.i64.wrap (n6 - (1 : Int))) = V.int IntKind.i64 (IntKind.i64.wrap (n6 - (1 : Int))) ∧ V.int IntKind.i64 n6 = V.int
  IntKind.i64 n6 ∧ V.slc data data_n data_f = V.slc data data_n data_f ∧ ((0 : Int) ≤ IntKind.i64.wrap (n6 - (1 : Int)) ∧ IntKind.i64.wrap (n6 - (1 : Int)) < (↑data_n : Int)) ∧ onS data fun (i18 o18 : Nat) => ∃ (h'9 : Hp), h'8.st i18 (o18 +
  (IntKind.i64.wrap (n6 - (1 : Int))).toNat * (1 : Nat)) [V.str s12] = some h'9 ∧ [V.slc data data_n data_f, V.int IntKind.i64 a, V.int IntKind.i64 b, V.int IntKind.i64 n4, V.int IntKind.i64 n2] = [V.slc data data_n data_f, V.int IntKind.i64
  a, V.int IntKind.i64 b, V.int IntKind.i64 n4, V.int IntKind.i64 n2] ∧ I4 [V.int IntKind.i64 (IntKind.i64.wrap (n6 + (1 : Int)))] h'9 ∧ x4 [V.int IntKind.i64 (IntKind.i64.wrap (n6 + (1 : Int)))] h'9 < x4 [V.int IntKind.i64 n6] h6 else
  [V.slc data data_n data_f, V.int IntKind.i64 a, V.int IntKind.i64 b] = [V.slc data data_n data_f, V.int IntKind.i64 a, V.int IntKind.i64 b] ∧ I1 [V.int IntKind.i64 n4, V.int IntKind.i64 (IntKind.i64.wrap (n2 + (1 : Int)))] h6 ∧ x1 [V.int
  IntKind.i64 n4, V.int IntKind.i64 (IntKind.i64.wrap (n2 + (1 : Int)))] h6 < x1 [V.int IntKind.i64 n1, V.int IntKind.i64 n2] h1 else [V.slc data data_n data_f, V.int IntKind.i64 a, V.int IntKind.i64 b] = [V.slc data data_n data_f, V.int
  IntKind.i64 a, V.int IntKind.i64 b] ∧ I1 [V.int IntKind.i64 n4, V.int IntKind.i64 (IntKind.i64.wrap (n2 + (1 : Int)))] h5 ∧ x1 [V.int IntKind.i64 n4, V.int IntKind.i64 (IntKind.i64.wrap (n2 + (1 : Int)))] h5 < x1 [V.int IntKind.i64 n1,
  V.int IntKind.i64 n2] h1 else K (V.bool false) h1
theorem y59 (h : Hp) (K : V → Hp → Prop) (data : Option (Nat × Nat)) (data_n : Nat) (data_f : Bool) (a : Int) (b : Int) : X59 h K data data_n data_f a b = fnX Tryd.prog T F jl59 jj59 Tryd.f59 [V.slc data data_n data_f, V.int IntKind.i64 a, V.int IntKind.i64 b] h K := by kernel_rfl
theorem x59 {h : Hp} {K : V → Hp → Prop} (data : Option (Nat × Nat)) (data_n : Nat) (data_f : Bool) (a : Int) (b : Int) (hx : X59 h K data data_n data_f a b) : XCalls Tryd.prog 59 [V.slc data data_n data_f, V.int IntKind.i64 a, V.int IntKind.i64 b] h K :=
  XCalls.ofX tok fok mixed (JL := jl59) (JJ := jj59) Tryd.func59 ((y59 h K data data_n data_f a b) ▸ hx)
/-! 48: slices.pdqsortOrdered[string] -/
-- loop 2: stays data(0); turns a(1), b(2), limit(3), wasBalanced(8), wasPartitioned(9)
-- join 20: stays data(0), b(2), pivot(11), length(10), limit(3); turns a(1)
-- join 17: stays a(1), data(0), pivot(11), b(2), limit(3), wasBalanced(8), wasPartitioned(9), length(10); turns 
-- join 15: stays wasBalanced(8), wasPartitioned(9), data(0), a(1), b(2), limit(3), length(10); turns hint(12), pivot(11)
-- join 10: stays data(0), a(1), b(2), wasBalanced(8), wasPartitioned(9), length(10); turns limit(3)
def jl48 : Nat → Option JT := fun r => bif Nat.beq r 2 then some ⟨[0], [1, 2, 3, 8, 9], [V.int IntKind.i64 (0 : Int), V.int IntKind.i64 (0 : Int), V.int IntKind.i64 (0 : Int), V.bool false, V.bool false]⟩ else none
def jj48 : Nat → Option JT := fun r => bif Nat.beq r 20 then some ⟨[0, 2, 11, 10, 3], [1], [V.int IntKind.i64 (0 : Int)]⟩ else bif Nat.beq r 17 then some ⟨[1, 0, 11, 2, 3, 8, 9, 10], [], []⟩ else bif Nat.beq r 15 then some ⟨[8, 9, 0, 1, 2,
  3, 10], [12, 11], [V.int IntKind.i64 (0 : Int), V.int IntKind.i64 (0 : Int)]⟩ else bif Nat.beq r 10 then some ⟨[0, 1, 2, 8, 9, 10], [3], [V.int IntKind.i64 (0 : Int)]⟩ else none
def X48 (h : Hp) (K : V → Hp → Prop) (data : Option (Nat × Nat)) (data_n : Nat) (data_f : Bool) (a : Int) (b : Int) (limit : Int) : Prop := ∃ (I1 : List V → Hp → Prop), ∃ (x1 : List V → Hp → Nat), ([V.slc data data_n data_f] = [V.slc data
  data_n data_f] ∧ I1 [V.int IntKind.i64 a, V.int IntKind.i64 b, V.int IntKind.i64 limit, V.bool true, V.bool true] h) ∧ ∀ (bs1 : Nat → Option V) (n1 n2 n3 : Int) (b1 b2 : Bool) (h1 : Hp), I1 [V.int IntKind.i64 n1, V.int IntKind.i64 n2,
  V.int IntKind.i64 n3, V.bool b1, V.bool b2] h1 → bif !ltI (12 : Int) (IntKind.i64.wrap (n2 - n1)) then XCalls Tryd.prog (54 : Nat) [V.slc data data_n data_f, V.int IntKind.i64 n1, V.int IntKind.i64 n2] h1 fun (v1 : V) (h'1 : Hp) => K
  (V.tup []) h'1 else bif n3 == (0 : Int) then XCalls Tryd.prog (55 : Nat) [V.slc data data_n data_f, V.int IntKind.i64 n1, V.int IntKind.i64 n2] h1 fun (v2 : V) (h'2 : Hp) => K (V.tup []) h'2 else ∃ (Q1 : List V → Hp → Prop), (bif !b1 then
  XCalls Tryd.prog (56 : Nat) [V.slc data data_n data_f, V.int IntKind.i64 n1, V.int IntKind.i64 n2] h1 fun (v3 : V) (h'3 : Hp) => [V.slc data data_n data_f, V.int IntKind.i64 n1, V.int IntKind.i64 n2, V.bool b1, V.bool b2, V.int IntKind.i64
  (IntKind.i64.wrap (n2 - n1))] = [V.slc data data_n data_f, V.int IntKind.i64 n1, V.int IntKind.i64 n2, V.bool b1, V.bool b2, V.int IntKind.i64 (IntKind.i64.wrap (n2 - n1))] ∧ Q1 [V.int IntKind.i64 (IntKind.i64.wrap (n3 - (1 : Int)))] h'3
  else [V.slc data data_n data_f, V.int IntKind.i64 n1, V.int IntKind.i64 n2, V.bool b1, V.bool b2, V.int IntKind.i64 (IntKind.i64.wrap (n2 - n1))] = [V.slc data data_n data_f, V.int IntKind.i64 n1, V.int IntKind.i64 n2, V.bool b1, V.bool
  b2, V.int IntKind.i64 (IntKind.i64.wrap (n2 - n1))] ∧ Q1 [V.int IntKind.i64 n3] h1) ∧ ∀ (bs2 : Nat → Option V) (n4 : Int) (h2 : Hp), Q1 [V.int IntKind.i64 n4] h2 → XCalls Tryd.prog (57 : Nat) [V.slc data data_n data_f, V.int IntKind.i64
  n1, V.int IntKind.i64 n2] h2 fun (v4 : V) (h'4 : Hp) => ∃ (n5 : Int), ∃ (n6 : Int), v4 = V.tup [V.int IntKind.i64 n5, V.int IntKind.i64 n6] ∧ ∃ (Q2 : List V → Hp → Prop), (bif n6 == (2 : Int) then XCalls Tryd.prog (58 : Nat) [V.slc data
  data_n data_f, V.int IntKind.i64 n1, V.int IntKind.i64 n2] h'4 fun (v5 : V) (h'5 : Hp) => [V.bool b1, V.bool b2, V.slc data data_n data_f, V.int IntKind.i64 n1, V.int IntKind.i64 n2, V.int IntKind.i64 n4, V.int IntKind.i64
  (IntKind.i64.wrap (n2 - n1))] = [V.bool b1, V.bool b2, V.slc data data_n data_f, V.int IntKind.i64 n1, V.int IntKind.i64 n2, V.int IntKind.i64 n4, V.int IntKind.i64 (IntKind.i64.wrap (n2 - n1))] ∧ Q2 [V.int IntKind.i64 (1 : Int), V.int
  IntKind.i64 (IntKind.i64.wrap (IntKind.i64.wrap (n2 - (1 : Int)) - IntKind.i64.wrap (n5 - n1)))] h'5 else [V.bool b1, V.bool b2, V.slc data data_n data_f, V.int IntKind.i64 n1, V.int IntKind.i64 n2, V.int IntKind.i64 n4, V.int IntKind.i64
  (IntKind.i64.wrap (n2 - n1))] = [V.bool b1, V.bool b2, V.slc data data_n data_f, V.int IntKind.i64 n1, V.int IntKind.i64 n2, V.int IntKind.i64 n4, V.int IntKind.i64 (IntKind.i64.wrap (n2 - n1))] ∧ Q2 [V.int IntKind.i64 n6, V.int
  IntKind.i64 n5] h'4) ∧ ∀ (bs3 : Nat → Option V) (n7 n8 : Int) (h3 : Hp), Q2 [V.int IntKind.i64 n7, V.int IntKind.i64 n8] h3 → ∃ (Q3 : List V → Hp → Prop), (bif b1 then bif b2 then bif n7 == (1 : Int) then XCalls Tryd.prog (59 : Nat) [V.slc
  data data_n data_f, V.int IntKind.i64 n1, V.int IntKind.i64 n2] h3 fun (v6 : V) (h'6 : Hp) => ∃ (b3 : Bool), v6 = V.bool b3 ∧ bif b3 then K (V.tup []) h'6 else [V.int IntKind.i64 n1, V.slc data data_n data_f, V.int IntKind.i64 n8, V.int
  IntKind.i64 n2, V.int IntKind.i64 n4, V.bool b1, V.bool b2, V.int IntKind.i64 (IntKind.i64.wrap (n2 - n1))] = [V.int IntKind.i64 n1, V.slc data data_n data_f, V.int IntKind.i64 n8, V.int IntKind.i64 n2, V.int IntKind.i64 n4, V.bool b1,
  V.bool b2, V.int IntKind.i64 (IntKind.i64.wrap (n2 - n1))] ∧ Q3 [] h'6 else [V.int IntKind.i64 n1, V.slc data data_n data_f, V.int IntKind.i64 n8, V.int IntKind.i64 n2, V.int IntKind.i64 n4, V.bool b1, V.bool b2, V.int IntKind.i64
  (IntKind.i64.wrap (n2 - n1))] = [V.int IntKind.i64 n1, V.slc data data_n data_f, V.int IntKind.i64 n8, V.int IntKind.i64 n2, V.int IntKind.i64 n4, V.bool b1, V.bool b2, V.int IntKind.i64 (IntKind.i64.wrap (n2 - n1))] ∧ Q3 [] h3 else [V.int
  IntKind.i64 n1, V.slc data data_n data_f, V.int IntKind.i64 n8, V.int IntKind.i64 n2, V.int IntKind.i64 n4, V.bool b1, V.bool b2, V.int IntKind.i64 (IntKind.i64.wrap (n2 - n1))] = [V.int IntKind.i64 n1, V.slc data data_n data_f, V.int
  IntKind.i64 n8, V.int IntKind.i64 n2, V.int IntKind.i64 n4, V.bool b1, V.bool b2, V.int IntKind.i64 (IntKind.i64.wrap (n2 - n1))] ∧ Q3 [] h3 else [V.int IntKind.i64 n1, V.slc data data_n data_f, V.int IntKind.i64 n8, V.int IntKind.i64 n2,
  V.int IntKind.i64 n4, V.bool b1, V.bool b2, V.int IntKind.i64 (IntKind.i64.wrap (n2 - n1))] = [V.int IntKind.i64 n1, V.slc data data_n data_f, V.int IntKind.i64 n8, V.int IntKind.i64 n2, V.int IntKind.i64 n4, V.bool b1, V.bool b2, V.int
  IntKind.i64 (IntKind.i64.wrap (n2 - n1))] ∧ Q3 [] h3) ∧ ∀ (bs4 : Nat → Option V) (h4 : Hp), Q3 [] h4 → ∃ (Q4 : List V → Hp → Prop), (bif ltI (0 : Int) n1 then ((0 : Int) ≤ IntKind.i64.wrap (n1 - (1 : Int)) ∧ IntKind.i64.wrap (n1 - (1 :
  Int)) < (↑data_n : Int)) ∧ onS data fun (i1 o1 : Nat) => ∃ (s1 : List UInt8), h4.ld i1 (o1 + (IntKind.i64.wrap (n1 - (1 : Int))).toNat * (1 : Nat)) = some (V.str s1) ∧ ((0 : Int) ≤ n8 ∧ n8 < (↑data_n : Int)) ∧ onS data fun (i2 o2 : Nat) =>
  ∃ (s2 : List UInt8), h4.ld i2 (o2 + n8.toNat * (1 : Nat)) = some (V.str s2) ∧ XCalls Tryd.prog (60 : Nat) [V.str s1, V.str s2] h4 fun (v7 : V) (h'7 : Hp) => ∃ (b4 : Bool), v7 = V.bool b4 ∧ bif !b4 then XCalls Tryd.prog (61 : Nat) [V.slc
  data data_n data_f, V.int IntKind.i64 n1, V.int IntKind.i64 n2, V.int IntKind.i64 n8] h'7 fun (v8 : V) (h'8 : Hp) => ∃ (n9 : Int), v8 = V.int IntKind.i64 n9 ∧ [V.slc data data_n data_f] = [V.slc data data_n data_f] ∧ I1 [V.int IntKind.i64
  n9, V.int IntKind.i64 n2, V.int IntKind.i64 n4, V.bool b1, V.bool b2] h'8 ∧ x1 [V.int IntKind.i64 n9, V.int IntKind.i64 n2, V.int IntKind.i64 n4, V.bool b1, V.bool b2] h'8 < x1 [V.int IntKind.i64 n1, V.int IntKind.i64 n2, V.int IntKind.i64
  n3, V.bool b1, V.bool b2] h1 else [V.slc data data_n data_f, V.int IntKind.i64 n2, V.int IntKind.i64 n8, V.int IntKind.i64 (IntKind.i64.wrap (n2 - n1)), V.int IntKind.i64 n4] = [V.slc data data_n data_f, V.int IntKind.i64 n2, V.int
  IntKind.i64 n8, V.int IntKind.i64 (IntKind.i64.wrap (n2 - n1)), V.int IntKind.i64 n4] ∧ Q4 [V.int IntKind.i64 n1] h'7 else [V.slc data data_n data_f, V.int IntKind.i64 n2, V.int IntKind.i64 n8, V.int IntKind.i64 (IntKind.i64.wrap (n2 -
  n1)), V.int IntKind.i64 n4] = [V.slc data data_n data_f, V.int IntKind.i64 n2, V.int IntKind.i64 n8, V.int IntKind.i64 (IntKind.i64.wrap (n2 - n1)), V.int IntKind.i64 n4] ∧ Q4 [V.int IntKind.i64 n1] h4) ∧ ∀ (bs5 : Nat → Option V) (n10 :
  Int) (h5 : Hp), Q4 [V.int IntKind.i64 n10] h5 → XCalls Tryd.prog (62 : Nat) [V.slc data data_n data_f, V.int IntKind.i64 n10, V.int IntKind.i64 n2, V.int IntKind.i64 n8] h5 fun (v9 : V) (h'9 : Hp) => ∃ (n11 : Int), ∃ (b5 : Bool), v9 =
  V.tup [V.int IntKind.i64 n11, V.bool b5] ∧ ¬(8 : Int) = (0 : Int) ∧ bif ltI (IntKind.i64.wrap (n11 - n10)) (IntKind.i64.wrap (n2 - n11)) then XCalls Tryd.prog (48 : Nat) [V.slc data data_n data_f, V.int IntKind.i64 n10, V.int IntKind.i64
  n11, V.int IntKind.i64 n4] h'9 fun (v10 : V) (h'10 : Hp) => [V.slc data data_n data_f] = [V.slc data data_n data_f] ∧ I1 [V.int IntKind.i64 (IntKind.i64.wrap (n11 + (1 : Int))), V.int IntKind.i64 n2, V.int IntKind.i64 n4, V.bool !ltI
  (IntKind.i64.wrap (n11 - n10)) (IntKind.i64.wrap ((IntKind.i64.wrap (n2 - n1)).tdiv (8 : Int))), V.bool b5] h'10 ∧ x1 [V.int IntKind.i64 (IntKind.i64.wrap (n11 + (1 : Int))), V.int IntKind.i64 n2, V.int IntKind.i64 n4, V.bool !ltI
  (IntKind.i64.wrap (n11 - n10)) (IntKind.i64.wrap ((IntKind.i64.wrap (n2 - n1)).tdiv (8 : Int))), V.bool b5] h'10 < x1 [V.int IntKind.i64 n1, V.int IntKind.i64 n2, V.int IntKind.i64 n3, V.bool b1, V.bool b2] h1 else XCalls Tryd.prog (48 :
  Nat) [V.slc data data_n data_f, V.int IntKind.i64 (IntKind.i64.wrap (n11 + (1 : Int))), V.int IntKind.i64 n2, V.int IntKind.i64 n4] h'9 fun (v11 : V) (h'11 : Hp) => [V.slc data data_n data_f] = [V.slc data data_n data_f] ∧ I1 [V.int
  IntKind.i64 n10, V.int IntKind.i64 n11, V.int IntKind.i64 n4, V.bool !ltI (IntKind.i64.wrap (n2 - n11)) (IntKind.i64.wrap ((IntKind.i64.wrap (n2 - n1)).tdiv (8 : Int))), V.bool b5] h'11 ∧ x1 [V.int IntKind.i64 n10, V.int IntKind.i64 n11,
  V.int IntKind.i64 n4, V.bool !ltI (IntKind.i64.wrap (n2 - n11)) (IntKind.i64.wrap ((IntKind.i64.wrap (n2 - n1)).tdiv (8 : Int))), V.bool b5] h'11 < x1 [V.int IntKind.i64 n1, V.int IntKind.i64 n2, V.int IntKind.i64 n3, V.bool b1, V.bool b2]
  h1
theorem y48 (h : Hp) (K : V → Hp → Prop) (data : Option (Nat × Nat)) (data_n : Nat) (data_f : Bool) (a : Int) (b : Int) (limit : Int) : X48 h K data data_n data_f a b limit = fnX Tryd.prog T F jl48 jj48 Tryd.f48 [V.slc data data_n data_f,
  V.int IntKind.i64 a, V.int IntKind.i64 b, V.int IntKind.i64 limit] h K := by kernel_rfl
theorem x48 {h : Hp} {K : V → Hp → Prop} (data : Option (Nat × Nat)) (data_n : Nat) (data_f : Bool) (a : Int) (b : Int) (limit : Int) (hx : X48 h K data data_n data_f a b limit) : XCalls Tryd.prog 48 [V.slc data data_n data_f, V.int
  IntKind.i64 a, V.int IntKind.i64 b, V.int IntKind.i64 limit] h K :=
  XCalls.ofX tok fok mixed (JL := jl48) (JJ := jj48) Tryd.func48 ((y48 h K data data_n data_f a b limit) ▸ hx)
/-! 38: slices.Sort[[]string,string] -/
def jl38 : Nat → Option JT := fun r => none
def jj38 : Nat → Option JT := fun r => none
def X38 (h : Hp) (K : V → Hp → Prop) (x : Option (Nat × Nat)) (x_n : Nat) (x_f : Bool) : Prop := XCalls Tryd.prog (49 : Nat) [V.int IntKind.u64 (IntKind.u64.wrap (↑x_n : Int))] h fun (v1 : V) (h'1 : Hp) => ∃ (n1 : Int), v1 = V.int
  IntKind.i64 n1 ∧ XCalls Tryd.prog (48 : Nat) [V.slc x x_n x_f, V.int IntKind.i64 (0 : Int), V.int IntKind.i64 (↑x_n : Int), V.int IntKind.i64 n1] h'1 fun (v2 : V) (h'2 : Hp) => K (V.tup []) h'2
theorem y38 (h : Hp) (K : V → Hp → Prop) (x : Option (Nat × Nat)) (x_n : Nat) (x_f : Bool) : X38 h K x x_n x_f = fnX Tryd.prog T F jl38 jj38 Tryd.f38 [V.slc x x_n x_f] h K := by kernel_rfl
theorem x38 {h : Hp} {K : V → Hp → Prop} (x : Option (Nat × Nat)) (x_n : Nat) (x_f : Bool) (hx : X38 h K x x_n x_f) : XCalls Tryd.prog 38 [V.slc x x_n x_f] h K :=
  XCalls.ofX tok fok mixed (JL := jl38) (JJ := jj38) Tryd.func38 ((y38 h K x x_n x_f) ▸ hx) 
end Go.Vex
namespace Go.Vex
open Go.Proofs
/-! 31: maps.Keys[map[string]complex128,string,complex128] -/
def jl31 : Nat → Option JT := fun r => none
def jj31 : Nat → Option JT := fun r => none
def X31 (h : Hp) (K : V → Hp → Prop) (m : Option Nat) : Prop :=
  ∀ (h'1 : Hp), h'1 = h.alloc (O.row [V.map m] (1 : Nat) false) → K (V.fn (Fn.func (39 : Nat)) [] [V.ptr (some (h.next, (0 : Nat)))]) h'1
theorem y31 (h : Hp) (K : V → Hp → Prop) (m : Option Nat) : X31 h K m = fnX Tryd.prog T F jl31 jj31 Tryd.f31 [V.map m] h K := by kernel_rfl
theorem x31 {h : Hp} {K : V → Hp → Prop} (m : Option Nat) (hx : X31 h K m) : XCalls Tryd.prog 31 [V.map m] h K :=
  XCalls.ofX tok fok mixed (JL := jl31) (JJ := jj31) Tryd.func31 ((y31 h K m) ▸ hx)
/-! 39: maps.Keys[map[string]complex128,string,complex128]$1 -/
-- loop 1: stays yield(0), (5); turns 
def jl39 : Nat → Option JT := fun r => bif Nat.beq r 1 then some ⟨[0, 5], [], []⟩ else none
def jj39 : Nat → Option JT := fun r => none
def X39 (h : Hp) (K : V → Hp → Prop) (yield : Nat) (c1 : Nat) : Prop :=
  ∃ (r1 : Option Nat),
  h.ld c1 (0 : Nat) = some (V.map r1) ∧
    ∃ (h'1 : Hp),
      xrange T h (62 : Nat) (V.map r1) = some (V.ptr (some (h.next, (0 : Nat))), h'1) ∧
        ∃ (I1 : List V → Hp → Prop),
          ∃ (x1 : List V → Hp → Nat),
            ([V.yld yield, V.ptr (some (h.next, (0 : Nat)))] = [V.yld yield, V.ptr (some (h.next, (0 : Nat)))] ∧ I1 [] h'1) ∧
              ∀ (bs1 : Nat → Option V) (h1 : Hp),
                I1 [] h1 →
                  ∃ (l1 : List (V × Hp)),
                    xnext h1 (V.ptr (some (h.next, (0 : Nat)))) = some l1 ∧
                      (List.Mem (V.tup [V.bool false], h1) l1 → K (V.tup []) h1) ∧
                        (∀ (r2 : V × Hp), List.Mem r2 l1 → r2 = (V.tup [V.bool false], h1) ∨ ∃ (a1 : V), ∃ (b1 : V), r2.1 = V.tup [V.bool true, a1, b1]) ∧
                          ∀ (a2 b2 : V) (h'2 : Hp),
                            List.Mem (V.tup [V.bool true, a2, b2], h'2) l1 →
                              ∃ (s1 : List UInt8),
                                ∃ (v1 : V),
                                  xentry h'2 (V.ptr (some (h.next, (0 : Nat)))) = some (V.tup [V.str s1, v1]) ∧
                                    XYield Tryd.prog yield [V.str s1] h'2 fun (v2 : V) (h'3 : Hp) =>
                                      ∃ (b3 : Bool),
                                        v2 = V.bool b3 ∧
                                          bif !b3 then K (V.tup []) h'3
                                          else [V.yld yield, V.ptr (some (h.next, (0 : Nat)))] = [V.yld yield, V.ptr (some (h.next, (0 : Nat)))] ∧ I1 [] h'3 ∧ x1 [] h'3 < x1 [] h1
theorem y39 (h : Hp) (K : V → Hp → Prop) (yield : Nat) (c1 : Nat) : X39 h K yield c1 = fnX Tryd.prog T F jl39 jj39 Tryd.f39 [V.yld yield, V.ptr (some (c1, (0 : Nat)))] h K := by kernel_rfl
theorem x39 {h : Hp} {K : V → Hp → Prop} (yield : Nat) (c1 : Nat) (hx : X39 h K yield c1) : XCalls Tryd.prog 39 [V.yld yield, V.ptr (some (c1, (0 : Nat)))] h K :=
  XCalls.ofX tok fok mixed (JL := jl39) (JJ := jj39) Tryd.func39 ((y39 h K yield c1) ▸ hx)
/-! 47: slices.AppendSeq[[]string,string] -/
def jl47 : Nat → Option JT := fun r => none
def jj47 : Nat → Option JT := fun r => none
def X47 (h : Hp) (K : V → Hp → Prop) (s : Option (Nat × Nat)) (s_n : Nat) (s_f : Bool) (seq_0 : Nat) : Prop :=
  ∀ (h'1 : Hp),
  h'1 = h.alloc (O.row [V.slc s s_n s_f] (1 : Nat) false) →
    ∀ (rec1 : LoopState → Option Code → O),
      LRec rec1 →
        ∀ (h'2 : Hp),
          h'2 = (h'1.alloc (O.dfr true)).alloc (rec1 LoopState.ready none) →
            (∀ (s1 : List UInt8) (h1 : Hp) (K1 : V → Hp → Prop),
                h1.get (h'1.next + (1 : Nat)) = some (rec1 LoopState.ready none) →
                  (h1.get (h'1.next + (1 : Nat)) = some (rec1 LoopState.ready none) ∧
                      ∀ (h2 : Hp),
                        h2 = h1.set (h'1.next + (1 : Nat)) (rec1 LoopState.busy none) →
                          ∃ (a1 : Option (Nat × Nat)),
                            ∃ (n1 : Nat),
                              ∃ (f1 : Bool),
                                h2.ld h.next (0 : Nat) = some (V.slc a1 n1 f1) ∧
                                  ∀ (h'3 : Hp),
                                    h'3 = h2.alloc (O.row [V.str s1] (1 : Nat) false) →
                                      ∃ (p1 : Option (Nat × Nat)),
                                        ∃ (n2 : Nat),
                                          ∃ (f2 : Bool),
                                            ∃ (h'4 : Hp),
                                              xapp T h'3 (69 : Nat) (69 : Nat) (V.slc a1 n1 f1) (V.slc (some (h2.next, (0 : Nat))) (1 : Nat) true) = some (V.slc p1 n2 f2, h'4) ∧
                                                ∃ (h'5 : Hp),
                                                  h'4.st h.next (0 : Nat) [V.slc p1 n2 f2] = some h'5 ∧
                                                    h'5.get (h'1.next + (1 : Nat)) = some (rec1 LoopState.busy none) ∧
                                                      ∀ (h'6 : Hp), h'6 = h'5.set (h'1.next + (1 : Nat)) (rec1 LoopState.ready none) → K1 (V.bool true) h'6) →
                    XYield Tryd.prog (h'1.next + (1 : Nat)) [V.str s1] h1 fun (a2 : V) (a3 : Hp) => K1 a2 a3) →
              XCalls Tryd.prog (39 : Nat) [V.yld (h'1.next + (1 : Nat)), V.ptr (some (seq_0, (0 : Nat)))] h'2 fun (a4 : V) (a5 : Hp) =>
                (a5.get (h'1.next + (1 : Nat)) = some (rec1 LoopState.ready none) ∧
                    ∀ (h'7 : Hp),
                      h'7 = a5.set (h'1.next + (1 : Nat)) (rec1 LoopState.exhausted none) →
                        ∃ (a6 : Option (Nat × Nat)),
                          ∃ (n3 : Nat), ∃ (f3 : Bool), h'7.ld h.next (0 : Nat) = some (V.slc a6 n3 f3) ∧ ∃ (h'8 : Hp), shut [h'1.next] h'7 = some h'8 ∧ K (V.slc a6 n3 f3) h'8) ∨
                  False
theorem y47 (h : Hp) (K : V → Hp → Prop) (s : Option (Nat × Nat)) (s_n : Nat) (s_f : Bool) (seq_0 : Nat) : X47 h K s s_n s_f seq_0 = fnX Tryd.prog T F jl47 jj47 Tryd.f47 [V.slc s s_n s_f, V.fn (Fn.func (39 : Nat)) [] [V.ptr (some (seq_0, (0 : Nat)))]] h K := by kernel_rfl
theorem x47 {h : Hp} {K : V → Hp → Prop} (s : Option (Nat × Nat)) (s_n : Nat) (s_f : Bool) (seq_0 : Nat) (hx : X47 h K s s_n s_f seq_0) : XCalls Tryd.prog 47 [V.slc s s_n s_f, V.fn (Fn.func (39 : Nat)) [] [V.ptr (some (seq_0, (0 : Nat)))]] h K :=
  XCalls.ofX tok fok mixed (JL := jl47) (JJ := jj47) Tryd.func47 ((y47 h K s s_n s_f seq_0) ▸ hx)
/-! 37: slices.Collect[string] -/
def jl37 : Nat → Option JT := fun r => none
def jj37 : Nat → Option JT := fun r => none
def X37 (h : Hp) (K : V → Hp → Prop) (seq_0 : Nat) : Prop :=
  XCalls Tryd.prog (47 : Nat) [V.slc none (0 : Nat) true, V.fn (Fn.func (39 : Nat)) [] [V.ptr (some (seq_0, (0 : Nat)))]] h fun (v1 : V) (h'1 : Hp) =>
  ∃ (a1 : Option (Nat × Nat)), ∃ (n1 : Nat), ∃ (f1 : Bool), v1 = V.slc a1 n1 f1 ∧ K (V.slc a1 n1 f1) h'1
theorem y37 (h : Hp) (K : V → Hp → Prop) (seq_0 : Nat) : X37 h K seq_0 = fnX Tryd.prog T F jl37 jj37 Tryd.f37 [V.fn (Fn.func (39 : Nat)) [] [V.ptr (some (seq_0, (0 : Nat)))]] h K := by kernel_rfl
theorem x37 {h : Hp} {K : V → Hp → Prop} (seq_0 : Nat) (hx : X37 h K seq_0) : XCalls Tryd.prog 37 [V.fn (Fn.func (39 : Nat)) [] [V.ptr (some (seq_0, (0 : Nat)))]] h K :=
  XCalls.ofX tok fok mixed (JL := jl37) (JJ := jj37) Tryd.func37 ((y37 h K seq_0) ▸ hx)
/-! 30: slices.Sorted[string] -/
def jl30 : Nat → Option JT := fun r => none
def jj30 : Nat → Option JT := fun r => none
def X30 (h : Hp) (K : V → Hp → Prop) (seq_0 : Nat) : Prop :=
  XCalls Tryd.prog (37 : Nat) [V.fn (Fn.func (39 : Nat)) [] [V.ptr (some (seq_0, (0 : Nat)))]] h fun (v1 : V) (h'1 : Hp) =>
  ∃ (a1 : Option (Nat × Nat)), ∃ (n1 : Nat), ∃ (f1 : Bool), v1 = V.slc a1 n1 f1 ∧ XCalls Tryd.prog (38 : Nat) [V.slc a1 n1 f1] h'1 fun (v2 : V) (h'2 : Hp) => K (V.slc a1 n1 f1) h'2
theorem y30 (h : Hp) (K : V → Hp → Prop) (seq_0 : Nat) : X30 h K seq_0 = fnX Tryd.prog T F jl30 jj30 Tryd.f30 [V.fn (Fn.func (39 : Nat)) [] [V.ptr (some (seq_0, (0 : Nat)))]] h K := by kernel_rfl
theorem x30 {h : Hp} {K : V → Hp → Prop} (seq_0 : Nat) (hx : X30 h K seq_0) : XCalls Tryd.prog 30 [V.fn (Fn.func (39 : Nat)) [] [V.ptr (some (seq_0, (0 : Nat)))]] h K :=
  XCalls.ofX tok fok mixed (JL := jl30) (JJ := jj30) Tryd.func30 ((y30 h K seq_0) ▸ hx)
end Go.Vex
namespace Go.Vex.Sort
open Go.Proofs

abbrev E := List UInt8
abbrev en (x : E) : V := .str x
abbrev lt : E → E → Bool := Op.bytesLess
theorem ordr : Ordr lt := bytesOrdr

section
variable {g h : Hp} {q n : Nat} {fr bk : List V} {d : Int → E} {f : Bool} {a b : Int}

theorem nan_spec {h : Hp} (x : E) : XCalls Tryd.prog 73 [en x] h fun v h' => v = .bool false ∧ h' = h := by
  apply x73; unfold X73; exact ⟨by simp, rfl⟩

theorem less_spec {h : Hp} (x y : E) : XCalls Tryd.prog 60 [en x, en y] h fun v h' => v = .bool (lt x y) ∧ h' = h := by
  apply x60; unfold X60
  refine (nan_spec x).mono ?_
  rintro _ _ ⟨rfl, rfl⟩
  exact ⟨_, rfl, rfl, rfl⟩

theorem ins_spec (s : SS en g q fr bk n d h) (h0 : 0 ≤ a) (hab : a ≤ b) (hb : b ≤ n) (hn : (n : Int) ≤ 4611686018427387904) :
    XCalls Tryd.prog 54 [.slc (some (q, fr.length)) n f, .int .i64 a, .int .i64 b] h fun v h' => v = .tup [] ∧ ∃ d', SS en g q fr bk n d' h' ∧ Sw a b d d' ∧ Srt lt a b d' := by
  apply x54; unfold X54
  simp (disch := omega) only [wr, eq_self, true_and, and_true, cond_true, cond_false, onS, Bool.not_true, Bool.not_false, Int.toNat_natCast]
  refine ⟨fun vs h' => match vs with
    | [.int _ i] => a + 1 ≤ i ∧ (i ≤ b ∨ i = a + 1) ∧ ∃ d', SS en g q fr bk n d' h' ∧ Sw a b d d' ∧ Srt lt a i d'
    | _ => False, fun vs _ => match vs with
    | [.int _ i] => (b - i).toNat
    | _ => 0, ⟨by omega, .inr rfl, d, s, .refl, fun p r h1 h2 h3 => by omega⟩, ?_⟩
  rintro bs i h1 ⟨hi1, hi2, d1, s1, w1, o1⟩
  cases hib : ltI i b with
  | false =>
    rw [ltI_eq, decide_eq_false_iff_not] at hib
    exact ⟨d1, s1, w1, fun p r h1 h2 h3 => o1 p r h1 h2 (by omega)⟩
  | true =>
    rw [ltI_eq, decide_eq_true_eq] at hib
    simp (disch := omega) only [wr, eq_self, true_and, and_true, cond_true, cond_false, onS, Bool.not_true, Bool.not_false, Int.toNat_natCast]
    refine ⟨fun vs h' => match vs with
      | [.int _ j] => a ≤ j ∧ j ≤ i ∧ ∃ d', SS en g q fr bk n d' h' ∧ Sw a b d d' ∧ ∀ p r, a ≤ p → p < r → r ≤ i → r ≠ j → lt (d' r) (d' p) = false
      | _ => False, fun vs _ => match vs with
      | [.int _ j] => (j - a).toNat
      | _ => 0, ⟨by omega, by omega, d1, s1, w1, fun p r h1 h2 h3 h4 => o1 p r h1 h2 (by omega)⟩, ?_⟩
    rintro bs2 j h2 ⟨hj1, hj2, d2, s2, w2, o2⟩
    cases haj : ltI a j with
    | false =>
      rw [ltI_eq, decide_eq_false_iff_not] at haj
      simp (disch := omega) only [wr, eq_self, true_and, and_true, cond_true, cond_false, onS, Bool.not_true, Bool.not_false, Int.toNat_natCast]
      refine ⟨⟨by omega, by omega, d2, s2, w2, fun p r h1 h2 h3 => o2 p r h1 h2 (by omega) (by omega)⟩, by omega⟩
    | true =>
      rw [ltI_eq, decide_eq_true_eq] at haj
      simp (disch := omega) only [wr, eq_self, true_and, and_true, cond_true, cond_false, onS, Bool.not_true, Bool.not_false, Int.toNat_natCast]
      refine ⟨⟨by omega, by omega⟩, d2 j, s2.ld (by omega) (by omega), ⟨by omega, by omega⟩, d2 (j - 1), s2.ld (by omega) (by omega), ?_⟩
      refine (less_spec _ _).mono ?_
      rintro _ _ ⟨rfl, rfl⟩
      refine ⟨_, rfl, ?_⟩
      cases hc : lt (d2 j) (d2 (j - 1)) with
      | true =>
        obtain ⟨g1, g2, e1, e2, s3⟩ := s2.swap (i := j) (j := j - 1) (by omega) (by omega) (by omega) (by omega)
        simp (disch := omega) only [wr, eq_self, true_and, and_true, cond_true, cond_false, onS, Bool.not_true, Bool.not_false, Int.toNat_natCast]
        refine ⟨⟨by omega, by omega⟩, d2 (j - 1), s2.ld (by omega) (by omega), ⟨by omega, by omega⟩, d2 j, s2.ld (by omega) (by omega), ⟨by omega, by omega⟩, g1, e1, ⟨by omega, by omega⟩, g2, e2, ⟨by omega, by omega, _, s3, w2.step j (j - 1) (by omega) (by omega) (by omega) (by omega), ?_⟩, by omega⟩
        intro p r hp hpr hr hrj
        by_cases e : r = j
        · subst e
          rw [sw_l]
          by_cases e : p = r - 1
          · subst e; rw [sw_r]; exact ordr.asym _ _ hc
          · rw [sw_ne _ (by omega) (by omega)]; exact o2 p (r - 1) hp (by omega) (by omega) (by omega)
        · rw [sw_ne _ e hrj]
          by_cases e1 : p = j
          · subst e1; rw [sw_l]; exact o2 (p - 1) r (by omega) (by omega) hr (by omega)
          · by_cases e2 : p = j - 1
            · subst e2; rw [sw_r]; exact o2 j r (by omega) (by omega) hr e
            · rw [sw_ne _ e1 e2]; exact o2 p r hp hpr hr e
      | false =>
        simp (disch := omega) only [wr, eq_self, true_and, and_true, cond_true, cond_false, onS, Bool.not_true, Bool.not_false, Int.toNat_natCast]
        refine ⟨⟨by omega, by omega, d2, s2, w2, fun p r hp hpr hr => ?_⟩, by omega⟩
        by_cases e : r = j
        · subst e
          by_cases e : p = r - 1
          · subst e; exact hc
          · exact ordr.trans _ _ _ (o2 p (r - 1) hp (by omega) (by omega) (by omega)) hc
        · exact o2 p r hp hpr (by omega) e

/-- the heap's law from place lo on, of hi places behind first -/
def Hep (first lo hi : Int) (d : Int → E) : Prop := ∀ k c, lo ≤ k → (c = 2 * k + 1 ∨ c = 2 * k + 2) → c < hi → lt (d (first + k)) (d (first + c)) = false

theorem sift_spec {lo hi first : Int} (s : SS en g q fr bk n d h) (h0 : 0 ≤ lo) (h2 : 0 ≤ first) (hb : first + hi ≤ n) (hlo : lo < hi ∨ hi = 0 ∧ lo = 0) (hn : (n : Int) ≤ 2305843009213693952) (hh : Hep first (lo + 1) hi d) :
    XCalls Tryd.prog 68 [.slc (some (q, fr.length)) n f, .int .i64 lo, .int .i64 hi, .int .i64 first] h fun v h' => v = .tup [] ∧ ∃ d', SS en g q fr bk n d' h' ∧ Sw (first + lo) (first + hi) d d' ∧ Hep first lo hi d' := by
  apply x68; unfold X68
  simp (disch := omega) only [wr, eq_self, true_and, and_true, cond_true, cond_false, onS, Bool.not_true, Bool.not_false, Int.toNat_natCast]
  refine ⟨fun vs h' => match vs with
    | [.int _ r] => lo ≤ r ∧ (r < hi ∨ hi = 0 ∧ r = 0) ∧ ∃ d', SS en g q fr bk n d' h' ∧ Sw (first + lo) (first + hi) d d' ∧ (∀ k c, lo ≤ k → k ≠ r → (c = 2 * k + 1 ∨ c = 2 * k + 2) → c < hi → lt (d' (first + k)) (d' (first + c)) = false) ∧
        (∀ k c, lo ≤ k → (r = 2 * k + 1 ∨ r = 2 * k + 2) → (c = 2 * r + 1 ∨ c = 2 * r + 2) → c < hi → lt (d' (first + k)) (d' (first + c)) = false)
    | _ => False, fun vs _ => match vs with
    | [.int _ r] => (hi - r).toNat
    | _ => 0, ⟨by omega, by omega, d, s, .refl, fun k c h1 h2 h3 h4 => hh k c (by omega) h3 h4, fun k c h1 h2 h3 h4 => by omega⟩, ?_⟩
  rintro bs r g1 ⟨hr1, hr2, d1, s1, w1, o1, o2⟩
  simp (disch := omega) only [wr, eq_self, true_and, and_true, cond_true, cond_false, onS, Bool.not_true, Bool.not_false, Int.toNat_natCast]
  cases hc : ltI (2 * r + 1) hi with
  | false =>
    rw [ltI_eq, decide_eq_false_iff_not] at hc
    refine ⟨d1, s1, w1, fun k c h1 h2 h3 => ?_⟩
    by_cases e : k = r
    · omega
    · exact o1 k c h1 e h2 h3
  | true =>
    rw [ltI_eq, decide_eq_true_eq] at hc
    simp (disch := omega) only [wr, eq_self, true_and, and_true, cond_true, cond_false, onS, Bool.not_true, Bool.not_false, Int.toNat_natCast]
    refine ⟨fun vs h' => match vs with
      | [.int _ c] => h' = g1 ∧ (c = 2 * r + 1 ∨ c = 2 * r + 2) ∧ c < hi ∧ ∀ c', (c' = 2 * r + 1 ∨ c' = 2 * r + 2) → c' < hi → lt (d1 (first + c)) (d1 (first + c')) = false
      | _ => False, ?_, ?_⟩
    · cases hc2 : ltI (2 * r + 1 + 1) hi with
      | false =>
        rw [ltI_eq, decide_eq_false_iff_not] at hc2
        refine ⟨rfl, .inl rfl, hc, fun c' h1 h2 => ?_⟩
        obtain rfl : c' = 2 * r + 1 := by omega
        exact ordr.irr _
      | true =>
        rw [ltI_eq, decide_eq_true_eq] at hc2
        simp (disch := omega) only [wr, eq_self, true_and, and_true, cond_true, cond_false, onS, Bool.not_true, Bool.not_false, Int.toNat_natCast]
        refine ⟨⟨by omega, by omega⟩, d1 (first + (2 * r + 1)), s1.ld (by omega) (by omega), ⟨by omega, by omega⟩, d1 (first + (2 * r + 1) + 1), s1.ld (by omega) (by omega), ?_⟩
        refine (less_spec _ _).mono ?_
        rintro _ _ ⟨rfl, rfl⟩
        refine ⟨_, rfl, ?_⟩
        cases hl : lt (d1 (first + (2 * r + 1))) (d1 (first + (2 * r + 1) + 1)) with
        | true =>
          refine ⟨rfl, .inr (by omega), by omega, fun c' h1 h2 => ?_⟩
          rw [show first + (2 * r + 1 + 1) = first + (2 * r + 1) + 1 by omega]
          rcases h1 with rfl | rfl
          · exact ordr.asym _ _ hl
          · rw [show first + (2 * r + 2) = first + (2 * r + 1) + 1 by omega]; exact ordr.irr _
        | false =>
          refine ⟨(by trivial), .inl (by trivial), by omega, fun c' h1 h2 => ?_⟩
          rcases h1 with rfl | rfl
          · exact ordr.irr _
          · rw [show first + (2 * r + 2) = first + (2 * r + 1) + 1 by omega]; exact hl
    · rintro bs2 c g2 ⟨rfl, hc1, hc3, hmax⟩
      simp (disch := omega) only [wr, eq_self, true_and, and_true, cond_true, cond_false, onS, Bool.not_true, Bool.not_false, Int.toNat_natCast]
      refine ⟨⟨by omega, by omega⟩, d1 (first + r), s1.ld (by omega) (by omega), ⟨by omega, by omega⟩, d1 (first + c), s1.ld (by omega) (by omega), ?_⟩
      refine (less_spec _ _).mono ?_
      rintro _ _ ⟨rfl, rfl⟩
      refine ⟨_, rfl, ?_⟩
      cases hl : lt (d1 (first + r)) (d1 (first + c)) with
      | false =>
        refine ⟨d1, s1, w1, fun k c' h1 h2 h3 => ?_⟩
        by_cases e : k = r
        · subst e; exact ordr.trans _ _ _ (hmax c' h2 h3) hl
        · exact o1 k c' h1 e h2 h3
      | true =>
        obtain ⟨q1, q2, e1, e2, s3⟩ := s1.swap (i := first + r) (j := first + c) (by omega) (by omega) (by omega) (by omega)
        simp (disch := omega) only [wr, eq_self, true_and, and_true, cond_true, cond_false, onS, Bool.not_true, Bool.not_false, Int.toNat_natCast]
        refine ⟨⟨by omega, by omega⟩, d1 (first + c), s1.ld (by omega) (by omega), ⟨by omega, by omega⟩, d1 (first + r), s1.ld (by omega) (by omega), ⟨by omega, by omega⟩, q1, e1, ⟨by omega, by omega⟩, q2, e2, ⟨by omega, by omega, _, s3, w1.step _ _ (by omega) (by omega) (by omega) (by omega), ?_, ?_⟩, by omega⟩
        · intro k c' h1 hk h3 h4
          by_cases e : k = r
          · subst e
            rw [sw_l]
            by_cases e : c' = c
            · subst e; rw [sw_r]; exact ordr.asym _ _ hl
            · rw [sw_ne _ (by omega) (by omega)]; exact hmax c' h3 h4
          · rw [sw_ne (k := first + k) _ (by omega) (by omega)]
            by_cases e1 : c' = r
            · subst e1; rw [sw_l]; exact o2 k c h1 h3 hc1 hc3
            · rw [sw_ne _ (by omega) (by omega)]; exact o1 k c' h1 e h3 h4
        · intro k c' h1 hk h3 h4
          obtain rfl : k = r := by omega
          rw [sw_l, sw_ne _ (by omega) (by omega)]
          exact o1 c c' (by omega) (by omega) h3 h4

theorem Hep.max {first hi : Int} {d : Int → E} (hh : Hep first 0 hi d) : ∀ (m : Nat) (k : Int), k = m → k < hi → lt (d first) (d (first + k)) = false := by
  intro m
  induction m using Nat.strongRecOn with
  | ind m ih =>
    intro k hk hlt
    by_cases e : k = 0
    · subst e; rw [Int.add_zero]; exact ordr.irr _
    · have h1 := ih ((m - 1) / 2) (by omega) ((k - 1) / 2) (by omega) (by omega)
      exact ordr.trans _ _ _ (hh ((k - 1) / 2) k (by omega) (by omega) hlt) h1

theorem heap_spec (s : SS en g q fr bk n d h) (h0 : 0 ≤ a) (hab : a ≤ b) (hb : b ≤ n) (hn : (n : Int) ≤ 2305843009213693952) :
    XCalls Tryd.prog 55 [.slc (some (q, fr.length)) n f, .int .i64 a, .int .i64 b] h fun v h' => v = .tup [] ∧ ∃ d', SS en g q fr bk n d' h' ∧ Sw a b d d' ∧ Srt lt a b d' := by
  apply x55; unfold X55
  have ht : (b - a - 1).tdiv 2 = if b = a then 0 else (b - a - 1) / 2 := by
    split
    · rename_i e; subst e; rw [Int.sub_self]; decide
    · rw [Int.tdiv_eq_ediv_of_nonneg (by omega)]
  have hb1 : -1 ≤ (b - a - 1).tdiv 2 ∧ (b - a - 1).tdiv 2 ≤ n := by rw [ht]; split <;> omega
  simp (disch := omega) only [wr, eq_self, true_and, and_true, cond_true, cond_false, onS, Bool.not_true, Bool.not_false, Int.toNat_natCast]
  refine ⟨by decide, fun vs h' => match vs with
    | [.int _ i] => -1 ≤ i ∧ (i < b - a ∨ i = 0) ∧ ∃ d', SS en g q fr bk n d' h' ∧ Sw a b d d' ∧ Hep a (i + 1) (b - a) d'
    | _ => False, fun vs _ => match vs with
    | [.int _ i] => (i + 1).toNat
    | _ => 0, ⟨by omega, by rw [ht]; split <;> omega, d, s, .refl, fun k c h1 h2 h3 => by rw [ht] at h1; split at h1 <;> omega⟩, ?_⟩
  rintro bs i h1 ⟨hi1, hi2, d1, s1, w1, o1⟩
  cases hib : ltI i 0 with
  | false =>
    rw [ltI_eq, decide_eq_false_iff_not] at hib
    simp (disch := omega) only [wr, eq_self, true_and, and_true, cond_true, cond_false, onS, Bool.not_true, Bool.not_false, Int.toNat_natCast]
    refine (sift_spec s1 (by omega) (by omega) (by omega) (by omega) hn o1).mono ?_
    rintro _ h2 ⟨rfl, d2, s2, w2, o2⟩
    exact ⟨⟨by omega, by omega, d2, s2, w1.trans (w2.mono (by omega) (by omega)), by rw [Int.sub_add_cancel]; exact o2⟩, by omega⟩
  | true =>
    rw [ltI_eq, decide_eq_true_eq] at hib
    obtain rfl : i = -1 := by omega
    have o1' : Hep a 0 (b - a) d1 := o1
    simp (disch := omega) only [wr, eq_self, true_and, and_true, cond_true, cond_false, onS, Bool.not_true, Bool.not_false, Int.toNat_natCast]
    refine ⟨fun vs h' => match vs with
      | [.int _ i] => -1 ≤ i ∧ i < b - a ∧ ∃ d', SS en g q fr bk n d' h' ∧ Sw a b d d' ∧ Hep a 0 (i + 1) d' ∧ Fix lt a b a (a + i + 1) d'
      | _ => False, fun vs _ => match vs with
      | [.int _ i] => (i + 1).toNat
      | _ => 0, ⟨by omega, by omega, d1, s1, w1, by rw [Int.sub_add_cancel]; exact o1', fun p r h1 h2 h3 h4 => by omega⟩, ?_⟩
    rintro bs2 i h2 ⟨hi1, hi2, d2, s2, w2, o2, x2⟩
    cases hib : ltI i 0 with
    | true =>
      rw [ltI_eq, decide_eq_true_eq] at hib
      exact ⟨d2, s2, w2, fun p r h1 h2 h3 => x2 p r h1 h2 h3 (by omega)⟩
    | false =>
      rw [ltI_eq, decide_eq_false_iff_not] at hib
      obtain ⟨q1, q2, e1, e2, s3⟩ := s2.swap (i := a) (j := a + i) (by omega) (by omega) (by omega) (by omega)
      simp (disch := omega) only [wr, eq_self, true_and, and_true, cond_true, cond_false, onS, Bool.not_true, Bool.not_false, Int.toNat_natCast]
      refine ⟨⟨by omega, by omega⟩, d2 (a + i), s2.ld (by omega) (by omega), ⟨by omega, by omega⟩, d2 a, s2.ld (by omega) (by omega), ⟨by omega, by omega⟩, q1, e1, ⟨by omega, by omega⟩, q2, e2, ?_⟩
      refine (sift_spec s3 (by omega) (by omega) (by omega) (by omega) hn ?_).mono ?_
      · intro k c h1 h3 h4
        rw [sw_ne _ (by omega) (by omega), sw_ne _ (by omega) (by omega)]
        exact o2 k c (by omega) h3 (by omega)
      rintro _ h3 ⟨rfl, d3, s4, w3, o3⟩
      rw [Int.add_zero] at w3
      refine ⟨⟨by omega, by omega, d3, s4, (w2.step a (a + i) (by omega) (by omega) (by omega) (by omega)).trans (w3.mono (by omega) (by omega)), by rw [Int.sub_add_cancel]; exact o3, ?_⟩, by omega⟩
      have hfix : Fix lt a b a (a + i) (sw d2 a (a + i)) := by
        intro p r h1 h4 h5 h6
        by_cases e : r = a + i
        · subst e
          rw [sw_r]
          by_cases e1 : p = a
          · subst e1; rw [sw_l]; have := o2.max i.toNat i (by omega) (by omega); exact this
          · rw [sw_ne _ e1 (by omega)]
            have := o2.max (p - a).toNat (p - a) (by omega) (by omega)
            rw [show a + (p - a) = p by omega] at this; exact this
        · rw [sw_ne (k := r) _ (by omega) (by omega)]
          by_cases e1 : p = a
          · subst e1; rw [sw_l]; exact x2 (p + i) r (by omega) (by omega) h5 (.inr (by omega))
          · by_cases e2 : p = a + i
            · subst e2; rw [sw_r]; exact x2 a r (by omega) (by omega) h5 (.inr (by omega))
            · rw [sw_ne _ e1 e2]; exact x2 p r h1 h4 h5 (.inr (by omega))
      have := hfix.keep (by omega) (by omega) w3
      rw [show a + (i - 1) + 1 = a + i by omega]; exact this
end
end Go.Vex.Sort
namespace Go.Vex.Sort
open Go.Proofs

section
variable {g h : Hp} {q n : Nat} {fr bk : List V} {d : Int → E} {f : Bool} {a b : Int}

theorem rev_spec (s : SS en g q fr bk n d h) (h0 : 0 ≤ a) (hab : a ≤ b) (hb : b ≤ n) (hn : (n : Int) ≤ 2305843009213693952) :
    XCalls Tryd.prog 58 [.slc (some (q, fr.length)) n f, .int .i64 a, .int .i64 b] h fun v h' => v = .tup [] ∧ ∃ d', SS en g q fr bk n d' h' ∧ Sw a b d d' := by
  apply x58; unfold X58
  simp (disch := omega) only [wr, eq_self, true_and, and_true, cond_true, cond_false, onS, Bool.not_true, Bool.not_false, Int.toNat_natCast]
  refine ⟨fun vs h' => match vs with
    | [.int _ i, .int _ j] => a ≤ i ∧ i ≤ b ∧ -1 ≤ j ∧ j < b ∧ ∃ d', SS en g q fr bk n d' h' ∧ Sw a b d d'
    | _ => False, fun vs _ => match vs with
    | [.int _ i, .int _ j] => (j - i).toNat
    | _ => 0, ⟨by omega, by omega, by omega, by omega, d, s, .refl⟩, ?_⟩
  rintro bs i j h1 ⟨hi, hib, hj1, hj, d1, s1, w1⟩
  cases hij : ltI i j with
  | false => exact ⟨d1, s1, w1⟩
  | true =>
    rw [ltI_eq, decide_eq_true_eq] at hij
    obtain ⟨g1, g2, e1, e2, s3⟩ := s1.swap (i := i) (j := j) (by omega) (by omega) (by omega) (by omega)
    simp (disch := omega) only [wr, eq_self, true_and, and_true, cond_true, cond_false, onS, Bool.not_true, Bool.not_false, Int.toNat_natCast]
    refine ⟨⟨by omega, by omega⟩, d1 j, s1.ld (by omega) (by omega), ⟨by omega, by omega⟩, d1 i, s1.ld (by omega) (by omega), ⟨by omega, by omega⟩, g1, e1, ⟨by omega, by omega⟩, g2, e2, ⟨by omega, by omega, by omega, by omega, _, s3, w1.step i j (by omega) (by omega) (by omega) (by omega)⟩, by omega⟩

def cell (m : Int) : O := .row [.int .i64 m] 1 false

theorem ord2_spec {p : Nat} {m : Int} (s : SS en g q fr bk n d h) (hp : h.get p = some (cell m)) (hpq : p ≠ q) (hpg : g.next ≤ p) (ha : 0 ≤ a) (han : a < n) (hb : 0 ≤ b) (hbn : b < n) :
    XCalls Tryd.prog 78 [.slc (some (q, fr.length)) n f, .int .i64 a, .int .i64 b, .ptr (some (p, 0))] h fun v h' => (v = .tup [.int .i64 a, .int .i64 b] ∨ v = .tup [.int .i64 b, .int .i64 a]) ∧ SS en g q fr bk n d h' ∧ ∃ m', h'.get p = some (cell m') := by
  apply x78; unfold X78
  refine ⟨⟨hb, hbn⟩, d b, s.ld hb hbn, ⟨ha, han⟩, d a, s.ld ha han, ?_⟩
  refine (less_spec _ _).mono ?_
  rintro _ _ ⟨rfl, rfl⟩
  refine ⟨_, rfl, ?_⟩
  cases hl : lt (d b) (d a) with
  | false => exact ⟨.inl rfl, s, m, hp⟩
  | true =>
    refine ⟨m, by rw [Hp.ld_of hp]; rfl, _, Hp.st_of hp (Nat.le_of_ble_eq_true rfl), .inr rfl, s.beside hp hpq hpg, IntKind.i64.wrap (m + 1), ?_⟩
    rw [Hp.get_set_self]; rfl

theorem med_spec {p : Nat} {m c : Int} (s : SS en g q fr bk n d h) (hp : h.get p = some (cell m)) (hpq : p ≠ q) (hpg : g.next ≤ p) (ha : 0 ≤ a) (han : a < n) (hb : 0 ≤ b) (hbn : b < n) (hc : 0 ≤ c) (hcn : c < n) :
    XCalls Tryd.prog 72 [.slc (some (q, fr.length)) n f, .int .i64 a, .int .i64 b, .int .i64 c, .ptr (some (p, 0))] h fun v h' => (∃ i, v = .int .i64 i ∧ (i = a ∨ i = b ∨ i = c)) ∧ SS en g q fr bk n d h' ∧ ∃ m', h'.get p = some (cell m') := by
  apply x72; unfold X72
  refine (ord2_spec s hp hpq hpg ha han hb hbn).mono ?_
  rintro v h1 ⟨hv, s1, m1, hp1⟩
  obtain ⟨i, j, rfl, hi, hj⟩ : ∃ i j, v = .tup [.int .i64 i, .int .i64 j] ∧ (i = a ∨ i = b) ∧ (j = a ∨ j = b) := by
    rcases hv with rfl | rfl
    · exact ⟨a, b, rfl, .inl rfl, .inr rfl⟩
    · exact ⟨b, a, rfl, .inr rfl, .inl rfl⟩
  refine ⟨_, _, rfl, ?_⟩
  refine (ord2_spec s1 hp1 hpq hpg (by omega) (by omega) hc hcn).mono ?_
  rintro v h2 ⟨hv, s2, m2, hp2⟩
  obtain ⟨k, l, rfl, hk, hl⟩ : ∃ k l, v = .tup [.int .i64 k, .int .i64 l] ∧ (k = j ∨ k = c) ∧ (l = j ∨ l = c) := by
    rcases hv with rfl | rfl
    · exact ⟨j, c, rfl, .inl rfl, .inr rfl⟩
    · exact ⟨c, j, rfl, .inr rfl, .inl rfl⟩
  refine ⟨_, _, rfl, ?_⟩
  refine (ord2_spec s2 hp2 hpq hpg (by omega) (by omega) (by omega) (by omega)).mono ?_
  rintro v h3 ⟨hv, s3, m3, hp3⟩
  obtain ⟨x, y, rfl, hx, hy⟩ : ∃ x y, v = .tup [.int .i64 x, .int .i64 y] ∧ (x = i ∨ x = k) ∧ (y = i ∨ y = k) := by
    rcases hv with rfl | rfl
    · exact ⟨i, k, rfl, .inl rfl, .inr rfl⟩
    · exact ⟨k, i, rfl, .inr rfl, .inl rfl⟩
  exact ⟨_, _, rfl, ⟨y, rfl, by omega⟩, s3, m3, hp3⟩

theorem meda_spec {p : Nat} {m : Int} (s : SS en g q fr bk n d h) (hp : h.get p = some (cell m)) (hpq : p ≠ q) (hpg : g.next ≤ p) (ha : 1 ≤ a) (han : a + 1 < n) (hn : (n : Int) ≤ 2305843009213693952) :
    XCalls Tryd.prog 71 [.slc (some (q, fr.length)) n f, .int .i64 a, .ptr (some (p, 0))] h fun v h' => (∃ i, v = .int .i64 i ∧ a - 1 ≤ i ∧ i ≤ a + 1) ∧ SS en g q fr bk n d h' ∧ ∃ m', h'.get p = some (cell m') := by
  apply x71; unfold X71
  simp (disch := omega) only [wr, eq_self, true_and, and_true, cond_true, cond_false, onS, Bool.not_true, Bool.not_false, Int.toNat_natCast]
  refine (med_spec s hp hpq hpg (by omega) (by omega) (by omega) (by omega) (by omega) (by omega)).mono ?_
  rintro v h1 ⟨⟨i, rfl, hi⟩, s1, m1, hp1⟩
  exact ⟨_, rfl, ⟨i, rfl, by omega⟩, s1, m1, hp1⟩

/-! ### bits -/

def tabOK (k : Nat) : Bool := match bitTab.get?Internal k with
  | some b => Nat.ble b.toNat 8 && (Nat.beq k 0 || Nat.ble (2 ^ b.toNat) (2 * k))
  | none => false

theorem tab_ok : ((List.range 256).all tabOK) = true := by decide +kernel

theorem tab_get {k : Nat} (hk : k < 256) : ∃ b, bitTab.get?Internal k = some b ∧ b.toNat ≤ 8 ∧ (1 ≤ k → 2 ^ b.toNat ≤ 2 * k) := by
  have h := List.all_eq_true.1 tab_ok k (by simp [hk])
  unfold tabOK at h
  split at h
  · rename_i b hb
    simp only [Bool.and_eq_true, ble_eq', decide_eq_true_eq, Bool.or_eq_true, nbeq] at h
    exact ⟨b, hb, h.1, fun h1 => by rcases h.2 with h2 | h2 <;> omega⟩
  · cases h

theorem u8w {x : Int} (h0 : 0 ≤ x) (h1 : x < 256) : IntKind.u8.wrap x = x := wrap_of (by simp [IntKind.min, IntKind.max, IntKind.signed, IntKind.bits]; omega)
theorem u64w {x : Int} (h0 : 0 ≤ x) (h1 : x < 18446744073709551616) : IntKind.u64.wrap x = x := wrap_of (by simp [IntKind.min, IntKind.max, IntKind.signed, IntKind.bits]; omega)

theorem pow_step {m k : Nat} {x y t : Int} (hx : y * 2 ^ m ≤ x) (hk : t * 2 ^ k ≤ y) {b : Nat} (hb : (2 : Int) ^ b ≤ 2 * t) : (2 : Int) ^ (m + k + b) ≤ 2 * x := by
  have p1 : (0 : Int) ≤ 2 ^ m := Int.pow_nonneg (by decide)
  have p2 : (0 : Int) ≤ 2 ^ k := Int.pow_nonneg (by decide)
  rw [Int.pow_add, Int.pow_add]
  have h1 := Int.mul_le_mul_of_nonneg_left hb (Int.mul_nonneg p1 p2)
  have h2 := Int.mul_le_mul_of_nonneg_left hk p1
  have h3 : (2 : Int) ^ m * 2 ^ k * (2 * t) = 2 * (2 ^ m * (t * 2 ^ k)) := by
    rw [Int.mul_comm 2 t, ← Int.mul_assoc, Int.mul_comm _ 2, Int.mul_assoc (2 ^ m), Int.mul_comm (2 ^ k) t]
  have h4 : (2 : Int) ^ m * y = y * 2 ^ m := Int.mul_comm _ _
  omega

theorem len64_spec {x : Int} (h0 : 0 ≤ x) (h1 : x < 18446744073709551616) :
    XCalls Tryd.prog 64 [.int .u64 x] h fun v h' => h' = h ∧ ∃ m : Nat, v = .int .i64 m ∧ m ≤ 64 ∧ (1 ≤ x → (2 : Int) ^ m ≤ 2 * x) := by
  apply x64; unfold X64
  refine ⟨fun vs h' => match vs with
    | [.int _ y, .int _ m] => h' = h ∧ 0 ≤ y ∧ y < 4294967296 ∧ (m = 0 ∨ m = 32) ∧ y * 2 ^ m.toNat ≤ x ∧ (1 ≤ x → 1 ≤ y)
    | _ => False, ?_, ?_⟩
  · cases hc : ltI x 4294967296 with
    | true =>
      rw [ltI_eq, decide_eq_true_eq] at hc
      exact ⟨rfl, rfl, h0, hc, .inl rfl, by simp, fun h => h⟩
    | false =>
      rw [ltI_eq, decide_eq_false_iff_not] at hc
      have e : x.fdiv (2 ^ min (Int.toNat 32) IntKind.u64.bits) = x / 4294967296 := by
        rw [Int.fdiv_eq_ediv_of_nonneg _ (by decide)]; rfl
      rw [e]
      exact ⟨by decide, rfl, rfl, by omega, by omega, .inr rfl, by show _ * (2 : Int) ^ 32 ≤ x; omega, fun h => by omega⟩
  rintro bs1 y m h1' ⟨rfl, hy0, hy1, hm, hyx, hyp⟩
  refine ⟨fun vs h' => match vs with
    | [.int _ z, .int _ k] => h' = h1' ∧ 0 ≤ z ∧ z < 65536 ∧ 0 ≤ k ∧ k ≤ 48 ∧ z * 2 ^ k.toNat ≤ x ∧ (1 ≤ x → 1 ≤ z)
    | _ => False, ?_, ?_⟩
  · cases hc : ltI y 65536 with
    | true =>
      rw [ltI_eq, decide_eq_true_eq] at hc
      exact ⟨rfl, rfl, hy0, hc, by omega, by omega, hyx, hyp⟩
    | false =>
      rw [ltI_eq, decide_eq_false_iff_not] at hc
      have e : y.fdiv (2 ^ min (Int.toNat 16) IntKind.u64.bits) = y / 65536 := by
        rw [Int.fdiv_eq_ediv_of_nonneg _ (by decide)]; rfl
      rw [e, wr (by omega) (by omega)]
      refine ⟨by decide, rfl, rfl, by omega, by omega, by omega, by omega, ?_, fun h => by omega⟩
      rcases hm with rfl | rfl
      · simp at hyx; show _ * (2 : Int) ^ 16 ≤ x; omega
      · have hyx : y * (2 : Int) ^ 32 ≤ x := hyx
        show _ * (2 : Int) ^ 48 ≤ x; omega
  rintro bs2 z k h2 ⟨rfl, hz0, hz1, hk0, hk1, hzx, hzp⟩
  obtain ⟨k, rfl⟩ := Int.eq_ofNat_of_zero_le hk0
  rw [Int.toNat_natCast] at hzx
  cases hc : ltI z 256 with
  | false =>
    rw [ltI_eq, decide_eq_false_iff_not] at hc
    have e : z.fdiv (2 ^ min (Int.toNat 8) IntKind.u64.bits) = z / 256 := by
      rw [Int.fdiv_eq_ediv_of_nonneg _ (by decide)]; rfl
    rw [e, u8w (by omega) (by omega)]
    obtain ⟨b, hb, hb8, hbp⟩ := tab_get (k := (z / 256).toNat) (by omega)
    have e2 : IntKind.i64.wrap (IntKind.i64.wrap ((k : Int) + 8) + IntKind.i64.wrap (b.toNat : Int)) = ((k + 8 + b.toNat : Nat) : Int) := by
      rw [wr (x := (b.toNat : Int)) (by omega) (by omega), wr (x := (k : Int) + 8) (by omega) (by omega), wr (by omega) (by omega)]; omega
    refine ⟨by decide, by omega, b, hb, ?_⟩
    rw [e2]
    refine ⟨rfl, _, rfl, by omega, fun h => pow_step (k := 8) (t := z / 256) hzx (by show _ * (2 : Int) ^ 8 ≤ z; omega) ?_⟩
    have := hbp (by omega)
    have h3 : ((2 ^ b.toNat : Nat) : Int) ≤ ((2 * (z / 256).toNat : Nat) : Int) := Int.ofNat_le.2 this
    rw [Int.natCast_pow] at h3
    have h4 : ((2 * (z / 256).toNat : Nat) : Int) = 2 * (z / 256) := by omega
    rw [h4] at h3
    exact h3
  | true =>
    rw [ltI_eq, decide_eq_true_eq] at hc
    rw [u8w (x := z) (by omega) (by omega)]
    obtain ⟨b, hb, hb8, hbp⟩ := tab_get (k := z.toNat) (by omega)
    have e2 : IntKind.i64.wrap ((k : Int) + IntKind.i64.wrap (b.toNat : Int)) = ((k + 0 + b.toNat : Nat) : Int) := by
      rw [wr (x := (b.toNat : Int)) (by omega) (by omega), wr (by omega) (by omega)]; omega
    refine ⟨by omega, b, hb, ?_⟩
    rw [e2]
    refine ⟨rfl, _, rfl, by omega, fun h => pow_step (k := 0) (t := z) hzx (by simp) ?_⟩
    have := hbp (by omega)
    have h3 : ((2 ^ b.toNat : Nat) : Int) ≤ ((2 * z.toNat : Nat) : Int) := Int.ofNat_le.2 this
    rw [Int.natCast_pow] at h3
    have h4 : ((2 * z.toNat : Nat) : Int) = 2 * z := by omega
    rw [h4] at h3
    exact h3

theorem len_spec {x : Int} (h0 : 0 ≤ x) (h1 : x < 18446744073709551616) :
    XCalls Tryd.prog 49 [.int .u64 x] h fun v h' => h' = h ∧ ∃ m : Nat, v = .int .i64 m ∧ m ≤ 64 ∧ (1 ≤ x → (2 : Int) ^ m ≤ 2 * x) := by
  apply x49; unfold X49
  refine (len64_spec h0 h1).mono ?_
  rintro _ _ ⟨rfl, m, rfl, hm⟩
  exact ⟨_, rfl, rfl, m, rfl, hm⟩

theorem npot_spec {x : Int} (h0 : 1 ≤ x) (h1 : x ≤ 2305843009213693952) :
    XCalls Tryd.prog 69 [.int .i64 x] h fun v h' => h' = h ∧ ∃ p, v = .int .u64 p ∧ 1 ≤ p ∧ p ≤ 2 * x := by
  apply x69; unfold X69
  rw [u64w (by omega) (by omega)]
  refine (len_spec (by omega) (by omega)).mono ?_
  rintro _ _ ⟨rfl, m, rfl, hm, hp⟩
  have hp := hp h0
  have hpos : (1 : Int) ≤ 2 ^ m := Int.pow_pos (by decide)
  refine ⟨_, rfl, by omega, rfl, 2 ^ m, ?_, hpos, hp⟩
  rw [Int.toNat_natCast, show min m IntKind.u64.bits = m from Nat.min_eq_left hm, Int.one_mul, u64w (by omega) (by omega)]

def word (m : Int) : O := .row [.int .u64 m] 1 false

theorem xs_spec {p : Nat} {m : Int} (s : SS en g q fr bk n d h) (hp : h.get p = some (word m)) (hpq : p ≠ q) (hpg : g.next ≤ p) :
    XCalls Tryd.prog 70 [.ptr (some (p, 0))] h fun v h' => (∃ y, v = .int .u64 y ∧ h'.get p = some (word y)) ∧ SS en g q fr bk n d h' := by
  apply x70; unfold X70
  refine ⟨m, by rw [Hp.ld_of hp]; rfl, m, by rw [Hp.ld_of hp]; rfl, by decide, _, Hp.st_of hp (Nat.le_of_ble_eq_true rfl), ?_⟩
  generalize bits BinOp.xor IntKind.u64 m _ = m1
  have hp1 : (h.set p (.row (splice [.int .u64 m] 0 [.int .u64 m1]) 1 false)).get p = some (word m1) := Hp.get_set_self
  have s1 := s.beside (o := .row (splice [.int .u64 m] 0 [.int .u64 m1]) 1 false) hp hpq hpg
  generalize h.set p (.row (splice [.int .u64 m] 0 [.int .u64 m1]) 1 false) = h1 at *
  refine ⟨m1, by rw [Hp.ld_of hp1]; rfl, m1, by rw [Hp.ld_of hp1]; rfl, by decide, _, Hp.st_of hp1 (Nat.le_of_ble_eq_true rfl), ?_⟩
  generalize bits BinOp.xor IntKind.u64 m1 _ = m2
  have hp2 : (h1.set p (.row (splice [.int .u64 m1] 0 [.int .u64 m2]) 1 false)).get p = some (word m2) := Hp.get_set_self
  have s2 := s1.beside (o := .row (splice [.int .u64 m1] 0 [.int .u64 m2]) 1 false) hp1 hpq hpg
  generalize h1.set p (.row (splice [.int .u64 m1] 0 [.int .u64 m2]) 1 false) = h2 at *
  refine ⟨m2, by rw [Hp.ld_of hp2]; rfl, m2, by rw [Hp.ld_of hp2]; rfl, by decide, _, Hp.st_of hp2 (Nat.le_of_ble_eq_true rfl), ?_⟩
  generalize bits BinOp.xor IntKind.u64 m2 _ = m3
  have hp3 : (h2.set p (.row (splice [.int .u64 m2] 0 [.int .u64 m3]) 1 false)).get p = some (word m3) := Hp.get_set_self
  have s3 := s2.beside (o := .row (splice [.int .u64 m2] 0 [.int .u64 m3]) 1 false) hp2 hpq hpg
  refine ⟨m3, by rw [Hp.ld_of hp3]; rfl, ⟨m3, rfl, hp3⟩, s3⟩

theorem bits_and_le {y m : Int} (h0 : 0 ≤ m) (h1 : m < 18446744073709551616) : 0 ≤ bits .and .u64 y m ∧ bits .and .u64 y m ≤ m := by
  have h2 : (BitVec.ofInt 64 y &&& BitVec.ofInt 64 m).toNat ≤ m.toNat := by
    rw [BitVec.toNat_and]
    have h3 : (BitVec.ofInt 64 m).toNat = m.toNat := by rw [BitVec.toNat_ofInt]; omega
    rw [h3]; exact Nat.and_le_right
  have e : bits .and .u64 y m = IntKind.u64.wrap ((BitVec.ofInt 64 y &&& BitVec.ofInt 64 m).toNat : Int) := rfl
  rw [e, u64w (by omega) (by omega)]
  omega

theorem brk_spec (s : SS en g q fr bk n d h) (h0 : 0 ≤ a) (hab : a ≤ b) (hb : b ≤ n) (hn : (n : Int) ≤ 2305843009213693952) :
    XCalls Tryd.prog 56 [.slc (some (q, fr.length)) n f, .int .i64 a, .int .i64 b] h fun v h' => v = .tup [] ∧ ∃ d', SS en g q fr bk n d' h' ∧ Sw a b d d' := by
  apply x56; unfold X56
  rw [wr (x := b - a) (by omega) (by omega)]
  cases hc : ltI (b - a) 8 with
  | true => exact ⟨rfl, d, s, .refl⟩
  | false =>
    rw [ltI_eq, decide_eq_false_iff_not] at hc
    have hq : (b - a).tdiv 4 = (b - a) / 4 := Int.tdiv_eq_ediv_of_nonneg (by omega)
    rw [hq]
    rw [wr (x := (b - a) / 4) (by omega) (by omega), wr (x := (b - a) / 4 * 2) (by omega) (by omega), wr (x := a + (b - a) / 4 * 2) (by omega) (by omega), wr (x := a + (b - a) / 4 * 2 - 1) (by omega) (by omega), wr (x := a + (b - a) / 4 * 2 + 1) (by omega) (by omega), u64w (x := b - a) (by omega) (by omega)]
    rintro h1 rfl
    have hpn : h.next ≠ q := Ne.symm (s.wf.ne s.row)
    have s1 := s.alloc (.row [.int .u64 0] 1 false)
    have hp1 : (h.alloc (.row [.int .u64 0] 1 false)).get h.next = some (word 0) := Hp.get_alloc_self
    refine ⟨_, Hp.st_of hp1 (Nat.le_of_ble_eq_true rfl), ?_⟩
    have hp2 : ((h.alloc (.row [.int .u64 0] 1 false)).set h.next (.row (splice [.int .u64 0] 0 [.int .u64 (b - a)]) 1 false)).get h.next = some (word (b - a)) := Hp.get_set_self
    have s2 := s1.beside (o := .row (splice [.int .u64 0] 0 [.int .u64 (b - a)]) 1 false) hp1 hpn s.le
    generalize (h.alloc (.row [.int .u64 0] 1 false)).set h.next (.row (splice [.int .u64 0] 0 [.int .u64 (b - a)]) 1 false) = h2 at *
    refine (npot_spec (by omega) (by omega)).mono ?_
    rintro _ _ ⟨rfl, p, rfl, hp0, hpx⟩
    have hgp := s.le
    generalize h.next = w at *
    refine ⟨p, rfl, by decide, ?_⟩
    refine ⟨fun vs h' => match vs with
      | [.int _ i] => a + (b - a) / 4 * 2 - 1 ≤ i ∧ i ≤ a + (b - a) / 4 * 2 + 2 ∧ (∃ m, h'.get w = some (word m)) ∧ ∃ d', SS en g q fr bk n d' h' ∧ Sw a b d d'
      | _ => False, fun vs _ => match vs with
      | [.int _ i] => (a + (b - a) / 4 * 2 + 2 - i).toNat
      | _ => 0, ⟨(by trivial), by omega, by omega, ⟨_, hp2⟩, d, s2, .refl⟩, ?_⟩
    rintro bs i h3 ⟨hi0, hi1, ⟨m, hm⟩, d1, s3, w1⟩
    refine ⟨by decide, ?_⟩
    cases hc2 : ltI (a + (b - a) / 4 * 2 + 1) i with
    | true => exact ⟨rfl, d1, s3, w1⟩
    | false =>
      rw [ltI_eq, decide_eq_false_iff_not] at hc2
      refine (xs_spec s3 hm hpn hgp).mono ?_
      rintro _ h4 ⟨⟨y, rfl, hm4⟩, s4⟩
      refine ⟨y, rfl, ?_⟩
      rw [u64w (x := p - 1) (by omega) (by omega)]
      have hy := bits_and_le (y := y) (m := p - 1) (by omega) (by omega)
      generalize bits .and .u64 y (p - 1) = z at *
      refine ⟨fun vs h' => match vs with
        | [.int _ o] => h' = h4 ∧ 0 ≤ o ∧ o < b - a
        | _ => False, ?_, ?_⟩
      · rw [wr (x := z) (by omega) (by omega)]
        cases hc3 : ltI z (b - a) with
        | true => rw [ltI_eq, decide_eq_true_eq] at hc3; exact ⟨rfl, rfl, by omega, hc3⟩
        | false => rw [ltI_eq, decide_eq_false_iff_not] at hc3; rw [wr (x := z - (b - a)) (by omega) (by omega)]; exact ⟨rfl, rfl, by omega, by omega⟩
      rintro bs2 o h5 ⟨rfl, ho0, ho1⟩
      obtain ⟨g1, g2, e1, e2, s6⟩ := s4.swap (i := i) (j := a + o) (by omega) (by omega) (by omega) (by omega)
      simp (disch := omega) only [wr, eq_self, true_and, and_true, cond_true, cond_false, onS, Bool.not_true, Bool.not_false, Int.toNat_natCast]
      have hm6 : g2.get w = some (word y) := by
        unfold Hp.st at e1 e2
        rw [s4.row] at e1
        simp only at e1
        cases hb1 : Nat.ble (fr.length + i.toNat * 1 + [en (d1 (a + o))].length) (fr ++ ((lst n d1).map en ++ bk)).length with
        | false => rw [hb1] at e1; cases e1
        | true =>
          rw [hb1] at e1; cases e1
          rw [Hp.get_set_self] at e2
          simp only at e2
          cases hb2 : Nat.ble (fr.length + (a + o).toNat * 1 + [en (d1 i)].length) (splice (fr ++ ((lst n d1).map en ++ bk)) (fr.length + i.toNat * 1) [en (d1 (a + o))]).length with
          | false => rw [hb2] at e2; cases e2
          | true =>
            rw [hb2] at e2; cases e2
            rw [Hp.get_set_ne hpn, Hp.get_set_ne hpn]; exact hm4
      refine ⟨⟨by omega, by omega⟩, d1 (a + o), s4.ld (by omega) (by omega), ⟨by omega, by omega⟩, d1 i, s4.ld (by omega) (by omega), ⟨by omega, by omega⟩, g1, e1, ⟨by omega, by omega⟩, g2, e2, ⟨by omega, by omega, ⟨y, hm6⟩, _, s6, w1.step i (a + o) (by omega) (by omega) (by omega) (by omega)⟩, by omega⟩

theorem cho_spec (s : SS en g q fr bk n d h) (h0 : 0 ≤ a) (hab : a < b) (hb : b ≤ n) (hn : (n : Int) ≤ 2305843009213693952) :
    XCalls Tryd.prog 57 [.slc (some (q, fr.length)) n f, .int .i64 a, .int .i64 b] h fun v h' => (∃ i t, v = .tup [.int .i64 i, .int .i64 t] ∧ a ≤ i ∧ i < b) ∧ SS en g q fr bk n d h' := by
  apply x57; unfold X57
  rintro h1 rfl
  have hpn : h.next ≠ q := Ne.symm (s.wf.ne s.row)
  have hgp := s.le
  have s1 := s.alloc (.row [.int .i64 0] 1 false)
  have hp1 : (h.alloc (.row [.int .i64 0] 1 false)).get h.next = some (cell 0) := Hp.get_alloc_self
  generalize h.alloc (.row [.int .i64 0] 1 false) = h1 at *
  generalize h.next = w at *
  have hq : (b - a).tdiv 4 = (b - a) / 4 := Int.tdiv_eq_ediv_of_nonneg (by omega)
  rw [wr (x := b - a) (by omega) (by omega), hq, wr (x := (b - a) / 4) (by omega) (by omega), wr (x := (b - a) / 4 * 1) (by omega) (by omega), wr (x := (b - a) / 4 * 2) (by omega) (by omega), wr (x := (b - a) / 4 * 3) (by omega) (by omega), wr (x := a + (b - a) / 4 * 1) (by omega) (by omega), wr (x := a + (b - a) / 4 * 2) (by omega) (by omega), wr (x := a + (b - a) / 4 * 3) (by omega) (by omega)]
  refine ⟨by decide, by decide, by decide, fun vs h' => match vs with
    | [.int _ i] => a ≤ i ∧ i < b ∧ SS en g q fr bk n d h' ∧ ∃ m, h'.get w = some (cell m)
    | _ => False, ?_, ?_⟩
  · cases hc : ltI (b - a) 8 with
    | true => exact ⟨rfl, by omega, by omega, s1, _, hp1⟩
    | false =>
      rw [ltI_eq, decide_eq_false_iff_not] at hc
      cases hc2 : ltI (b - a) 50 with
      | true =>
        refine (med_spec s1 hp1 hpn hgp (by omega) (by omega) (by omega) (by omega) (by omega) (by omega)).mono ?_
        rintro _ h2 ⟨⟨i, rfl, hi⟩, s2, m2, hp2⟩
        exact ⟨_, rfl, rfl, by omega, by omega, s2, m2, hp2⟩
      | false =>
        rw [ltI_eq, decide_eq_false_iff_not] at hc2
        refine (meda_spec s1 hp1 hpn hgp (by omega) (by omega) hn).mono ?_
        rintro _ h2 ⟨⟨i, rfl, hi, hi'⟩, s2, m2, hp2⟩
        refine ⟨_, rfl, ?_⟩
        refine (meda_spec s2 hp2 hpn hgp (by omega) (by omega) hn).mono ?_
        rintro _ h3 ⟨⟨j, rfl, hj, hj'⟩, s3, m3, hp3⟩
        refine ⟨_, rfl, ?_⟩
        refine (meda_spec s3 hp3 hpn hgp (by omega) (by omega) hn).mono ?_
        rintro _ h4 ⟨⟨k, rfl, hk, hk'⟩, s4, m4, hp4⟩
        refine ⟨_, rfl, ?_⟩
        refine (med_spec s4 hp4 hpn hgp (by omega) (by omega) (by omega) (by omega) (by omega) (by omega)).mono ?_
        rintro _ h5 ⟨⟨l, rfl, hl⟩, s5, m5, hp5⟩
        exact ⟨_, rfl, rfl, by omega, by omega, s5, m5, hp5⟩
  rintro bs i h2 ⟨hi0, hi1, s2, m, hm⟩
  refine ⟨m, by rw [Hp.ld_of hm]; rfl, ?_⟩
  cases m == 0 with
  | true => exact ⟨⟨i, _, rfl, hi0, hi1⟩, s2⟩
  | false =>
    cases m == 12 with
    | true => exact ⟨⟨i, _, rfl, hi0, hi1⟩, s2⟩
    | false => exact ⟨⟨i, _, rfl, hi0, hi1⟩, s2⟩
end
end Go.Vex.Sort
namespace Go.Vex.Sort
open Go.Proofs

section
variable {g h : Hp} {q n : Nat} {fr bk : List V} {d : Int → E} {f : Bool} {a b : Int}

/-- those behind a, ahead of i, are less than what stands at a; those behind j are not -/
def Pt (a b i j : Int) (d : Int → E) : Prop := a < i ∧ i ≤ j + 1 ∧ j < b ∧ (∀ k, a < k → k < i → lt (d k) (d a) = true) ∧ ∀ k, j < k → k < b → lt (d k) (d a) = false

theorem Pt.swap {i j : Int} {d : Int → E} (p : Pt a b i j d) (hij : i ≤ j) (hi : lt (d i) (d a) = false) (hj : lt (d j) (d a) = true) : Pt a b (i + 1) (j - 1) (sw d i j) := by
  obtain ⟨h1, h2, h3, h4, h5⟩ := p
  have hne : i ≠ j := fun e => by subst e; rw [hi] at hj; cases hj
  refine ⟨by omega, by omega, by omega, fun k k1 k2 => ?_, fun k k1 k2 => ?_⟩
  · rw [sw_ne (k := a) _ (by omega) (by omega)]
    by_cases e : k = i
    · subst e; rw [sw_l]; exact hj
    · rw [sw_ne _ e (by omega)]; exact h4 k k1 (by omega)
  · rw [sw_ne (k := a) _ (by omega) (by omega)]
    by_cases e : k = j
    · subst e; rw [sw_r]; exact hi
    · rw [sw_ne _ (by omega) e]; exact h5 k (by omega) k2

theorem Pt.fin {i j : Int} {d : Int → E} (p : Pt a b i j d) (hij : j < i) (ha : a ≤ j) : (∀ k, a ≤ k → k < j → lt (sw d j a j) (sw d j a k) = false) ∧ ∀ k, j < k → k < b → lt (sw d j a k) (sw d j a j) = false := by
  obtain ⟨h1, h2, h3, h4, h5⟩ := p
  refine ⟨fun k k1 k2 => ?_, fun k k1 k2 => ?_⟩
  · rw [sw_l]
    by_cases e : k = a
    · subst e; rw [sw_r]; exact ordr.asym _ _ (h4 j (by omega) (by omega))
    · rw [sw_ne _ (by omega) e]; exact ordr.asym _ _ (h4 k (by omega) (by omega))
  · rw [sw_l, sw_ne _ (by omega) (by omega)]; exact h5 k k1 k2

theorem part_spec {p : Int} (s : SS en g q fr bk n d h) (h0 : 0 ≤ a) (hap : a ≤ p) (hpb : p < b) (hb : b ≤ n) (hn : (n : Int) ≤ 2305843009213693952) :
    XCalls Tryd.prog 62 [.slc (some (q, fr.length)) n f, .int .i64 a, .int .i64 b, .int .i64 p] h fun v h' => ∃ m c, v = .tup [.int .i64 m, .bool c] ∧ a ≤ m ∧ m < b ∧ ∃ d', SS en g q fr bk n d' h' ∧ Sw a b d d' ∧
      (∀ k, a ≤ k → k < m → lt (d' m) (d' k) = false) ∧ ∀ k, m < k → k < b → lt (d' k) (d' m) = false := by
  refine XCalls.cps fun K hK => ?_
  apply x62; unfold X62
  obtain ⟨g1, g2, e1, e2, s3⟩ := s.swap (i := a) (j := p) (by omega) (by omega) (by omega) (by omega)
  refine ⟨⟨by omega, by omega⟩, d p, s.ld (by omega) (by omega), ⟨by omega, by omega⟩, d a, s.ld (by omega) (by omega), ⟨by omega, by omega⟩, g1, e1, (by trivial), (by trivial), ⟨by omega, by omega⟩, g2, e2, ?_⟩
  have w3 : Sw a b d (sw d a p) := Sw.refl.step a p (by omega) (by omega) (by omega) (by omega)
  generalize sw d a p = d3 at *
  simp (disch := omega) only [wr, eq_self, true_and, and_true, cond_true, cond_false, onS, Bool.not_true, Bool.not_false, Int.toNat_natCast]
  refine ⟨fun vs h' => match vs with
    | [.int _ i] => ∃ d', SS en g q fr bk n d' h' ∧ Sw a b d d' ∧ Pt a b i (b - 1) d' ∧ (i ≤ b - 1 → lt (d' i) (d' a) = false)
    | _ => False, ?_, ?_⟩
  · refine ⟨fun vs h' => match vs with
      | [.int _ i] => ∃ d', SS en g q fr bk n d' h' ∧ Sw a b d d' ∧ Pt a b i (b - 1) d'
      | _ => False, fun vs _ => match vs with
      | [.int _ i] => (b - i).toNat
      | _ => 0, ⟨d3, s3, w3, by omega, by omega, by omega, fun k h1 h2 => by omega, fun k h1 h2 => by omega⟩, ?_⟩
    rintro bs i h1 ⟨d4, s4, w4, p4⟩
    have p5 := p4
    obtain ⟨q1, q2, q3, q4, q5⟩ := p4
    cases hc : ltI (b - 1) i with
    | true => rw [ltI_eq, decide_eq_true_eq] at hc; exact ⟨d4, s4, w4, p5, fun h => by omega⟩
    | false =>
      rw [ltI_eq, decide_eq_false_iff_not] at hc
      simp (disch := omega) only [wr, eq_self, true_and, and_true, cond_true, cond_false, onS, Bool.not_true, Bool.not_false, Int.toNat_natCast]
      refine ⟨⟨by omega, by omega⟩, d4 i, s4.ld (by omega) (by omega), ⟨by omega, by omega⟩, d4 a, s4.ld (by omega) (by omega), ?_⟩
      refine (less_spec _ _).mono ?_
      rintro _ _ ⟨rfl, rfl⟩
      refine ⟨_, rfl, ?_⟩
      cases hl : lt (d4 i) (d4 a) with
      | true =>
        refine ⟨⟨d4, s4, w4, by omega, by omega, by omega, fun k k1 k2 => ?_, q5⟩, by omega⟩
        by_cases e : k = i
        · subst e; exact hl
        · exact q4 k k1 (by omega)
      | false => exact ⟨d4, s4, w4, p5, fun _ => by first | exact hl | rfl⟩
  rintro bs i h2 ⟨d4, s4, w4, p4, hi4⟩
  obtain ⟨q1, q2, q3, q4, q5⟩ := p4
  simp (disch := omega) only [wr, eq_self, true_and, and_true, cond_true, cond_false, onS, Bool.not_true, Bool.not_false, Int.toNat_natCast]
  refine ⟨fun vs h' => match vs with
    | [.int _ j] => Pt a b i j d4 ∧ SS en g q fr bk n d4 h' ∧ (i ≤ j → lt (d4 j) (d4 a) = true)
    | _ => False, ?_, ?_⟩
  · refine ⟨fun vs h' => match vs with
      | [.int _ j] => Pt a b i j d4 ∧ SS en g q fr bk n d4 h'
      | _ => False, fun vs _ => match vs with
      | [.int _ j] => (j + 1).toNat
      | _ => 0, ⟨⟨q1, q2, q3, q4, q5⟩, s4⟩, ?_⟩
    rintro bs3 j h3 ⟨p5, s5⟩
    have p6 := p5
    obtain ⟨r1, r2, r3, r4, r5⟩ := p5
    cases hc : ltI j i with
    | true => rw [ltI_eq, decide_eq_true_eq] at hc; exact ⟨p6, s5, fun h => by omega⟩
    | false =>
      rw [ltI_eq, decide_eq_false_iff_not] at hc
      simp (disch := omega) only [wr, eq_self, true_and, and_true, cond_true, cond_false, onS, Bool.not_true, Bool.not_false, Int.toNat_natCast]
      refine ⟨⟨by omega, by omega⟩, d4 j, s5.ld (by omega) (by omega), ⟨by omega, by omega⟩, d4 a, s5.ld (by omega) (by omega), ?_⟩
      refine (less_spec _ _).mono ?_
      rintro _ _ ⟨rfl, rfl⟩
      refine ⟨_, rfl, ?_⟩
      cases hl : lt (d4 j) (d4 a) with
      | false =>
        refine ⟨⟨⟨by omega, by omega, by omega, r4, fun k k1 k2 => ?_⟩, s5⟩, by omega⟩
        by_cases e : k = j
        · subst e; exact hl
        · exact r5 k (by omega) k2
      | true => exact ⟨p6, s5, fun _ => by first | exact hl | rfl⟩
  rintro bs4 j h4 ⟨p6, s6, hj6⟩
  have p7 := p6
  obtain ⟨r1, r2, r3, r4, r5⟩ := p6
  cases hc : ltI j i with
  | true =>
    rw [ltI_eq, decide_eq_true_eq] at hc
    obtain ⟨g3, g4, e3, e4, s7⟩ := s6.swap (i := j) (j := a) (by omega) (by omega) (by omega) (by omega)
    refine ⟨⟨by omega, by omega⟩, d4 a, s6.ld (by omega) (by omega), ⟨by omega, by omega⟩, d4 j, s6.ld (by omega) (by omega), ⟨by omega, by omega⟩, g3, e3, ⟨by omega, by omega⟩, g4, e4, ?_⟩
    have hf := p7.fin hc (by omega)
    exact hK _ _ ⟨j, true, rfl, by omega, by omega, _, s7, w4.step j a (by omega) (by omega) (by omega) (by omega), hf.1, hf.2⟩
  | false =>
    rw [ltI_eq, decide_eq_false_iff_not] at hc
    obtain ⟨g3, g4, e3, e4, s7⟩ := s6.swap (i := i) (j := j) (by omega) (by omega) (by omega) (by omega)
    have p8 := p7.swap (by omega) (hi4 (by omega)) (hj6 (by omega))
    have w8 := w4.step i j (by omega) (by omega) (by omega) (by omega)
    generalize sw d4 i j = d8 at *
    simp (disch := omega) only [wr, eq_self, true_and, and_true, cond_true, cond_false, onS, Bool.not_true, Bool.not_false, Int.toNat_natCast]
    refine ⟨⟨by omega, by omega⟩, d4 j, s6.ld (by omega) (by omega), ⟨by omega, by omega⟩, d4 i, s6.ld (by omega) (by omega), ⟨by omega, by omega⟩, g3, e3, ⟨by omega, by omega⟩, g4, e4, ?_⟩
    refine ⟨fun vs h' => match vs with
      | [.int _ i, .int _ j] => ∃ d', SS en g q fr bk n d' h' ∧ Sw a b d d' ∧ Pt a b i j d'
      | _ => False, fun vs _ => match vs with
      | [.int _ i, .int _ j] => (j + 1 - i).toNat
      | _ => 0, ⟨d8, s7, w8, p8⟩, ?_⟩
    clear p8 w8 s7 e3 e4 hc hi4 hj6 s6 p7 r1 r2 r3 r4 r5 s4 w4 q1 q2 q3 q4 q5 s3 w3 e1 e2
    rintro bs5 i j h5 ⟨d4, s4, w4, p4⟩
    refine ⟨fun vs h' => match vs with
      | [.int _ i'] => i ≤ i' ∧ ∃ d', SS en g q fr bk n d' h' ∧ Sw a b d d' ∧ Pt a b i' j d' ∧ (i' ≤ j → lt (d' i') (d' a) = false)
      | _ => False, ?_, ?_⟩
    · refine ⟨fun vs h' => match vs with
        | [.int _ i', .int _ j'] => j' = j ∧ i ≤ i' ∧ ∃ d', SS en g q fr bk n d' h' ∧ Sw a b d d' ∧ Pt a b i' j d'
        | _ => False, fun vs _ => match vs with
        | [.int _ i', .int _ j'] => (b - i').toNat
        | _ => 0, ⟨(by trivial), by omega, d4, s4, w4, p4⟩, ?_⟩
      rintro bs6 i' j' h6 ⟨rfl, hi', d5, s5, w5, p5⟩
      have p6 := p5
      obtain ⟨q1, q2, q3, q4, q5⟩ := p5
      cases hc : ltI j' i' with
      | true => rw [ltI_eq, decide_eq_true_eq] at hc; exact ⟨rfl, hi', d5, s5, w5, p6, fun h => by omega⟩
      | false =>
        rw [ltI_eq, decide_eq_false_iff_not] at hc
        simp (disch := omega) only [wr, eq_self, true_and, and_true, cond_true, cond_false, onS, Bool.not_true, Bool.not_false, Int.toNat_natCast]
        refine ⟨⟨by omega, by omega⟩, d5 i', s5.ld (by omega) (by omega), ⟨by omega, by omega⟩, d5 a, s5.ld (by omega) (by omega), ?_⟩
        refine (less_spec _ _).mono ?_
        rintro _ _ ⟨rfl, rfl⟩
        refine ⟨_, rfl, ?_⟩
        cases hl : lt (d5 i') (d5 a) with
        | true =>
          refine ⟨⟨by omega, d5, s5, w5, by omega, by omega, by omega, fun k k1 k2 => ?_, q5⟩, by omega⟩
          by_cases e : k = i'
          · subst e; exact hl
          · exact q4 k k1 (by omega)
        | false => exact ⟨hi', d5, s5, w5, p6, fun _ => by first | exact hl | rfl⟩
    rintro bs7 i2 h7 ⟨hi2, d5, s5, w5, p5, hi5⟩
    have p6 := p5
    obtain ⟨q1, q2, q3, q4, q5⟩ := p5
    simp (disch := omega) only [wr, eq_self, true_and, and_true, cond_true, cond_false, onS, Bool.not_true, Bool.not_false, Int.toNat_natCast]
    refine ⟨fun vs h' => match vs with
      | [.int _ j'] => j' ≤ j ∧ Pt a b i2 j' d5 ∧ SS en g q fr bk n d5 h' ∧ (i2 ≤ j' → lt (d5 j') (d5 a) = true)
      | _ => False, ?_, ?_⟩
    · refine ⟨fun vs h' => match vs with
        | [.int _ j'] => j' ≤ j ∧ Pt a b i2 j' d5 ∧ SS en g q fr bk n d5 h'
        | _ => False, fun vs _ => match vs with
        | [.int _ j'] => (j' + 1).toNat
        | _ => 0, ⟨by omega, p6, s5⟩, ?_⟩
      rintro bs8 j' h8 ⟨hj', p7, s8⟩
      have p8 := p7
      obtain ⟨r1, r2, r3, r4, r5⟩ := p7
      cases hc : ltI j' i2 with
      | true => rw [ltI_eq, decide_eq_true_eq] at hc; exact ⟨hj', p8, s8, fun h => by omega⟩
      | false =>
        rw [ltI_eq, decide_eq_false_iff_not] at hc
        simp (disch := omega) only [wr, eq_self, true_and, and_true, cond_true, cond_false, onS, Bool.not_true, Bool.not_false, Int.toNat_natCast]
        refine ⟨⟨by omega, by omega⟩, d5 j', s8.ld (by omega) (by omega), ⟨by omega, by omega⟩, d5 a, s8.ld (by omega) (by omega), ?_⟩
        refine (less_spec _ _).mono ?_
        rintro _ _ ⟨rfl, rfl⟩
        refine ⟨_, rfl, ?_⟩
        cases hl : lt (d5 j') (d5 a) with
        | false =>
          refine ⟨⟨by omega, ⟨by omega, by omega, by omega, r4, fun k k1 k2 => ?_⟩, s8⟩, by omega⟩
          by_cases e : k = j'
          · subst e; exact hl
          · exact r5 k (by omega) k2
        | true => exact ⟨hj', p8, s8, fun _ => by first | exact hl | rfl⟩
    rintro bs9 j2 h9 ⟨hj2, p9, s9, hj9⟩
    have p10 := p9
    obtain ⟨r1, r2, r3, r4, r5⟩ := p9
    cases hc : ltI j2 i2 with
    | true =>
      rw [ltI_eq, decide_eq_true_eq] at hc
      obtain ⟨g5, g6, e5, e6, s11⟩ := s9.swap (i := j2) (j := a) (by omega) (by omega) (by omega) (by omega)
      refine ⟨⟨by omega, by omega⟩, d5 a, s9.ld (by omega) (by omega), ⟨by omega, by omega⟩, d5 j2, s9.ld (by omega) (by omega), ⟨by omega, by omega⟩, g5, e5, ⟨by omega, by omega⟩, g6, e6, ?_⟩
      have hf := p10.fin hc (by omega)
      exact hK _ _ ⟨j2, false, rfl, by omega, by omega, _, s11, w5.step j2 a (by omega) (by omega) (by omega) (by omega), hf.1, hf.2⟩
    | false =>
      rw [ltI_eq, decide_eq_false_iff_not] at hc
      obtain ⟨g5, g6, e5, e6, s11⟩ := s9.swap (i := i2) (j := j2) (by omega) (by omega) (by omega) (by omega)
      have p12 := p10.swap (by omega) (hi5 (by omega)) (hj9 (by omega))
      have w12 := w5.step i2 j2 (by omega) (by omega) (by omega) (by omega)
      simp (disch := omega) only [wr, eq_self, true_and, and_true, cond_true, cond_false, onS, Bool.not_true, Bool.not_false, Int.toNat_natCast]
      refine ⟨⟨by omega, by omega⟩, d5 j2, s9.ld (by omega) (by omega), ⟨by omega, by omega⟩, d5 i2, s9.ld (by omega) (by omega), ⟨by omega, by omega⟩, g5, e5, ⟨by omega, by omega⟩, g6, e6, ⟨_, s11, w12, p12⟩, by omega⟩

/-- those from a on, ahead of i, are not more than what stands at a; those behind j are -/
def Pe (a b i j : Int) (d : Int → E) : Prop := a < i ∧ i ≤ j + 1 ∧ j < b ∧ (∀ k, a ≤ k → k < i → lt (d a) (d k) = false) ∧ ∀ k, j < k → k < b → lt (d a) (d k) = true

theorem peq_spec {p : Int} (s : SS en g q fr bk n d h) (h0 : 0 ≤ a) (hap : a ≤ p) (hpb : p < b) (hb : b ≤ n) (hn : (n : Int) ≤ 2305843009213693952) :
    XCalls Tryd.prog 61 [.slc (some (q, fr.length)) n f, .int .i64 a, .int .i64 b, .int .i64 p] h fun v h' => ∃ m, v = .int .i64 m ∧ a < m ∧ m ≤ b ∧ ∃ d', SS en g q fr bk n d' h' ∧ Sw a b d d' ∧ d' a = d p ∧
      (∀ k, a ≤ k → k < m → lt (d' a) (d' k) = false) := by
  refine XCalls.cps fun K hK => ?_
  apply x61; unfold X61
  obtain ⟨g1, g2, e1, e2, s3⟩ := s.swap (i := a) (j := p) (by omega) (by omega) (by omega) (by omega)
  refine ⟨⟨by omega, by omega⟩, d p, s.ld (by omega) (by omega), ⟨by omega, by omega⟩, d a, s.ld (by omega) (by omega), ⟨by omega, by omega⟩, g1, e1, (by trivial), (by trivial), ⟨by omega, by omega⟩, g2, e2, ?_⟩
  have w3 : Sw a b d (sw d a p) := Sw.refl.step a p (by omega) (by omega) (by omega) (by omega)
  have v3 : sw d a p a = d p := sw_l _ _ _
  generalize sw d a p = d3 at *
  simp (disch := omega) only [wr, eq_self, true_and, and_true, cond_true, cond_false, onS, Bool.not_true, Bool.not_false, Int.toNat_natCast]
  refine ⟨fun vs h' => match vs with
    | [.int _ i, .int _ j] => ∃ d', SS en g q fr bk n d' h' ∧ Sw a b d d' ∧ d' a = d p ∧ Pe a b i j d'
    | _ => False, fun vs _ => match vs with
    | [.int _ i, .int _ j] => (j + 1 - i).toNat
    | _ => 0, ⟨d3, s3, w3, v3, by omega, by omega, by omega, fun k h1 h2 => (show k = a by omega) ▸ ordr.irr _, fun k h1 h2 => by omega⟩, ?_⟩
  clear s3 w3 v3 e1 e2
  rintro bs5 i j h5 ⟨d4, s4, w4, v4, p4⟩
  refine ⟨fun vs h' => match vs with
    | [.int _ i'] => i ≤ i' ∧ ∃ d', SS en g q fr bk n d' h' ∧ Sw a b d d' ∧ d' a = d p ∧ Pe a b i' j d' ∧ (i' ≤ j → lt (d' a) (d' i') = true)
    | _ => False, ?_, ?_⟩
  · refine ⟨fun vs h' => match vs with
      | [.int _ i', .int _ j'] => j' = j ∧ i ≤ i' ∧ ∃ d', SS en g q fr bk n d' h' ∧ Sw a b d d' ∧ d' a = d p ∧ Pe a b i' j d'
      | _ => False, fun vs _ => match vs with
      | [.int _ i', .int _ j'] => (b - i').toNat
      | _ => 0, ⟨(by trivial), by omega, d4, s4, w4, v4, p4⟩, ?_⟩
    rintro bs6 i' j' h6 ⟨rfl, hi', d5, s5, w5, v5, p5⟩
    have p6 := p5
    obtain ⟨q1, q2, q3, q4, q5⟩ := p5
    cases hc : ltI j' i' with
    | true => rw [ltI_eq, decide_eq_true_eq] at hc; exact ⟨rfl, hi', d5, s5, w5, v5, p6, fun h => by omega⟩
    | false =>
      rw [ltI_eq, decide_eq_false_iff_not] at hc
      simp (disch := omega) only [wr, eq_self, true_and, and_true, cond_true, cond_false, onS, Bool.not_true, Bool.not_false, Int.toNat_natCast]
      refine ⟨⟨by omega, by omega⟩, d5 a, s5.ld (by omega) (by omega), ⟨by omega, by omega⟩, d5 i', s5.ld (by omega) (by omega), ?_⟩
      refine (less_spec _ _).mono ?_
      rintro _ _ ⟨rfl, rfl⟩
      refine ⟨_, rfl, ?_⟩
      cases hl : lt (d5 a) (d5 i') with
      | false =>
        refine ⟨⟨by omega, d5, s5, w5, v5, by omega, by omega, by omega, fun k k1 k2 => ?_, q5⟩, by omega⟩
        by_cases e : k = i'
        · subst e; exact hl
        · exact q4 k k1 (by omega)
      | true => exact ⟨hi', d5, s5, w5, v5, p6, fun _ => by first | exact hl | rfl⟩
  rintro bs7 i2 h7 ⟨hi2, d5, s5, w5, v5, p5, hi5⟩
  have p6 := p5
  obtain ⟨q1, q2, q3, q4, q5⟩ := p5
  simp (disch := omega) only [wr, eq_self, true_and, and_true, cond_true, cond_false, onS, Bool.not_true, Bool.not_false, Int.toNat_natCast]
  refine ⟨fun vs h' => match vs with
    | [.int _ j'] => j' ≤ j ∧ Pe a b i2 j' d5 ∧ SS en g q fr bk n d5 h' ∧ (i2 ≤ j' → lt (d5 a) (d5 j') = false)
    | _ => False, ?_, ?_⟩
  · refine ⟨fun vs h' => match vs with
      | [.int _ j'] => j' ≤ j ∧ Pe a b i2 j' d5 ∧ SS en g q fr bk n d5 h'
      | _ => False, fun vs _ => match vs with
      | [.int _ j'] => (j' + 1).toNat
      | _ => 0, ⟨by omega, p6, s5⟩, ?_⟩
    rintro bs8 j' h8 ⟨hj', p7, s8⟩
    have p8 := p7
    obtain ⟨r1, r2, r3, r4, r5⟩ := p7
    cases hc : ltI j' i2 with
    | true => rw [ltI_eq, decide_eq_true_eq] at hc; exact ⟨hj', p8, s8, fun h => by omega⟩
    | false =>
      rw [ltI_eq, decide_eq_false_iff_not] at hc
      simp (disch := omega) only [wr, eq_self, true_and, and_true, cond_true, cond_false, onS, Bool.not_true, Bool.not_false, Int.toNat_natCast]
      refine ⟨⟨by omega, by omega⟩, d5 a, s8.ld (by omega) (by omega), ⟨by omega, by omega⟩, d5 j', s8.ld (by omega) (by omega), ?_⟩
      refine (less_spec _ _).mono ?_
      rintro _ _ ⟨rfl, rfl⟩
      refine ⟨_, rfl, ?_⟩
      cases hl : lt (d5 a) (d5 j') with
      | true =>
        refine ⟨⟨by omega, ⟨by omega, by omega, by omega, r4, fun k k1 k2 => ?_⟩, s8⟩, by omega⟩
        by_cases e : k = j'
        · subst e; exact hl
        · exact r5 k (by omega) k2
      | false => exact ⟨hj', p8, s8, fun _ => by first | exact hl | rfl⟩
  rintro bs9 j2 h9 ⟨hj2, p9, s9, hj9⟩
  obtain ⟨r1, r2, r3, r4, r5⟩ := p9
  cases hc : ltI j2 i2 with
  | true =>
    rw [ltI_eq, decide_eq_true_eq] at hc
    exact hK _ _ ⟨i2, rfl, by omega, by omega, d5, s9, w5, v5, r4⟩
  | false =>
    rw [ltI_eq, decide_eq_false_iff_not] at hc
    obtain ⟨g5, g6, e5, e6, s11⟩ := s9.swap (i := i2) (j := j2) (by omega) (by omega) (by omega) (by omega)
    have w12 := w5.step i2 j2 (by omega) (by omega) (by omega) (by omega)
    have hne : i2 ≠ j2 := fun e => by subst e; have e1 := hi5 (by omega); have e2 := hj9 (by omega); rw [e1] at e2; cases e2
    simp (disch := omega) only [wr, eq_self, true_and, and_true, cond_true, cond_false, onS, Bool.not_true, Bool.not_false, Int.toNat_natCast]
    refine ⟨⟨by omega, by omega⟩, d5 j2, s9.ld (by omega) (by omega), ⟨by omega, by omega⟩, d5 i2, s9.ld (by omega) (by omega), ⟨by omega, by omega⟩, g5, e5, ⟨by omega, by omega⟩, g6, e6, ⟨_, s11, w12, ?_, by omega, by omega, by omega, fun k k1 k2 => ?_, fun k k1 k2 => ?_⟩, by omega⟩
    · rw [sw_ne _ (by omega) (by omega)]; exact v5
    · rw [sw_ne (k := a) _ (by omega) (by omega)]
      by_cases e : k = i2
      · subst e; rw [sw_l]; exact hj9 (by omega)
      · rw [sw_ne _ e (by omega)]; exact r4 k k1 (by omega)
    · rw [sw_ne (k := a) _ (by omega) (by omega)]
      by_cases e : k = j2
      · subst e; rw [sw_r]; exact hi5 (by omega)
      · rw [sw_ne _ (by omega) e]; exact r5 k (by omega) k2

/-- what stands ahead of a is not more than what follows -/
def Blw (a b : Int) (d : Int → E) : Prop := a = 0 ∨ ∀ k, a ≤ k → k < b → lt (d k) (d (a - 1)) = false

theorem Blw.keep {d d' : Int → E} (hf : Blw a b d) (hs : Sw a b d d') : Blw a b d' := by
  rcases hf with h | h
  · exact .inl h
  · right
    rw [hs.out (k := a - 1) (.inl (by omega))]
    exact hs.all (fun x => lt x (d (a - 1)) = false) h

theorem pins_spec (s : SS en g q fr bk n d h) (h0 : 0 ≤ a) (hab : a < b) (hb : b ≤ n) (hn : (n : Int) ≤ 2305843009213693952) (hbl : Blw a b d) :
    XCalls Tryd.prog 59 [.slc (some (q, fr.length)) n f, .int .i64 a, .int .i64 b] h fun v h' => ∃ t, v = .bool t ∧ ∃ d', SS en g q fr bk n d' h' ∧ Sw a b d d' ∧ (t = true → Srt lt a b d') := by
  refine XCalls.cps fun K hK => ?_
  apply x59; unfold X59
  simp (disch := omega) only [wr, eq_self, true_and, and_true, cond_true, cond_false, onS, Bool.not_true, Bool.not_false, Int.toNat_natCast]
  refine ⟨fun vs h' => match vs with
    | [.int _ i, .int _ c] => a < i ∧ i ≤ b ∧ 0 ≤ c ∧ c ≤ 5 ∧ ∃ d', SS en g q fr bk n d' h' ∧ Sw a b d d' ∧ Srt lt a i d'
    | _ => False, fun vs _ => match vs with
    | [.int _ i, .int _ c] => (5 - c).toNat
    | _ => 0, ⟨by omega, by omega, by omega, by omega, d, s, .refl, fun p r h1 h2 h3 => by omega⟩, ?_⟩
  rintro bs i c h1 ⟨hi0, hi1, hc0, hc1, d1, s1, w1, o1⟩
  cases hc5 : ltI c 5 with
  | false => exact hK _ _ ⟨false, rfl, d1, s1, w1, fun h => by cases h⟩
  | true =>
    rw [ltI_eq, decide_eq_true_eq] at hc5
    simp (disch := omega) only [wr, eq_self, true_and, and_true, cond_true, cond_false, onS, Bool.not_true, Bool.not_false, Int.toNat_natCast]
    refine ⟨fun vs h' => match vs with
      | [.int _ i] => a < i ∧ i ≤ b ∧ ∃ d', SS en g q fr bk n d' h' ∧ Sw a b d d' ∧ Srt lt a i d'
      | _ => False, ?_, ?_⟩
    · refine ⟨fun vs h' => match vs with
        | [.int _ i] => a < i ∧ i ≤ b ∧ ∃ d', SS en g q fr bk n d' h' ∧ Sw a b d d' ∧ Srt lt a i d'
        | _ => False, fun vs _ => match vs with
        | [.int _ i] => (b - i).toNat
        | _ => 0, ⟨hi0, hi1, d1, s1, w1, o1⟩, ?_⟩
      clear s1 w1 o1 hi0 hi1
      rintro bs2 i h2 ⟨hi0, hi1, d1, s1, w1, o1⟩
      cases hib : ltI i b with
      | false => exact ⟨hi0, hi1, d1, s1, w1, o1⟩
      | true =>
        rw [ltI_eq, decide_eq_true_eq] at hib
        simp (disch := omega) only [wr, eq_self, true_and, and_true, cond_true, cond_false, onS, Bool.not_true, Bool.not_false, Int.toNat_natCast]
        refine ⟨⟨by omega, by omega⟩, d1 i, s1.ld (by omega) (by omega), ⟨by omega, by omega⟩, d1 (i - 1), s1.ld (by omega) (by omega), ?_⟩
        refine (less_spec _ _).mono ?_
        rintro _ _ ⟨rfl, rfl⟩
        refine ⟨_, rfl, ?_⟩
        cases hl : lt (d1 i) (d1 (i - 1)) with
        | false =>
          refine ⟨⟨by omega, by omega, d1, s1, w1, fun p r k1 k2 k3 => ?_⟩, by omega⟩
          by_cases e : r = i
          · subst e
            by_cases e : p = r - 1
            · subst e; exact hl
            · exact ordr.trans _ _ _ (o1 p (r - 1) k1 (by omega) (by omega)) hl
          · exact o1 p r k1 k2 (by omega)
        | true => exact ⟨hi0, hi1, d1, s1, w1, o1⟩
    clear s1 w1 o1 hi0 hi1
    rintro bs3 i h3 ⟨hi0, hi1, d1, s1, w1, o1⟩
    cases hib : (i == b) with
    | true =>
      have hib : i = b := by simpa using hib
      subst hib
      exact hK _ _ ⟨true, rfl, d1, s1, w1, fun _ => o1⟩
    | false =>
      have hib : i ≠ b := by simpa using hib
      simp (disch := omega) only [wr, eq_self, true_and, and_true, cond_true, cond_false, onS, Bool.not_true, Bool.not_false, Int.toNat_natCast]
      cases hba : ltI (b - a) 50 with
      | true => exact hK _ _ ⟨false, rfl, d1, s1, w1, fun h => by cases h⟩
      | false =>
        obtain ⟨g1, g2, e1, e2, s2⟩ := s1.swap (i := i) (j := i - 1) (by omega) (by omega) (by omega) (by omega)
        have w2 := w1.step i (i - 1) (by omega) (by omega) (by omega) (by omega)
        have o2 : Srt lt a (i - 1) (sw d1 i (i - 1)) := fun p r k1 k2 k3 => by
          rw [sw_ne _ (by omega) (by omega), sw_ne _ (by omega) (by omega)]; exact o1 p r k1 k2 (by omega)
        generalize sw d1 i (i - 1) = d2 at *
        simp (disch := omega) only [wr, eq_self, true_and, and_true, cond_true, cond_false, onS, Bool.not_true, Bool.not_false, Int.toNat_natCast]
        refine ⟨⟨by omega, by omega⟩, d1 (i - 1), s1.ld (by omega) (by omega), ⟨by omega, by omega⟩, d1 i, s1.ld (by omega) (by omega), ⟨by omega, by omega⟩, g1, e1, ⟨by omega, by omega⟩, g2, e2, ?_⟩
        refine ⟨fun vs h' => match vs with
          | [] => ∃ d', SS en g q fr bk n d' h' ∧ Sw a b d d' ∧ Srt lt a i d'
          | _ => False, ?_, ?_⟩
        · cases hia : ltI (i - a) 2 with
          | true =>
            rw [ltI_eq, decide_eq_true_eq] at hia
            exact ⟨d2, s2, w2, fun p r k1 k2 k3 => by omega⟩
          | false =>
            rw [ltI_eq, decide_eq_false_iff_not] at hia
            simp (disch := omega) only [wr, eq_self, true_and, and_true, cond_true, cond_false, onS, Bool.not_true, Bool.not_false, Int.toNat_natCast]
            refine ⟨fun vs h' => match vs with
              | [.int _ j] => a ≤ j ∧ j < i ∧ ∃ d', SS en g q fr bk n d' h' ∧ Sw a b d d' ∧ ∀ p r, a ≤ p → p < r → r < i → r ≠ j → lt (d' r) (d' p) = false
              | _ => False, fun vs _ => match vs with
              | [.int _ j] => j.toNat
              | _ => 0, ⟨by omega, by omega, d2, s2, w2, fun p r k1 k2 k3 k4 => o2 p r k1 k2 (by omega)⟩, ?_⟩
            clear s2 w2 o2 e1 e2
            rintro bs4 j h4 ⟨hj0, hj1, d2, s2, w2, o2⟩
            cases hj : ltI j 1 with
            | true =>
              rw [ltI_eq, decide_eq_true_eq] at hj
              exact ⟨d2, s2, w2, fun p r k1 k2 k3 => o2 p r k1 k2 k3 (by omega)⟩
            | false =>
              rw [ltI_eq, decide_eq_false_iff_not] at hj
              simp (disch := omega) only [wr, eq_self, true_and, and_true, cond_true, cond_false, onS, Bool.not_true, Bool.not_false, Int.toNat_natCast]
              refine ⟨⟨by omega, by omega⟩, d2 j, s2.ld (by omega) (by omega), ⟨by omega, by omega⟩, d2 (j - 1), s2.ld (by omega) (by omega), ?_⟩
              refine (less_spec _ _).mono ?_
              rintro _ _ ⟨rfl, rfl⟩
              refine ⟨_, rfl, ?_⟩
              cases hl : lt (d2 j) (d2 (j - 1)) with
              | false =>
                refine ⟨d2, s2, w2, fun p r k1 k2 k3 => ?_⟩
                by_cases e : r = j
                · subst e
                  by_cases e : p = r - 1
                  · subst e; exact hl
                  · exact ordr.trans _ _ _ (o2 p (r - 1) k1 (by omega) (by omega) (by omega)) hl
                · exact o2 p r k1 k2 k3 e
              | true =>
                have hja : a < j := by
                  rcases hbl.keep w2 with e | e
                  · omega
                  · by_cases e1 : j = a
                    · subst e1; rw [e j (by omega) (by omega)] at hl; cases hl
                    · omega
                obtain ⟨g1, g2, e1, e2, s3⟩ := s2.swap (i := j) (j := j - 1) (by omega) (by omega) (by omega) (by omega)
                simp (disch := omega) only [wr, eq_self, true_and, and_true, cond_true, cond_false, onS, Bool.not_true, Bool.not_false, Int.toNat_natCast]
                refine ⟨⟨by omega, by omega⟩, d2 (j - 1), s2.ld (by omega) (by omega), ⟨by omega, by omega⟩, d2 j, s2.ld (by omega) (by omega), ⟨by omega, by omega⟩, g1, e1, ⟨by omega, by omega⟩, g2, e2, ⟨by omega, by omega, _, s3, w2.step j (j - 1) (by omega) (by omega) (by omega) (by omega), ?_⟩, by omega⟩
                intro p r hp hpr hr hrj
                by_cases e : r = j
                · subst e
                  rw [sw_l]
                  by_cases e : p = r - 1
                  · subst e; rw [sw_r]; exact ordr.asym _ _ hl
                  · rw [sw_ne _ (by omega) (by omega)]; exact o2 p (r - 1) hp (by omega) (by omega) (by omega)
                · rw [sw_ne _ e hrj]
                  by_cases e1 : p = j
                  · subst e1; rw [sw_l]; exact o2 (p - 1) r (by omega) (by omega) hr (by omega)
                  · by_cases e2 : p = j - 1
                    · subst e2; rw [sw_r]; exact o2 j r (by omega) (by omega) hr e
                    · rw [sw_ne _ e1 e2]; exact o2 p r hp hpr hr e
        clear s2 w2 o2 e1 e2
        rintro bs5 h5 ⟨d2, s2, w2, o2⟩
        cases hbi : ltI (b - i) 2 with
        | true => exact ⟨⟨hi0, hi1, by omega, by omega, d2, s2, w2, o2⟩, by omega⟩
        | false =>
          rw [ltI_eq, decide_eq_false_iff_not] at hbi
          simp (disch := omega) only [wr, eq_self, true_and, and_true, cond_true, cond_false, onS, Bool.not_true, Bool.not_false, Int.toNat_natCast]
          refine ⟨fun vs h' => match vs with
            | [.int _ j] => i < j ∧ j ≤ b ∧ ∃ d', SS en g q fr bk n d' h' ∧ Sw a b d d' ∧ Srt lt a i d'
            | _ => False, fun vs _ => match vs with
            | [.int _ j] => (b - j).toNat
            | _ => 0, ⟨by omega, by omega, d2, s2, w2, o2⟩, ?_⟩
          clear s2 w2 o2
          rintro bs6 j h6 ⟨hj0, hj1, d2, s2, w2, o2⟩
          cases hj : ltI j b with
          | false => exact ⟨⟨hi0, hi1, by omega, by omega, d2, s2, w2, o2⟩, by omega⟩
          | true =>
            rw [ltI_eq, decide_eq_true_eq] at hj
            simp (disch := omega) only [wr, eq_self, true_and, and_true, cond_true, cond_false, onS, Bool.not_true, Bool.not_false, Int.toNat_natCast]
            refine ⟨⟨by omega, by omega⟩, d2 j, s2.ld (by omega) (by omega), ⟨by omega, by omega⟩, d2 (j - 1), s2.ld (by omega) (by omega), ?_⟩
            refine (less_spec _ _).mono ?_
            rintro _ _ ⟨rfl, rfl⟩
            refine ⟨_, rfl, ?_⟩
            cases hl : lt (d2 j) (d2 (j - 1)) with
            | false => exact ⟨⟨hi0, hi1, by omega, by omega, d2, s2, w2, o2⟩, by omega⟩
            | true =>
              obtain ⟨g1, g2, e1, e2, s3⟩ := s2.swap (i := j) (j := j - 1) (by omega) (by omega) (by omega) (by omega)
              simp (disch := omega) only [wr, eq_self, true_and, and_true, cond_true, cond_false, onS, Bool.not_true, Bool.not_false, Int.toNat_natCast]
              refine ⟨⟨by omega, by omega⟩, d2 (j - 1), s2.ld (by omega) (by omega), ⟨by omega, by omega⟩, d2 j, s2.ld (by omega) (by omega), ⟨by omega, by omega⟩, g1, e1, ⟨by omega, by omega⟩, g2, e2, ⟨by omega, by omega, _, s3, w2.step j (j - 1) (by omega) (by omega) (by omega) (by omega), fun p r k1 k2 k3 => ?_⟩, by omega⟩
              rw [sw_ne _ (by omega) (by omega), sw_ne _ (by omega) (by omega)]; exact o2 p r k1 k2 k3
end
end Go.Vex.Sort
namespace Go.Vex.Sort
open Go.Proofs

section
variable {g h : Hp} {q n : Nat} {fr bk : List V} {d : Int → E} {f : Bool} {a b : Int}

theorem pdq_spec : ∀ (N : Nat) {h : Hp} {d : Int → E} {A B limit : Int}, (B - A).toNat < N → SS en g q fr bk n d h → 0 ≤ A → A ≤ B → B ≤ n → (n : Int) ≤ 2305843009213693952 → Blw A B d →
    XCalls Tryd.prog 48 [.slc (some (q, fr.length)) n f, .int .i64 A, .int .i64 B, .int .i64 limit] h fun v h' => v = .tup [] ∧ ∃ d', SS en g q fr bk n d' h' ∧ Sw A B d d' ∧ Srt lt A B d' := by
  intro N
  induction N with
  | zero => intro h d A B limit hN; omega
  | succ N ih =>
    intro h d A B limit hN s h0 hAB hB hn hbl
    refine XCalls.cps fun K hK => ?_
    apply x48; unfold X48
    refine ⟨fun vs h' => match vs with
      | [.int _ a, .int _ b, .int _ _, .bool _, .bool _] => A ≤ a ∧ a ≤ b ∧ b ≤ B ∧ ∃ d', SS en g q fr bk n d' h' ∧ Sw A B d d' ∧ Fix lt A B a b d'
      | _ => False, fun vs _ => match vs with
      | [.int _ a, .int _ b, .int _ _, .bool _, .bool _] => (b - a).toNat
      | _ => 0, ⟨rfl, by omega, by omega, by omega, d, s, .refl, fun p r h1 h2 h3 h4 => by omega⟩, ?_⟩
    rintro bs a b lim wB wP h1 ⟨ha, hab, hb, d1, s1, w1, x1⟩
    simp (disch := omega) only [wr, eq_self, true_and, and_true, cond_true, cond_false, onS, Bool.not_true, Bool.not_false, Int.toNat_natCast]
    have fin : ∀ h', (∃ d2, SS en g q fr bk n d2 h' ∧ Sw a b d1 d2 ∧ Srt lt a b d2) → K (.tup []) h' := fun h' ⟨d2, s2, w2, o2⟩ =>
      hK _ _ ⟨rfl, d2, s2, w1.trans (w2.mono ha hb), (x1.keep ha hb w2).srt o2⟩
    cases hc : ltI 12 (b - a) with
    | false =>
      refine (ins_spec s1 (by omega) hab (by omega) (by omega)).mono ?_
      rintro _ h2 ⟨rfl, hd⟩
      exact fin h2 hd
    | true =>
      rw [ltI_eq, decide_eq_true_eq] at hc
      simp (disch := omega) only [wr, eq_self, true_and, and_true, cond_true, cond_false, onS, Bool.not_true, Bool.not_false, Int.toNat_natCast]
      cases hl : (lim == 0) with
      | true =>
        refine (heap_spec s1 (by omega) hab (by omega) hn).mono ?_
        rintro _ h2 ⟨rfl, hd⟩
        exact fin h2 hd
      | false =>
        simp (disch := omega) only [wr, eq_self, true_and, and_true, cond_true, cond_false, onS, Bool.not_true, Bool.not_false, Int.toNat_natCast]
        -- the state at each join
        refine ⟨fun vs h' => match vs with
          | [.int _ _] => ∃ d', SS en g q fr bk n d' h' ∧ Sw a b d1 d'
          | _ => False, ?_, ?_⟩
        · cases wB with
          | true => exact ⟨d1, s1, .refl⟩
          | false =>
            refine (brk_spec s1 (by omega) hab (by omega) hn).mono ?_
            rintro _ h2 ⟨rfl, d2, s2, w2⟩
            exact ⟨d2, s2, w2⟩
        rintro bs2 lim2 h2 ⟨d2, s2, w2⟩
        refine (cho_spec s2 (by omega) (by omega) (by omega) hn).mono ?_
        rintro _ h3 ⟨⟨pv, hint, rfl, hp0, hp1⟩, s3⟩
        refine ⟨pv, hint, rfl, ?_⟩
        simp (disch := omega) only [wr, eq_self, true_and, and_true, cond_true, cond_false, onS, Bool.not_true, Bool.not_false, Int.toNat_natCast]
        refine ⟨fun vs h' => match vs with
          | [.int _ _, .int _ p] => a ≤ p ∧ p < b ∧ ∃ d', SS en g q fr bk n d' h' ∧ Sw a b d1 d'
          | _ => False, ?_, ?_⟩
        · cases hh : (hint == 2) with
          | true =>
            refine (rev_spec s3 (by omega) hab (by omega) hn).mono ?_
            rintro _ h4 ⟨rfl, d4, s4, w4⟩
            simp (disch := omega) only [wr, eq_self, true_and, and_true, cond_true, cond_false, onS, Bool.not_true, Bool.not_false, Int.toNat_natCast]
            exact ⟨by omega, by omega, d4, s4, w2.trans w4⟩
          | false => exact ⟨hp0, hp1, d2, s3, w2⟩
        clear s3 hp0 hp1 w2 s2
        rintro bs3 hint2 p h4 ⟨hp0, hp1, d4, s4, w4⟩
        refine ⟨fun vs h' => match vs with
          | [] => ∃ d', SS en g q fr bk n d' h' ∧ Sw a b d1 d'
          | _ => False, ?_, ?_⟩
        · cases wB with
          | false => exact ⟨d4, s4, w4⟩
          | true =>
            cases wP with
            | false => exact ⟨d4, s4, w4⟩
            | true =>
              cases hint2 == 1 with
              | false => exact ⟨d4, s4, w4⟩
              | true =>
                have hbl4 : Blw a b d4 := by
                  by_cases e : a = A
                  · subst e
                    rcases hbl with e | e
                    · exact .inl e
                    · right
                      have w5 := w1.trans (w4.mono (Int.le_refl _) hb)
                      rw [w5.out (k := a - 1) (.inl (by omega))]
                      have := w5.all (fun x => lt x (d (a - 1)) = false) e
                      exact fun k k1 k2 => this k k1 (by omega)
                  · right
                    intro k k1 k2
                    exact (x1.keep ha hb w4) (a - 1) k (by omega) (by omega) (by omega) (.inl (by omega))
                refine (pins_spec s4 (by omega) (by omega) (by omega) hn hbl4).mono ?_
                rintro _ h5 ⟨t, rfl, d5, s5, w5, o5⟩
                refine ⟨t, rfl, ?_⟩
                cases t with
                | true => exact fin h5 ⟨d5, s5, w4.trans w5, o5 rfl⟩
                | false => exact ⟨d5, s5, w4.trans w5⟩
        clear s4 w4
        rintro bs4 h5 ⟨d5, s5, w5⟩
        have x5 := x1.keep ha hb w5
        have hbl5 : Blw a b d5 := by
          by_cases e : a = A
          · subst e
            rcases hbl with e | e
            · exact .inl e
            · right
              have w6 := w1.trans (w5.mono (Int.le_refl _) hb)
              rw [w6.out (k := a - 1) (.inl (by omega))]
              have := w6.all (fun x => lt x (d (a - 1)) = false) e
              exact fun k k1 k2 => this k k1 (by omega)
          · right
            intro k k1 k2
            exact x5 (a - 1) k (by omega) (by omega) (by omega) (.inl (by omega))
        refine ⟨fun vs h' => match vs with
          | [.int _ a'] => a' = a ∧ SS en g q fr bk n d5 h'
          | _ => False, ?_, ?_⟩
        · cases ha0 : ltI 0 a with
          | false => exact ⟨rfl, s5⟩
          | true =>
            rw [ltI_eq, decide_eq_true_eq] at ha0
            simp (disch := omega) only [wr, eq_self, true_and, and_true, cond_true, cond_false, onS, Bool.not_true, Bool.not_false, Int.toNat_natCast]
            refine ⟨⟨by omega, by omega⟩, d5 (a - 1), s5.ld (by omega) (by omega), ⟨by omega, by omega⟩, d5 p, s5.ld (by omega) (by omega), ?_⟩
            refine (less_spec _ _).mono ?_
            rintro _ _ ⟨rfl, rfl⟩
            refine ⟨_, rfl, ?_⟩
            cases hlt : lt (d5 (a - 1)) (d5 p) with
            | true => exact s5
            | false =>
              refine (peq_spec s5 (by omega) hp0 hp1 (by omega) hn).mono ?_
              rintro _ h6 ⟨m, rfl, hm0, hm1, d6, s6, w6, v6, o6⟩
              have hge : ∀ k, a ≤ k → k < b → lt (d6 k) (d6 a) = false := by
                rw [v6]
                refine w6.all (fun x => lt x (d5 p) = false) fun k k1 k2 => ?_
                rcases hbl5 with e | e
                · omega
                · exact ordr.trans _ _ _ hlt (e k k1 k2)
              have x6 := x5.keep ha hb w6
              refine ⟨m, rfl, ⟨by omega, hm1, hb, d6, s6, w1.trans ((w5.trans w6).mono ha hb), fun i j k1 k2 k3 k4 => ?_⟩, by omega⟩
              by_cases e : i < a ∨ b ≤ j
              · exact x6 i j k1 k2 k3 e
              · exact ordr.trans _ _ _ (o6 i (by omega) (by omega)) (hge j (by omega) (by omega))
        rintro bs5 a' h6 ⟨rfl, s6⟩
        refine (part_spec s6 (by omega) hp0 hp1 (by omega) hn).mono ?_
        rintro _ h7 ⟨m, c, rfl, hm0, hm1, d7, s7, w7, l7, r7⟩
        have x7 := x5.keep ha hb w7
        have w75 := w1.trans ((w5.trans w7).mono ha hb)
        refine ⟨m, c, rfl, by decide, ?_⟩
        simp (disch := omega) only [wr, eq_self, true_and, and_true, cond_true, cond_false, onS, Bool.not_true, Bool.not_false, Int.toNat_natCast]
        have hbl7 := hbl5.keep w7
        cases hlr : ltI (m - a') (b - m) with
        | true =>
          refine (ih (by omega) s7 (by omega) hm0 (by omega) hn ?_).mono ?_
          · rcases hbl7 with e | e
            · exact .inl e
            · exact .inr fun k k1 k2 => e k k1 (by omega)
          rintro _ h8 ⟨rfl, d8, s8, w8, o8⟩
          refine ⟨⟨by omega, by omega, hb, d8, s8, w75.trans (w8.mono ha (by omega)), fun i j k1 k2 k3 k4 => ?_⟩, by omega⟩
          have x8 := x7.keep ha hb (w8.mono (Int.le_refl _) (by omega))
          by_cases e : i < a' ∨ b ≤ j
          · exact x8 i j k1 k2 k3 e
          · have hle : ∀ k, a' ≤ k → k < m → lt (d8 m) (d8 k) = false := by
              rw [w8.out (k := m) (.inr (by omega))]
              exact w8.all (fun x => lt (d7 m) x = false) l7
            have hge : ∀ k, m < k → k < b → lt (d8 k) (d8 m) = false := fun k y1 y2 => by
              rw [w8.out (k := m) (.inr (by omega)), w8.out (k := k) (.inr (by omega))]; exact r7 k y1 y2
            by_cases e1 : j < m
            · exact o8 i j (by omega) k2 e1
            · by_cases e2 : i < m
              · by_cases e3 : j = m
                · subst e3; exact hle i (by omega) e2
                · exact ordr.trans _ _ _ (hle i (by omega) e2) (hge j (by omega) (by omega))
              · obtain rfl : i = m := by omega
                exact hge j (by omega) (by omega)
        | false =>
          refine (ih (by omega) s7 (by omega) (by omega) (by omega) hn ?_).mono ?_
          · right
            intro k k1 k2
            rw [show m + 1 - 1 = m by omega]
            exact r7 k (by omega) k2
          rintro _ h8 ⟨rfl, d8, s8, w8, o8⟩
          refine ⟨⟨ha, hm0, by omega, d8, s8, w75.trans (w8.mono (by omega) hb), fun i j k1 k2 k3 k4 => ?_⟩, by omega⟩
          have x8 := x7.keep ha hb (w8.mono (by omega) (Int.le_refl _))
          by_cases e : i < a' ∨ b ≤ j
          · exact x8 i j k1 k2 k3 e
          · have hle : ∀ k, a' ≤ k → k < m → lt (d8 m) (d8 k) = false := fun k y1 y2 => by
              rw [w8.out (k := m) (.inl (by omega)), w8.out (k := k) (.inl (by omega))]; exact l7 k y1 y2
            have hge : ∀ k, m < k → k < b → lt (d8 k) (d8 m) = false := by
              rw [w8.out (k := m) (.inl (by omega))]
              exact fun k y1 y2 => w8.all (fun x => lt x (d7 m) = false) (fun k z1 z2 => r7 k (by omega) z2) k (by omega) y2
            by_cases e1 : m < i
            · exact o8 i j (by omega) k2 (by omega)
            · by_cases e2 : i = m
              · subst e2; exact hge j (by omega) (by omega)
              · by_cases e3 : j = m
                · subst e3; exact hle i (by omega) (by omega)
                · exact ordr.trans _ _ _ (hle i (by omega) (by omega)) (hge j (by omega) (by omega))

/-- slices.Sort sorts a row -/
theorem sort_spec (s : SS en g q fr bk n d h) (hn : (n : Int) ≤ 2305843009213693952) :
    XCalls Tryd.prog 38 [.slc (some (q, fr.length)) n f] h fun v h' => v = .tup [] ∧ ∃ d', SS en g q fr bk n d' h' ∧ Sw 0 n d d' ∧ Srt lt 0 n d' := by
  apply x38; unfold X38
  rw [u64w (by omega) (by omega)]
  refine (len_spec (by omega) (by omega)).mono ?_
  rintro _ _ ⟨rfl, m, rfl, _⟩
  refine ⟨_, rfl, ?_⟩
  refine (pdq_spec (n + 1) (by omega) s (by omega) (by omega) (by omega) hn (.inl rfl)).mono ?_
  rintro _ h2 ⟨rfl, hd⟩
  exact ⟨rfl, hd⟩

/-- and what has no element -/
theorem sort_none {o : Option (Nat × Nat)} : XCalls Tryd.prog 38 [.slc o 0 f] h fun v h' => v = .tup [] ∧ h' = h := by
  apply x38; unfold X38
  rw [u64w (by omega) (by omega)]
  refine (len_spec (by omega) (by omega)).mono ?_
  rintro _ h0 ⟨rfl, m, rfl, _⟩
  refine ⟨_, rfl, ?_⟩
  apply x48; unfold X48
  refine ⟨fun vs h' => match vs with
    | [.int _ a, .int _ b, .int _ _, .bool _, .bool _] => a = 0 ∧ b = 0 ∧ h' = h0
    | _ => False, fun _ _ => 0, ⟨rfl, rfl, rfl, rfl⟩, ?_⟩
  rintro bs a b lim wB wP h1 ⟨rfl, rfl, rfl⟩
  simp (disch := omega) only [wr, eq_self, true_and, and_true, cond_true, cond_false, onS, Bool.not_true, Bool.not_false, Int.toNat_natCast]
  have : ltI 12 (0 - 0) = false := rfl
  rw [this]
  apply x54; unfold X54
  refine ⟨fun vs h' => match vs with
    | [.int _ i] => i = 1 ∧ h' = h1
    | _ => False, fun _ _ => 0, ⟨rfl, rfl, rfl⟩, ?_⟩
  rintro bs2 i h2 ⟨rfl, rfl⟩
  have : ltI 1 0 = false := rfl
  rw [this]
  first | exact ⟨rfl, rfl⟩ | rfl
end

/-- rising, each once -/
def Rising (l : List E) : Prop := l.Pairwise fun x y => lt y x = false

theorem lst_rising {n : Nat} {d : Int → E} (h : Srt lt 0 n d) : Rising (lst n d) := by
  unfold Rising lst
  rw [List.pairwise_map]
  refine List.Pairwise.imp_of_mem ?_ List.pairwise_lt_range
  intro i j hi hj hij
  have := List.mem_range.1 hj
  exact h i j (by omega) (by omega) (by omega)

theorem own_rows {a : Option (Nat × Nat)} {n : Nat} {l : List E} {h : Hp} {F : List Nat} (ho : Own 1 a n (l.map fun k => [en k]) h F) (hn : 0 < n) :
    ∃ q fr, a = some (q, fr.length) ∧ F = [q] ∧ h.get q = some (.row (fr ++ (l.map en ++ [])) 1 false) ∧ l.length = n := by
  obtain ⟨h1, h2, h3⟩ := ho
  cases a with
  | none => obtain ⟨h3, _⟩ := h3; rw [h3] at h1; simp at h1; omega
  | some p =>
    obtain ⟨q, o⟩ := p
    obtain ⟨rfl, fr, rfl, hg⟩ := h3
    refine ⟨q, fr, rfl, rfl, ?_, by simpa using h1⟩
    have : (l.map fun k => [en k]).flatten = l.map en ++ [] := by
      rw [List.append_nil]; clear hg h1 h2
      induction l with
      | nil => rfl
      | cons x l ih => simp only [List.map_cons, List.flatten_cons, ih]; rfl
    rw [← this]; exact hg

/-- slices.Sort of a slice of its own -/
theorem sort_own {a : Option (Nat × Nat)} {n : Nat} {f : Bool} {l : List E} {h : Hp} {F : List Nat} (hw : h.wf) (ho : Own 1 a n (l.map fun k => [en k]) h F) (hn : n ≤ 1073741824) :
    XCalls Tryd.prog 38 [.slc a n f] h fun v h' => v = .tup [] ∧ ∃ l' : List E, l'.Perm l ∧ Rising l' ∧ Own 1 a n (l'.map fun k => [en k]) h' F ∧ (∀ j, j ∉ F → j < h.next → h'.get j = h.get j) ∧ h.next ≤ h'.next ∧ h'.wf := by
  by_cases h0 : n = 0
  · subst h0
    refine (sort_none).mono ?_
    rintro _ _ ⟨rfl, rfl⟩
    have : l = [] := by have := ho.1; simpa using this
    subst this
    exact ⟨rfl, [], .refl _, List.Pairwise.nil, ho, fun _ _ _ => rfl, Nat.le_refl _, hw⟩
  · obtain ⟨q, fr, rfl, rfl, hg, hl⟩ := own_rows ho (by omega)
    have hne : l ≠ [] := fun e => by subst e; simp at hl; omega
    obtain ⟨x0⟩ : Nonempty E := ⟨l.head hne⟩
    have hd : lst n (fun i => l.getD i.toNat x0) = l := by rw [← hl]; exact lst_ofFn l x0
    have s : SS en h q fr [] n (fun i => l.getD i.toNat x0) h := ⟨by unfold Rw; rw [hd]; exact hg, fun _ _ _ => rfl, Nat.le_refl _, hw⟩
    refine (sort_spec s (by omega)).mono ?_
    rintro _ h' ⟨rfl, d', s', w', o'⟩
    refine ⟨rfl, lst n d', by have := w'.perm; rw [hd] at this; exact this, lst_rising o', ⟨by simp [lst_length], by simp, rfl, fr, rfl, ?_⟩, fun j hj hlt => s'.same j (by simpa using hj) hlt, s'.le, s'.wf⟩
    have := s'.row
    unfold Rw at this
    rw [this, List.append_nil]
    congr 3
    generalize lst n d' = l2
    induction l2 with
    | nil => rfl
    | cons x l ih => simp only [List.map_cons, List.flatten_cons, ← ih]; rfl

end Go.Vex.Sort
namespace Go.Vex.Sort
open Go.Proofs

section
variable {β : Type} {vV : β → V}

theorem tMap : ∃ ti, T 62 = some ti ∧ ti.d = .map 9 32 := ⟨_, rfl, rfl⟩
theorem tSlc : ∃ ti, T 69 = some ti ∧ ti.d = .slc 9 := ⟨_, rfl, rfl⟩
theorem tK : ∃ ei, T 9 = some ei ∧ ei.size = 1 ∧ ei.bytes ≤ 16 ∧ zok ei = true := ⟨_, rfl, rfl, by decide, rfl⟩

/-- the iterator of maps.Keys: each key once, in some order -/
theorem keys1_spec {h : Hp} {K : V → Hp → Prop} {l c m : Nat} {L : List (E × β)} (J : List E → Hp → Prop) (hw : h.wf) (hc : h.get c = some (.row [.map (some m)] 1 false)) (hm : MapIs en vV L m h [m])
    (h0 : ∀ h', (∀ j, j ≠ h.next → h'.get j = h.get j) → h'.next = h.next + 1 → h'.wf → J [] h')
    (step : ∀ (done : List E) (k : E) (rest : List E) (h1 : Hp), J done h1 → (done ++ k :: rest).Perm (L.map Prod.fst) → XYield Tryd.prog l [en k] h1 fun v h2 => v = .bool true ∧ J (done ++ [k]) h2 ∧ h2.get m = h1.get m ∧ h2.get h.next = h1.get h.next)
    (stab : ∀ (done : List E) (h1 h2 : Hp), J done h1 → (∀ j, j ≠ h.next → h2.get j = h1.get j) → h2.next = h1.next → J done h2)
    (fin : ∀ (done : List E) (h1 : Hp), J done h1 → done.Perm (L.map Prod.fst) → K (.tup []) h1) :
    XCalls Tryd.prog 39 [.yld l, .ptr (some (c, 0))] h K := by
  obtain ⟨ti, ht, hd⟩ := tMap
  obtain ⟨g, cur, hx, hi, hcur, hsame, hnext, hwg⟩ := hm.range hw ht hd
  have hml : m < h.next := by obtain ⟨_, es, clk, hg, _⟩ := hm; exact hw.lt hg
  have hne : m ≠ h.next := by omega
  apply x39; unfold X39
  refine ⟨some m, by rw [Hp.ld_of hc]; rfl, g, hx, fun _ h1 => ∃ sn done, MapIter en vV cur m h.next sn h1 ∧ J done h1 ∧ (done ++ (rem cur sn).map fun z => z.1.1).Perm (L.map Prod.fst),
    fun _ h1 => match h1.get h.next with
      | some (.miter _ _ sn _) => (rem cur sn).length
      | _ => 0, ⟨rfl, [], [], hi, h0 g hsame hnext hwg, by rw [rem_nil, ← hcur, List.map_map]; exact .refl _⟩, ?_⟩
  rintro bs h1 ⟨sn, done, hi1, hJ, hp⟩
  obtain ⟨r, hr, hend, hforms, hstep⟩ := hi1.next hne
  refine ⟨r, hr, fun hm => ?_, hforms, ?_⟩
  · have := hend hm
    rw [this, List.map_nil, List.append_nil] at hp
    exact fin done h1 hJ hp
  · intro a b h2 hm2
    obtain ⟨z, hz, rfl, rfl, hi2, he, hs2, hn2⟩ := hstep a b h2 hm2
    have hrs := rem_step hi1.nodup hz
    have hp2 : (done ++ z.1.1 :: (rem cur (sn ++ [z.2])).map fun z => z.1.1).Perm (L.map Prod.fst) := (List.Perm.append_left done (hrs.map _).symm).trans hp
    refine ⟨z.1.1, _, he, ?_⟩
    refine (step done z.1.1 _ h2 (stab done h1 h2 hJ hs2 hn2) hp2).mono ?_
    rintro _ h3 ⟨rfl, hJ3, hm3, hit3⟩
    refine ⟨true, rfl, rfl, ⟨sn ++ [z.2], done ++ [z.1.1], hi2.keep hm3 hit3, hJ3, by simpa using hp2⟩, ?_⟩
    obtain ⟨clk1, _, _, e1⟩ := hi1.ex
    obtain ⟨clk2, _, _, e2⟩ := hi2.ex
    rw [← hit3] at e2
    show (match h3.get h.next with
      | some (.miter _ _ sn _) => (rem cur sn).length
      | _ => 0) < (match h1.get h.next with
      | some (.miter _ _ sn _) => (rem cur sn).length
      | _ => 0)
    rw [e1, e2]
    simp only
    have := hrs.length_eq
    simp only [List.length_cons] at this
    omega

/-- appended to nothing -/
theorem appseq_spec {h : Hp} {c m : Nat} {L : List (E × β)} (hw : h.wf) (hc : h.get c = some (.row [.map (some m)] 1 false)) (hm : MapIs en vV L m h [m]) (hL : L.length ≤ 1073741824) :
    XCalls Tryd.prog 47 [.slc none 0 true, .fn (.func 39) [] [.ptr (some (c, 0))]] h fun v h' => ∃ (a : Option (Nat × Nat)) (f : Bool) (done : List E) (F : List Nat), v = .slc a L.length f ∧ done.Perm (L.map Prod.fst) ∧ Own 1 a L.length (done.map fun k => [en k]) h' F ∧
      (∀ j, j < h.next → h'.get j = h.get j) ∧ h.next ≤ h'.next ∧ h'.wf ∧ ∀ j ∈ F, h.next ≤ j := by
  refine XCalls.cps fun K hK => ?_
  obtain ⟨ti, ht, hd⟩ := tSlc
  obtain ⟨ei, he, es, eb, ez⟩ := tK
  apply x47; unfold X47
  rintro h1 rfl rec hrec h2 rfl hY
  have hcl : c < h.next := hw.lt hc
  have hml : m < h.next := by obtain ⟨_, es, clk, hg, _⟩ := hm; exact hw.lt hg
  have n1 : (h.alloc (.row [.slc none 0 true] 1 false)).next = h.next + 1 := rfl
  rw [n1] at hY ⊢
  have hold : ∀ j, j < h.next → (((h.alloc (.row [.slc none 0 true] 1 false)).alloc (.dfr true)).alloc (rec .ready none)).get j = h.get j := fun j hj => by
    rw [Hp.get_alloc_ne (by simp; omega), Hp.get_alloc_ne (by simp; omega), Hp.get_alloc_ne (by omega)]
  have hp2 : (((h.alloc (.row [.slc none 0 true] 1 false)).alloc (.dfr true)).alloc (rec .ready none)).get h.next = some (.row [.slc none 0 true] 1 false) := by
    rw [Hp.get_alloc_ne (by simp; omega), Hp.get_alloc_ne (by simp), Hp.get_alloc_self]
  have hd2 : (((h.alloc (.row [.slc none 0 true] 1 false)).alloc (.dfr true)).alloc (rec .ready none)).get (h.next + 1) = some (.dfr true) := by
    rw [Hp.get_alloc_ne (by simp)]; exact Hp.get_alloc_self
  have hl2 : (((h.alloc (.row [.slc none 0 true] 1 false)).alloc (.dfr true)).alloc (rec .ready none)).get (h.next + 2) = some (rec .ready none) := Hp.get_alloc_self
  have hn2 : (((h.alloc (.row [.slc none 0 true] 1 false)).alloc (.dfr true)).alloc (rec .ready none)).next = h.next + 3 := rfl
  have hw2 : (((h.alloc (.row [.slc none 0 true] 1 false)).alloc (.dfr true)).alloc (rec .ready none)).wf := hw.alloc.alloc.alloc
  generalize ((h.alloc (.row [.slc none 0 true] 1 false)).alloc (.dfr true)).alloc (rec .ready none) = h2 at *
  have hc2 : h2.get c = some (.row [.map (some m)] 1 false) := by rw [hold c hcl]; exact hc
  have hm2 : MapIs en vV L m h2 [m] := (MapIs.rep _ _ _ _).loc _ _ _ (fun j hj => by rw [List.mem_singleton] at hj; subst hj; exact hold _ hml) hm
  refine (keys1_spec (K := fun v h' => ∃ (done : List E) (a : Option (Nat × Nat)) (f : Bool) (F : List Nat), done.Perm (L.map Prod.fst) ∧ h'.get h.next = some (.row [.slc a done.length f] 1 false) ∧ Own 1 a done.length (done.map fun k => [en k]) h' F ∧ h'.get (h.next + 2) = some (rec .ready none) ∧ h'.get (h.next + 1) = some (.dfr true) ∧
      (∀ j, j < h.next → h'.get j = h.get j) ∧ (∀ j ∈ F, h.next + 3 < j) ∧ h.next + 4 ≤ h'.next ∧ h'.wf)
    (fun done h' => ∃ a f F, h'.get h.next = some (.row [.slc a done.length f] 1 false) ∧ Own 1 a done.length (done.map fun k => [en k]) h' F ∧ h'.get (h.next + 2) = some (rec .ready none) ∧ h'.get (h.next + 1) = some (.dfr true) ∧
      (∀ j, j < h.next → h'.get j = h.get j) ∧ (∀ j ∈ F, h.next + 3 < j) ∧ h.next + 4 ≤ h'.next ∧ h'.wf) hw2 hc2 hm2 ?_ ?_ ?_ ?_).mono ?_
  · intro h' hs hn hw'
    rw [hn2] at hs hn
    exact ⟨none, true, [], by rw [hs _ (by omega)]; exact hp2, Own.nil 1 h', by rw [hs _ (by omega)]; exact hl2, by rw [hs _ (by omega)]; exact hd2, fun j hj => by rw [hs _ (by omega)]; exact hold j hj, by simp, by omega, hw'⟩
  · rintro done k rest g ⟨a, f, F, gp, go, gl, gd, gs, gF, gn, gw⟩ hperm
    rw [hn2]
    refine hY k g _ gl ⟨gl, ?_⟩
    have hlen : done.length + 1 ≤ L.length := by have := hperm.length_eq; simp at this; omega
    rintro g2 rfl
    have w2 : (g.set (h.next + 2) (rec .busy none)).wf := gw.set (by omega)
    refine ⟨a, done.length, f, by rw [Hp.ld_of (c := [.slc a done.length f]) (e := 1) (r := false) (by rw [Hp.get_set_ne (by omega)]; exact gp)]; rfl, ?_⟩
    rintro g3 rfl
    have hF3 : ∀ j ∈ F, ((g.set (h.next + 2) (rec .busy none)).alloc (.row [en k] 1 false)).get j = g.get j := fun j hj => by
      have := (Own.rep _ _ _ _).lt gw go hj
      have := gF j hj
      rw [Hp.get_alloc_ne (by simp; omega), Hp.get_set_ne (by omega)]
    have go3 := (Own.rep _ _ _ _).loc _ _ _ hF3 go
    have hx3 : ((g.set (h.next + 2) (rec .busy none)).alloc (.row [en k] 1 false)).get (g.set (h.next + 2) (rec .busy none)).next = some (.row [en k] 1 false) := Hp.get_alloc_self
    obtain ⟨g4, hx, go4, u4, w4⟩ := go3.app (f := f) (u := 69) (y := .slc (some ((g.set (h.next + 2) (rec .busy none)).next, 0)) 1 true) (news := [[en k]]) w2.alloc ht hd ht (by intro k; rw [hd]; exact fun h => by cases h) he es (by omega) ez
      (xnews_one hx3 rfl) (by simp) (by simp) (by simp; exact Nat.le_trans (Nat.mul_le_mul (show done.length + 1 ≤ 1073741824 by omega) eb) (by decide)) (by simp; omega)
    refine ⟨_, _, _, g4, hx, ?_⟩
    have keep4 : ∀ j, j < g.next → j ∉ F → j ≠ h.next + 2 → g4.get j = g.get j := fun j h1 h2 h3 => by
      rw [u4.same j (by simp; omega) h2, Hp.get_alloc_ne (by simp; omega), Hp.get_set_ne h3]
    have gp4 : g4.get h.next = some (.row [.slc a done.length f] 1 false) := by rw [keep4 _ (by omega) (fun hF => by have := gF _ hF; omega) (by omega)]; exact gp
    refine ⟨_, Hp.st_of gp4 (Nat.le_of_ble_eq_true rfl), ?_⟩
    have gl4 : g4.get (h.next + 2) = some (rec .busy none) := by
      rw [u4.same _ (by simp; omega) (fun hF => by have := gF _ hF; omega), Hp.get_alloc_ne (by simp; omega), Hp.get_set_self]
    have hn4 : g.next + 1 ≤ g4.next := u4.le
    have hF4 : h.next + 3 < g.next := by omega
    refine ⟨by rw [Hp.get_set_ne (by omega)]; exact gl4, ?_⟩
    rintro g6 rfl
    refine ⟨rfl, ⟨some (((g.set (h.next + 2) (rec .busy none)).alloc (.row [en k] 1 false)).next, 0), false, [((g.set (h.next + 2) (rec .busy none)).alloc (.row [en k] 1 false)).next], ?_, ?_, Hp.get_set_self, ?_, ?_, ?_, ?_, ?_⟩, ?_, ?_⟩
    · rw [Hp.get_set_ne (by omega), Hp.get_set_self, List.length_append]; rfl
    · rw [List.map_append, List.length_append]
      exact (Own.rep _ _ _ _).loc _ _ _ (fun j hj => by rw [List.mem_singleton] at hj; subst hj; rw [Hp.get_set_ne (by simp; omega), Hp.get_set_ne (by simp; omega)]) go4
    · rw [Hp.get_set_ne (by omega), Hp.get_set_ne (by omega), keep4 _ (by omega) (fun hF => by have := gF _ hF; omega) (by omega)]; exact gd
    · intro j hj
      rw [Hp.get_set_ne (by omega), Hp.get_set_ne (by omega), keep4 _ (by omega) (fun hF => by have := gF _ hF; omega) (by omega)]; exact gs j hj
    · intro j hj; rw [List.mem_singleton] at hj; subst hj; simp; omega
    · simp; omega
    · exact (w4.set (w4.lt gp4)).set (by simp; omega)
    · rw [Hp.get_set_ne (by omega), Hp.get_set_ne (by omega), keep4 _ (by omega) (fun hF => by have := gF _ hF; omega) (by omega)]
    · rw [Hp.get_set_ne (by omega), Hp.get_set_ne (by omega), keep4 _ (by omega) (fun hF => by have := gF _ hF; omega) (by omega)]
  · rintro done g g' ⟨a, f, F, gp, go, gl, gd, gs, gF, gn, gw⟩ hs hn
    rw [hn2] at hs
    refine ⟨a, f, F, by rw [hs _ (by omega)]; exact gp, (Own.rep _ _ _ _).loc _ _ _ (fun j hj => hs j (by have := gF j hj; omega)) go, by rw [hs _ (by omega)]; exact gl, by rw [hs _ (by omega)]; exact gd, fun j hj => by rw [hs _ (by omega)]; exact gs j hj, gF, by omega, ?_⟩
    intro q o hq
    rw [hn]
    by_cases e : q = h.next + 3
    · omega
    · rw [hs q e] at hq; exact gw _ _ hq
  · rintro done g ⟨a, f, F, gp, go, gl, gd, gs, gF, gn, gw⟩ hperm
    exact ⟨done, a, f, F, hperm, gp, go, gl, gd, gs, gF, gn, gw⟩
  · rintro v g ⟨done, a, f, F, hperm, gp, go, gl, gd, gs, gF, gn, gw⟩
    left
    refine ⟨gl, ?_⟩
    rintro g7 rfl
    have gp7 : (g.set (h.next + 2) (rec .exhausted none)).get h.next = some (.row [.slc a done.length f] 1 false) := by rw [Hp.get_set_ne (by omega)]; exact gp
    refine ⟨a, done.length, f, by rw [Hp.ld_of gp7]; rfl, _, shut_one (by rw [Hp.get_set_ne (by omega)]; exact gd), ?_⟩
    have hlen : done.length = L.length := by have := hperm.length_eq; simpa using this
    refine hK _ _ ⟨a, f, done, F, by rw [hlen], hperm, ?_, ?_, by simp; omega, (gw.set (by omega)).set (by simp; omega), fun j hj => by have := gF j hj; omega⟩
    · rw [← hlen]
      exact (Own.rep _ _ _ _).loc _ _ _ (fun j hj => by have := gF j hj; rw [Hp.get_set_ne (by omega), Hp.get_set_ne (by omega)]) go
    · intro j hj
      rw [Hp.get_set_ne (by omega), Hp.get_set_ne (by omega)]; exact gs j hj

/-- slices.Sorted(maps.Keys(m)), behind maps.Keys -/
theorem sorted_spec {h : Hp} {c m : Nat} {L : List (E × β)} (hw : h.wf) (hc : h.get c = some (.row [.map (some m)] 1 false)) (hm : MapIs en vV L m h [m]) (hL : L.length ≤ 1073741824) :
    XCalls Tryd.prog 30 [.fn (.func 39) [] [.ptr (some (c, 0))]] h fun v h' => ∃ (a : Option (Nat × Nat)) (f : Bool) (l : List E) (F : List Nat), v = .slc a L.length f ∧ l.Perm (L.map Prod.fst) ∧ Rising l ∧ Own 1 a L.length (l.map fun k => [en k]) h' F ∧
      (∀ j, j < h.next → h'.get j = h.get j) ∧ h.next ≤ h'.next ∧ h'.wf ∧ ∀ j ∈ F, h.next ≤ j := by
  apply x30; unfold X30
  apply x37; unfold X37
  refine (appseq_spec hw hc hm hL).mono ?_
  rintro _ h1 ⟨a, f, done, F, rfl, hp, ho, hs, hn, hw1, hF⟩
  refine ⟨_, _, _, rfl, _, _, _, rfl, ?_⟩
  refine (sort_own hw1 ho hL).mono ?_
  rintro _ h2 ⟨rfl, l, hp2, hr, ho2, hs2, hn2, hw2⟩
  exact ⟨a, f, l, F, rfl, hp2.trans hp, hr, ho2, fun j hj => by rw [hs2 j (fun h => by have := hF j h; omega) (by omega)]; exact hs j hj, by omega, hw2, hF⟩

/-- maps.Keys -/
theorem keys_spec {h : Hp} (m : Option Nat) : XCalls Tryd.prog 31 [.map m] h fun v h' => v = .fn (.func 39) [] [.ptr (some (h.next, 0))] ∧ h' = h.alloc (.row [.map m] 1 false) := by
  apply x31; unfold X31
  rintro h1 rfl
  exact ⟨rfl, rfl⟩
end
end Go.Vex.Sort
