/- Go's slices.Sort at uint64 as statements about data (printed by VexPrint).
-/
import Derived.Test.YteknlobdnjcdbaaVexBB
import Derived.Test.YteknlobdnjcdbaaTab23
set_option linter.unusedVariables false
set_option maxRecDepth 100000
namespace Go.Vex
open Go.Proofs
/-! 78: cmp.isNaN[uint64] -/
def jl78 : Nat → Option JT := fun r => none
def jj78 : Nat → Option JT := fun r => none
def X78 (h : Hp) (K : V → Hp → Prop) (x : Int) : Prop := K (V.bool (x != x)) h
theorem y78 (h : Hp) (K : V → Hp → Prop) (x : Int) : X78 h K x = fnX Try.prog T F jl78 jj78 Try.f78 [V.int IntKind.u64 x] h K := by kernel_rfl
theorem x78 {h : Hp} {K : V → Hp → Prop} (x : Int) (hx : X78 h K x) : XCalls Try.prog 78 [V.int IntKind.u64 x] h K :=
  XCalls.ofX tok fok mixed (JL := jl78) (JJ := jj78) Try.func78 ((y78 h K x) ▸ hx)
/-! 68: cmp.Less[uint64] -/
def jl68 : Nat → Option JT := fun r => none
def jj68 : Nat → Option JT := fun r => none
def X68 (h : Hp) (K : V → Hp → Prop) (x : Int) (y : Int) : Prop := XCalls Try.prog (78 : Nat) [V.int IntKind.u64 x] h fun (v1 : V) (h'1 : Hp) => ∃ (b1 : Bool), v1 = V.bool b1 ∧ bif b1 then XCalls Try.prog (78 : Nat) [V.int IntKind.u64 y] h'1
  fun (v2 : V) (h'2 : Hp) => ∃ (b2 : Bool), v2 = V.bool b2 ∧ bif !b2 then K (V.bool true) h'2 else K (V.bool (ltI x y)) h'2 else K (V.bool (ltI x y)) h'1
theorem y68 (h : Hp) (K : V → Hp → Prop) (x : Int) (y : Int) : X68 h K x y = fnX Try.prog T F jl68 jj68 Try.f68 [V.int IntKind.u64 x, V.int IntKind.u64 y] h K := by kernel_rfl
theorem x68 {h : Hp} {K : V → Hp → Prop} (x : Int) (y : Int) (hx : X68 h K x y) : XCalls Try.prog 68 [V.int IntKind.u64 x, V.int IntKind.u64 y] h K :=
  XCalls.ofX tok fok mixed (JL := jl68) (JJ := jj68) Try.func68 ((y68 h K x y) ▸ hx)
/-! 62: slices.insertionSortOrdered[uint64] -/
-- loop 4: stays data(0), a(1), b(2), i(6); turns j(7)
-- loop 1: stays data(0), a(1), b(2); turns i(6)
def jl62 : Nat → Option JT := fun r => bif Nat.beq r 4 then some ⟨[0, 1, 2, 6], [7], [V.int IntKind.i64 (0 : Int)]⟩ else bif Nat.beq r 1 then some ⟨[0, 1, 2], [6], [V.int IntKind.i64 (0 : Int)]⟩ else none
def jj62 : Nat → Option JT := fun r => none
def X62 (h : Hp) (K : V → Hp → Prop) (data : Option (Nat × Nat)) (data_n : Nat) (data_f : Bool) (a : Int) (b : Int) : Prop := ∃ (I1 : List V → Hp → Prop), ∃ (x1 : List V → Hp → Nat), ([V.slc data data_n data_f, V.int IntKind.i64 a, V.int
  IntKind.i64 b] = [V.slc data data_n data_f, V.int IntKind.i64 a, V.int IntKind.i64 b] ∧ I1 [V.int IntKind.i64 (IntKind.i64.wrap (a + (1 : Int)))] h) ∧ ∀ (bs1 : Nat → Option V) (n1 : Int) (h1 : Hp), I1 [V.int IntKind.i64 n1] h1 → bif ltI n1
  b then ∃ (I2 : List V → Hp → Prop), ∃ (x2 : List V → Hp → Nat), ([V.slc data data_n data_f, V.int IntKind.i64 a, V.int IntKind.i64 b, V.int IntKind.i64 n1] = [V.slc data data_n data_f, V.int IntKind.i64 a, V.int IntKind.i64 b, V.int
  IntKind.i64 n1] ∧ I2 [V.int IntKind.i64 n1] h1) ∧ ∀ (bs2 : Nat → Option V) (n2 : Int) (h2 : Hp), I2 [V.int IntKind.i64 n2] h2 → bif ltI a n2 then ((0 : Int) ≤ n2 ∧ n2 < (↑data_n : Int)) ∧ onS data fun (i1 o1 : Nat) => ∃ (n3 : Int), h2.ld
  i1 (o1 + n2.toNat * (1 : Nat)) = some (V.int IntKind.u64 n3) ∧ ((0 : Int) ≤ IntKind.i64.wrap (n2 - (1 : Int)) ∧ IntKind.i64.wrap (n2 - (1 : Int)) < (↑data_n : Int)) ∧ onS data fun (i2 o2 : Nat) => ∃ (n4 : Int), h2.ld i2 (o2 +
  (IntKind.i64.wrap (n2 - (1 : Int))).toNat * (1 : Nat)) = some (V.int IntKind.u64 n4) ∧ XCalls Try.prog (68 : Nat) [V.int IntKind.u64 n3, V.int IntKind.u64 n4] h2 fun (v1 : V) (h'1 : Hp) => ∃ (b1 : Bool), v1 = V.bool b1 ∧ bif b1 then ((0 :
  Int) ≤ IntKind.i64.wrap (n2 - (1 : Int)) ∧ IntKind.i64.wrap (n2 - (1 : Int)) < (↑data_n : Int)) ∧ onS data fun (i3 o3 : Nat) => ∃ (n5 : Int), h'1.ld i3 (o3 + (IntKind.i64.wrap (n2 - (1 : Int))).toNat * (1 : Nat)) = some (V.int IntKind.u64
  n5) ∧ ((0 : Int) ≤ n2 ∧ n2 < (↑data_n : Int)) ∧ onS data fun (i4 o4 : Nat) => ∃ (n6 : Int), h'1.ld i4 (o4 + n2.toNat * (1 : Nat)) = some (V.int IntKind.u64 n6) ∧ ((0 : Int) ≤ n2 ∧ n2 < (↑data_n : Int)) ∧ onS data fun (i5 o5 : Nat) => ∃
  (h'2 : Hp), h'1.st i5 (o5 + n2.toNat * (1 : Nat)) [V.int IntKind.u64 n5] = some h'2 ∧ V.int IntKind.i64 (IntKind.i64.wrap (n2 - (1 : Int))) = V.int IntKind.i64 (IntKind.i64.wrap (n2 - (1 : Int))) ∧ V.int IntKind.i64 n2 = V.int IntKind.i64
  n2 ∧ V.slc data data_n data_f = V.slc data data_n data_f ∧ ((0 : Int) ≤ IntKind.i64.wrap (n2 - (1 : Int)) ∧ IntKind.i64.wrap (n2 - (1 : Int)) < (↑data_n : Int)) ∧ onS data fun (i6 o6 : Nat) => ∃ (h'3 : Hp), h'2.st i6 (o6 +
  (IntKind.i64.wrap (n2 - (1 : Int))).toNat * (1 : Nat)) [V.int IntKind.u64 n6] = some h'3 ∧ [V.slc data data_n data_f, V.int IntKind.i64 a, V.int IntKind.i64 b, V.int IntKind.i64 n1] = [V.slc data data_n data_f, V.int IntKind.i64 a, V.int
  IntKind.i64 b, V.int IntKind.i64 n1] ∧ I2 [V.int IntKind.i64 (IntKind.i64.wrap (n2 - (1 : Int)))] h'3 ∧ x2 [V.int IntKind.i64 (IntKind.i64.wrap (n2 - (1 : Int)))] h'3 < x2 [V.int IntKind.i64 n2] h2 else [V.slc data data_n data_f, V.int
  IntKind.i64 a, V.int IntKind.i64 b] = [V.slc data data_n data_f, V.int IntKind.i64 a, V.int IntKind.i64 b] ∧ I1 [V.int IntKind.i64 (IntKind.i64.wrap (n1 + (1 : Int)))] h'1 ∧ x1 [V.int IntKind.i64 (IntKind.i64.wrap (n1 + (1 : Int)))] h'1 <
  x1 [V.int IntKind.i64 n1] h1 else [V.slc data data_n data_f, V.int IntKind.i64 a, V.int IntKind.i64 b] = [V.slc data data_n data_f, V.int IntKind.i64 a, V.int IntKind.i64 b] ∧ I1 [V.int IntKind.i64 (IntKind.i64.wrap (n1 + (1 : Int)))] h2 ∧
  x1 [V.int IntKind.i64 (IntKind.i64.wrap (n1 + (1 : Int)))] h2 < x1 [V.int IntKind.i64 n1] h1 else K (V.tup []) h1
theorem y62 (h : Hp) (K : V → Hp → Prop) (data : Option (Nat × Nat)) (data_n : Nat) (data_f : Bool) (a : Int) (b : Int) : X62 h K data data_n data_f a b = fnX Try.prog T F jl62 jj62 Try.f62 [V.slc data data_n data_f, V.int IntKind.i64 a, V.int IntKind.i64 b] h K := by kernel_rfl
theorem x62 {h : Hp} {K : V → Hp → Prop} (data : Option (Nat × Nat)) (data_n : Nat) (data_f : Bool) (a : Int) (b : Int) (hx : X62 h K data data_n data_f a b) : XCalls Try.prog 62 [V.slc data data_n data_f, V.int IntKind.i64 a, V.int IntKind.i64 b] h K :=
  XCalls.ofX tok fok mixed (JL := jl62) (JJ := jj62) Try.func62 ((y62 h K data data_n data_f a b) ▸ hx)
/-! 73: slices.siftDownOrdered[uint64] -/
-- loop 1: stays data(0), hi(2), first(3); turns root(8)
-- join 5: stays data(0), first(3), root(8), hi(2); turns child(9)
def jl73 : Nat → Option JT := fun r => bif Nat.beq r 1 then some ⟨[0, 2, 3], [8], [V.int IntKind.i64 (0 : Int)]⟩ else none
def jj73 : Nat → Option JT := fun r => bif Nat.beq r 5 then some ⟨[0, 3, 8, 2], [9], [V.int IntKind.i64 (0 : Int)]⟩ else none
def X73 (h : Hp) (K : V → Hp → Prop) (data : Option (Nat × Nat)) (data_n : Nat) (data_f : Bool) (lo : Int) (hi : Int) (first : Int) : Prop := ∃ (I1 : List V → Hp → Prop), ∃ (x1 : List V → Hp → Nat), ([V.slc data data_n data_f, V.int
  IntKind.i64 hi, V.int IntKind.i64 first] = [V.slc data data_n data_f, V.int IntKind.i64 hi, V.int IntKind.i64 first] ∧ I1 [V.int IntKind.i64 lo] h) ∧ ∀ (bs1 : Nat → Option V) (n1 : Int) (h1 : Hp), I1 [V.int IntKind.i64 n1] h1 → bif !ltI
  (IntKind.i64.wrap (IntKind.i64.wrap ((2 : Int) * n1) + (1 : Int))) hi then K (V.tup []) h1 else ∃ (Q1 : List V → Hp → Prop), (bif ltI (IntKind.i64.wrap (IntKind.i64.wrap (IntKind.i64.wrap ((2 : Int) * n1) + (1 : Int)) + (1 : Int))) hi then
  ((0 : Int) ≤ IntKind.i64.wrap (first + IntKind.i64.wrap (IntKind.i64.wrap ((2 : Int) * n1) + (1 : Int))) ∧ IntKind.i64.wrap (first + IntKind.i64.wrap (IntKind.i64.wrap ((2 : Int) * n1) + (1 : Int))) < (↑data_n : Int)) ∧ onS data fun (i1 o1
  : Nat) => ∃ (n2 : Int), h1.ld i1 (o1 + (IntKind.i64.wrap (first + IntKind.i64.wrap (IntKind.i64.wrap ((2 : Int) * n1) + (1 : Int)))).toNat * (1 : Nat)) = some (V.int IntKind.u64 n2) ∧ ((0 : Int) ≤ IntKind.i64.wrap (IntKind.i64.wrap (first
  + IntKind.i64.wrap (IntKind.i64.wrap ((2 : Int) * n1) + (1 : Int))) + (1 : Int)) ∧ IntKind.i64.wrap (IntKind.i64.wrap (first + IntKind.i64.wrap (IntKind.i64.wrap ((2 : Int) * n1) + (1 : Int))) + (1 : Int)) < (↑data_n : Int)) ∧ onS data fun
  (i2 o2 : Nat) => ∃ (n3 : Int), h1.ld i2 (o2 + (IntKind.i64.wrap (IntKind.i64.wrap (first + IntKind.i64.wrap (IntKind.i64.wrap ((2 : Int) * n1) + (1 : Int))) + (1 : Int))).toNat * (1 : Nat)) = some (V.int IntKind.u64 n3) ∧ XCalls Try.prog
  (68 : Nat) [V.int IntKind.u64 n2, V.int IntKind.u64 n3] h1 fun (v1 : V) (h'1 : Hp) => ∃ (b1 : Bool), v1 = V.bool b1 ∧ bif b1 then [V.slc data data_n data_f, V.int IntKind.i64 first, V.int IntKind.i64 n1, V.int IntKind.i64 hi] = [V.slc data
  data_n data_f, V.int IntKind.i64 first, V.int IntKind.i64 n1, V.int IntKind.i64 hi] ∧ Q1 [V.int IntKind.i64 (IntKind.i64.wrap (IntKind.i64.wrap (IntKind.i64.wrap ((2 : Int) * n1) + (1 : Int)) + (1 : Int)))] h'1 else [V.slc data data_n
  data_f, V.int IntKind.i64 first, V.int IntKind.i64 n1, V.int IntKind.i64 hi] = [V.slc data data_n data_f, V.int IntKind.i64 first, V.int IntKind.i64 n1, V.int IntKind.i64 hi] ∧ Q1 [V.int IntKind.i64 (IntKind.i64.wrap (IntKind.i64.wrap ((2
  : Int) * n1) + (1 : Int)))] h'1 else [V.slc data data_n data_f, V.int IntKind.i64 first, V.int IntKind.i64 n1, V.int IntKind.i64 hi] = [V.slc data data_n data_f, V.int IntKind.i64 first, V.int IntKind.i64 n1, V.int IntKind.i64 hi] ∧ Q1
  [V.int IntKind.i64 (IntKind.i64.wrap (IntKind.i64.wrap ((2 : Int) * n1) + (1 : Int)))] h1) ∧ ∀ (bs2 : Nat → Option V) (n4 : Int) (h2 : Hp), Q1 [V.int IntKind.i64 n4] h2 → ((0 : Int) ≤ IntKind.i64.wrap (first + n1) ∧ IntKind.i64.wrap (first
  + n1) < (↑data_n : Int)) ∧ onS data fun (i3 o3 : Nat) => ∃ (n5 : Int), h2.ld i3 (o3 + (IntKind.i64.wrap (first + n1)).toNat * (1 : Nat)) = some (V.int IntKind.u64 n5) ∧ ((0 : Int) ≤ IntKind.i64.wrap (first + n4) ∧ IntKind.i64.wrap (first +
  n4) < (↑data_n : Int)) ∧ onS data fun (i4 o4 : Nat) => ∃ (n6 : Int), h2.ld i4 (o4 + (IntKind.i64.wrap (first + n4)).toNat * (1 : Nat)) = some (V.int IntKind.u64 n6) ∧ XCalls Try.prog (68 : Nat) [V.int IntKind.u64 n5, V.int IntKind.u64 n6]
  h2 fun (v2 : V) (h'2 : Hp) => ∃ (b2 : Bool), v2 = V.bool b2 ∧ bif !b2 then K (V.tup []) h'2 else ((0 : Int) ≤ IntKind.i64.wrap (first + n4) ∧ IntKind.i64.wrap (first + n4) < (↑data_n : Int)) ∧ onS data fun (i5 o5 : Nat) => ∃ (n7 : Int),
  h'2.ld i5 (o5 + (IntKind.i64.wrap (first + n4)).toNat * (1 : Nat)) = some (V.int IntKind.u64 n7) ∧ ((0 : Int) ≤ IntKind.i64.wrap (first + n1) ∧ IntKind.i64.wrap (first + n1) < (↑data_n : Int)) ∧ onS data fun (i6 o6 : Nat) => ∃ (n8 : Int),
  h'2.ld i6 (o6 + (IntKind.i64.wrap (first + n1)).toNat * (1 : Nat)) = some (V.int IntKind.u64 n8) ∧ ((0 : Int) ≤ IntKind.i64.wrap (first + n1) ∧ IntKind.i64.wrap (first + n1) < (↑data_n : Int)) ∧ onS data fun (i7 o7 : Nat) => ∃ (h'3 : Hp),
  h'2.st i7 (o7 + (IntKind.i64.wrap (first + n1)).toNat * (1 : Nat)) [V.int IntKind.u64 n7] = some h'3 ∧ V.int IntKind.i64 (IntKind.i64.wrap (first + n4)) = V.int IntKind.i64 (IntKind.i64.wrap (first + n4)) ∧ V.int IntKind.i64 n4 = V.int
  IntKind.i64 n4 ∧ V.int IntKind.i64 first = V.int IntKind.i64 first ∧ V.slc data data_n data_f = V.slc data data_n data_f ∧ ((0 : Int) ≤ IntKind.i64.wrap (first + n4) ∧ IntKind.i64.wrap (first + n4) < (↑data_n : Int)) ∧ onS data fun (i8 o8
  : Nat) => ∃ (h'4 : Hp), h'3.st i8 (o8 + (IntKind.i64.wrap (first + n4)).toNat * (1 : Nat)) [V.int IntKind.u64 n8] = some h'4 ∧ [V.slc data data_n data_f, V.int IntKind.i64 hi, V.int IntKind.i64 first] = [V.slc data data_n data_f, V.int
  IntKind.i64 hi, V.int IntKind.i64 first] ∧ I1 [V.int IntKind.i64 n4] h'4 ∧ x1 [V.int IntKind.i64 n4] h'4 < x1 [V.int IntKind.i64 n1] h1
theorem y73 (h : Hp) (K : V → Hp → Prop) (data : Option (Nat × Nat)) (data_n : Nat) (data_f : Bool) (lo : Int) (hi : Int) (first : Int) : X73 h K data data_n data_f lo hi first = fnX Try.prog T F jl73 jj73 Try.f73 [V.slc data data_n data_f,
  V.int IntKind.i64 lo, V.int IntKind.i64 hi, V.int IntKind.i64 first] h K := by kernel_rfl
theorem x73 {h : Hp} {K : V → Hp → Prop} (data : Option (Nat × Nat)) (data_n : Nat) (data_f : Bool) (lo : Int) (hi : Int) (first : Int) (hx : X73 h K data data_n data_f lo hi first) : XCalls Try.prog 73 [V.slc data data_n data_f, V.int
  IntKind.i64 lo, V.int IntKind.i64 hi, V.int IntKind.i64 first] h K :=
  XCalls.ofX tok fok mixed (JL := jl73) (JJ := jj73) Try.func73 ((y73 h K data data_n data_f lo hi first) ▸ hx)
/-! 63: slices.heapSortOrdered[uint64] -/
-- loop 8: stays data(0), first(6), lo(7); turns i(10)
-- loop 4: stays data(0), first(6), lo(7), hi(8); turns i(9)
def jl63 : Nat → Option JT := fun r => bif Nat.beq r 8 then some ⟨[0, 6, 7], [10], [V.int IntKind.i64 (0 : Int)]⟩ else bif Nat.beq r 4 then some ⟨[0, 6, 7, 8], [9], [V.int IntKind.i64 (0 : Int)]⟩ else none
def jj63 : Nat → Option JT := fun r => none
def X63 (h : Hp) (K : V → Hp → Prop) (data : Option (Nat × Nat)) (data_n : Nat) (data_f : Bool) (a : Int) (b : Int) : Prop := ¬(2 : Int) = (0 : Int) ∧ ∃ (I1 : List V → Hp → Prop), ∃ (x1 : List V → Hp → Nat), ([V.slc data data_n data_f, V.int
  IntKind.i64 a, V.int IntKind.i64 (0 : Int), V.int IntKind.i64 (IntKind.i64.wrap (b - a))] = [V.slc data data_n data_f, V.int IntKind.i64 a, V.int IntKind.i64 (0 : Int), V.int IntKind.i64 (IntKind.i64.wrap (b - a))] ∧ I1 [V.int IntKind.i64
  (IntKind.i64.wrap ((IntKind.i64.wrap (IntKind.i64.wrap (b - a) - (1 : Int))).tdiv (2 : Int)))] h) ∧ ∀ (bs1 : Nat → Option V) (n1 : Int) (h1 : Hp), I1 [V.int IntKind.i64 n1] h1 → bif !ltI n1 (0 : Int) then XCalls Try.prog (73 : Nat) [V.slc
  data data_n data_f, V.int IntKind.i64 n1, V.int IntKind.i64 (IntKind.i64.wrap (b - a)), V.int IntKind.i64 a] h1 fun (v1 : V) (h'1 : Hp) => [V.slc data data_n data_f, V.int IntKind.i64 a, V.int IntKind.i64 (0 : Int), V.int IntKind.i64
  (IntKind.i64.wrap (b - a))] = [V.slc data data_n data_f, V.int IntKind.i64 a, V.int IntKind.i64 (0 : Int), V.int IntKind.i64 (IntKind.i64.wrap (b - a))] ∧ I1 [V.int IntKind.i64 (IntKind.i64.wrap (n1 - (1 : Int)))] h'1 ∧ x1 [V.int
  IntKind.i64 (IntKind.i64.wrap (n1 - (1 : Int)))] h'1 < x1 [V.int IntKind.i64 n1] h1 else ∃ (I2 : List V → Hp → Prop), ∃ (x2 : List V → Hp → Nat), ([V.slc data data_n data_f, V.int IntKind.i64 a, V.int IntKind.i64 (0 : Int)] = [V.slc data
  data_n data_f, V.int IntKind.i64 a, V.int IntKind.i64 (0 : Int)] ∧ I2 [V.int IntKind.i64 (IntKind.i64.wrap (IntKind.i64.wrap (b - a) - (1 : Int)))] h1) ∧ ∀ (bs2 : Nat → Option V) (n2 : Int) (h2 : Hp), I2 [V.int IntKind.i64 n2] h2 → bif
  !ltI n2 (0 : Int) then ((0 : Int) ≤ IntKind.i64.wrap (a + n2) ∧ IntKind.i64.wrap (a + n2) < (↑data_n : Int)) ∧ onS data fun (i1 o1 : Nat) => ∃ (n3 : Int), h2.ld i1 (o1 + (IntKind.i64.wrap (a + n2)).toNat * (1 : Nat)) = some (V.int
  IntKind.u64 n3) ∧ ((0 : Int) ≤ a ∧ a < (↑data_n : Int)) ∧ onS data fun (i2 o2 : Nat) => ∃ (n4 : Int), h2.ld i2 (o2 + a.toNat * (1 : Nat)) = some (V.int IntKind.u64 n4) ∧ ((0 : Int) ≤ a ∧ a < (↑data_n : Int)) ∧ onS data fun (i3 o3 : Nat) =>
  ∃ (h'2 : Hp), h2.st i3 (o3 + a.toNat * (1 : Nat)) [V.int IntKind.u64 n3] = some h'2 ∧ V.int IntKind.i64 (IntKind.i64.wrap (a + n2)) = V.int IntKind.i64 (IntKind.i64.wrap (a + n2)) ∧ V.int IntKind.i64 n2 = V.int IntKind.i64 n2 ∧ V.int
  IntKind.i64 a = V.int IntKind.i64 a ∧ V.slc data data_n data_f = V.slc data data_n data_f ∧ ((0 : Int) ≤ IntKind.i64.wrap (a + n2) ∧ IntKind.i64.wrap (a + n2) < (↑data_n : Int)) ∧ onS data fun (i4 o4 : Nat) => ∃ (h'3 : Hp), h'2.st i4 (o4 +
  (IntKind.i64.wrap (a + n2)).toNat * (1 : Nat)) [V.int IntKind.u64 n4] = some h'3 ∧ XCalls Try.prog (73 : Nat) [V.slc data data_n data_f, V.int IntKind.i64 (0 : Int), V.int IntKind.i64 n2, V.int IntKind.i64 a] h'3 fun (v2 : V) (h'4 : Hp) =>
  [V.slc data data_n data_f, V.int IntKind.i64 a, V.int IntKind.i64 (0 : Int)] = [V.slc data data_n data_f, V.int IntKind.i64 a, V.int IntKind.i64 (0 : Int)] ∧ I2 [V.int IntKind.i64 (IntKind.i64.wrap (n2 - (1 : Int)))] h'4 ∧ x2 [V.int
  IntKind.i64 (IntKind.i64.wrap (n2 - (1 : Int)))] h'4 < x2 [V.int IntKind.i64 n2] h2 else K (V.tup []) h2
theorem y63 (h : Hp) (K : V → Hp → Prop) (data : Option (Nat × Nat)) (data_n : Nat) (data_f : Bool) (a : Int) (b : Int) : X63 h K data data_n data_f a b = fnX Try.prog T F jl63 jj63 Try.f63 [V.slc data data_n data_f, V.int IntKind.i64 a, V.int IntKind.i64 b] h K := by kernel_rfl
theorem x63 {h : Hp} {K : V → Hp → Prop} (data : Option (Nat × Nat)) (data_n : Nat) (data_f : Bool) (a : Int) (b : Int) (hx : X63 h K data data_n data_f a b) : XCalls Try.prog 63 [V.slc data data_n data_f, V.int IntKind.i64 a, V.int IntKind.i64 b] h K :=
  XCalls.ofX tok fok mixed (JL := jl63) (JJ := jj63) Try.func63 ((y63 h K data data_n data_f a b) ▸ hx)
/-! 66: slices.reverseRangeOrdered[uint64] -/
-- loop 2: stays data(0); turns i(6), j(7)
def jl66 : Nat → Option JT := fun r => bif Nat.beq r 2 then some ⟨[0], [6, 7], [V.int IntKind.i64 (0 : Int), V.int IntKind.i64 (0 : Int)]⟩ else none
def jj66 : Nat → Option JT := fun r => none
def X66 (h : Hp) (K : V → Hp → Prop) (data : Option (Nat × Nat)) (data_n : Nat) (data_f : Bool) (a : Int) (b : Int) : Prop := ∃ (I1 : List V → Hp → Prop), ∃ (x1 : List V → Hp → Nat), ([V.slc data data_n data_f] = [V.slc data data_n data_f] ∧
  I1 [V.int IntKind.i64 a, V.int IntKind.i64 (IntKind.i64.wrap (b - (1 : Int)))] h) ∧ ∀ (bs1 : Nat → Option V) (n1 n2 : Int) (h1 : Hp), I1 [V.int IntKind.i64 n1, V.int IntKind.i64 n2] h1 → bif ltI n1 n2 then ((0 : Int) ≤ n2 ∧ n2 < (↑data_n :
  Int)) ∧ onS data fun (i1 o1 : Nat) => ∃ (n3 : Int), h1.ld i1 (o1 + n2.toNat * (1 : Nat)) = some (V.int IntKind.u64 n3) ∧ ((0 : Int) ≤ n1 ∧ n1 < (↑data_n : Int)) ∧ onS data fun (i2 o2 : Nat) => ∃ (n4 : Int), h1.ld i2 (o2 + n1.toNat * (1 :
  Nat)) = some (V.int IntKind.u64 n4) ∧ ((0 : Int) ≤ n1 ∧ n1 < (↑data_n : Int)) ∧ onS data fun (i3 o3 : Nat) => ∃ (h'1 : Hp), h1.st i3 (o3 + n1.toNat * (1 : Nat)) [V.int IntKind.u64 n3] = some h'1 ∧ V.int IntKind.i64 n2 = V.int IntKind.i64
  n2 ∧ V.slc data data_n data_f = V.slc data data_n data_f ∧ ((0 : Int) ≤ n2 ∧ n2 < (↑data_n : Int)) ∧ onS data fun (i4 o4 : Nat) => ∃ (h'2 : Hp), h'1.st i4 (o4 + n2.toNat * (1 : Nat)) [V.int IntKind.u64 n4] = some h'2 ∧ [V.slc data data_n
  data_f] = [V.slc data data_n data_f] ∧ I1 [V.int IntKind.i64 (IntKind.i64.wrap (n1 + (1 : Int))), V.int IntKind.i64 (IntKind.i64.wrap (n2 - (1 : Int)))] h'2 ∧ x1 [V.int IntKind.i64 (IntKind.i64.wrap (n1 + (1 : Int))), V.int IntKind.i64
  (IntKind.i64.wrap (n2 - (1 : Int)))] h'2 < x1 [V.int IntKind.i64 n1, V.int IntKind.i64 n2] h1 else K (V.tup []) h1
theorem y66 (h : Hp) (K : V → Hp → Prop) (data : Option (Nat × Nat)) (data_n : Nat) (data_f : Bool) (a : Int) (b : Int) : X66 h K data data_n data_f a b = fnX Try.prog T F jl66 jj66 Try.f66 [V.slc data data_n data_f, V.int IntKind.i64 a, V.int IntKind.i64 b] h K := by kernel_rfl
theorem x66 {h : Hp} {K : V → Hp → Prop} (data : Option (Nat × Nat)) (data_n : Nat) (data_f : Bool) (a : Int) (b : Int) (hx : X66 h K data data_n data_f a b) : XCalls Try.prog 66 [V.slc data data_n data_f, V.int IntKind.i64 a, V.int IntKind.i64 b] h K :=
  XCalls.ofX tok fok mixed (JL := jl66) (JJ := jj66) Try.func66 ((y66 h K data data_n data_f a b) ▸ hx)
/-! 79: slices.order2Ordered[uint64] -/
def jl79 : Nat → Option JT := fun r => none
def jj79 : Nat → Option JT := fun r => none
def X79 (h : Hp) (K : V → Hp → Prop) (data : Option (Nat × Nat)) (data_n : Nat) (data_f : Bool) (a : Int) (b : Int) (swaps : Nat) : Prop := ((0 : Int) ≤ b ∧ b < (↑data_n : Int)) ∧ onS data fun (i1 o1 : Nat) => ∃ (n1 : Int), h.ld i1 (o1 +
  b.toNat * (1 : Nat)) = some (V.int IntKind.u64 n1) ∧ ((0 : Int) ≤ a ∧ a < (↑data_n : Int)) ∧ onS data fun (i2 o2 : Nat) => ∃ (n2 : Int), h.ld i2 (o2 + a.toNat * (1 : Nat)) = some (V.int IntKind.u64 n2) ∧ XCalls Try.prog (68 : Nat) [V.int
  IntKind.u64 n1, V.int IntKind.u64 n2] h fun (v1 : V) (h'1 : Hp) => ∃ (b1 : Bool), v1 = V.bool b1 ∧ bif b1 then ∃ (n3 : Int), h'1.ld swaps (0 : Nat) = some (V.int IntKind.i64 n3) ∧ ∃ (h'2 : Hp), h'1.st swaps (0 : Nat) [V.int IntKind.i64
  (IntKind.i64.wrap (n3 + (1 : Int)))] = some h'2 ∧ K (V.tup [V.int IntKind.i64 b, V.int IntKind.i64 a]) h'2 else K (V.tup [V.int IntKind.i64 a, V.int IntKind.i64 b]) h'1
theorem y79 (h : Hp) (K : V → Hp → Prop) (data : Option (Nat × Nat)) (data_n : Nat) (data_f : Bool) (a : Int) (b : Int) (swaps : Nat) : X79 h K data data_n data_f a b swaps = fnX Try.prog T F jl79 jj79 Try.f79 [V.slc data data_n data_f,
  V.int IntKind.i64 a, V.int IntKind.i64 b, V.ptr (some (swaps, (0 : Nat)))] h K := by kernel_rfl
theorem x79 {h : Hp} {K : V → Hp → Prop} (data : Option (Nat × Nat)) (data_n : Nat) (data_f : Bool) (a : Int) (b : Int) (swaps : Nat) (hx : X79 h K data data_n data_f a b swaps) : XCalls Try.prog 79 [V.slc data data_n data_f, V.int
  IntKind.i64 a, V.int IntKind.i64 b, V.ptr (some (swaps, (0 : Nat)))] h K :=
  XCalls.ofX tok fok mixed (JL := jl79) (JJ := jj79) Try.func79 ((y79 h K data data_n data_f a b swaps) ▸ hx)
/-! 77: slices.medianOrdered[uint64] -/
def jl77 : Nat → Option JT := fun r => none
def jj77 : Nat → Option JT := fun r => none
def X77 (h : Hp) (K : V → Hp → Prop) (data : Option (Nat × Nat)) (data_n : Nat) (data_f : Bool) (a : Int) (b : Int) (c : Int) (swaps : Nat) : Prop := XCalls Try.prog (79 : Nat) [V.slc data data_n data_f, V.int IntKind.i64 a, V.int
  IntKind.i64 b, V.ptr (some (swaps, (0 : Nat)))] h fun (v1 : V) (h'1 : Hp) => ∃ (n1 : Int), ∃ (n2 : Int), v1 = V.tup [V.int IntKind.i64 n1, V.int IntKind.i64 n2] ∧ XCalls Try.prog (79 : Nat) [V.slc data data_n data_f, V.int IntKind.i64 n2,
  V.int IntKind.i64 c, V.ptr (some (swaps, (0 : Nat)))] h'1 fun (v2 : V) (h'2 : Hp) => ∃ (n3 : Int), ∃ (n4 : Int), v2 = V.tup [V.int IntKind.i64 n3, V.int IntKind.i64 n4] ∧ XCalls Try.prog (79 : Nat) [V.slc data data_n data_f, V.int
  IntKind.i64 n1, V.int IntKind.i64 n3, V.ptr (some (swaps, (0 : Nat)))] h'2 fun (v3 : V) (h'3 : Hp) => ∃ (n5 : Int), ∃ (n6 : Int), v3 = V.tup [V.int IntKind.i64 n5, V.int IntKind.i64 n6] ∧ K (V.int IntKind.i64 n6) h'3
theorem y77 (h : Hp) (K : V → Hp → Prop) (data : Option (Nat × Nat)) (data_n : Nat) (data_f : Bool) (a : Int) (b : Int) (c : Int) (swaps : Nat) : X77 h K data data_n data_f a b c swaps = fnX Try.prog T F jl77 jj77 Try.f77 [V.slc data data_n
  data_f, V.int IntKind.i64 a, V.int IntKind.i64 b, V.int IntKind.i64 c, V.ptr (some (swaps, (0 : Nat)))] h K := by kernel_rfl
theorem x77 {h : Hp} {K : V → Hp → Prop} (data : Option (Nat × Nat)) (data_n : Nat) (data_f : Bool) (a : Int) (b : Int) (c : Int) (swaps : Nat) (hx : X77 h K data data_n data_f a b c swaps) : XCalls Try.prog 77 [V.slc data data_n data_f,
  V.int IntKind.i64 a, V.int IntKind.i64 b, V.int IntKind.i64 c, V.ptr (some (swaps, (0 : Nat)))] h K :=
  XCalls.ofX tok fok mixed (JL := jl77) (JJ := jj77) Try.func77 ((y77 h K data data_n data_f a b c swaps) ▸ hx)
/-! 76: slices.medianAdjacentOrdered[uint64] -/
def jl76 : Nat → Option JT := fun r => none
def jj76 : Nat → Option JT := fun r => none
def X76 (h : Hp) (K : V → Hp → Prop) (data : Option (Nat × Nat)) (data_n : Nat) (data_f : Bool) (a : Int) (swaps : Nat) : Prop := XCalls Try.prog (77 : Nat) [V.slc data data_n data_f, V.int IntKind.i64 (IntKind.i64.wrap (a - (1 : Int))),
  V.int IntKind.i64 a, V.int IntKind.i64 (IntKind.i64.wrap (a + (1 : Int))), V.ptr (some (swaps, (0 : Nat)))] h fun (v1 : V) (h'1 : Hp) => ∃ (n1 : Int), v1 = V.int IntKind.i64 n1 ∧ K (V.int IntKind.i64 n1) h'1
theorem y76 (h : Hp) (K : V → Hp → Prop) (data : Option (Nat × Nat)) (data_n : Nat) (data_f : Bool) (a : Int) (swaps : Nat) : X76 h K data data_n data_f a swaps = fnX Try.prog T F jl76 jj76 Try.f76 [V.slc data data_n data_f, V.int IntKind.i64 a, V.ptr (some (swaps, (0 : Nat)))] h K := by kernel_rfl
theorem x76 {h : Hp} {K : V → Hp → Prop} (data : Option (Nat × Nat)) (data_n : Nat) (data_f : Bool) (a : Int) (swaps : Nat) (hx : X76 h K data data_n data_f a swaps) : XCalls Try.prog 76 [V.slc data data_n data_f, V.int IntKind.i64 a, V.ptr (some (swaps, (0 : Nat)))] h K :=
  XCalls.ofX tok fok mixed (JL := jl76) (JJ := jj76) Try.func76 ((y76 h K data data_n data_f a swaps) ▸ hx)
/-! 75: (*slices.xorshift).Next -/
def jl75 : Nat → Option JT := fun r => none
def jj75 : Nat → Option JT := fun r => none
def X75 (h : Hp) (K : V → Hp → Prop) (r : Nat) : Prop := ∃ (n1 : Int), h.ld r (0 : Nat) = some (V.int IntKind.u64 n1) ∧ ∃ (n2 : Int), h.ld r (0 : Nat) = some (V.int IntKind.u64 n2) ∧ ¬(13 : Int) < (0 : Int) ∧ ∃ (h'1 : Hp), h.st r (0 : Nat)
  [V.int IntKind.u64 (bits BinOp.xor IntKind.u64 n1 (IntKind.u64.wrap (n2 * (2 : Int) ^ min (Int.toNat (13 : Int)) IntKind.u64.bits)))] = some h'1 ∧ ∃ (n3 : Int), h'1.ld r (0 : Nat) = some (V.int IntKind.u64 n3) ∧ ∃ (n4 : Int), h'1.ld r (0 :
  Nat) = some (V.int IntKind.u64 n4) ∧ ¬(7 : Int) < (0 : Int) ∧ ∃ (h'2 : Hp), h'1.st r (0 : Nat) [V.int IntKind.u64 (bits BinOp.xor IntKind.u64 n3 (n4.fdiv ((2 : Int) ^ min (Int.toNat (7 : Int)) IntKind.u64.bits)))] = some h'2 ∧ ∃ (n5 :
  Int), h'2.ld r (0 : Nat) = some (V.int IntKind.u64 n5) ∧ ∃ (n6 : Int), h'2.ld r (0 : Nat) = some (V.int IntKind.u64 n6) ∧ ¬(17 : Int) < (0 : Int) ∧ ∃ (h'3 : Hp), h'2.st r (0 : Nat) [V.int IntKind.u64 (bits BinOp.xor IntKind.u64 n5
  (IntKind.u64.wrap (n6 * (2 : Int) ^ min (Int.toNat (17 : Int)) IntKind.u64.bits)))] = some h'3 ∧ ∃ (n7 : Int), h'3.ld r (0 : Nat) = some (V.int IntKind.u64 n7) ∧ K (V.int IntKind.u64 n7) h'3
theorem y75 (h : Hp) (K : V → Hp → Prop) (r : Nat) : X75 h K r = fnX Try.prog T F jl75 jj75 Try.f75 [V.ptr (some (r, (0 : Nat)))] h K := by kernel_rfl
theorem x75 {h : Hp} {K : V → Hp → Prop} (r : Nat) (hx : X75 h K r) : XCalls Try.prog 75 [V.ptr (some (r, (0 : Nat)))] h K :=
  XCalls.ofX tok fok mixed (JL := jl75) (JJ := jj75) Try.func75 ((y75 h K r) ▸ hx)
/-! 72: math/bits.Len64 -/
-- join 7: stays ; turns x(0), n(2)
-- join 4: stays ; turns x(0), n(2)
def jl72 : Nat → Option JT := fun r => none
def jj72 : Nat → Option JT := fun r => bif Nat.beq r 7 then some ⟨[], [0, 2], [V.int IntKind.u64 (0 : Int), V.int IntKind.i64 (0 : Int)]⟩ else bif Nat.beq r 4 then some ⟨[], [0, 2], [V.int IntKind.u64 (0 : Int), V.int IntKind.i64 (0 : Int)]⟩ else none
def X72 (h : Hp) (K : V → Hp → Prop) (x : Int) : Prop := ∃ (Q1 : List V → Hp → Prop), (bif !ltI x (4294967296 : Int) then ¬(32 : Int) < (0 : Int) ∧ ([] : List V) = [] ∧ Q1 [V.int IntKind.u64 (x.fdiv ((2 : Int) ^ min (Int.toNat (32 : Int))
  IntKind.u64.bits)), V.int IntKind.i64 (32 : Int)] h else ([] : List V) = [] ∧ Q1 [V.int IntKind.u64 x, V.int IntKind.i64 (0 : Int)] h) ∧ ∀ (bs1 : Nat → Option V) (n1 n2 : Int) (h1 : Hp), Q1 [V.int IntKind.u64 n1, V.int IntKind.i64 n2] h1 →
  ∃ (Q2 : List V → Hp → Prop), (bif !ltI n1 (65536 : Int) then ¬(16 : Int) < (0 : Int) ∧ ([] : List V) = [] ∧ Q2 [V.int IntKind.u64 (n1.fdiv ((2 : Int) ^ min (Int.toNat (16 : Int)) IntKind.u64.bits)), V.int IntKind.i64 (IntKind.i64.wrap (n2
  + (16 : Int)))] h1 else ([] : List V) = [] ∧ Q2 [V.int IntKind.u64 n1, V.int IntKind.i64 n2] h1) ∧ ∀ (bs2 : Nat → Option V) (n3 n4 : Int) (h2 : Hp), Q2 [V.int IntKind.u64 n3, V.int IntKind.i64 n4] h2 → bif !ltI n3 (256 : Int) then ¬(8 :
  Int) < (0 : Int) ∧ (0 : Int) ≤ IntKind.u8.wrap (n3.fdiv ((2 : Int) ^ min (Int.toNat (8 : Int)) IntKind.u64.bits)) ∧ ∃ (b1 : UInt8), bitTab.get?Internal (IntKind.u8.wrap (n3.fdiv ((2 : Int) ^ min (Int.toNat (8 : Int))
  IntKind.u64.bits))).toNat = some b1 ∧ K (V.int IntKind.i64 (IntKind.i64.wrap (IntKind.i64.wrap (n4 + (8 : Int)) + IntKind.i64.wrap (↑b1.toNat : Int)))) h2 else (0 : Int) ≤ IntKind.u8.wrap n3 ∧ ∃ (b2 : UInt8), bitTab.get?Internal
  (IntKind.u8.wrap n3).toNat = some b2 ∧ K (V.int IntKind.i64 (IntKind.i64.wrap (n4 + IntKind.i64.wrap (↑b2.toNat : Int)))) h2
theorem y72 (h : Hp) (K : V → Hp → Prop) (x : Int) : X72 h K x = fnX Try.prog T F jl72 jj72 Try.f72 [V.int IntKind.u64 x] h K := by kernel_rfl
theorem x72 {h : Hp} {K : V → Hp → Prop} (x : Int) (hx : X72 h K x) : XCalls Try.prog 72 [V.int IntKind.u64 x] h K :=
  XCalls.ofX tok fok mixed (JL := jl72) (JJ := jj72) Try.func72 ((y72 h K x) ▸ hx)
/-! 59: math/bits.Len -/
def jl59 : Nat → Option JT := fun r => none
def jj59 : Nat → Option JT := fun r => none
def X59 (h : Hp) (K : V → Hp → Prop) (x : Int) : Prop := XCalls Try.prog (72 : Nat) [V.int IntKind.u64 x] h fun (v1 : V) (h'1 : Hp) => ∃ (n1 : Int), v1 = V.int IntKind.i64 n1 ∧ K (V.int IntKind.i64 n1) h'1
theorem y59 (h : Hp) (K : V → Hp → Prop) (x : Int) : X59 h K x = fnX Try.prog T F jl59 jj59 Try.f59 [V.int IntKind.u64 x] h K := by kernel_rfl
theorem x59 {h : Hp} {K : V → Hp → Prop} (x : Int) (hx : X59 h K x) : XCalls Try.prog 59 [V.int IntKind.u64 x] h K :=
  XCalls.ofX tok fok mixed (JL := jl59) (JJ := jj59) Try.func59 ((y59 h K x) ▸ hx)
/-! 74: slices.nextPowerOfTwo -/
def jl74 : Nat → Option JT := fun r => none
def jj74 : Nat → Option JT := fun r => none
def X74 (h : Hp) (K : V → Hp → Prop) (length : Int) : Prop := XCalls Try.prog (59 : Nat) [V.int IntKind.u64 (IntKind.u64.wrap length)] h fun (v1 : V) (h'1 : Hp) => ∃ (n1 : Int), v1 = V.int IntKind.i64 n1 ∧ ¬n1 < (0 : Int) ∧ K (V.int
  IntKind.u64 (IntKind.u64.wrap ((1 : Int) * (2 : Int) ^ min n1.toNat IntKind.u64.bits))) h'1
theorem y74 (h : Hp) (K : V → Hp → Prop) (length : Int) : X74 h K length = fnX Try.prog T F jl74 jj74 Try.f74 [V.int IntKind.i64 length] h K := by kernel_rfl
theorem x74 {h : Hp} {K : V → Hp → Prop} (length : Int) (hx : X74 h K length) : XCalls Try.prog 74 [V.int IntKind.i64 length] h K :=
  XCalls.ofX tok fok mixed (JL := jl74) (JJ := jj74) Try.func74 ((y74 h K length) ▸ hx)
/-! 64: slices.breakPatternsOrdered[uint64] -/
-- loop 5: stays data(0), a(1), length(6), random(7), modulus(8); turns idx(9)
-- join 10: stays data(0), idx(9), a(1), length(6), random(7), modulus(8); turns other(10)
def jl64 : Nat → Option JT := fun r => bif Nat.beq r 5 then some ⟨[0, 1, 6, 7, 8], [9], [V.int IntKind.i64 (0 : Int)]⟩ else none
def jj64 : Nat → Option JT := fun r => bif Nat.beq r 10 then some ⟨[0, 9, 1, 6, 7, 8], [10], [V.int IntKind.i64 (0 : Int)]⟩ else none
def X64 (h : Hp) (K : V → Hp → Prop) (data : Option (Nat × Nat)) (data_n : Nat) (data_f : Bool) (a : Int) (b : Int) : Prop := bif !ltI (IntKind.i64.wrap (b - a)) (8 : Int) then ∀ (h'1 : Hp), h'1 = h.alloc (O.row [V.int IntKind.u64 (0 : Int)]
  (1 : Nat) false) → ∃ (h'2 : Hp), h'1.st h.next (0 : Nat) [V.int IntKind.u64 (IntKind.u64.wrap (IntKind.i64.wrap (b - a)))] = some h'2 ∧ XCalls Try.prog (74 : Nat) [V.int IntKind.i64 (IntKind.i64.wrap (b - a))] h'2 fun (v1 : V) (h'3 : Hp)
  => ∃ (n1 : Int), v1 = V.int IntKind.u64 n1 ∧ ¬(4 : Int) = (0 : Int) ∧ ∃ (I1 : List V → Hp → Prop), ∃ (x1 : List V → Hp → Nat), ([V.slc data data_n data_f, V.int IntKind.i64 a, V.int IntKind.i64 (IntKind.i64.wrap (b - a)), V.ptr (some
  (h.next, (0 : Nat))), V.int IntKind.u64 n1] = [V.slc data data_n data_f, V.int IntKind.i64 a, V.int IntKind.i64 (IntKind.i64.wrap (b - a)), V.ptr (some (h.next, (0 : Nat))), V.int IntKind.u64 n1] ∧ I1 [V.int IntKind.i64 (IntKind.i64.wrap
  (IntKind.i64.wrap (a + IntKind.i64.wrap (IntKind.i64.wrap ((IntKind.i64.wrap (b - a)).tdiv (4 : Int)) * (2 : Int))) - (1 : Int)))] h'3) ∧ ∀ (bs1 : Nat → Option V) (n2 : Int) (h1 : Hp), I1 [V.int IntKind.i64 n2] h1 → ¬(4 : Int) = (0 : Int)
  ∧ bif !ltI (IntKind.i64.wrap (IntKind.i64.wrap (a + IntKind.i64.wrap (IntKind.i64.wrap ((IntKind.i64.wrap (b - a)).tdiv (4 : Int)) * (2 : Int))) + (1 : Int))) n2 then XCalls Try.prog (75 : Nat) [V.ptr (some (h.next, (0 : Nat)))] h1 fun (v2
  : V) (h'4 : Hp) => ∃ (n3 : Int), v2 = V.int IntKind.u64 n3 ∧ ∃ (Q1 : List V → Hp → Prop), (bif !ltI (IntKind.i64.wrap (bits BinOp.and IntKind.u64 n3 (IntKind.u64.wrap (n1 - (1 : Int))))) (IntKind.i64.wrap (b - a)) then [V.slc data data_n
  data_f, V.int IntKind.i64 n2, V.int IntKind.i64 a, V.int IntKind.i64 (IntKind.i64.wrap (b - a)), V.ptr (some (h.next, (0 : Nat))), V.int IntKind.u64 n1] = [V.slc data data_n data_f, V.int IntKind.i64 n2, V.int IntKind.i64 a, V.int
  IntKind.i64 (IntKind.i64.wrap (b - a)), V.ptr (some (h.next, (0 : Nat))), V.int IntKind.u64 n1] ∧ Q1 [V.int IntKind.i64 (IntKind.i64.wrap (IntKind.i64.wrap (bits BinOp.and IntKind.u64 n3 (IntKind.u64.wrap (n1 - (1 : Int)))) -
  IntKind.i64.wrap (b - a)))] h'4 else [V.slc data data_n data_f, V.int IntKind.i64 n2, V.int IntKind.i64 a, V.int IntKind.i64 (IntKind.i64.wrap (b - a)), V.ptr (some (h.next, (0 : Nat))), V.int IntKind.u64 n1] = [V.slc data data_n data_f,
  V.int IntKind.i64 n2, V.int IntKind.i64 a, V.int IntKind.i64 (IntKind.i64.wrap (b - a)), V.ptr (some (h.next, (0 : Nat))), V.int IntKind.u64 n1] ∧ Q1 [V.int IntKind.i64 (IntKind.i64.wrap (bits BinOp.and IntKind.u64 n3 (IntKind.u64.wrap (n1
  - (1 : Int)))))] h'4) ∧ ∀ (bs2 : Nat → Option V) (n4 : Int) (h2 : Hp), Q1 [V.int IntKind.i64 n4] h2 → ((0 : Int) ≤ IntKind.i64.wrap (a + n4) ∧ IntKind.i64.wrap (a + n4) < (↑data_n : Int)) ∧ onS data fun (i1 o1 : Nat) => ∃ (n5 : Int), h2.ld
  i1 (o1 + (IntKind.i64.wrap (a + n4)).toNat * (1 : Nat)) = some (V.int IntKind.u64 n5) ∧ ((0 : Int) ≤ n2 ∧ n2 < (↑data_n : Int)) ∧ onS data fun (i2 o2 : Nat) => ∃ (n6 : Int), h2.ld i2 (o2 + n2.toNat * (1 : Nat)) = some (V.int IntKind.u64
  n6) ∧ ((0 : Int) ≤ n2 ∧ n2 < (↑data_n : Int)) ∧ onS data fun (i3 o3 : Nat) => ∃ (h'5 : Hp), h2.st i3 (o3 + n2.toNat * (1 : Nat)) [V.int IntKind.u64 n5] = some h'5 ∧ V.int IntKind.i64 (IntKind.i64.wrap (a + n4)) = V.int IntKind.i64
  (IntKind.i64.wrap (a + n4)) ∧ V.int IntKind.i64 n4 = V.int IntKind.i64 n4 ∧ V.int IntKind.i64 a = V.int IntKind.i64 a ∧ V.slc data data_n data_f = V.slc data data_n data_f ∧ ((0 : Int) ≤ IntKind.i64.wrap (a + n4) ∧ IntKind.i64.wrap (a +
  n4) < (↑data_n : Int)) ∧ onS data fun (i4 o4 : Nat) => ∃ (h'6 : Hp), h'5.st i4 (o4 + (IntKind.i64.wrap (a + n4)).toNat * (1 : Nat)) [V.int IntKind.u64 n6] = some h'6 ∧ [V.slc data data_n data_f, V.int IntKind.i64 a, V.int IntKind.i64
  (IntKind.i64.wrap (b - a)), V.ptr (some (h.next, (0 : Nat))), V.int IntKind.u64 n1] = [V.slc data data_n data_f, V.int IntKind.i64 a, V.int IntKind.i64 (IntKind.i64.wrap (b - a)), V.ptr (some (h.next, (0 : Nat))), V.int IntKind.u64 n1] ∧
  I1 [V.int IntKind.i64 (IntKind.i64.wrap (n2 + (1 : Int)))] h'6 ∧ x1 [V.int IntKind.i64 (IntKind.i64.wrap (n2 + (1 : Int)))] h'6 < x1 [V.int IntKind.i64 n2] h1 else K (V.tup []) h1 else K (V.tup []) h
theorem y64 (h : Hp) (K : V → Hp → Prop) (data : Option (Nat × Nat)) (data_n : Nat) (data_f : Bool) (a : Int) (b : Int) : X64 h K data data_n data_f a b = fnX Try.prog T F jl64 jj64 Try.f64 [V.slc data data_n data_f, V.int IntKind.i64 a, V.int IntKind.i64 b] h K := by kernel_rfl
theorem x64 {h : Hp} {K : V → Hp → Prop} (data : Option (Nat × Nat)) (data_n : Nat) (data_f : Bool) (a : Int) (b : Int) (hx : X64 h K data data_n data_f a b) : XCalls Try.prog 64 [V.slc data data_n data_f, V.int IntKind.i64 a, V.int IntKind.i64 b] h K :=
  XCalls.ofX tok fok mixed (JL := jl64) (JJ := jj64) Try.func64 ((y64 h K data data_n data_f a b) ▸ hx)
/-! 65: slices.choosePivotOrdered[uint64] -/
-- join 12: stays swaps(9); turns j(11)
def jl65 : Nat → Option JT := fun r => none
def jj65 : Nat → Option JT := fun r => bif Nat.beq r 12 then some ⟨[9], [11], [V.int IntKind.i64 (0 : Int)]⟩ else none
def X65 (h : Hp) (K : V → Hp → Prop) (data : Option (Nat × Nat)) (data_n : Nat) (data_f : Bool) (a : Int) (b : Int) : Prop := ∀ (h'1 : Hp), h'1 = h.alloc (O.row [V.int IntKind.i64 (0 : Int)] (1 : Nat) false) → ¬(4 : Int) = (0 : Int) ∧ ¬(4 :
  Int) = (0 : Int) ∧ ¬(4 : Int) = (0 : Int) ∧ ∃ (Q1 : List V → Hp → Prop), (bif !ltI (IntKind.i64.wrap (b - a)) (8 : Int) then bif !ltI (IntKind.i64.wrap (b - a)) (50 : Int) then XCalls Try.prog (76 : Nat) [V.slc data data_n data_f, V.int
  IntKind.i64 (IntKind.i64.wrap (a + IntKind.i64.wrap (IntKind.i64.wrap ((IntKind.i64.wrap (b - a)).tdiv (4 : Int)) * (1 : Int)))), V.ptr (some (h.next, (0 : Nat)))] h'1 fun (v1 : V) (h'2 : Hp) => ∃ (n1 : Int), v1 = V.int IntKind.i64 n1 ∧
  XCalls Try.prog (76 : Nat) [V.slc data data_n data_f, V.int IntKind.i64 (IntKind.i64.wrap (a + IntKind.i64.wrap (IntKind.i64.wrap ((IntKind.i64.wrap (b - a)).tdiv (4 : Int)) * (2 : Int)))), V.ptr (some (h.next, (0 : Nat)))] h'2 fun (v2 :
  V) (h'3 : Hp) => ∃ (n2 : Int), v2 = V.int IntKind.i64 n2 ∧ XCalls Try.prog (76 : Nat) [V.slc data data_n data_f, V.int IntKind.i64 (IntKind.i64.wrap (a + IntKind.i64.wrap (IntKind.i64.wrap ((IntKind.i64.wrap (b - a)).tdiv (4 : Int)) * (3 :
  Int)))), V.ptr (some (h.next, (0 : Nat)))] h'3 fun (v3 : V) (h'4 : Hp) => ∃ (n3 : Int), v3 = V.int IntKind.i64 n3 ∧ XCalls Try.prog (77 : Nat) [V.slc data data_n data_f, V.int IntKind.i64 n1, V.int IntKind.i64 n2, V.int IntKind.i64 n3,
  V.ptr (some (h.next, (0 : Nat)))] h'4 fun (v4 : V) (h'5 : Hp) => ∃ (n4 : Int), v4 = V.int IntKind.i64 n4 ∧ [V.ptr (some (h.next, (0 : Nat)))] = [V.ptr (some (h.next, (0 : Nat)))] ∧ Q1 [V.int IntKind.i64 n4] h'5 else XCalls Try.prog (77 :
  Nat) [V.slc data data_n data_f, V.int IntKind.i64 (IntKind.i64.wrap (a + IntKind.i64.wrap (IntKind.i64.wrap ((IntKind.i64.wrap (b - a)).tdiv (4 : Int)) * (1 : Int)))), V.int IntKind.i64 (IntKind.i64.wrap (a + IntKind.i64.wrap
  (IntKind.i64.wrap ((IntKind.i64.wrap (b - a)).tdiv (4 : Int)) * (2 : Int)))), V.int IntKind.i64 (IntKind.i64.wrap (a + IntKind.i64.wrap (IntKind.i64.wrap ((IntKind.i64.wrap (b - a)).tdiv (4 : Int)) * (3 : Int)))), V.ptr (some (h.next, (0 :
  Nat)))] h'1 fun (v5 : V) (h'6 : Hp) => ∃ (n5 : Int), v5 = V.int IntKind.i64 n5 ∧ [V.ptr (some (h.next, (0 : Nat)))] = [V.ptr (some (h.next, (0 : Nat)))] ∧ Q1 [V.int IntKind.i64 n5] h'6 else [V.ptr (some (h.next, (0 : Nat)))] = [V.ptr (some
  (h.next, (0 : Nat)))] ∧ Q1 [V.int IntKind.i64 (IntKind.i64.wrap (a + IntKind.i64.wrap (IntKind.i64.wrap ((IntKind.i64.wrap (b - a)).tdiv (4 : Int)) * (2 : Int))))] h'1) ∧ ∀ (bs1 : Nat → Option V) (n6 : Int) (h1 : Hp), Q1 [V.int IntKind.i64
  n6] h1 → ∃ (n7 : Int), h1.ld h.next (0 : Nat) = some (V.int IntKind.i64 n7) ∧ bif n7 == (0 : Int) then K (V.tup [V.int IntKind.i64 n6, V.int IntKind.i64 (1 : Int)]) h1 else bif n7 == (12 : Int) then K (V.tup [V.int IntKind.i64 n6, V.int
  IntKind.i64 (2 : Int)]) h1 else K (V.tup [V.int IntKind.i64 n6, V.int IntKind.i64 (0 : Int)]) h1
theorem y65 (h : Hp) (K : V → Hp → Prop) (data : Option (Nat × Nat)) (data_n : Nat) (data_f : Bool) (a : Int) (b : Int) : X65 h K data data_n data_f a b = fnX Try.prog T F jl65 jj65 Try.f65 [V.slc data data_n data_f, V.int IntKind.i64 a, V.int IntKind.i64 b] h K := by kernel_rfl
theorem x65 {h : Hp} {K : V → Hp → Prop} (data : Option (Nat × Nat)) (data_n : Nat) (data_f : Bool) (a : Int) (b : Int) (hx : X65 h K data data_n data_f a b) : XCalls Try.prog 65 [V.slc data data_n data_f, V.int IntKind.i64 a, V.int IntKind.i64 b] h K :=
  XCalls.ofX tok fok mixed (JL := jl65) (JJ := jj65) Try.func65 ((y65 h K data data_n data_f a b) ▸ hx)
/-! 70: slices.partitionOrdered[uint64] -/
-- loop 15: stays data(0), a(1), i(10); turns j(11)
-- loop 13: stays data(0), a(1); turns i(10), j(11)
-- loop 5: stays data(0), a(1), i(10); turns j(11)
-- loop 3: stays data(0), a(1), j(11); turns i(10)
-- join 17: stays i(10), data(0), a(1); turns j(11)
-- join 15: stays j(11), data(0), a(1); turns i(10)
-- join 7: stays i(10), data(0), a(1); turns j(11)
-- join 5: stays j(11), data(0), a(1); turns i(10)
def jl70 : Nat → Option JT := fun r => bif Nat.beq r 15 then some ⟨[0, 1, 10], [11], [V.int IntKind.i64 (0 : Int)]⟩ else bif Nat.beq r 13 then some ⟨[0, 1], [10, 11], [V.int IntKind.i64 (0 : Int), V.int IntKind.i64 (0 : Int)]⟩ else bif
  Nat.beq r 5 then some ⟨[0, 1, 10], [11], [V.int IntKind.i64 (0 : Int)]⟩ else bif Nat.beq r 3 then some ⟨[0, 1, 11], [10], [V.int IntKind.i64 (0 : Int)]⟩ else none
def jj70 : Nat → Option JT := fun r => bif Nat.beq r 17 then some ⟨[10, 0, 1], [11], [V.int IntKind.i64 (0 : Int)]⟩ else bif Nat.beq r 15 then some ⟨[11, 0, 1], [10], [V.int IntKind.i64 (0 : Int)]⟩ else bif Nat.beq r 7 then some ⟨[10, 0, 1],
  [11], [V.int IntKind.i64 (0 : Int)]⟩ else bif Nat.beq r 5 then some ⟨[11, 0, 1], [10], [V.int IntKind.i64 (0 : Int)]⟩ else none
def X70 (h : Hp) (K : V → Hp → Prop) (data : Option (Nat × Nat)) (data_n : Nat) (data_f : Bool) (a : Int) (b : Int) (pivot : Int) : Prop := ((0 : Int) ≤ pivot ∧ pivot < (↑data_n : Int)) ∧ onS data fun (i1 o1 : Nat) => ∃ (n1 : Int), h.ld i1
  (o1 + pivot.toNat * (1 : Nat)) = some (V.int IntKind.u64 n1) ∧ ((0 : Int) ≤ a ∧ a < (↑data_n : Int)) ∧ onS data fun (i2 o2 : Nat) => ∃ (n2 : Int), h.ld i2 (o2 + a.toNat * (1 : Nat)) = some (V.int IntKind.u64 n2) ∧ ((0 : Int) ≤ a ∧ a <
  (↑data_n : Int)) ∧ onS data fun (i3 o3 : Nat) => ∃ (h'1 : Hp), h.st i3 (o3 + a.toNat * (1 : Nat)) [V.int IntKind.u64 n1] = some h'1 ∧ V.int IntKind.i64 pivot = V.int IntKind.i64 pivot ∧ V.slc data data_n data_f = V.slc data data_n data_f ∧
  ((0 : Int) ≤ pivot ∧ pivot < (↑data_n : Int)) ∧ onS data fun (i4 o4 : Nat) => ∃ (h'2 : Hp), h'1.st i4 (o4 + pivot.toNat * (1 : Nat)) [V.int IntKind.u64 n2] = some h'2 ∧ ∃ (Q1 : List V → Hp → Prop), (∃ (I1 : List V → Hp → Prop), ∃ (x1 :
  List V → Hp → Nat), ([V.slc data data_n data_f, V.int IntKind.i64 a, V.int IntKind.i64 (IntKind.i64.wrap (b - (1 : Int)))] = [V.slc data data_n data_f, V.int IntKind.i64 a, V.int IntKind.i64 (IntKind.i64.wrap (b - (1 : Int)))] ∧ I1 [V.int
  IntKind.i64 (IntKind.i64.wrap (a + (1 : Int)))] h'2) ∧ ∀ (bs1 : Nat → Option V) (n3 : Int) (h1 : Hp), I1 [V.int IntKind.i64 n3] h1 → bif !ltI (IntKind.i64.wrap (b - (1 : Int))) n3 then ((0 : Int) ≤ n3 ∧ n3 < (↑data_n : Int)) ∧ onS data fun
  (i5 o5 : Nat) => ∃ (n4 : Int), h1.ld i5 (o5 + n3.toNat * (1 : Nat)) = some (V.int IntKind.u64 n4) ∧ ((0 : Int) ≤ a ∧ a < (↑data_n : Int)) ∧ onS data fun (i6 o6 : Nat) => ∃ (n5 : Int), h1.ld i6 (o6 + a.toNat * (1 : Nat)) = some (V.int
  IntKind.u64 n5) ∧ XCalls Try.prog (68 : Nat) [V.int IntKind.u64 n4, V.int IntKind.u64 n5] h1 fun (v1 : V) (h'3 : Hp) => ∃ (b1 : Bool), v1 = V.bool b1 ∧ bif b1 then [V.slc data data_n data_f, V.int IntKind.i64 a, V.int IntKind.i64
  (IntKind.i64.wrap (b - (1 : Int)))] = [V.slc data data_n data_f, V.int IntKind.i64 a, V.int IntKind.i64 (IntKind.i64.wrap (b - (1 : Int)))] ∧ I1 [V.int IntKind.i64 (IntKind.i64.wrap (n3 + (1 : Int)))] h'3 ∧ x1 [V.int IntKind.i64
  (IntKind.i64.wrap (n3 + (1 : Int)))] h'3 < x1 [V.int IntKind.i64 n3] h1 else [V.int IntKind.i64 (IntKind.i64.wrap (b - (1 : Int))), V.slc data data_n data_f, V.int IntKind.i64 a] = [V.int IntKind.i64 (IntKind.i64.wrap (b - (1 : Int))),
  V.slc data data_n data_f, V.int IntKind.i64 a] ∧ Q1 [V.int IntKind.i64 n3] h'3 else [V.int IntKind.i64 (IntKind.i64.wrap (b - (1 : Int))), V.slc data data_n data_f, V.int IntKind.i64 a] = [V.int IntKind.i64 (IntKind.i64.wrap (b - (1 :
  Int))), V.slc data data_n data_f, V.int IntKind.i64 a] ∧ Q1 [V.int IntKind.i64 n3] h1) ∧ ∀ (bs2 : Nat → Option V) (n6 : Int) (h2 : Hp), Q1 [V.int IntKind.i64 n6] h2 → ∃ (Q2 : List V → Hp → Prop), (∃ (I2 : List V → Hp → Prop), ∃ (x2 : List
  V → Hp → Nat), ([V.slc data data_n data_f, V.int IntKind.i64 a, V.int IntKind.i64 n6] = [V.slc data data_n data_f, V.int IntKind.i64 a, V.int IntKind.i64 n6] ∧ I2 [V.int IntKind.i64 (IntKind.i64.wrap (b - (1 : Int)))] h2) ∧ ∀ (bs3 : Nat →
  Option V) (n7 : Int) (h3 : Hp), I2 [V.int IntKind.i64 n7] h3 → bif !ltI n7 n6 then ((0 : Int) ≤ n7 ∧ n7 < (↑data_n : Int)) ∧ onS data fun (i7 o7 : Nat) => ∃ (n8 : Int), h3.ld i7 (o7 + n7.toNat * (1 : Nat)) = some (V.int IntKind.u64 n8) ∧
  ((0 : Int) ≤ a ∧ a < (↑data_n : Int)) ∧ onS data fun (i8 o8 : Nat) => ∃ (n9 : Int), h3.ld i8 (o8 + a.toNat * (1 : Nat)) = some (V.int IntKind.u64 n9) ∧ XCalls Try.prog (68 : Nat) [V.int IntKind.u64 n8, V.int IntKind.u64 n9] h3 fun (v2 : V)
  (h'4 : Hp) => ∃ (b2 : Bool), v2 = V.bool b2 ∧ bif !b2 then [V.slc data data_n data_f, V.int IntKind.i64 a, V.int IntKind.i64 n6] = [V.slc data data_n data_f, V.int IntKind.i64 a, V.int IntKind.i64 n6] ∧ I2 [V.int IntKind.i64
  (IntKind.i64.wrap (n7 - (1 : Int)))] h'4 ∧ x2 [V.int IntKind.i64 (IntKind.i64.wrap (n7 - (1 : Int)))] h'4 < x2 [V.int IntKind.i64 n7] h3 else [V.int IntKind.i64 n6, V.slc data data_n data_f, V.int IntKind.i64 a] = [V.int IntKind.i64 n6,
  V.slc data data_n data_f, V.int IntKind.i64 a] ∧ Q2 [V.int IntKind.i64 n7] h'4 else [V.int IntKind.i64 n6, V.slc data data_n data_f, V.int IntKind.i64 a] = [V.int IntKind.i64 n6, V.slc data data_n data_f, V.int IntKind.i64 a] ∧ Q2 [V.int
  IntKind.i64 n7] h3) ∧ ∀ (bs4 : Nat → Option V) (n10 : Int) (h4 : Hp), Q2 [V.int IntKind.i64 n10] h4 → bif ltI n10 n6 then ((0 : Int) ≤ a ∧ a < (↑data_n : Int)) ∧ onS data fun (i9 o9 : Nat) => ∃ (n11 : Int), h4.ld i9 (o9 + a.toNat * (1 :
  Nat)) = some (V.int IntKind.u64 n11) ∧ ((0 : Int) ≤ n10 ∧ n10 < (↑data_n : Int)) ∧ onS data fun (i10 o10 : Nat) => ∃ (n12 : Int), h4.ld i10 (o10 + n10.toNat * (1 : Nat)) = some (V.int IntKind.u64 n12) ∧ ((0 : Int) ≤ n10 ∧ n10 < (↑data_n :
  Int)) ∧ onS data fun (i11 o11 : Nat) => ∃ (h'5 : Hp), h4.st i11 (o11 + n10.toNat * (1 : Nat)) [V.int IntKind.u64 n11] = some h'5 ∧ V.int IntKind.i64 a = V.int IntKind.i64 a ∧ V.slc data data_n data_f = V.slc data data_n data_f ∧ ((0 : Int)
  ≤ a ∧ a < (↑data_n : Int)) ∧ onS data fun (i12 o12 : Nat) => ∃ (h'6 : Hp), h'5.st i12 (o12 + a.toNat * (1 : Nat)) [V.int IntKind.u64 n12] = some h'6 ∧ K (V.tup [V.int IntKind.i64 n10, V.bool true]) h'6 else ((0 : Int) ≤ n10 ∧ n10 <
  (↑data_n : Int)) ∧ onS data fun (i13 o13 : Nat) => ∃ (n13 : Int), h4.ld i13 (o13 + n10.toNat * (1 : Nat)) = some (V.int IntKind.u64 n13) ∧ ((0 : Int) ≤ n6 ∧ n6 < (↑data_n : Int)) ∧ onS data fun (i14 o14 : Nat) => ∃ (n14 : Int), h4.ld i14
  (o14 + n6.toNat * (1 : Nat)) = some (V.int IntKind.u64 n14) ∧ ((0 : Int) ≤ n6 ∧ n6 < (↑data_n : Int)) ∧ onS data fun (i15 o15 : Nat) => ∃ (h'7 : Hp), h4.st i15 (o15 + n6.toNat * (1 : Nat)) [V.int IntKind.u64 n13] = some h'7 ∧ V.int
  IntKind.i64 n10 = V.int IntKind.i64 n10 ∧ V.slc data data_n data_f = V.slc data data_n data_f ∧ ((0 : Int) ≤ n10 ∧ n10 < (↑data_n : Int)) ∧ onS data fun (i16 o16 : Nat) => ∃ (h'8 : Hp), h'7.st i16 (o16 + n10.toNat * (1 : Nat)) [V.int
  IntKind.u64 n14] = some h'8 ∧ ∃ (I3 : List V → Hp → Prop), ∃ (x3 : List V → Hp → Nat), ([V.slc data data_n data_f, V.int IntKind.i64 a] = [V.slc data data_n data_f, V.int IntKind.i64 a] ∧ I3 [V.int IntKind.i64 (IntKind.i64.wrap (n6 + (1 :
  Int))), V.int IntKind.i64 (IntKind.i64.wrap (n10 - (1 : Int)))] h'8) ∧ ∀ (bs5 : Nat → Option V) (n15 n16 : Int) (h5 : Hp), I3 [V.int IntKind.i64 n15, V.int IntKind.i64 n16] h5 → ∃ (Q3 : List V → Hp → Prop), (∃ (I4 : List V → Hp → Prop), ∃
  (x4 : List V → Hp → Nat), ([V.slc data data_n data_f, V.int IntKind.i64 a] = [V.slc data data_n data_f, V.int IntKind.i64 a] ∧ I4 [V.int IntKind.i64 n15, V.int IntKind.i64 n16] h5) ∧ ∀ (bs6 : Nat → Option V) (n17 n18 : Int) (h6 : Hp), I4
  [V.int IntKind.i64 n17, V.int IntKind.i64 n18] h6 → bif !ltI n18 n17 then ((0 : Int) ≤ n17 ∧ n17 < (↑data_n : Int)) ∧ onS data fun (i17 o17 : Nat) => ∃ (n19 : Int), h6.ld i17 (o17 + n17.toNat * (1 : Nat)) = some (V.int IntKind.u64 n19) ∧
  ((0 : Int) ≤ a ∧ a < (↑data_n : Int)) ∧ onS data fun (i18 o18 : Nat) => ∃ (n20 : Int), h6.ld i18 (o18 + a.toNat * (1 : Nat)) = some (V.int IntKind.u64 n20) ∧ XCalls Try.prog (68 : Nat) [V.int IntKind.u64 n19, V.int IntKind.u64 n20] h6 fun
  (v3 : V) (h'9 : Hp) => ∃ (b3 : Bool), v3 = V.bool b3 ∧ bif b3 then [V.slc data data_n data_f, V.int IntKind.i64 a] = [V.slc data data_n data_f, V.int IntKind.i64 a] ∧ I4 [V.int IntKind.i64 (IntKind.i64.wrap (n17 + (1 : Int))), V.int
  IntKind.i64 n18] h'9 ∧ x4 [V.int IntKind.i64 (IntKind.i64.wrap (n17 + (1 : Int))), V.int IntKind.i64 n18] h'9 < x4 [V.int IntKind.i64 n17, V.int IntKind.i64 n18] h6 else [V.int IntKind.i64 n18, V.slc data data_n data_f, V.int IntKind.i64
  a] = [V.int IntKind.i64 n16, V.slc data data_n data_f, V.int IntKind.i64 a] ∧ Q3 [V.int IntKind.i64 n17] h'9 else [V.int IntKind.i64 n18, V.slc data data_n data_f, V.int IntKind.i64 a] = [V.int IntKind.i64 n16, V.slc data data_n data_f,
  V.int IntKind.i64 a] ∧ Q3 [V.int IntKind.i64 n17] h6) ∧ ∀ (bs7 : Nat → Option V) (n21 : Int) (h7 : Hp), Q3 [V.int IntKind.i64 n21] h7 → ∃ (Q4 : List V → Hp → Prop), (∃ (I5 : List V → Hp → Prop), ∃ (x5 : List V → Hp → Nat), ([V.slc data
  data_n data_f, V.int IntKind.i64 a, V.int IntKind.i64 n21] = [V.slc data data_n data_f, V.int IntKind.i64 a, V.int IntKind.i64 n21] ∧ I5 [V.int IntKind.i64 n16] h7) ∧ ∀ (bs8 : Nat → Option V) (n22 : Int) (h8 : Hp), I5 [V.int IntKind.i64
  n22] h8 → bif !ltI n22 n21 then ((0 : Int) ≤ n22 ∧ n22 < (↑data_n : Int)) ∧ onS data fun (i19 o19 : Nat) => ∃ (n23 : Int), h8.ld i19 (o19 + n22.toNat * (1 : Nat)) = some (V.int IntKind.u64 n23) ∧ ((0 : Int) ≤ a ∧ a < (↑data_n : Int)) ∧ onS
  data fun (i20 o20 : Nat) => ∃ (n24 : Int), h8.ld i20 (o20 + a.toNat * (1 : Nat)) = some (V.int IntKind.u64 n24) ∧ XCalls Try.prog (68 : Nat) [V.int IntKind.u64 n23, V.int IntKind.u64 n24] h8 fun (v4 : V) (h'10 : Hp) => ∃ (b4 : Bool), v4 =
  V.bool b4 ∧ bif !b4 then [V.slc data data_n data_f, V.int IntKind.i64 a, V.int IntKind.i64 n21] = [V.slc data data_n data_f, V.int IntKind.i64 a, V.int IntKind.i64 n21] ∧ I5 [V.int IntKind.i64 (IntKind.i64.wrap (n22 - (1 : Int)))] h'10 ∧
  x5 [V.int IntKind.i64 (IntKind.i64.wrap (n22 - (1 : Int)))] h'10 < x5 [V.int IntKind.i64 n22] h8 else [V.int IntKind.i64 n21, V.slc data data_n data_f, V.int IntKind.i64 a] = [V.int IntKind.i64 n21, V.slc data data_n data_f, V.int
  IntKind.i64 a] ∧ Q4 [V.int IntKind.i64 n22] h'10 else [V.int IntKind.i64 n21, V.slc data data_n data_f, V.int IntKind.i64 a] = [V.int IntKind.i64 n21, V.slc data data_n data_f, V.int IntKind.i64 a] ∧ Q4 [V.int IntKind.i64 n22] h8) ∧ ∀ (bs9
  : Nat → Option V) (n25 : Int) (h9 : Hp), Q4 [V.int IntKind.i64 n25] h9 → bif ltI n25 n21 then ((0 : Int) ≤ a ∧ a < (↑data_n : Int)) ∧ onS data fun (i21 o21 : Nat) => ∃ (n26 : Int), h9.ld i21 (o21 + a.toNat * (1 : Nat)) = some (V.int
  IntKind.u64 n26) ∧ ((0 : Int) ≤ n25 ∧ n25 < (↑data_n : Int)) ∧ onS data fun (i22 o22 : Nat) => ∃ (n27 : Int), h9.ld i22 (o22 + n25.toNat * (1 : Nat)) = some (V.int IntKind.u64 n27) ∧ ((0 : Int) ≤ n25 ∧ n25 < (↑data_n : Int)) ∧ onS data fun
  (i23 o23 : Nat) => ∃ (h'11 : Hp), h9.st i23 (o23 + n25.toNat * (1 : Nat)) [V.int IntKind.u64 n26] = some h'11 ∧ V.int IntKind.i64 a = V.int IntKind.i64 a ∧ V.slc data data_n data_f = V.slc data data_n data_f ∧ ((0 : Int) ≤ a ∧ a < (↑data_n
  : Int)) ∧ onS data fun (i24 o24 : Nat) => ∃ (h'12 : Hp), h'11.st i24 (o24 + a.toNat * (1 : Nat)) [V.int IntKind.u64 n27] = some h'12 ∧ K (V.tup [V.int IntKind.i64 n25, V.bool false]) h'12 else ((0 : Int) ≤ n25 ∧ n25 < (↑data_n : Int)) ∧
  onS data fun (i25 o25 : Nat) => ∃ (n28 : Int), h9.ld i25 (o25 + n25.toNat * (1 : Nat)) = some (V.int IntKind.u64 n28) ∧ ((0 : Int) ≤ n21 ∧ n21 < (↑data_n : Int)) ∧ onS data fun (i26 o26 : Nat) => ∃ (n29 : Int), h9.ld i26 (o26 + n21.toNat *
  (1 : Nat)) = some (V.int IntKind.u64 n29) ∧ ((0 : Int) ≤ n21 ∧ n21 < (↑data_n : Int)) ∧ onS data fun (i27 o27 : Nat) => ∃ (h'13 : Hp), h9.st i27 (o27 + n21.toNat * (1 : Nat)) [V.int IntKind.u64 n28] = some h'13 ∧ V.int IntKind.i64 n25 =
  V.int IntKind.i64 n25 ∧ V.slc data data_n data_f = V.slc data data_n data_f ∧ ((0 : Int) ≤ n25 ∧ n25 < (↑data_n : Int)) ∧ onS data fun (i28 o28 : Nat) => ∃ (h'14 : Hp), h'13.st i28 (o28 + n25.toNat * (1 : Nat)) [V.int IntKind.u64 n29] =
  some h'14 ∧ [V.slc data data_n data_f, V.int IntKind.i64 a] = [V.slc data data_n data_f, V.int IntKind.i64 a] ∧ I3 [V.int IntKind.i64 (IntKind.i64.wrap (n21 + (1 : Int))), V.int IntKind.i64 (IntKind.i64.wrap (n25 - (1 : Int)))] h'14 ∧ x3
  [V.int IntKind.i64 (IntKind.i64.wrap (n21 + (1 : Int))), V.int IntKind.i64 (IntKind.i64.wrap (n25 - (1 : Int)))] h'14 < x3 [V.int IntKind.i64 n15, V.int IntKind.i64 n16] h5
theorem y70 (h : Hp) (K : V → Hp → Prop) (data : Option (Nat × Nat)) (data_n : Nat) (data_f : Bool) (a : Int) (b : Int) (pivot : Int) : X70 h K data data_n data_f a b pivot = fnX Try.prog T F jl70 jj70 Try.f70 [V.slc data data_n data_f,
  V.int IntKind.i64 a, V.int IntKind.i64 b, V.int IntKind.i64 pivot] h K := by kernel_rfl
theorem x70 {h : Hp} {K : V → Hp → Prop} (data : Option (Nat × Nat)) (data_n : Nat) (data_f : Bool) (a : Int) (b : Int) (pivot : Int) (hx : X70 h K data data_n data_f a b pivot) : XCalls Try.prog 70 [V.slc data data_n data_f, V.int IntKind.i64 a, V.int IntKind.i64 b, V.int IntKind.i64 pivot] h K :=
  XCalls.ofX tok fok mixed (JL := jl70) (JJ := jj70) Try.func70 ((y70 h K data data_n data_f a b pivot) ▸ hx)
/-! 69: slices.partitionEqualOrdered[uint64] -/
-- loop 5: stays data(0), a(1), i(9); turns j(10)
-- loop 3: stays data(0), a(1); turns i(9), j(10)
-- join 7: stays i(9), data(0), a(1); turns j(10)
-- join 5: stays j(10), data(0), a(1); turns i(9)
def jl69 : Nat → Option JT := fun r => bif Nat.beq r 5 then some ⟨[0, 1, 9], [10], [V.int IntKind.i64 (0 : Int)]⟩ else bif Nat.beq r 3 then some ⟨[0, 1], [9, 10], [V.int IntKind.i64 (0 : Int), V.int IntKind.i64 (0 : Int)]⟩ else none
def jj69 : Nat → Option JT := fun r => bif Nat.beq r 7 then some ⟨[9, 0, 1], [10], [V.int IntKind.i64 (0 : Int)]⟩ else bif Nat.beq r 5 then some ⟨[10, 0, 1], [9], [V.int IntKind.i64 (0 : Int)]⟩ else none
def X69 (h : Hp) (K : V → Hp → Prop) (data : Option (Nat × Nat)) (data_n : Nat) (data_f : Bool) (a : Int) (b : Int) (pivot : Int) : Prop := ((0 : Int) ≤ pivot ∧ pivot < (↑data_n : Int)) ∧ onS data fun (i1 o1 : Nat) => ∃ (n1 : Int), h.ld i1
  (o1 + pivot.toNat * (1 : Nat)) = some (V.int IntKind.u64 n1) ∧ ((0 : Int) ≤ a ∧ a < (↑data_n : Int)) ∧ onS data fun (i2 o2 : Nat) => ∃ (n2 : Int), h.ld i2 (o2 + a.toNat * (1 : Nat)) = some (V.int IntKind.u64 n2) ∧ ((0 : Int) ≤ a ∧ a <
  (↑data_n : Int)) ∧ onS data fun (i3 o3 : Nat) => ∃ (h'1 : Hp), h.st i3 (o3 + a.toNat * (1 : Nat)) [V.int IntKind.u64 n1] = some h'1 ∧ V.int IntKind.i64 pivot = V.int IntKind.i64 pivot ∧ V.slc data data_n data_f = V.slc data data_n data_f ∧
  ((0 : Int) ≤ pivot ∧ pivot < (↑data_n : Int)) ∧ onS data fun (i4 o4 : Nat) => ∃ (h'2 : Hp), h'1.st i4 (o4 + pivot.toNat * (1 : Nat)) [V.int IntKind.u64 n2] = some h'2 ∧ ∃ (I1 : List V → Hp → Prop), ∃ (x1 : List V → Hp → Nat), ([V.slc data
  data_n data_f, V.int IntKind.i64 a] = [V.slc data data_n data_f, V.int IntKind.i64 a] ∧ I1 [V.int IntKind.i64 (IntKind.i64.wrap (a + (1 : Int))), V.int IntKind.i64 (IntKind.i64.wrap (b - (1 : Int)))] h'2) ∧ ∀ (bs1 : Nat → Option V) (n3 n4
  : Int) (h1 : Hp), I1 [V.int IntKind.i64 n3, V.int IntKind.i64 n4] h1 → ∃ (Q1 : List V → Hp → Prop), (∃ (I2 : List V → Hp → Prop), ∃ (x2 : List V → Hp → Nat), ([V.slc data data_n data_f, V.int IntKind.i64 a] = [V.slc data data_n data_f,
  V.int IntKind.i64 a] ∧ I2 [V.int IntKind.i64 n3, V.int IntKind.i64 n4] h1) ∧ ∀ (bs2 : Nat → Option V) (n5 n6 : Int) (h2 : Hp), I2 [V.int IntKind.i64 n5, V.int IntKind.i64 n6] h2 → bif !ltI n6 n5 then ((0 : Int) ≤ a ∧ a < (↑data_n : Int)) ∧
  onS data fun (i5 o5 : Nat) => ∃ (n7 : Int), h2.ld i5 (o5 + a.toNat * (1 : Nat)) = some (V.int IntKind.u64 n7) ∧ ((0 : Int) ≤ n5 ∧ n5 < (↑data_n : Int)) ∧ onS data fun (i6 o6 : Nat) => ∃ (n8 : Int), h2.ld i6 (o6 + n5.toNat * (1 : Nat)) =
  some (V.int IntKind.u64 n8) ∧ XCalls Try.prog (68 : Nat) [V.int IntKind.u64 n7, V.int IntKind.u64 n8] h2 fun (v1 : V) (h'3 : Hp) => ∃ (b1 : Bool), v1 = V.bool b1 ∧ bif !b1 then [V.slc data data_n data_f, V.int IntKind.i64 a] = [V.slc data
  data_n data_f, V.int IntKind.i64 a] ∧ I2 [V.int IntKind.i64 (IntKind.i64.wrap (n5 + (1 : Int))), V.int IntKind.i64 n6] h'3 ∧ x2 [V.int IntKind.i64 (IntKind.i64.wrap (n5 + (1 : Int))), V.int IntKind.i64 n6] h'3 < x2 [V.int IntKind.i64 n5,
  V.int IntKind.i64 n6] h2 else [V.int IntKind.i64 n6, V.slc data data_n data_f, V.int IntKind.i64 a] = [V.int IntKind.i64 n4, V.slc data data_n data_f, V.int IntKind.i64 a] ∧ Q1 [V.int IntKind.i64 n5] h'3 else [V.int IntKind.i64 n6, V.slc
  data data_n data_f, V.int IntKind.i64 a] = [V.int IntKind.i64 n4, V.slc data data_n data_f, V.int IntKind.i64 a] ∧ Q1 [V.int IntKind.i64 n5] h2) ∧ ∀ (bs3 : Nat → Option V) (n9 : Int) (h3 : Hp), Q1 [V.int IntKind.i64 n9] h3 → ∃ (Q2 : List V
  → Hp → Prop), (∃ (I3 : List V → Hp → Prop), ∃ (x3 : List V → Hp → Nat), ([V.slc data data_n data_f, V.int IntKind.i64 a, V.int IntKind.i64 n9] = [V.slc data data_n data_f, V.int IntKind.i64 a, V.int IntKind.i64 n9] ∧ I3 [V.int IntKind.i64
  n4] h3) ∧ ∀ (bs4 : Nat → Option V) (n10 : Int) (h4 : Hp), I3 [V.int IntKind.i64 n10] h4 → bif !ltI n10 n9 then ((0 : Int) ≤ a ∧ a < (↑data_n : Int)) ∧ onS data fun (i7 o7 : Nat) => ∃ (n11 : Int), h4.ld i7 (o7 + a.toNat * (1 : Nat)) = some
  (V.int IntKind.u64 n11) ∧ ((0 : Int) ≤ n10 ∧ n10 < (↑data_n : Int)) ∧ onS data fun (i8 o8 : Nat) => ∃ (n12 : Int), h4.ld i8 (o8 + n10.toNat * (1 : Nat)) = some (V.int IntKind.u64 n12) ∧ XCalls Try.prog (68 : Nat) [V.int IntKind.u64 n11,
  V.int IntKind.u64 n12] h4 fun (v2 : V) (h'4 : Hp) => ∃ (b2 : Bool), v2 = V.bool b2 ∧ bif b2 then [V.slc data data_n data_f, V.int IntKind.i64 a, V.int IntKind.i64 n9] = [V.slc data data_n data_f, V.int IntKind.i64 a, V.int IntKind.i64 n9]
  ∧ I3 [V.int IntKind.i64 (IntKind.i64.wrap (n10 - (1 : Int)))] h'4 ∧ x3 [V.int IntKind.i64 (IntKind.i64.wrap (n10 - (1 : Int)))] h'4 < x3 [V.int IntKind.i64 n10] h4 else [V.int IntKind.i64 n9, V.slc data data_n data_f, V.int IntKind.i64 a]
  = [V.int IntKind.i64 n9, V.slc data data_n data_f, V.int IntKind.i64 a] ∧ Q2 [V.int IntKind.i64 n10] h'4 else [V.int IntKind.i64 n9, V.slc data data_n data_f, V.int IntKind.i64 a] = [V.int IntKind.i64 n9, V.slc data data_n data_f, V.int
  IntKind.i64 a] ∧ Q2 [V.int IntKind.i64 n10] h4) ∧ ∀ (bs5 : Nat → Option V) (n13 : Int) (h5 : Hp), Q2 [V.int IntKind.i64 n13] h5 → bif ltI n13 n9 then K (V.int IntKind.i64 n9) h5 else ((0 : Int) ≤ n13 ∧ n13 < (↑data_n : Int)) ∧ onS data fun
  (i9 o9 : Nat) => ∃ (n14 : Int), h5.ld i9 (o9 + n13.toNat * (1 : Nat)) = some (V.int IntKind.u64 n14) ∧ ((0 : Int) ≤ n9 ∧ n9 < (↑data_n : Int)) ∧ onS data fun (i10 o10 : Nat) => ∃ (n15 : Int), h5.ld i10 (o10 + n9.toNat * (1 : Nat)) = some
  (V.int IntKind.u64 n15) ∧ ((0 : Int) ≤ n9 ∧ n9 < (↑data_n : Int)) ∧ onS data fun (i11 o11 : Nat) => ∃ (h'5 : Hp), h5.st i11 (o11 + n9.toNat * (1 : Nat)) [V.int IntKind.u64 n14] = some h'5 ∧ V.int IntKind.i64 n13 = V.int IntKind.i64 n13 ∧
  V.slc data data_n data_f = V.slc data data_n data_f ∧ ((0 : Int) ≤ n13 ∧ n13 < (↑data_n : Int)) ∧ onS data fun (i12 o12 : Nat) => ∃ (h'6 : Hp), h'5.st i12 (o12 + n13.toNat * (1 : Nat)) [V.int IntKind.u64 n15] = some h'6 ∧ [V.slc data
  data_n data_f, V.int IntKind.i64 a] = [V.slc data data_n data_f, V.int IntKind.i64 a] ∧ I1 [V.int IntKind.i64 (IntKind.i64.wrap (n9 + (1 : Int))), V.int IntKind.i64 (IntKind.i64.wrap (n13 - (1 : Int)))] h'6 ∧ x1 [V.int IntKind.i64
  (IntKind.i64.wrap (n9 + (1 : Int))), V.int IntKind.i64 (IntKind.i64.wrap (n13 - (1 : Int)))] h'6 < x1 [V.int IntKind.i64 n3, V.int IntKind.i64 n4] h1
theorem y69 (h : Hp) (K : V → Hp → Prop) (data : Option (Nat × Nat)) (data_n : Nat) (data_f : Bool) (a : Int) (b : Int) (pivot : Int) : X69 h K data data_n data_f a b pivot = fnX Try.prog T F jl69 jj69 Try.f69 [V.slc data data_n data_f,
  V.int IntKind.i64 a, V.int IntKind.i64 b, V.int IntKind.i64 pivot] h K := by kernel_rfl
theorem x69 {h : Hp} {K : V → Hp → Prop} (data : Option (Nat × Nat)) (data_n : Nat) (data_f : Bool) (a : Int) (b : Int) (pivot : Int) (hx : X69 h K data data_n data_f a b pivot) : XCalls Try.prog 69 [V.slc data data_n data_f, V.int IntKind.i64 a, V.int IntKind.i64 b, V.int IntKind.i64 pivot] h K :=
  XCalls.ofX tok fok mixed (JL := jl69) (JJ := jj69) Try.func69 ((y69 h K data data_n data_f a b pivot) ▸ hx)
/-! 67: slices.partialInsertionSortOrdered[uint64] -/
-- loop 20: stays data(0), a(1), b(2), i(7), j(8); turns j(10)
-- loop 14: stays data(0), a(1), b(2), i(7), j(8); turns j(9)
-- loop 5: stays data(0), a(1), b(2), j(8); turns i(7)
-- loop 3: stays data(0), a(1), b(2); turns i(7), j(8)
-- join 18: stays b(2), i(7), data(0), j(8), a(1); turns 
-- join 7: stays b(2), a(1), data(0), j(8); turns i(7)
def jl67 : Nat → Option JT := fun r => bif Nat.beq r 20 then some ⟨[0, 1, 2, 7, 8], [10], [V.int IntKind.i64 (0 : Int)]⟩ else bif Nat.beq r 14 then some ⟨[0, 1, 2, 7, 8], [9], [V.int IntKind.i64 (0 : Int)]⟩ else bif Nat.beq r 5 then some
  ⟨[0, 1, 2, 8], [7], [V.int IntKind.i64 (0 : Int)]⟩ else bif Nat.beq r 3 then some ⟨[0, 1, 2], [7, 8], [V.int IntKind.i64 (0 : Int), V.int IntKind.i64 (0 : Int)]⟩ else none
def jj67 : Nat → Option JT := fun r => bif Nat.beq r 18 then some ⟨[2, 7, 0, 8, 1], [], []⟩ else bif Nat.beq r 7 then some ⟨[2, 1, 0, 8], [7], [V.int IntKind.i64 (0 : Int)]⟩ else none
def X67 (h : Hp) (K : V → Hp → Prop) (data : Option (Nat × Nat)) (data_n : Nat) (data_f : Bool) (a : Int) (b : Int) : Prop := ∃ (I1 : List V → Hp → Prop), ∃ (x1 : List V → Hp → Nat), ([V.slc data data_n data_f, V.int IntKind.i64 a, V.int
  IntKind.i64 b] = [V.slc data data_n data_f, V.int IntKind.i64 a, V.int IntKind.i64 b] ∧ I1 [V.int IntKind.i64 (IntKind.i64.wrap (a + (1 : Int))), V.int IntKind.i64 (0 : Int)] h) ∧ ∀ (bs1 : Nat → Option V) (n1 n2 : Int) (h1 : Hp), I1 [V.int
  IntKind.i64 n1, V.int IntKind.i64 n2] h1 → bif ltI n2 (5 : Int) then ∃ (Q1 : List V → Hp → Prop), (∃ (I2 : List V → Hp → Prop), ∃ (x2 : List V → Hp → Nat), ([V.slc data data_n data_f, V.int IntKind.i64 a, V.int IntKind.i64 b, V.int
  IntKind.i64 n2] = [V.slc data data_n data_f, V.int IntKind.i64 a, V.int IntKind.i64 b, V.int IntKind.i64 n2] ∧ I2 [V.int IntKind.i64 n1] h1) ∧ ∀ (bs2 : Nat → Option V) (n3 : Int) (h2 : Hp), I2 [V.int IntKind.i64 n3] h2 → bif ltI n3 b then
  ((0 : Int) ≤ n3 ∧ n3 < (↑data_n : Int)) ∧ onS data fun (i1 o1 : Nat) => ∃ (n4 : Int), h2.ld i1 (o1 + n3.toNat * (1 : Nat)) = some (V.int IntKind.u64 n4) ∧ ((0 : Int) ≤ IntKind.i64.wrap (n3 - (1 : Int)) ∧ IntKind.i64.wrap (n3 - (1 : Int)) <
  (↑data_n : Int)) ∧ onS data fun (i2 o2 : Nat) => ∃ (n5 : Int), h2.ld i2 (o2 + (IntKind.i64.wrap (n3 - (1 : Int))).toNat * (1 : Nat)) = some (V.int IntKind.u64 n5) ∧ XCalls Try.prog (68 : Nat) [V.int IntKind.u64 n4, V.int IntKind.u64 n5] h2
  fun (v1 : V) (h'1 : Hp) => ∃ (b1 : Bool), v1 = V.bool b1 ∧ bif !b1 then [V.slc data data_n data_f, V.int IntKind.i64 a, V.int IntKind.i64 b, V.int IntKind.i64 n2] = [V.slc data data_n data_f, V.int IntKind.i64 a, V.int IntKind.i64 b, V.int
  IntKind.i64 n2] ∧ I2 [V.int IntKind.i64 (IntKind.i64.wrap (n3 + (1 : Int)))] h'1 ∧ x2 [V.int IntKind.i64 (IntKind.i64.wrap (n3 + (1 : Int)))] h'1 < x2 [V.int IntKind.i64 n3] h2 else [V.int IntKind.i64 b, V.int IntKind.i64 a, V.slc data
  data_n data_f, V.int IntKind.i64 n2] = [V.int IntKind.i64 b, V.int IntKind.i64 a, V.slc data data_n data_f, V.int IntKind.i64 n2] ∧ Q1 [V.int IntKind.i64 n3] h'1 else [V.int IntKind.i64 b, V.int IntKind.i64 a, V.slc data data_n data_f,
  V.int IntKind.i64 n2] = [V.int IntKind.i64 b, V.int IntKind.i64 a, V.slc data data_n data_f, V.int IntKind.i64 n2] ∧ Q1 [V.int IntKind.i64 n3] h2) ∧ ∀ (bs3 : Nat → Option V) (n6 : Int) (h3 : Hp), Q1 [V.int IntKind.i64 n6] h3 → bif n6 == b
  then K (V.bool true) h3 else bif ltI (IntKind.i64.wrap (b - a)) (50 : Int) then K (V.bool false) h3 else ((0 : Int) ≤ IntKind.i64.wrap (n6 - (1 : Int)) ∧ IntKind.i64.wrap (n6 - (1 : Int)) < (↑data_n : Int)) ∧ onS data fun (i3 o3 : Nat) =>
  ∃ (n7 : Int), h3.ld i3 (o3 + (IntKind.i64.wrap (n6 - (1 : Int))).toNat * (1 : Nat)) = some (V.int IntKind.u64 n7) ∧ ((0 : Int) ≤ n6 ∧ n6 < (↑data_n : Int)) ∧ onS data fun (i4 o4 : Nat) => ∃ (n8 : Int), h3.ld i4 (o4 + n6.toNat * (1 : Nat))
  = some (V.int IntKind.u64 n8) ∧ ((0 : Int) ≤ n6 ∧ n6 < (↑data_n : Int)) ∧ onS data fun (i5 o5 : Nat) => ∃ (h'2 : Hp), h3.st i5 (o5 + n6.toNat * (1 : Nat)) [V.int IntKind.u64 n7] = some h'2 ∧ V.int IntKind.i64 (IntKind.i64.wrap (n6 - (1 :
  Int))) = V.int IntKind.i64 (IntKind.i64.wrap (n6 - (1 : Int))) ∧ V.int IntKind.i64 n6 = V.int IntKind.i64 n6 ∧ V.slc data data_n data_f = V.slc data data_n data_f ∧ ((0 : Int) ≤ IntKind.i64.wrap (n6 - (1 : Int)) ∧ IntKind.i64.wrap (n6 - (1
  : Int)) < (↑data_n : Int)) ∧ onS data fun (i6 o6 : Nat) => ∃ (h'3 : Hp), h'2.st i6 (o6 + (IntKind.i64.wrap (n6 - (1 : Int))).toNat * (1 : Nat)) [V.int IntKind.u64 n8] = some h'3 ∧ ∃ (Q2 : List V → Hp → Prop), (bif !ltI (IntKind.i64.wrap
  (n6 - a)) (2 : Int) then ∃ (I3 : List V → Hp → Prop), ∃ (x3 : List V → Hp → Nat), ([V.slc data data_n data_f, V.int IntKind.i64 a, V.int IntKind.i64 b, V.int IntKind.i64 n6, V.int IntKind.i64 n2] = [V.slc data data_n data_f, V.int
  IntKind.i64 a, V.int IntKind.i64 b, V.int IntKind.i64 n6, V.int IntKind.i64 n2] ∧ I3 [V.int IntKind.i64 (IntKind.i64.wrap (n6 - (1 : Int)))] h'3) ∧ ∀ (bs4 : Nat → Option V) (n9 : Int) (h4 : Hp), I3 [V.int IntKind.i64 n9] h4 → bif !ltI n9
  (1 : Int) then ((0 : Int) ≤ n9 ∧ n9 < (↑data_n : Int)) ∧ onS data fun (i7 o7 : Nat) => ∃ (n10 : Int), h4.ld i7 (o7 + n9.toNat * (1 : Nat)) = some (V.int IntKind.u64 n10) ∧ ((0 : Int) ≤ IntKind.i64.wrap (n9 - (1 : Int)) ∧ IntKind.i64.wrap
  (n9 - (1 : Int)) < (↑data_n : Int)) ∧ onS data fun (i8 o8 : Nat) => ∃ (n11 : Int), h4.ld i8 (o8 + (IntKind.i64.wrap (n9 - (1 : Int))).toNat * (1 : Nat)) = some (V.int IntKind.u64 n11) ∧ XCalls Try.prog (68 : Nat) [V.int IntKind.u64 n10,
  V.int IntKind.u64 n11] h4 fun (v2 : V) (h'4 : Hp) => ∃ (b2 : Bool), v2 = V.bool b2 ∧ bif !b2 then [V.int IntKind.i64 b, V.int IntKind.i64 n6, V.slc data data_n data_f, V.int IntKind.i64 n2, V.int IntKind.i64 a] = [V.int IntKind.i64 b,
  V.int IntKind.i64 n6, V.slc data data_n data_f, V.int IntKind.i64 n2, V.int IntKind.i64 a] ∧ Q2 [] h'4 else ((0 : Int) ≤ IntKind.i64.wrap (n9 - (1 : Int)) ∧ IntKind.i64.wrap (n9 - (1 : Int)) < (↑data_n : Int)) ∧ onS data fun (i9 o9 : Nat)
  => ∃ (n12 : Int), h'4.ld i9 (o9 + (IntKind.i64.wrap (n9 - (1 : Int))).toNat * (1 : Nat)) = some (V.int IntKind.u64 n12) ∧ ((0 : Int) ≤ n9 ∧ n9 < (↑data_n : Int)) ∧ onS data fun (i10 o10 : Nat) => ∃ (n13 : Int), h'4.ld i10 (o10 + n9.toNat *
  (1 : Nat)) = some (V.int IntKind.u64 n13) ∧ ((0 : Int) ≤ n9 ∧ n9 < (↑data_n : Int)) ∧ onS data fun (i11 o11 : Nat) => ∃ (h'5 : Hp), h'4.st i11 (o11 + n9.toNat * (1 : Nat)) [V.int IntKind.u64 n12] = some h'5 ∧ V.int IntKind.i64
  (IntKind.i64.wrap (n9 - (1 : Int))) = V.int IntKind.i64 (IntKind.i64.wrap (n9 - (1 : Int))) ∧ V.int IntKind.i64 n9 = V.int IntKind.i64 n9 ∧ V.slc data data_n data_f = V.slc data data_n data_f ∧ ((0 : Int) ≤ IntKind.i64.wrap (n9 - (1 :
  Int)) ∧ IntKind.i64.wrap (n9 - (1 : Int)) < (↑data_n : Int)) ∧ onS data fun (i12 o12 : Nat) => ∃ (h'6 : Hp), h'5.st i12 (o12 + (IntKind.i64.wrap (n9 - (1 : Int))).toNat * (1 : Nat)) [V.int IntKind.u64 n13] = some h'6 ∧ [V.slc data data_n
  data_f, V.int IntKind.i64 a, V.int IntKind.i64 b, V.int IntKind.i64 n6, V.int IntKind.i64 n2] = [V.slc data data_n data_f, V.int IntKind.i64 a, V.int IntKind.i64 b, V.int IntKind.i64 n6, V.int IntKind.i64 n2] ∧ I3 [V.int IntKind.i64
  (IntKind.i64.wrap (n9 - (1 : Int)))] h'6 ∧ x3 [V.int IntKind.i64 (IntKind.i64.wrap (n9 - (1 : Int)))] h'6 < x3 [V.int IntKind.i64 n9] h4 else [V.int IntKind.i64 b, V.int IntKind.i64 n6, V.slc data data_n data_f, V.int IntKind.i64 n2, V.int
  IntKind.i64 a] = [V.int IntKind.i64 b, V.int IntKind.i64 n6, V.slc data data_n data_f, V.int IntKind.i64 n2, V.int IntKind.i64 a] ∧ Q2 [] h4 else [V.int IntKind.i64 b, V.int IntKind.i64 n6, V.slc data data_n data_f, V.int IntKind.i64 n2,
  V.int IntKind.i64 a] = [V.int IntKind.i64 b, V.int IntKind.i64 n6, V.slc data data_n data_f, V.int IntKind.i64 n2, V.int IntKind.i64 a] ∧ Q2 [] h'3) ∧ ∀ (bs5 : Nat → Option V) (h5 : Hp), Q2 [] h5 → bif !ltI (IntKind.i64.wrap (b - n6)) (2 :
  Int) then ∃ (I4 : List V → Hp → Prop), ∃ (x4 : List V → Hp → Nat), ([V.slc data data_n data_f, V.int IntKind.i64 a, V.int IntKind.i64 b, V.int IntKind.i64 n6, V.int IntKind.i64 n2] = [V.slc data data_n data_f, V.int IntKind.i64 a, V.int
  IntKind.i64 b, V.int IntKind.i64 n6, V.int IntKind.i64 n2] ∧ I4 [V.int IntKind.i64 (IntKind.i64.wrap (n6 + (1 : Int)))] h5) ∧ ∀ (bs6 : Nat → Option V) (n14 : Int) (h6 : Hp), I4 [V.int IntKind.i64 n14] h6 → bif ltI n14 b then ((0 : Int) ≤
  n14 ∧ n14 < (↑data_n : Int)) ∧ onS data fun (i13 o13 : Nat) => ∃ (n15 : Int), h6.ld i13 (o13 + n14.toNat * (1 : Nat)) = some (V.int IntKind.u64 n15) ∧ ((0 : Int) ≤ IntKind.i64.wrap (n14 - (1 : Int)) ∧ IntKind.i64.wrap (n14 - (1 : Int)) <
  (↑data_n : Int)) ∧ onS data fun (i14 o14 : Nat) => ∃ (n16 : Int), h6.ld i14 (o14 + (IntKind.i64.wrap (n14 - (1 : Int))).toNat * (1 : Nat)) = some (V.int IntKind.u64 n16) ∧ XCalls Try.prog (68 : Nat) [V.int IntKind.u64 n15, V.int
  IntKind.u64 n16] h6 fun (v3 : V) (h'7 : Hp) => ∃ (b3 : Bool), v3 = V.bool b3 ∧ bif !b3 then [V.slc data data_n data_f, V.int IntKind.i64 a, V.int IntKind.i64 b] = [V.slc data data_n data_f, V.int IntKind.i64 a, V.int IntKind.i64 b] ∧ I1
  [V.int IntKind.i64 n6, V.int IntKind.i64 (IntKind.i64.wrap (n2 + (1 : Int)))] h'7 ∧ x1 [V.int IntKind.i64 n6, V.int IntKind.i64 (IntKind.i64.wrap (n2 + (1 : Int)))] h'7 < x1 [V.int IntKind.i64 n1, V.int IntKind.i64 n2] h1 else ((0 : Int) ≤
  IntKind.i64.wrap (n14 - (1 : Int)) ∧ IntKind.i64.wrap (n14 - (1 : Int)) < (↑data_n : Int)) ∧ onS data fun (i15 o15 : Nat) => ∃ (n17 : Int), h'7.ld i15 (o15 + (IntKind.i64.wrap (n14 - (1 : Int))).toNat * (1 : Nat)) = some (V.int IntKind.u64
  n17) ∧ ((0 : Int) ≤ n14 ∧ n14 < (↑data_n : Int)) ∧ onS data fun (i16 o16 : Nat) => ∃ (n18 : Int), h'7.ld i16 (o16 + n14.toNat * (1 : Nat)) = some (V.int IntKind.u64 n18) ∧ ((0 : Int) ≤ n14 ∧ n14 < (↑data_n : Int)) ∧ onS data fun (i17 o17 :
  Nat) => ∃ (h'8 : Hp), h'7.st i17 (o17 + n14.toNat * (1 : Nat)) [V.int IntKind.u64 n17] = some h'8 ∧ V.int IntKind.i64 (IntKind.i64.wrap (n14 - (1 : Int))) = V.int IntKind.i64 (IntKind.i64.wrap (n14 - (1 : Int))) ∧ V.int IntKind.i64 n14 =
  V.int IntKind.i64 n14 ∧ V.slc data data_n data_f = V.slc data data_n data_f ∧ ((0 : Int) ≤ IntKind.i64.wrap (n14 - (1 : Int)) ∧ IntKind.i64.wrap (n14 - (1 : Int)) < (↑data_n : Int)) ∧ onS data fun (i18 o18 : Nat) => ∃ (h'9 : Hp), h'8.st
  i18 (o18 + (IntKind.i64.wrap (n14 - (1 : Int))).toNat * (1 : Nat)) [V.int IntKind.u64 n18] = some h'9 ∧ [V.slc data data_n data_f, V.int IntKind.i64 a, V.int IntKind.i64 b, V.int IntKind.i64 n6, V.int IntKind.i64 n2] = [V.slc data data_n
  data_f, V.int IntKind.i64 a, V.int IntKind.i64 b, V.int IntKind.i64 n6, V.int IntKind.i64 n2] ∧ I4 [V.int IntKind.i64 (IntKind.i64.wrap (n14 + (1 : Int)))] h'9 ∧ x4 [V.int IntKind.i64 (IntKind.i64.wrap (n14 + (1 : Int)))] h'9 < x4 [V.int
  IntKind.i64 n14] h6 else [V.slc data data_n data_f, V.int IntKind.i64 a, V.int IntKind.i64 b] = [V.slc data data_n data_f, V.int IntKind.i64 a, V.int IntKind.i64 b] ∧ I1 [V.int IntKind.i64 n6, V.int IntKind.i64 (IntKind.i64.wrap (n2 + (1 :
  Int)))] h6 ∧ x1 [V.int IntKind.i64 n6, V.int IntKind.i64 (IntKind.i64.wrap (n2 + (1 : Int)))] h6 < x1 [V.int IntKind.i64 n1, V.int IntKind.i64 n2] h1 else [V.slc data data_n data_f, V.int IntKind.i64 a, V.int IntKind.i64 b] = [V.slc data
  data_n data_f, V.int IntKind.i64 a, V.int IntKind.i64 b] ∧ I1 [V.int IntKind.i64 n6, V.int IntKind.i64 (IntKind.i64.wrap (n2 + (1 : Int)))] h5 ∧ x1 [V.int IntKind.i64 n6, V.int IntKind.i64 (IntKind.i64.wrap (n2 + (1 : Int)))] h5 < x1
  [V.int IntKind.i64 n1, V.int IntKind.i64 n2] h1 else K (V.bool false) h1
theorem y67 (h : Hp) (K : V → Hp → Prop) (data : Option (Nat × Nat)) (data_n : Nat) (data_f : Bool) (a : Int) (b : Int) : X67 h K data data_n data_f a b = fnX Try.prog T F jl67 jj67 Try.f67 [V.slc data data_n data_f, V.int IntKind.i64 a, V.int IntKind.i64 b] h K := by kernel_rfl
theorem x67 {h : Hp} {K : V → Hp → Prop} (data : Option (Nat × Nat)) (data_n : Nat) (data_f : Bool) (a : Int) (b : Int) (hx : X67 h K data data_n data_f a b) : XCalls Try.prog 67 [V.slc data data_n data_f, V.int IntKind.i64 a, V.int IntKind.i64 b] h K :=
  XCalls.ofX tok fok mixed (JL := jl67) (JJ := jj67) Try.func67 ((y67 h K data data_n data_f a b) ▸ hx)
/-! 58: slices.pdqsortOrdered[uint64] -/
-- loop 2: stays data(0); turns a(1), b(2), limit(3), wasBalanced(8), wasPartitioned(9)
-- join 20: stays data(0), b(2), pivot(11), length(10), limit(3); turns a(1)
-- join 17: stays a(1), data(0), pivot(11), b(2), limit(3), wasBalanced(8), wasPartitioned(9), length(10); turns 
-- join 15: stays wasBalanced(8), wasPartitioned(9), data(0), a(1), b(2), limit(3), length(10); turns hint(12), pivot(11)
-- join 10: stays data(0), a(1), b(2), wasBalanced(8), wasPartitioned(9), length(10); turns limit(3)
def jl58 : Nat → Option JT := fun r => bif Nat.beq r 2 then some ⟨[0], [1, 2, 3, 8, 9], [V.int IntKind.i64 (0 : Int), V.int IntKind.i64 (0 : Int), V.int IntKind.i64 (0 : Int), V.bool false, V.bool false]⟩ else none
def jj58 : Nat → Option JT := fun r => bif Nat.beq r 20 then some ⟨[0, 2, 11, 10, 3], [1], [V.int IntKind.i64 (0 : Int)]⟩ else bif Nat.beq r 17 then some ⟨[1, 0, 11, 2, 3, 8, 9, 10], [], []⟩ else bif Nat.beq r 15 then some ⟨[8, 9, 0, 1, 2,
  3, 10], [12, 11], [V.int IntKind.i64 (0 : Int), V.int IntKind.i64 (0 : Int)]⟩ else bif Nat.beq r 10 then some ⟨[0, 1, 2, 8, 9, 10], [3], [V.int IntKind.i64 (0 : Int)]⟩ else none
def X58 (h : Hp) (K : V → Hp → Prop) (data : Option (Nat × Nat)) (data_n : Nat) (data_f : Bool) (a : Int) (b : Int) (limit : Int) : Prop := ∃ (I1 : List V → Hp → Prop), ∃ (x1 : List V → Hp → Nat), ([V.slc data data_n data_f] = [V.slc data
  data_n data_f] ∧ I1 [V.int IntKind.i64 a, V.int IntKind.i64 b, V.int IntKind.i64 limit, V.bool true, V.bool true] h) ∧ ∀ (bs1 : Nat → Option V) (n1 n2 n3 : Int) (b1 b2 : Bool) (h1 : Hp), I1 [V.int IntKind.i64 n1, V.int IntKind.i64 n2,
  V.int IntKind.i64 n3, V.bool b1, V.bool b2] h1 → bif !ltI (12 : Int) (IntKind.i64.wrap (n2 - n1)) then XCalls Try.prog (62 : Nat) [V.slc data data_n data_f, V.int IntKind.i64 n1, V.int IntKind.i64 n2] h1 fun (v1 : V) (h'1 : Hp) => K (V.tup
  []) h'1 else bif n3 == (0 : Int) then XCalls Try.prog (63 : Nat) [V.slc data data_n data_f, V.int IntKind.i64 n1, V.int IntKind.i64 n2] h1 fun (v2 : V) (h'2 : Hp) => K (V.tup []) h'2 else ∃ (Q1 : List V → Hp → Prop), (bif !b1 then XCalls
  Try.prog (64 : Nat) [V.slc data data_n data_f, V.int IntKind.i64 n1, V.int IntKind.i64 n2] h1 fun (v3 : V) (h'3 : Hp) => [V.slc data data_n data_f, V.int IntKind.i64 n1, V.int IntKind.i64 n2, V.bool b1, V.bool b2, V.int IntKind.i64
  (IntKind.i64.wrap (n2 - n1))] = [V.slc data data_n data_f, V.int IntKind.i64 n1, V.int IntKind.i64 n2, V.bool b1, V.bool b2, V.int IntKind.i64 (IntKind.i64.wrap (n2 - n1))] ∧ Q1 [V.int IntKind.i64 (IntKind.i64.wrap (n3 - (1 : Int)))] h'3
  else [V.slc data data_n data_f, V.int IntKind.i64 n1, V.int IntKind.i64 n2, V.bool b1, V.bool b2, V.int IntKind.i64 (IntKind.i64.wrap (n2 - n1))] = [V.slc data data_n data_f, V.int IntKind.i64 n1, V.int IntKind.i64 n2, V.bool b1, V.bool
  b2, V.int IntKind.i64 (IntKind.i64.wrap (n2 - n1))] ∧ Q1 [V.int IntKind.i64 n3] h1) ∧ ∀ (bs2 : Nat → Option V) (n4 : Int) (h2 : Hp), Q1 [V.int IntKind.i64 n4] h2 → XCalls Try.prog (65 : Nat) [V.slc data data_n data_f, V.int IntKind.i64 n1,
  V.int IntKind.i64 n2] h2 fun (v4 : V) (h'4 : Hp) => ∃ (n5 : Int), ∃ (n6 : Int), v4 = V.tup [V.int IntKind.i64 n5, V.int IntKind.i64 n6] ∧ ∃ (Q2 : List V → Hp → Prop), (bif n6 == (2 : Int) then XCalls Try.prog (66 : Nat) [V.slc data data_n
  data_f, V.int IntKind.i64 n1, V.int IntKind.i64 n2] h'4 fun (v5 : V) (h'5 : Hp) => [V.bool b1, V.bool b2, V.slc data data_n data_f, V.int IntKind.i64 n1, V.int IntKind.i64 n2, V.int IntKind.i64 n4, V.int IntKind.i64 (IntKind.i64.wrap (n2 -
  n1))] = [V.bool b1, V.bool b2, V.slc data data_n data_f, V.int IntKind.i64 n1, V.int IntKind.i64 n2, V.int IntKind.i64 n4, V.int IntKind.i64 (IntKind.i64.wrap (n2 - n1))] ∧ Q2 [V.int IntKind.i64 (1 : Int), V.int IntKind.i64
  (IntKind.i64.wrap (IntKind.i64.wrap (n2 - (1 : Int)) - IntKind.i64.wrap (n5 - n1)))] h'5 else [V.bool b1, V.bool b2, V.slc data data_n data_f, V.int IntKind.i64 n1, V.int IntKind.i64 n2, V.int IntKind.i64 n4, V.int IntKind.i64
  (IntKind.i64.wrap (n2 - n1))] = [V.bool b1, V.bool b2, V.slc data data_n data_f, V.int IntKind.i64 n1, V.int IntKind.i64 n2, V.int IntKind.i64 n4, V.int IntKind.i64 (IntKind.i64.wrap (n2 - n1))] ∧ Q2 [V.int IntKind.i64 n6, V.int
  IntKind.i64 n5] h'4) ∧ ∀ (bs3 : Nat → Option V) (n7 n8 : Int) (h3 : Hp), Q2 [V.int IntKind.i64 n7, V.int IntKind.i64 n8] h3 → ∃ (Q3 : List V → Hp → Prop), (bif b1 then bif b2 then bif n7 == (1 : Int) then XCalls Try.prog (67 : Nat) [V.slc
  data data_n data_f, V.int IntKind.i64 n1, V.int IntKind.i64 n2] h3 fun (v6 : V) (h'6 : Hp) => ∃ (b3 : Bool), v6 = V.bool b3 ∧ bif b3 then K (V.tup []) h'6 else [V.int IntKind.i64 n1, V.slc data data_n data_f, V.int IntKind.i64 n8, V.int
  IntKind.i64 n2, V.int IntKind.i64 n4, V.bool b1, V.bool b2, V.int IntKind.i64 (IntKind.i64.wrap (n2 - n1))] = [V.int IntKind.i64 n1, V.slc data data_n data_f, V.int IntKind.i64 n8, V.int IntKind.i64 n2, V.int IntKind.i64 n4, V.bool b1,
  V.bool b2, V.int IntKind.i64 (IntKind.i64.wrap (n2 - n1))] ∧ Q3 [] h'6 else [V.int IntKind.i64 n1, V.slc data data_n data_f, V.int IntKind.i64 n8, V.int IntKind.i64 n2, V.int IntKind.i64 n4, V.bool b1, V.bool b2, V.int IntKind.i64
  (IntKind.i64.wrap (n2 - n1))] = [V.int IntKind.i64 n1, V.slc data data_n data_f, V.int IntKind.i64 n8, V.int IntKind.i64 n2, V.int IntKind.i64 n4, V.bool b1, V.bool b2, V.int IntKind.i64 (IntKind.i64.wrap (n2 - n1))] ∧ Q3 [] h3 else [V.int
  IntKind.i64 n1, V.slc data data_n data_f, V.int IntKind.i64 n8, V.int IntKind.i64 n2, V.int IntKind.i64 n4, V.bool b1, V.bool b2, V.int IntKind.i64 (IntKind.i64.wrap (n2 - n1))] = [V.int IntKind.i64 n1, V.slc data data_n data_f, V.int
  IntKind.i64 n8, V.int IntKind.i64 n2, V.int IntKind.i64 n4, V.bool b1, V.bool b2, V.int IntKind.i64 (IntKind.i64.wrap (n2 - n1))] ∧ Q3 [] h3 else [V.int IntKind.i64 n1, V.slc data data_n data_f, V.int IntKind.i64 n8, V.int IntKind.i64 n2,
  V.int IntKind.i64 n4, V.bool b1, V.bool b2, V.int IntKind.i64 (IntKind.i64.wrap (n2 - n1))] = [V.int IntKind.i64 n1, V.slc data data_n data_f, V.int IntKind.i64 n8, V.int IntKind.i64 n2, V.int IntKind.i64 n4, V.bool b1, V.bool b2, V.int
  IntKind.i64 (IntKind.i64.wrap (n2 - n1))] ∧ Q3 [] h3) ∧ ∀ (bs4 : Nat → Option V) (h4 : Hp), Q3 [] h4 → ∃ (Q4 : List V → Hp → Prop), (bif ltI (0 : Int) n1 then ((0 : Int) ≤ IntKind.i64.wrap (n1 - (1 : Int)) ∧ IntKind.i64.wrap (n1 - (1 :
  Int)) < (↑data_n : Int)) ∧ onS data fun (i1 o1 : Nat) => ∃ (n9 : Int), h4.ld i1 (o1 + (IntKind.i64.wrap (n1 - (1 : Int))).toNat * (1 : Nat)) = some (V.int IntKind.u64 n9) ∧ ((0 : Int) ≤ n8 ∧ n8 < (↑data_n : Int)) ∧ onS data fun (i2 o2 :
  Nat) => ∃ (n10 : Int), h4.ld i2 (o2 + n8.toNat * (1 : Nat)) = some (V.int IntKind.u64 n10) ∧ XCalls Try.prog (68 : Nat) [V.int IntKind.u64 n9, V.int IntKind.u64 n10] h4 fun (v7 : V) (h'7 : Hp) => ∃ (b4 : Bool), v7 = V.bool b4 ∧ bif !b4
  then XCalls Try.prog (69 : Nat) [V.slc data data_n data_f, V.int IntKind.i64 n1, V.int IntKind.i64 n2, V.int IntKind.i64 n8] h'7 fun (v8 : V) (h'8 : Hp) => ∃ (n11 : Int), v8 = V.int IntKind.i64 n11 ∧ [V.slc data data_n data_f] = [V.slc
  data data_n data_f] ∧ I1 [V.int IntKind.i64 n11, V.int IntKind.i64 n2, V.int IntKind.i64 n4, V.bool b1, V.bool b2] h'8 ∧ x1 [V.int IntKind.i64 n11, V.int IntKind.i64 n2, V.int IntKind.i64 n4, V.bool b1, V.bool b2] h'8 < x1 [V.int
  IntKind.i64 n1, V.int IntKind.i64 n2, V.int IntKind.i64 n3, V.bool b1, V.bool b2] h1 else [V.slc data data_n data_f, V.int IntKind.i64 n2, V.int IntKind.i64 n8, V.int IntKind.i64 (IntKind.i64.wrap (n2 - n1)), V.int IntKind.i64 n4] = [V.slc
  data data_n data_f, V.int IntKind.i64 n2, V.int IntKind.i64 n8, V.int IntKind.i64 (IntKind.i64.wrap (n2 - n1)), V.int IntKind.i64 n4] ∧ Q4 [V.int IntKind.i64 n1] h'7 else [V.slc data data_n data_f, V.int IntKind.i64 n2, V.int IntKind.i64
  n8, V.int IntKind.i64 (IntKind.i64.wrap (n2 - n1)), V.int IntKind.i64 n4] = [V.slc data data_n data_f, V.int IntKind.i64 n2, V.int IntKind.i64 n8, V.int IntKind.i64 (IntKind.i64.wrap (n2 - n1)), V.int IntKind.i64 n4] ∧ Q4 [V.int
  IntKind.i64 n1] h4) ∧ ∀ (bs5 : Nat → Option V) (n12 : Int) (h5 : Hp), Q4 [V.int IntKind.i64 n12] h5 → XCalls Try.prog (70 : Nat) [V.slc data data_n data_f, V.int IntKind.i64 n12, V.int IntKind.i64 n2, V.int IntKind.i64 n8] h5 fun (v9 : V)
  (h'9 : Hp) => ∃ (n13 : Int), ∃ (b5 : Bool), v9 = V.tup [V.int IntKind.i64 n13, V.bool b5] ∧ ¬(8 : Int) = (0 : Int) ∧ bif ltI (IntKind.i64.wrap (n13 - n12)) (IntKind.i64.wrap (n2 - n13)) then XCalls Try.prog (58 : Nat) [V.slc data data_n
  data_f, V.int IntKind.i64 n12, V.int IntKind.i64 n13, V.int IntKind.i64 n4] h'9 fun (v10 : V) (h'10 : Hp) => [V.slc data data_n data_f] = [V.slc data data_n data_f] ∧ I1 [V.int IntKind.i64 (IntKind.i64.wrap (n13 + (1 : Int))), V.int
  IntKind.i64 n2, V.int IntKind.i64 n4, V.bool !ltI (IntKind.i64.wrap (n13 - n12)) (IntKind.i64.wrap ((IntKind.i64.wrap (n2 - n1)).tdiv (8 : Int))), V.bool b5] h'10 ∧ x1 [V.int IntKind.i64 (IntKind.i64.wrap (n13 + (1 : Int))), V.int
  IntKind.i64 n2, V.int IntKind.i64 n4, V.bool !ltI (IntKind.i64.wrap (n13 - n12)) (IntKind.i64.wrap ((IntKind.i64.wrap (n2 - n1)).tdiv (8 : Int))), V.bool b5] h'10 < x1 [V.int IntKind.i64 n1, V.int IntKind.i64 n2, V.int IntKind.i64 n3,
  V.bool b1, V.bool b2] h1 else XCalls Try.prog (58 : Nat) [V.slc data data_n data_f, V.int IntKind.i64 (IntKind.i64.wrap (n13 + (1 : Int))), V.int IntKind.i64 n2, V.int IntKind.i64 n4] h'9 fun (v11 : V) (h'11 : Hp) => [V.slc data data_n
  data_f] = [V.slc data data_n data_f] ∧ I1 [V.int IntKind.i64 n12, V.int IntKind.i64 n13, V.int IntKind.i64 n4, V.bool !ltI (IntKind.i64.wrap (n2 - n13)) (IntKind.i64.wrap ((IntKind.i64.wrap (n2 - n1)).tdiv (8 : Int))), V.bool b5] h'11 ∧ x1
  [V.int IntKind.i64 n12, V.int IntKind.i64 n13, V.int IntKind.i64 n4, V.bool !ltI (IntKind.i64.wrap (n2 - n13)) (IntKind.i64.wrap ((IntKind.i64.wrap (n2 - n1)).tdiv (8 : Int))), V.bool b5] h'11 < x1 [V.int IntKind.i64 n1, V.int IntKind.i64
  n2, V.int IntKind.i64 n3, V.bool b1, V.bool b2] h1
theorem y58 (h : Hp) (K : V → Hp → Prop) (data : Option (Nat × Nat)) (data_n : Nat) (data_f : Bool) (a : Int) (b : Int) (limit : Int) : X58 h K data data_n data_f a b limit = fnX Try.prog T F jl58 jj58 Try.f58 [V.slc data data_n data_f,
  V.int IntKind.i64 a, V.int IntKind.i64 b, V.int IntKind.i64 limit] h K := by kernel_rfl
theorem x58 {h : Hp} {K : V → Hp → Prop} (data : Option (Nat × Nat)) (data_n : Nat) (data_f : Bool) (a : Int) (b : Int) (limit : Int) (hx : X58 h K data data_n data_f a b limit) : XCalls Try.prog 58 [V.slc data data_n data_f, V.int IntKind.i64 a, V.int IntKind.i64 b, V.int IntKind.i64 limit] h K :=
  XCalls.ofX tok fok mixed (JL := jl58) (JJ := jj58) Try.func58 ((y58 h K data data_n data_f a b limit) ▸ hx)
/-! 50: slices.Sort[[]uint64,uint64] -/
def jl50 : Nat → Option JT := fun r => none
def jj50 : Nat → Option JT := fun r => none
def X50 (h : Hp) (K : V → Hp → Prop) (x : Option (Nat × Nat)) (x_n : Nat) (x_f : Bool) : Prop := XCalls Try.prog (59 : Nat) [V.int IntKind.u64 (IntKind.u64.wrap (↑x_n : Int))] h fun (v1 : V) (h'1 : Hp) => ∃ (n1 : Int), v1 = V.int IntKind.i64
  n1 ∧ XCalls Try.prog (58 : Nat) [V.slc x x_n x_f, V.int IntKind.i64 (0 : Int), V.int IntKind.i64 (↑x_n : Int), V.int IntKind.i64 n1] h'1 fun (v2 : V) (h'2 : Hp) => K (V.tup []) h'2
theorem y50 (h : Hp) (K : V → Hp → Prop) (x : Option (Nat × Nat)) (x_n : Nat) (x_f : Bool) : X50 h K x x_n x_f = fnX Try.prog T F jl50 jj50 Try.f50 [V.slc x x_n x_f] h K := by kernel_rfl
theorem x50 {h : Hp} {K : V → Hp → Prop} (x : Option (Nat × Nat)) (x_n : Nat) (x_f : Bool) (hx : X50 h K x x_n x_f) : XCalls Try.prog 50 [V.slc x x_n x_f] h K :=
  XCalls.ofX tok fok mixed (JL := jl50) (JJ := jj50) Try.func50 ((y50 h K x x_n x_f) ▸ hx) 
end Go.Vex
