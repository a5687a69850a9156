/- PoolPlays as a statement about data (printed by VexPrint).
-/
import Derived.Test.YteblfacfbmlceaaVexX
import Derived.Test.YteblfacfbmlceaaTab17
set_option linter.unusedVariables false
set_option maxRecDepth 100000
namespace Go.Vex
open Go.Proofs
/-! 4: stevedore/stevedorelaw17.PoolPlays -/
-- loop 17: stays most(0), script(1), p(5), r(7), i(8); turns k(13)
-- loop 10: stays most(0), script(1), p(5), r(7); turns i(8)
def jl4 : Nat → Option JT := fun r => bif Nat.beq r 17 then some ⟨[0, 1, 5, 7, 8], [13], [V.int IntKind.u64 (0 : Int)]⟩ else bif Nat.beq r 10 then some ⟨[0, 1, 5, 7], [8], [V.int IntKind.i64 (0 : Int)]⟩ else none
def jj4 : Nat → Option JT := fun r => none
def X4 (h : Hp) (K : V → Hp → Prop) (most : Int) (script : Option (Nat × Nat)) (script_n : Nat) (script_f : Bool) : Prop := XCalls Try.prog (14 : Nat) [V.slc script script_n script_f] h fun (v1 : V) (h'1 : Hp) => ∃ (b1 : Bool), v1 = V.bool
  b1 ∧ bif b1 then XCalls Try.prog (9 : Nat) [] h'1 fun (v2 : V) (h'2 : Hp) => ∃ (b2 : Bool), v2 = V.bool b2 ∧ K (V.bool b2) h'2 else XCalls Try.prog (8 : Nat) [V.int IntKind.i64 most] h'1 fun (v3 : V) (h'3 : Hp) => ∃ (a1 : Option (Nat ×
  Nat)), ∃ (n1 : Int), v3 = V.tup [V.ptr a1, V.int IntKind.i64 n1] ∧ bif ltI most (1 : Int) then bif a1.isNone then bif n1 == (2 : Int) then XCalls Try.prog (9 : Nat) [] h'3 fun (v4 : V) (h'4 : Hp) => ∃ (b3 : Bool), v4 = V.bool b3 ∧ K
  (V.bool b3) h'4 else K (V.bool false) h'3 else K (V.bool false) h'3 else bif ltI (4096 : Int) most then bif a1.isNone then bif n1 == (2 : Int) then XCalls Try.prog (9 : Nat) [] h'3 fun (v5 : V) (h'5 : Hp) => ∃ (b4 : Bool), v5 = V.bool b4 ∧
  K (V.bool b4) h'5 else K (V.bool false) h'3 else K (V.bool false) h'3 else bif a1.isNone then K (V.bool false) h'3 else bif n1 != (0 : Int) then K (V.bool false) h'3 else ∀ (h'6 : Hp), h'6 = h'3.alloc (O.row [V.int IntKind.i64 most, V.int
  IntKind.u64 (0 : Int), V.slc none (0 : Nat) true] (1 : Nat) false) → ∃ (I1 : List V → Hp → Prop), ∃ (x1 : List V → Hp → Nat), ([V.int IntKind.i64 most, V.slc script script_n script_f, V.ptr a1, V.ptr (some (h'3.next, (0 : Nat)))] = [V.int
  IntKind.i64 most, V.slc script script_n script_f, V.ptr a1, V.ptr (some (h'3.next, (0 : Nat)))] ∧ I1 [V.int IntKind.i64 (0 : Int)] h'6) ∧ ∀ (bs1 : Nat → Option V) (n2 : Int) (h1 : Hp), I1 [V.int IntKind.i64 n2] h1 → bif ltI n2 (↑script_n :
  Int) then ((0 : Int) ≤ n2 ∧ n2 < (↑script_n : Int)) ∧ onS script fun (i1 o1 : Nat) => ∃ (n3 : Int), ∃ (s1 : List UInt8), ∃ (s2 : List UInt8), ∃ (s3 : List UInt8), ∃ (n4 : Int), ∃ (a2 : Option (Nat × Nat)), ∃ (n5 : Nat), ∃ (f1 : Bool),
  h1.lda i1 (o1 + n2.toNat * (6 : Nat)) (6 : Nat) = some (V.agg [V.int IntKind.i64 n3, V.str s1, V.str s2, V.str s3, V.int IntKind.u64 n4, V.slc a2 n5 f1]) ∧ XCalls Try.prog (15 : Nat) [V.ptr a1, V.agg [V.int IntKind.i64 n3, V.str s1, V.str
  s2, V.str s3, V.int IntKind.u64 n4, V.slc a2 n5 f1]] h1 fun (v6 : V) (h'7 : Hp) => ∃ (n6 : Int), ∃ (n7 : Int), v6 = V.tup [V.int IntKind.u64 n6, V.int IntKind.i64 n7] ∧ ((0 : Int) ≤ n2 ∧ n2 < (↑script_n : Int)) ∧ onS script fun (i2 o2 :
  Nat) => ∃ (n8 : Int), ∃ (s4 : List UInt8), ∃ (s5 : List UInt8), ∃ (s6 : List UInt8), ∃ (n9 : Int), ∃ (a3 : Option (Nat × Nat)), ∃ (n10 : Nat), ∃ (f2 : Bool), h'7.lda i2 (o2 + n2.toNat * (6 : Nat)) (6 : Nat) = some (V.agg [V.int IntKind.i64
  n8, V.str s4, V.str s5, V.str s6, V.int IntKind.u64 n9, V.slc a3 n10 f2]) ∧ XCalls Try.prog (16 : Nat) [V.ptr (some (h'3.next, (0 : Nat))), V.agg [V.int IntKind.i64 n8, V.str s4, V.str s5, V.str s6, V.int IntKind.u64 n9, V.slc a3 n10 f2]]
  h'7 fun (v7 : V) (h'8 : Hp) => ∃ (n11 : Int), ∃ (n12 : Int), v7 = V.tup [V.int IntKind.u64 n11, V.int IntKind.i64 n12] ∧ bif n6 != n11 then K (V.bool false) h'8 else bif n7 != n12 then K (V.bool false) h'8 else ∃ (a4 : Option (Nat × Nat)),
  ∃ (n13 : Nat), ∃ (f3 : Bool), h'8.ld h'3.next (2 : Nat) = some (V.slc a4 n13 f3) ∧ XCalls Try.prog (13 : Nat) [V.ptr a1] h'8 fun (v8 : V) (h'9 : Hp) => ∃ (n14 : Int), v8 = V.int IntKind.i64 n14 ∧ V.int IntKind.i64 (IntKind.i64.wrap (most -
  (↑n13 : Int))) = V.int IntKind.i64 (IntKind.i64.wrap (most - (↑n13 : Int))) ∧ V.int IntKind.i64 (↑n13 : Int) = V.int IntKind.i64 (↑n13 : Int) ∧ (∃ (a5 : Option (Nat × Nat)), ∃ (n15 : Nat), ∃ (f4 : Bool), h'9.ld h'3.next (2 : Nat) = some
  (V.slc a5 n15 f4) ∧ V.slc a5 n15 f4 = V.slc a4 n13 f3) ∧ V.ptr (some (h'3.next, (2 : Nat))) = V.ptr (some (h'3.next, (2 : Nat))) ∧ V.ptr (some (h'3.next, (0 : Nat))) = V.ptr (some (h'3.next, (0 : Nat))) ∧ V.ptr (some (h'3.next, (0 : Nat)))
  = V.ptr (some (h'3.next, (0 : Nat))) ∧ V.int IntKind.i64 most = V.int IntKind.i64 most ∧ bif n14 != IntKind.i64.wrap (most - (↑n13 : Int)) then K (V.bool false) h'9 else ∃ (I2 : List V → Hp → Prop), ∃ (x2 : List V → Hp → Nat), ([V.int
  IntKind.i64 most, V.slc script script_n script_f, V.ptr a1, V.ptr (some (h'3.next, (0 : Nat))), V.int IntKind.i64 n2] = [V.int IntKind.i64 most, V.slc script script_n script_f, V.ptr a1, V.ptr (some (h'3.next, (0 : Nat))), V.int
  IntKind.i64 n2] ∧ I2 [V.int IntKind.u64 (0 : Int)] h'9) ∧ ∀ (bs2 : Nat → Option V) (n16 : Int) (h2 : Hp), I2 [V.int IntKind.u64 n16] h2 → ∃ (n17 : Int), h2.ld h'3.next (1 : Nat) = some (V.int IntKind.u64 n17) ∧ bif !ltI (IntKind.u64.wrap
  (n17 + (1 : Int))) n16 then XCalls Try.prog (17 : Nat) [V.ptr a1, V.int IntKind.u64 n16] h2 fun (v9 : V) (h'10 : Hp) => ∃ (n18 : Int), ∃ (s7 : List UInt8), ∃ (s8 : List UInt8), ∃ (b5 : Bool), v9 = V.tup [V.agg [V.int IntKind.u64 n18, V.str
  s7, V.str s8], V.bool b5] ∧ ∀ (h'11 : Hp), h'11 = h'10.alloc (O.row [V.int IntKind.u64 (0 : Int), V.str [], V.str []] (1 : Nat) false) → ∃ (h'12 : Hp), h'11.st h'10.next (0 : Nat) [V.int IntKind.u64 n18, V.str s7, V.str s8] = some h'12 ∧
  XCalls Try.prog (18 : Nat) [V.ptr (some (h'3.next, (0 : Nat))), V.int IntKind.u64 n16] h'12 fun (v10 : V) (h'13 : Hp) => ∃ (n19 : Int), v10 = V.int IntKind.i64 n19 ∧ bif !b5 == !ltI n19 (0 : Int) then K (V.bool false) h'13 else bif b5 then
  ∃ (n20 : Int), ∃ (s9 : List UInt8), ∃ (s10 : List UInt8), h'13.lda h'10.next (0 : Nat) (3 : Nat) = some (V.agg [V.int IntKind.u64 n20, V.str s9, V.str s10]) ∧ ∃ (a6 : Option (Nat × Nat)), ∃ (n21 : Nat), ∃ (f5 : Bool), h'13.ld h'3.next (2 :
  Nat) = some (V.slc a6 n21 f5) ∧ ((0 : Int) ≤ n19 ∧ n19 < (↑n21 : Int)) ∧ onS a6 fun (i3 o3 : Nat) => ∃ (n22 : Int), ∃ (s11 : List UInt8), ∃ (s12 : List UInt8), h'13.lda i3 (o3 + n19.toNat * (3 : Nat)) (3 : Nat) = some (V.agg [V.int
  IntKind.u64 n22, V.str s11, V.str s12]) ∧ bif !(n20 == n22 && (s9 == s11 && (s10 == s12 && true))) then K (V.bool false) h'13 else bif !b5 then ∃ (n23 : Int), ∃ (s13 : List UInt8), ∃ (s14 : List UInt8), h'13.lda h'10.next (0 : Nat) (3 :
  Nat) = some (V.agg [V.int IntKind.u64 n23, V.str s13, V.str s14]) ∧ bif !(n23 == (0 : Int) && (s13 == [] && (s14 == [] && true))) then K (V.bool false) h'13 else [V.int IntKind.i64 most, V.slc script script_n script_f, V.ptr a1, V.ptr
  (some (h'3.next, (0 : Nat))), V.int IntKind.i64 n2] = [V.int IntKind.i64 most, V.slc script script_n script_f, V.ptr a1, V.ptr (some (h'3.next, (0 : Nat))), V.int IntKind.i64 n2] ∧ I2 [V.int IntKind.u64 (IntKind.u64.wrap (n16 + (1 :
  Int)))] h'13 ∧ x2 [V.int IntKind.u64 (IntKind.u64.wrap (n16 + (1 : Int)))] h'13 < x2 [V.int IntKind.u64 n16] h2 else [V.int IntKind.i64 most, V.slc script script_n script_f, V.ptr a1, V.ptr (some (h'3.next, (0 : Nat))), V.int IntKind.i64
  n2] = [V.int IntKind.i64 most, V.slc script script_n script_f, V.ptr a1, V.ptr (some (h'3.next, (0 : Nat))), V.int IntKind.i64 n2] ∧ I2 [V.int IntKind.u64 (IntKind.u64.wrap (n16 + (1 : Int)))] h'13 ∧ x2 [V.int IntKind.u64 (IntKind.u64.wrap
  (n16 + (1 : Int)))] h'13 < x2 [V.int IntKind.u64 n16] h2 else bif !b5 then ∃ (n24 : Int), ∃ (s15 : List UInt8), ∃ (s16 : List UInt8), h'13.lda h'10.next (0 : Nat) (3 : Nat) = some (V.agg [V.int IntKind.u64 n24, V.str s15, V.str s16]) ∧ bif
  !(n24 == (0 : Int) && (s15 == [] && (s16 == [] && true))) then K (V.bool false) h'13 else [V.int IntKind.i64 most, V.slc script script_n script_f, V.ptr a1, V.ptr (some (h'3.next, (0 : Nat))), V.int IntKind.i64 n2] = [V.int IntKind.i64
  most, V.slc script script_n script_f, V.ptr a1, V.ptr (some (h'3.next, (0 : Nat))), V.int IntKind.i64 n2] ∧ I2 [V.int IntKind.u64 (IntKind.u64.wrap (n16 + (1 : Int)))] h'13 ∧ x2 [V.int IntKind.u64 (IntKind.u64.wrap (n16 + (1 : Int)))] h'13
  < x2 [V.int IntKind.u64 n16] h2 else [V.int IntKind.i64 most, V.slc script script_n script_f, V.ptr a1, V.ptr (some (h'3.next, (0 : Nat))), V.int IntKind.i64 n2] = [V.int IntKind.i64 most, V.slc script script_n script_f, V.ptr a1, V.ptr
  (some (h'3.next, (0 : Nat))), V.int IntKind.i64 n2] ∧ I2 [V.int IntKind.u64 (IntKind.u64.wrap (n16 + (1 : Int)))] h'13 ∧ x2 [V.int IntKind.u64 (IntKind.u64.wrap (n16 + (1 : Int)))] h'13 < x2 [V.int IntKind.u64 n16] h2 else [V.int
  IntKind.i64 most, V.slc script script_n script_f, V.ptr a1, V.ptr (some (h'3.next, (0 : Nat)))] = [V.int IntKind.i64 most, V.slc script script_n script_f, V.ptr a1, V.ptr (some (h'3.next, (0 : Nat)))] ∧ I1 [V.int IntKind.i64
  (IntKind.i64.wrap (n2 + (1 : Int)))] h2 ∧ x1 [V.int IntKind.i64 (IntKind.i64.wrap (n2 + (1 : Int)))] h2 < x1 [V.int IntKind.i64 n2] h1 else XCalls Try.prog (9 : Nat) [] h1 fun (v11 : V) (h'14 : Hp) => ∃ (b6 : Bool), v11 = V.bool b6 ∧ K
  (V.bool b6) h'14
theorem y4 (h : Hp) (K : V → Hp → Prop) (most : Int) (script : Option (Nat × Nat)) (script_n : Nat) (script_f : Bool) : X4 h K most script script_n script_f = fnX Try.prog T F jl4 jj4 Try.f4 [V.int IntKind.i64 most, V.slc script script_n script_f] h K := by kernel_rfl
theorem x4 {h : Hp} {K : V → Hp → Prop} (most : Int) (script : Option (Nat × Nat)) (script_n : Nat) (script_f : Bool) (hx : X4 h K most script script_n script_f) : XCalls Try.prog 4 [V.int IntKind.i64 most, V.slc script script_n script_f] h K :=
  XCalls.ofX tok fok mixed (JL := jl4) (JJ := jj4) Try.func4 ((y4 h K most script script_n script_f) ▸ hx) 
end Go.Vex
