/- Shard (layer 23) (printed by VexPrint).
-/
import Derived.Test.YteknlobdnjcdbaaVexX
import Derived.Test.YteknlobdnjcdbaaTab23
set_option linter.unusedVariables false
set_option maxRecDepth 100000
namespace Go.Vex
open Go.Proofs
/-! 4: stevedore/stevedorelaw23.TableTurned -/
def jl4 : Nat → Option JT := fun r => none
def jj4 : Nat → Option JT := fun r => none
def X4 (h : Hp) (K : V → Hp → Prop) (p_0 : Int) (p_1 : Int) (p_2 : Int) (p_3 : Int) : Prop := ∀ (h'1 : Hp), h'1 = h.alloc (O.row [V.int IntKind.u32 p_0, V.int IntKind.u16 p_1, V.int IntKind.u32 p_2, V.int IntKind.u16 p_3] (1 : Nat) false) →
  ∃ (n1 : Int), ∃ (n2 : Int), ∃ (n3 : Int), ∃ (n4 : Int), h'1.lda h.next (0 : Nat) (4 : Nat) = some (V.agg [V.int IntKind.u32 n1, V.int IntKind.u16 n2, V.int IntKind.u32 n3, V.int IntKind.u16 n4]) ∧ XCalls Try.prog (15 : Nat) [V.agg [V.int
  IntKind.u32 n1, V.int IntKind.u16 n2, V.int IntKind.u32 n3, V.int IntKind.u16 n4]] h'1 fun (v1 : V) (h'2 : Hp) => ∃ (n5 : Int), v1 = V.int IntKind.i64 n5 ∧ bif !ltI n5 (0 : Int) then bif ltI n5 (8 : Int) then ∃ (n6 : Int), ∃ (n7 : Int),
  h'2.lda h.next (2 : Nat) (2 : Nat) = some (V.agg [V.int IntKind.u32 n6, V.int IntKind.u16 n7]) ∧ ∃ (n8 : Int), ∃ (n9 : Int), h'2.lda h.next (0 : Nat) (2 : Nat) = some (V.agg [V.int IntKind.u32 n8, V.int IntKind.u16 n9]) ∧ XCalls Try.prog
  (15 : Nat) [V.agg [V.int IntKind.u32 n6, V.int IntKind.u16 n7, V.int IntKind.u32 n8, V.int IntKind.u16 n9]] h'2 fun (v2 : V) (h'3 : Hp) => ∃ (n10 : Int), v2 = V.int IntKind.i64 n10 ∧ bif n5 == n10 then XCalls Try.prog (8 : Nat) [] h'3 fun
  (v3 : V) (h'4 : Hp) => ∃ (b1 : Bool), v3 = V.bool b1 ∧ K (V.bool b1) h'4 else K (V.bool false) h'3 else K (V.bool false) h'2 else K (V.bool false) h'2
theorem y4 (h : Hp) (K : V → Hp → Prop) (p_0 : Int) (p_1 : Int) (p_2 : Int) (p_3 : Int) : X4 h K p_0 p_1 p_2 p_3 = fnX Try.prog T F jl4 jj4 Try.f4 [V.agg [V.int IntKind.u32 p_0, V.int IntKind.u16 p_1, V.int IntKind.u32 p_2, V.int IntKind.u16 p_3]] h K := by kernel_rfl
theorem x4 {h : Hp} {K : V → Hp → Prop} (p_0 : Int) (p_1 : Int) (p_2 : Int) (p_3 : Int) (hx : X4 h K p_0 p_1 p_2 p_3) : XCalls Try.prog 4 [V.agg [V.int IntKind.u32 p_0, V.int IntKind.u16 p_1, V.int IntKind.u32 p_2, V.int IntKind.u16 p_3]] h K :=
  XCalls.ofX tok fok mixed (JL := jl4) (JJ := jj4) Try.func4 ((y4 h K p_0 p_1 p_2 p_3) ▸ hx)
/-! 15: stevedore/table.Shard -/
def jl15 : Nat → Option JT := fun r => none
def jj15 : Nat → Option JT := fun r => none
def X15 (h : Hp) (K : V → Hp → Prop) (p_0 : Int) (p_1 : Int) (p_2 : Int) (p_3 : Int) : Prop := ∀ (h'1 : Hp), h'1 = h.alloc (O.row [V.int IntKind.u32 p_0, V.int IntKind.u16 p_1, V.int IntKind.u32 p_2, V.int IntKind.u16 p_3] (1 : Nat) false) →
  ∃ (n1 : Int), ∃ (n2 : Int), ∃ (n3 : Int), ∃ (n4 : Int), h'1.lda h.next (0 : Nat) (4 : Nat) = some (V.agg [V.int IntKind.u32 n1, V.int IntKind.u16 n2, V.int IntKind.u32 n3, V.int IntKind.u16 n4]) ∧ XCalls Try.prog (33 : Nat) [V.str [(109 :
  UInt8), (90 : UInt8)], V.int IntKind.i64 (20 : Int)] h'1 fun (v1 : V) (h'2 : Hp) => ∃ (s1 : List UInt8), v1 = V.str s1 ∧ (∃ (n5 : Int), ∃ (n6 : Int), ∃ (n7 : Int), ∃ (n8 : Int), h'2.lda h.next (0 : Nat) (4 : Nat) = some (V.agg [V.int
  IntKind.u32 n5, V.int IntKind.u16 n6, V.int IntKind.u32 n7, V.int IntKind.u16 n8]) ∧ V.agg [V.int IntKind.u32 n5, V.int IntKind.u16 n6, V.int IntKind.u32 n7, V.int IntKind.u16 n8] = V.agg [V.int IntKind.u32 n1, V.int IntKind.u16 n2, V.int
  IntKind.u32 n3, V.int IntKind.u16 n4]) ∧ XCalls Try.prog (32 : Nat) [V.str s1, V.agg [V.int IntKind.u32 n1, V.int IntKind.u16 n2, V.int IntKind.u32 n3, V.int IntKind.u16 n4]] h'2 fun (v2 : V) (h'3 : Hp) => ∃ (n9 : Int), ∃ (n10 : Int), v2 =
  V.tup [V.int IntKind.u32 n9, V.int IntKind.i64 n10] ∧ ¬(8 : Int) = (0 : Int) ∧ K (V.int IntKind.i64 (IntKind.i64.wrap (n9.tmod (8 : Int)))) h'3
theorem y15 (h : Hp) (K : V → Hp → Prop) (p_0 : Int) (p_1 : Int) (p_2 : Int) (p_3 : Int) : X15 h K p_0 p_1 p_2 p_3 = fnX Try.prog T F jl15 jj15 Try.f15 [V.agg [V.int IntKind.u32 p_0, V.int IntKind.u16 p_1, V.int IntKind.u32 p_2, V.int IntKind.u16 p_3]] h K := by kernel_rfl
theorem x15 {h : Hp} {K : V → Hp → Prop} (p_0 : Int) (p_1 : Int) (p_2 : Int) (p_3 : Int) (hx : X15 h K p_0 p_1 p_2 p_3) : XCalls Try.prog 15 [V.agg [V.int IntKind.u32 p_0, V.int IntKind.u16 p_1, V.int IntKind.u32 p_2, V.int IntKind.u16 p_3]] h K :=
  XCalls.ofX tok fok mixed (JL := jl15) (JJ := jj15) Try.func15 ((y15 h K p_0 p_1 p_2 p_3) ▸ hx)
/-! 32: stevedore/steer.Pair -/
def jl32 : Nat → Option JT := fun r => none
def jj32 : Nat → Option JT := fun r => none
def X32 (h : Hp) (K : V → Hp → Prop) (key : List UInt8) (p_0 : Int) (p_1 : Int) (p_2 : Int) (p_3 : Int) : Prop := ∀ (h'1 : Hp), h'1 = h.alloc (O.row [V.int IntKind.u32 p_0, V.int IntKind.u16 p_1, V.int IntKind.u32 p_2, V.int IntKind.u16 p_3]
  (1 : Nat) false) → ∃ (n1 : Int), ∃ (n2 : Int), ∃ (n3 : Int), ∃ (n4 : Int), h'1.lda h.next (0 : Nat) (4 : Nat) = some (V.agg [V.int IntKind.u32 n1, V.int IntKind.u16 n2, V.int IntKind.u32 n3, V.int IntKind.u16 n4]) ∧ XCalls Try.prog (41 :
  Nat) [V.agg [V.int IntKind.u32 n1, V.int IntKind.u16 n2, V.int IntKind.u32 n3, V.int IntKind.u16 n4]] h'1 fun (v1 : V) (h'2 : Hp) => ∃ (s1 : List UInt8), v1 = V.str s1 ∧ XCalls Try.prog (40 : Nat) [V.str key, V.str s1] h'2 fun (v2 : V)
  (h'3 : Hp) => ∃ (n5 : Int), ∃ (n6 : Int), v2 = V.tup [V.int IntKind.u32 n5, V.int IntKind.i64 n6] ∧ K (V.tup [V.int IntKind.u32 n5, V.int IntKind.i64 n6]) h'3
theorem y32 (h : Hp) (K : V → Hp → Prop) (key : List UInt8) (p_0 : Int) (p_1 : Int) (p_2 : Int) (p_3 : Int) : X32 h K key p_0 p_1 p_2 p_3 = fnX Try.prog T F jl32 jj32 Try.f32 [V.str key, V.agg [V.int IntKind.u32 p_0, V.int IntKind.u16 p_1,
  V.int IntKind.u32 p_2, V.int IntKind.u16 p_3]] h K := by kernel_rfl
theorem x32 {h : Hp} {K : V → Hp → Prop} (key : List UInt8) (p_0 : Int) (p_1 : Int) (p_2 : Int) (p_3 : Int) (hx : X32 h K key p_0 p_1 p_2 p_3) : XCalls Try.prog 32 [V.str key, V.agg [V.int IntKind.u32 p_0, V.int IntKind.u16 p_1, V.int IntKind.u32 p_2, V.int IntKind.u16 p_3]] h K :=
  XCalls.ofX tok fok mixed (JL := jl32) (JJ := jj32) Try.func32 ((y32 h K key p_0 p_1 p_2 p_3) ▸ hx)
/-! 40: stevedore/steer.Hash -/
-- loop 1000000: stays key(0), text(1); turns window(6), hash(7), i(8)
def jl40 : Nat → Option JT := fun r => bif Nat.beq r 1000000 then some ⟨[0, 1], [6, 7, 8], [V.int IntKind.u32 (0 : Int), V.int IntKind.u32 (0 : Int), V.int IntKind.i64 (0 : Int)]⟩ else none
def jj40 : Nat → Option JT := fun r => none
def X40 (h : Hp) (K : V → Hp → Prop) (key : List UInt8) (text : List UInt8) : Prop := ∃ (I1 : List V → Hp → Prop), ∃ (x1 : List V → Hp → Nat), ∃ (N1 : Nat), (bif (↑key.length : Int) != (40 : Int) then K (V.tup [V.int IntKind.u32 (0 : Int),
  V.int IntKind.i64 (2 : Int)]) h else bif ltI (36 : Int) (↑text.length : Int) then K (V.tup [V.int IntKind.u32 (0 : Int), V.int IntKind.i64 (2 : Int)]) h else (0 : Int) ≤ (0 : Int) ∧ ∃ (b1 : UInt8), key.get?Internal (Int.toNat (0 : Int)) =
  some b1 ∧ ¬(24 : Int) < (0 : Int) ∧ (0 : Int) ≤ (1 : Int) ∧ ∃ (b2 : UInt8), key.get?Internal (Int.toNat (1 : Int)) = some b2 ∧ ¬(16 : Int) < (0 : Int) ∧ (0 : Int) ≤ (2 : Int) ∧ ∃ (b3 : UInt8), key.get?Internal (Int.toNat (2 : Int)) = some
  b3 ∧ ¬(8 : Int) < (0 : Int) ∧ (0 : Int) ≤ (3 : Int) ∧ ∃ (b4 : UInt8), key.get?Internal (Int.toNat (3 : Int)) = some b4 ∧ bif (0 : Int) == IntKind.i64.wrap ((8 : Int) * (↑text.length : Int)) then K (V.tup [V.int IntKind.u32 (0 : Int), V.int
  IntKind.i64 (0 : Int)]) h else ¬(8 : Int) = (0 : Int) ∧ (0 : Int) ≤ IntKind.i64.wrap (Int.tdiv (0 : Int) (8 : Int)) ∧ ∃ (b5 : UInt8), text.get?Internal (IntKind.i64.wrap (Int.tdiv (0 : Int) (8 : Int))).toNat = some b5 ∧ ¬(8 : Int) = (0 :
  Int) ∧ ¬IntKind.i64.wrap ((7 : Int) - Int.tmod (0 : Int) (8 : Int)) < (0 : Int) ∧ bif bits BinOp.and IntKind.u8 ((↑b5.toNat : Int).fdiv ((2 : Int) ^ min (IntKind.i64.wrap ((7 : Int) - Int.tmod (0 : Int) (8 : Int))).toNat IntKind.u8.bits))
  (1 : Int) == (1 : Int) then ¬(1 : Int) < (0 : Int) ∧ ¬(8 : Int) = (0 : Int) ∧ bif ltI (IntKind.i64.wrap (IntKind.i64.wrap (Int.tdiv (0 : Int) (8 : Int)) + (4 : Int))) (↑key.length : Int) then (0 : Int) ≤ IntKind.i64.wrap (IntKind.i64.wrap
  (Int.tdiv (0 : Int) (8 : Int)) + (4 : Int)) ∧ ∃ (b6 : UInt8), key.get?Internal (IntKind.i64.wrap (IntKind.i64.wrap (Int.tdiv (0 : Int) (8 : Int)) + (4 : Int))).toNat = some b6 ∧ ¬(8 : Int) = (0 : Int) ∧ ¬IntKind.i64.wrap ((7 : Int) -
  Int.tmod (0 : Int) (8 : Int)) < (0 : Int) ∧ [V.str key, V.str text] = [V.str key, V.str text] ∧ I1 [V.int IntKind.u32 (bits BinOp.or IntKind.u32 (IntKind.u32.wrap (bits BinOp.or IntKind.u32 (bits BinOp.or IntKind.u32 (bits BinOp.or
  IntKind.u32 (IntKind.u32.wrap (IntKind.u32.wrap (↑b1.toNat : Int) * (2 : Int) ^ min (Int.toNat (24 : Int)) IntKind.u32.bits)) (IntKind.u32.wrap (IntKind.u32.wrap (↑b2.toNat : Int) * (2 : Int) ^ min (Int.toNat (16 : Int))
  IntKind.u32.bits))) (IntKind.u32.wrap (IntKind.u32.wrap (↑b3.toNat : Int) * (2 : Int) ^ min (Int.toNat (8 : Int)) IntKind.u32.bits))) (IntKind.u32.wrap (↑b4.toNat : Int)) * (2 : Int) ^ min (Int.toNat (1 : Int)) IntKind.u32.bits)) (bits
  BinOp.and IntKind.u32 (IntKind.u32.wrap ((↑b6.toNat : Int).fdiv ((2 : Int) ^ min (IntKind.i64.wrap ((7 : Int) - Int.tmod (0 : Int) (8 : Int))).toNat IntKind.u8.bits))) (1 : Int))), V.int IntKind.u32 (bits BinOp.xor IntKind.u32 (0 : Int)
  (bits BinOp.or IntKind.u32 (bits BinOp.or IntKind.u32 (bits BinOp.or IntKind.u32 (IntKind.u32.wrap (IntKind.u32.wrap (↑b1.toNat : Int) * (2 : Int) ^ min (Int.toNat (24 : Int)) IntKind.u32.bits)) (IntKind.u32.wrap (IntKind.u32.wrap
  (↑b2.toNat : Int) * (2 : Int) ^ min (Int.toNat (16 : Int)) IntKind.u32.bits))) (IntKind.u32.wrap (IntKind.u32.wrap (↑b3.toNat : Int) * (2 : Int) ^ min (Int.toNat (8 : Int)) IntKind.u32.bits))) (IntKind.u32.wrap (↑b4.toNat : Int)))), V.int
  IntKind.i64 (IntKind.i64.wrap ((0 : Int) + (1 : Int)))] h ∧ x1 [V.int IntKind.u32 (bits BinOp.or IntKind.u32 (IntKind.u32.wrap (bits BinOp.or IntKind.u32 (bits BinOp.or IntKind.u32 (bits BinOp.or IntKind.u32 (IntKind.u32.wrap
  (IntKind.u32.wrap (↑b1.toNat : Int) * (2 : Int) ^ min (Int.toNat (24 : Int)) IntKind.u32.bits)) (IntKind.u32.wrap (IntKind.u32.wrap (↑b2.toNat : Int) * (2 : Int) ^ min (Int.toNat (16 : Int)) IntKind.u32.bits))) (IntKind.u32.wrap
  (IntKind.u32.wrap (↑b3.toNat : Int) * (2 : Int) ^ min (Int.toNat (8 : Int)) IntKind.u32.bits))) (IntKind.u32.wrap (↑b4.toNat : Int)) * (2 : Int) ^ min (Int.toNat (1 : Int)) IntKind.u32.bits)) (bits BinOp.and IntKind.u32 (IntKind.u32.wrap
  ((↑b6.toNat : Int).fdiv ((2 : Int) ^ min (IntKind.i64.wrap ((7 : Int) - Int.tmod (0 : Int) (8 : Int))).toNat IntKind.u8.bits))) (1 : Int))), V.int IntKind.u32 (bits BinOp.xor IntKind.u32 (0 : Int) (bits BinOp.or IntKind.u32 (bits BinOp.or
  IntKind.u32 (bits BinOp.or IntKind.u32 (IntKind.u32.wrap (IntKind.u32.wrap (↑b1.toNat : Int) * (2 : Int) ^ min (Int.toNat (24 : Int)) IntKind.u32.bits)) (IntKind.u32.wrap (IntKind.u32.wrap (↑b2.toNat : Int) * (2 : Int) ^ min (Int.toNat (16
  : Int)) IntKind.u32.bits))) (IntKind.u32.wrap (IntKind.u32.wrap (↑b3.toNat : Int) * (2 : Int) ^ min (Int.toNat (8 : Int)) IntKind.u32.bits))) (IntKind.u32.wrap (↑b4.toNat : Int)))), V.int IntKind.i64 (IntKind.i64.wrap ((0 : Int) + (1 :
  Int)))] h < N1 else [V.str key, V.str text] = [V.str key, V.str text] ∧ I1 [V.int IntKind.u32 (IntKind.u32.wrap (bits BinOp.or IntKind.u32 (bits BinOp.or IntKind.u32 (bits BinOp.or IntKind.u32 (IntKind.u32.wrap (IntKind.u32.wrap (↑b1.toNat
  : Int) * (2 : Int) ^ min (Int.toNat (24 : Int)) IntKind.u32.bits)) (IntKind.u32.wrap (IntKind.u32.wrap (↑b2.toNat : Int) * (2 : Int) ^ min (Int.toNat (16 : Int)) IntKind.u32.bits))) (IntKind.u32.wrap (IntKind.u32.wrap (↑b3.toNat : Int) *
  (2 : Int) ^ min (Int.toNat (8 : Int)) IntKind.u32.bits))) (IntKind.u32.wrap (↑b4.toNat : Int)) * (2 : Int) ^ min (Int.toNat (1 : Int)) IntKind.u32.bits)), V.int IntKind.u32 (bits BinOp.xor IntKind.u32 (0 : Int) (bits BinOp.or IntKind.u32
  (bits BinOp.or IntKind.u32 (bits BinOp.or IntKind.u32 (IntKind.u32.wrap (IntKind.u32.wrap (↑b1.toNat : Int) * (2 : Int) ^ min (Int.toNat (24 : Int)) IntKind.u32.bits)) (IntKind.u32.wrap (IntKind.u32.wrap (↑b2.toNat : Int) * (2 : Int) ^ min
  (Int.toNat (16 : Int)) IntKind.u32.bits))) (IntKind.u32.wrap (IntKind.u32.wrap (↑b3.toNat : Int) * (2 : Int) ^ min (Int.toNat (8 : Int)) IntKind.u32.bits))) (IntKind.u32.wrap (↑b4.toNat : Int)))), V.int IntKind.i64 (IntKind.i64.wrap ((0 :
  Int) + (1 : Int)))] h ∧ x1 [V.int IntKind.u32 (IntKind.u32.wrap (bits BinOp.or IntKind.u32 (bits BinOp.or IntKind.u32 (bits BinOp.or IntKind.u32 (IntKind.u32.wrap (IntKind.u32.wrap (↑b1.toNat : Int) * (2 : Int) ^ min (Int.toNat (24 : Int))
  IntKind.u32.bits)) (IntKind.u32.wrap (IntKind.u32.wrap (↑b2.toNat : Int) * (2 : Int) ^ min (Int.toNat (16 : Int)) IntKind.u32.bits))) (IntKind.u32.wrap (IntKind.u32.wrap (↑b3.toNat : Int) * (2 : Int) ^ min (Int.toNat (8 : Int))
  IntKind.u32.bits))) (IntKind.u32.wrap (↑b4.toNat : Int)) * (2 : Int) ^ min (Int.toNat (1 : Int)) IntKind.u32.bits)), V.int IntKind.u32 (bits BinOp.xor IntKind.u32 (0 : Int) (bits BinOp.or IntKind.u32 (bits BinOp.or IntKind.u32 (bits
  BinOp.or IntKind.u32 (IntKind.u32.wrap (IntKind.u32.wrap (↑b1.toNat : Int) * (2 : Int) ^ min (Int.toNat (24 : Int)) IntKind.u32.bits)) (IntKind.u32.wrap (IntKind.u32.wrap (↑b2.toNat : Int) * (2 : Int) ^ min (Int.toNat (16 : Int))
  IntKind.u32.bits))) (IntKind.u32.wrap (IntKind.u32.wrap (↑b3.toNat : Int) * (2 : Int) ^ min (Int.toNat (8 : Int)) IntKind.u32.bits))) (IntKind.u32.wrap (↑b4.toNat : Int)))), V.int IntKind.i64 (IntKind.i64.wrap ((0 : Int) + (1 : Int)))] h <
  N1 else ¬(1 : Int) < (0 : Int) ∧ ¬(8 : Int) = (0 : Int) ∧ bif ltI (IntKind.i64.wrap (IntKind.i64.wrap (Int.tdiv (0 : Int) (8 : Int)) + (4 : Int))) (↑key.length : Int) then (0 : Int) ≤ IntKind.i64.wrap (IntKind.i64.wrap (Int.tdiv (0 : Int)
  (8 : Int)) + (4 : Int)) ∧ ∃ (b7 : UInt8), key.get?Internal (IntKind.i64.wrap (IntKind.i64.wrap (Int.tdiv (0 : Int) (8 : Int)) + (4 : Int))).toNat = some b7 ∧ ¬(8 : Int) = (0 : Int) ∧ ¬IntKind.i64.wrap ((7 : Int) - Int.tmod (0 : Int) (8 :
  Int)) < (0 : Int) ∧ [V.str key, V.str text] = [V.str key, V.str text] ∧ I1 [V.int IntKind.u32 (bits BinOp.or IntKind.u32 (IntKind.u32.wrap (bits BinOp.or IntKind.u32 (bits BinOp.or IntKind.u32 (bits BinOp.or IntKind.u32 (IntKind.u32.wrap
  (IntKind.u32.wrap (↑b1.toNat : Int) * (2 : Int) ^ min (Int.toNat (24 : Int)) IntKind.u32.bits)) (IntKind.u32.wrap (IntKind.u32.wrap (↑b2.toNat : Int) * (2 : Int) ^ min (Int.toNat (16 : Int)) IntKind.u32.bits))) (IntKind.u32.wrap
  (IntKind.u32.wrap (↑b3.toNat : Int) * (2 : Int) ^ min (Int.toNat (8 : Int)) IntKind.u32.bits))) (IntKind.u32.wrap (↑b4.toNat : Int)) * (2 : Int) ^ min (Int.toNat (1 : Int)) IntKind.u32.bits)) (bits BinOp.and IntKind.u32 (IntKind.u32.wrap
  ((↑b7.toNat : Int).fdiv ((2 : Int) ^ min (IntKind.i64.wrap ((7 : Int) - Int.tmod (0 : Int) (8 : Int))).toNat IntKind.u8.bits))) (1 : Int))), V.int IntKind.u32 (0 : Int), V.int IntKind.i64 (IntKind.i64.wrap ((0 : Int) + (1 : Int)))] h ∧ x1
  [V.int IntKind.u32 (bits BinOp.or IntKind.u32 (IntKind.u32.wrap (bits BinOp.or IntKind.u32 (bits BinOp.or IntKind.u32 (bits BinOp.or IntKind.u32 (IntKind.u32.wrap (IntKind.u32.wrap (↑b1.toNat : Int) * (2 : Int) ^ min (Int.toNat (24 : Int))
  IntKind.u32.bits)) (IntKind.u32.wrap (IntKind.u32.wrap (↑b2.toNat : Int) * (2 : Int) ^ min (Int.toNat (16 : Int)) IntKind.u32.bits))) (IntKind.u32.wrap (IntKind.u32.wrap (↑b3.toNat : Int) * (2 : Int) ^ min (Int.toNat (8 : Int))
  IntKind.u32.bits))) (IntKind.u32.wrap (↑b4.toNat : Int)) * (2 : Int) ^ min (Int.toNat (1 : Int)) IntKind.u32.bits)) (bits BinOp.and IntKind.u32 (IntKind.u32.wrap ((↑b7.toNat : Int).fdiv ((2 : Int) ^ min (IntKind.i64.wrap ((7 : Int) -
  Int.tmod (0 : Int) (8 : Int))).toNat IntKind.u8.bits))) (1 : Int))), V.int IntKind.u32 (0 : Int), V.int IntKind.i64 (IntKind.i64.wrap ((0 : Int) + (1 : Int)))] h < N1 else [V.str key, V.str text] = [V.str key, V.str text] ∧ I1 [V.int
  IntKind.u32 (IntKind.u32.wrap (bits BinOp.or IntKind.u32 (bits BinOp.or IntKind.u32 (bits BinOp.or IntKind.u32 (IntKind.u32.wrap (IntKind.u32.wrap (↑b1.toNat : Int) * (2 : Int) ^ min (Int.toNat (24 : Int)) IntKind.u32.bits))
  (IntKind.u32.wrap (IntKind.u32.wrap (↑b2.toNat : Int) * (2 : Int) ^ min (Int.toNat (16 : Int)) IntKind.u32.bits))) (IntKind.u32.wrap (IntKind.u32.wrap (↑b3.toNat : Int) * (2 : Int) ^ min (Int.toNat (8 : Int)) IntKind.u32.bits)))
  (IntKind.u32.wrap (↑b4.toNat : Int)) * (2 : Int) ^ min (Int.toNat (1 : Int)) IntKind.u32.bits)), V.int IntKind.u32 (0 : Int), V.int IntKind.i64 (IntKind.i64.wrap ((0 : Int) + (1 : Int)))] h ∧ x1 [V.int IntKind.u32 (IntKind.u32.wrap (bits
  BinOp.or IntKind.u32 (bits BinOp.or IntKind.u32 (bits BinOp.or IntKind.u32 (IntKind.u32.wrap (IntKind.u32.wrap (↑b1.toNat : Int) * (2 : Int) ^ min (Int.toNat (24 : Int)) IntKind.u32.bits)) (IntKind.u32.wrap (IntKind.u32.wrap (↑b2.toNat :
  Int) * (2 : Int) ^ min (Int.toNat (16 : Int)) IntKind.u32.bits))) (IntKind.u32.wrap (IntKind.u32.wrap (↑b3.toNat : Int) * (2 : Int) ^ min (Int.toNat (8 : Int)) IntKind.u32.bits))) (IntKind.u32.wrap (↑b4.toNat : Int)) * (2 : Int) ^ min
  (Int.toNat (1 : Int)) IntKind.u32.bits)), V.int IntKind.u32 (0 : Int), V.int IntKind.i64 (IntKind.i64.wrap ((0 : Int) + (1 : Int)))] h < N1) ∧ ∀ (bs1 : Nat → Option V) (n1 n2 n3 : Int) (h1 : Hp), I1 [V.int IntKind.u32 n1, V.int IntKind.u32
  n2, V.int IntKind.i64 n3] h1 → bif n3 == IntKind.i64.wrap ((8 : Int) * (↑text.length : Int)) then K (V.tup [V.int IntKind.u32 n2, V.int IntKind.i64 (0 : Int)]) h1 else ¬(8 : Int) = (0 : Int) ∧ (0 : Int) ≤ IntKind.i64.wrap (n3.tdiv (8 :
  Int)) ∧ ∃ (b8 : UInt8), text.get?Internal (IntKind.i64.wrap (n3.tdiv (8 : Int))).toNat = some b8 ∧ ¬(8 : Int) = (0 : Int) ∧ ¬IntKind.i64.wrap ((7 : Int) - n3.tmod (8 : Int)) < (0 : Int) ∧ bif bits BinOp.and IntKind.u8 ((↑b8.toNat :
  Int).fdiv ((2 : Int) ^ min (IntKind.i64.wrap ((7 : Int) - n3.tmod (8 : Int))).toNat IntKind.u8.bits)) (1 : Int) == (1 : Int) then ¬(1 : Int) < (0 : Int) ∧ ¬(8 : Int) = (0 : Int) ∧ bif ltI (IntKind.i64.wrap (IntKind.i64.wrap (n3.tdiv (8 :
  Int)) + (4 : Int))) (↑key.length : Int) then (0 : Int) ≤ IntKind.i64.wrap (IntKind.i64.wrap (n3.tdiv (8 : Int)) + (4 : Int)) ∧ ∃ (b9 : UInt8), key.get?Internal (IntKind.i64.wrap (IntKind.i64.wrap (n3.tdiv (8 : Int)) + (4 : Int))).toNat =
  some b9 ∧ ¬(8 : Int) = (0 : Int) ∧ ¬IntKind.i64.wrap ((7 : Int) - n3.tmod (8 : Int)) < (0 : Int) ∧ [V.str key, V.str text] = [V.str key, V.str text] ∧ I1 [V.int IntKind.u32 (bits BinOp.or IntKind.u32 (IntKind.u32.wrap (n1 * (2 : Int) ^ min
  (Int.toNat (1 : Int)) IntKind.u32.bits)) (bits BinOp.and IntKind.u32 (IntKind.u32.wrap ((↑b9.toNat : Int).fdiv ((2 : Int) ^ min (IntKind.i64.wrap ((7 : Int) - n3.tmod (8 : Int))).toNat IntKind.u8.bits))) (1 : Int))), V.int IntKind.u32
  (bits BinOp.xor IntKind.u32 n2 n1), V.int IntKind.i64 (IntKind.i64.wrap (n3 + (1 : Int)))] h1 ∧ x1 [V.int IntKind.u32 (bits BinOp.or IntKind.u32 (IntKind.u32.wrap (n1 * (2 : Int) ^ min (Int.toNat (1 : Int)) IntKind.u32.bits)) (bits
  BinOp.and IntKind.u32 (IntKind.u32.wrap ((↑b9.toNat : Int).fdiv ((2 : Int) ^ min (IntKind.i64.wrap ((7 : Int) - n3.tmod (8 : Int))).toNat IntKind.u8.bits))) (1 : Int))), V.int IntKind.u32 (bits BinOp.xor IntKind.u32 n2 n1), V.int
  IntKind.i64 (IntKind.i64.wrap (n3 + (1 : Int)))] h1 < x1 [V.int IntKind.u32 n1, V.int IntKind.u32 n2, V.int IntKind.i64 n3] h1 else [V.str key, V.str text] = [V.str key, V.str text] ∧ I1 [V.int IntKind.u32 (IntKind.u32.wrap (n1 * (2 : Int)
  ^ min (Int.toNat (1 : Int)) IntKind.u32.bits)), V.int IntKind.u32 (bits BinOp.xor IntKind.u32 n2 n1), V.int IntKind.i64 (IntKind.i64.wrap (n3 + (1 : Int)))] h1 ∧ x1 [V.int IntKind.u32 (IntKind.u32.wrap (n1 * (2 : Int) ^ min (Int.toNat (1 :
  Int)) IntKind.u32.bits)), V.int IntKind.u32 (bits BinOp.xor IntKind.u32 n2 n1), V.int IntKind.i64 (IntKind.i64.wrap (n3 + (1 : Int)))] h1 < x1 [V.int IntKind.u32 n1, V.int IntKind.u32 n2, V.int IntKind.i64 n3] h1 else ¬(1 : Int) < (0 :
  Int) ∧ ¬(8 : Int) = (0 : Int) ∧ bif ltI (IntKind.i64.wrap (IntKind.i64.wrap (n3.tdiv (8 : Int)) + (4 : Int))) (↑key.length : Int) then (0 : Int) ≤ IntKind.i64.wrap (IntKind.i64.wrap (n3.tdiv (8 : Int)) + (4 : Int)) ∧ ∃ (b10 : UInt8),
  key.get?Internal (IntKind.i64.wrap (IntKind.i64.wrap (n3.tdiv (8 : Int)) + (4 : Int))).toNat = some b10 ∧ ¬(8 : Int) = (0 : Int) ∧ ¬IntKind.i64.wrap ((7 : Int) - n3.tmod (8 : Int)) < (0 : Int) ∧ [V.str key, V.str text] = [V.str key, V.str
  text] ∧ I1 [V.int IntKind.u32 (bits BinOp.or IntKind.u32 (IntKind.u32.wrap (n1 * (2 : Int) ^ min (Int.toNat (1 : Int)) IntKind.u32.bits)) (bits BinOp.and IntKind.u32 (IntKind.u32.wrap ((↑b10.toNat : Int).fdiv ((2 : Int) ^ min
  (IntKind.i64.wrap ((7 : Int) - n3.tmod (8 : Int))).toNat IntKind.u8.bits))) (1 : Int))), V.int IntKind.u32 n2, V.int IntKind.i64 (IntKind.i64.wrap (n3 + (1 : Int)))] h1 ∧ x1 [V.int IntKind.u32 (bits BinOp.or IntKind.u32 (IntKind.u32.wrap
  (n1 * (2 : Int) ^ min (Int.toNat (1 : Int)) IntKind.u32.bits)) (bits BinOp.and IntKind.u32 (IntKind.u32.wrap ((↑b10.toNat : Int).fdiv ((2 : Int) ^ min (IntKind.i64.wrap ((7 : Int) - n3.tmod (8 : Int))).toNat IntKind.u8.bits))) (1 : Int))),
  V.int IntKind.u32 n2, V.int IntKind.i64 (IntKind.i64.wrap (n3 + (1 : Int)))] h1 < x1 [V.int IntKind.u32 n1, V.int IntKind.u32 n2, V.int IntKind.i64 n3] h1 else [V.str key, V.str text] = [V.str key, V.str text] ∧ I1 [V.int IntKind.u32
  (IntKind.u32.wrap (n1 * (2 : Int) ^ min (Int.toNat (1 : Int)) IntKind.u32.bits)), V.int IntKind.u32 n2, V.int IntKind.i64 (IntKind.i64.wrap (n3 + (1 : Int)))] h1 ∧ x1 [V.int IntKind.u32 (IntKind.u32.wrap (n1 * (2 : Int) ^ min (Int.toNat (1
  : Int)) IntKind.u32.bits)), V.int IntKind.u32 n2, V.int IntKind.i64 (IntKind.i64.wrap (n3 + (1 : Int)))] h1 < x1 [V.int IntKind.u32 n1, V.int IntKind.u32 n2, V.int IntKind.i64 n3] h1
theorem y40 (h : Hp) (K : V → Hp → Prop) (key : List UInt8) (text : List UInt8) : X40 h K key text = fnX Try.prog T F jl40 jj40 Try.f40 [V.str key, V.str text] h K := by kernel_rfl
theorem x40 {h : Hp} {K : V → Hp → Prop} (key : List UInt8) (text : List UInt8) (hx : X40 h K key text) : XCalls Try.prog 40 [V.str key, V.str text] h K :=
  XCalls.ofX tok fok mixed (JL := jl40) (JJ := jj40) Try.func40 ((y40 h K key text) ▸ hx)
/-! 41: stevedore/steer.Text -/
-- loop 8: stays (39); turns b(3), (40)
-- loop 3: stays p(1), (12); turns b(3), (13)
def jl41 : Nat → Option JT := fun r => bif Nat.beq r 8 then some ⟨[39], [3, 40], [V.slc none (0 : Nat) true, V.int IntKind.i64 (0 : Int)]⟩ else bif Nat.beq r 3 then some ⟨[1, 12], [3, 13], [V.slc none (0 : Nat) true, V.int IntKind.i64 (0 : Int)]⟩ else none
def jj41 : Nat → Option JT := fun r => none
def X41 (h : Hp) (K : V → Hp → Prop) (p_0 : Int) (p_1 : Int) (p_2 : Int) (p_3 : Int) : Prop := ∀ (h'1 : Hp), h'1 = h.alloc (O.row [V.int IntKind.u32 p_0, V.int IntKind.u16 p_1, V.int IntKind.u32 p_2, V.int IntKind.u16 p_3] (1 : Nat) false) →
  ∃ (n1 : Int), ∃ (n2 : Int), h'1.lda h.next (0 : Nat) (2 : Nat) = some (V.agg [V.int IntKind.u32 n1, V.int IntKind.u16 n2]) ∧ ∃ (n3 : Int), ∃ (n4 : Int), h'1.lda h.next (2 : Nat) (2 : Nat) = some (V.agg [V.int IntKind.u32 n3, V.int
  IntKind.u16 n4]) ∧ ∃ (I1 : List V → Hp → Prop), ∃ (x1 : List V → Hp → Nat), ([V.ptr (some (h.next, (0 : Nat))), V.agg [V.int IntKind.u32 n1, V.int IntKind.u16 n2, V.int IntKind.u32 n3, V.int IntKind.u16 n4]] = [V.ptr (some (h.next, (0 :
  Nat))), V.agg [V.int IntKind.u32 n1, V.int IntKind.u16 n2, V.int IntKind.u32 n3, V.int IntKind.u16 n4]] ∧ I1 [V.slc none (0 : Nat) true, V.int IntKind.i64 (0 : Int)] h'1) ∧ ∀ (bs1 : Nat → Option V) (a1 : Option (Nat × Nat)) (n5 : Nat) (f1
  : Bool) (n6 : Int) (h1 : Hp), I1 [V.slc a1 n5 f1, V.int IntKind.i64 n6] h1 → bif ltI n6 (2 : Int) then ((0 : Int) ≤ n6 ∧ n6 < (↑(2 : Nat) : Int)) ∧ (True ∧ (n6 = (↑(0 : Nat) : Int) → ∀ (h'2 : Hp), h'2 = h1.alloc (O.row [V.int IntKind.u32
  (0 : Int), V.int IntKind.u16 (0 : Int)] (1 : Nat) false) → ∃ (h'3 : Hp), h'2.st h1.next (0 : Nat) [V.int IntKind.u32 n1, V.int IntKind.u16 n2] = some h'3 ∧ ∃ (n7 : Int), h'3.ld h1.next (0 : Nat) = some (V.int IntKind.u32 n7) ∧ ¬(24 : Int)
  < (0 : Int) ∧ ∃ (n8 : Int), h'3.ld h1.next (0 : Nat) = some (V.int IntKind.u32 n8) ∧ ¬(16 : Int) < (0 : Int) ∧ ∃ (n9 : Int), h'3.ld h1.next (0 : Nat) = some (V.int IntKind.u32 n9) ∧ ¬(8 : Int) < (0 : Int) ∧ ∃ (n10 : Int), h'3.ld h1.next (0
  : Nat) = some (V.int IntKind.u32 n10) ∧ ∀ (h'4 : Hp), h'4 = h'3.alloc (O.row [V.int IntKind.u8 (IntKind.u8.wrap (n7.fdiv ((2 : Int) ^ min (Int.toNat (24 : Int)) IntKind.u32.bits))), V.int IntKind.u8 (IntKind.u8.wrap (n8.fdiv ((2 : Int) ^
  min (Int.toNat (16 : Int)) IntKind.u32.bits))), V.int IntKind.u8 (IntKind.u8.wrap (n9.fdiv ((2 : Int) ^ min (Int.toNat (8 : Int)) IntKind.u32.bits))), V.int IntKind.u8 (IntKind.u8.wrap n10)] (1 : Nat) false) → ∃ (p1 : Option (Nat × Nat)),
  ∃ (n11 : Nat), ∃ (f2 : Bool), ∃ (h'5 : Hp), xapp T h'4 (84 : Nat) (84 : Nat) (V.slc a1 n5 f1) (V.slc (some (h'3.next, (0 : Nat))) (4 : Nat) true) = some (V.slc p1 n11 f2, h'5) ∧ [V.ptr (some (h.next, (0 : Nat))), V.agg [V.int IntKind.u32
  n1, V.int IntKind.u16 n2, V.int IntKind.u32 n3, V.int IntKind.u16 n4]] = [V.ptr (some (h.next, (0 : Nat))), V.agg [V.int IntKind.u32 n1, V.int IntKind.u16 n2, V.int IntKind.u32 n3, V.int IntKind.u16 n4]] ∧ I1 [V.slc p1 n11 f2, V.int
  IntKind.i64 (IntKind.i64.wrap (n6 + (1 : Int)))] h'5 ∧ x1 [V.slc p1 n11 f2, V.int IntKind.i64 (IntKind.i64.wrap (n6 + (1 : Int)))] h'5 < x1 [V.slc a1 n5 f1, V.int IntKind.i64 n6] h1)) ∧ (n6 = (↑(1 : Nat) : Int) → ∀ (h'6 : Hp), h'6 =
  h1.alloc (O.row [V.int IntKind.u32 (0 : Int), V.int IntKind.u16 (0 : Int)] (1 : Nat) false) → ∃ (h'7 : Hp), h'6.st h1.next (0 : Nat) [V.int IntKind.u32 n3, V.int IntKind.u16 n4] = some h'7 ∧ ∃ (n12 : Int), h'7.ld h1.next (0 : Nat) = some
  (V.int IntKind.u32 n12) ∧ ¬(24 : Int) < (0 : Int) ∧ ∃ (n13 : Int), h'7.ld h1.next (0 : Nat) = some (V.int IntKind.u32 n13) ∧ ¬(16 : Int) < (0 : Int) ∧ ∃ (n14 : Int), h'7.ld h1.next (0 : Nat) = some (V.int IntKind.u32 n14) ∧ ¬(8 : Int) < (0
  : Int) ∧ ∃ (n15 : Int), h'7.ld h1.next (0 : Nat) = some (V.int IntKind.u32 n15) ∧ ∀ (h'8 : Hp), h'8 = h'7.alloc (O.row [V.int IntKind.u8 (IntKind.u8.wrap (n12.fdiv ((2 : Int) ^ min (Int.toNat (24 : Int)) IntKind.u32.bits))), V.int
  IntKind.u8 (IntKind.u8.wrap (n13.fdiv ((2 : Int) ^ min (Int.toNat (16 : Int)) IntKind.u32.bits))), V.int IntKind.u8 (IntKind.u8.wrap (n14.fdiv ((2 : Int) ^ min (Int.toNat (8 : Int)) IntKind.u32.bits))), V.int IntKind.u8 (IntKind.u8.wrap
  n15)] (1 : Nat) false) → ∃ (p2 : Option (Nat × Nat)), ∃ (n16 : Nat), ∃ (f3 : Bool), ∃ (h'9 : Hp), xapp T h'8 (84 : Nat) (84 : Nat) (V.slc a1 n5 f1) (V.slc (some (h'7.next, (0 : Nat))) (4 : Nat) true) = some (V.slc p2 n16 f3, h'9) ∧ [V.ptr
  (some (h.next, (0 : Nat))), V.agg [V.int IntKind.u32 n1, V.int IntKind.u16 n2, V.int IntKind.u32 n3, V.int IntKind.u16 n4]] = [V.ptr (some (h.next, (0 : Nat))), V.agg [V.int IntKind.u32 n1, V.int IntKind.u16 n2, V.int IntKind.u32 n3, V.int
  IntKind.u16 n4]] ∧ I1 [V.slc p2 n16 f3, V.int IntKind.i64 (IntKind.i64.wrap (n6 + (1 : Int)))] h'9 ∧ x1 [V.slc p2 n16 f3, V.int IntKind.i64 (IntKind.i64.wrap (n6 + (1 : Int)))] h'9 < x1 [V.slc a1 n5 f1, V.int IntKind.i64 n6] h1) else ∃
  (n17 : Int), ∃ (n18 : Int), h1.lda h.next (0 : Nat) (2 : Nat) = some (V.agg [V.int IntKind.u32 n17, V.int IntKind.u16 n18]) ∧ ∃ (n19 : Int), ∃ (n20 : Int), h1.lda h.next (2 : Nat) (2 : Nat) = some (V.agg [V.int IntKind.u32 n19, V.int
  IntKind.u16 n20]) ∧ ∃ (I2 : List V → Hp → Prop), ∃ (x2 : List V → Hp → Nat), ([V.agg [V.int IntKind.u32 n17, V.int IntKind.u16 n18, V.int IntKind.u32 n19, V.int IntKind.u16 n20]] = [V.agg [V.int IntKind.u32 n17, V.int IntKind.u16 n18,
  V.int IntKind.u32 n19, V.int IntKind.u16 n20]] ∧ I2 [V.slc a1 n5 f1, V.int IntKind.i64 (0 : Int)] h1) ∧ ∀ (bs2 : Nat → Option V) (a2 : Option (Nat × Nat)) (n21 : Nat) (f4 : Bool) (n22 : Int) (h2 : Hp), I2 [V.slc a2 n21 f4, V.int
  IntKind.i64 n22] h2 → bif ltI n22 (2 : Int) then ((0 : Int) ≤ n22 ∧ n22 < (↑(2 : Nat) : Int)) ∧ (True ∧ (n22 = (↑(0 : Nat) : Int) → ∀ (h'10 : Hp), h'10 = h2.alloc (O.row [V.int IntKind.u32 (0 : Int), V.int IntKind.u16 (0 : Int)] (1 : Nat)
  false) → ∃ (h'11 : Hp), h'10.st h2.next (0 : Nat) [V.int IntKind.u32 n17, V.int IntKind.u16 n18] = some h'11 ∧ ∃ (n23 : Int), h'11.ld h2.next (1 : Nat) = some (V.int IntKind.u16 n23) ∧ ¬(8 : Int) < (0 : Int) ∧ ∃ (n24 : Int), h'11.ld
  h2.next (1 : Nat) = some (V.int IntKind.u16 n24) ∧ ∀ (h'12 : Hp), h'12 = h'11.alloc (O.row [V.int IntKind.u8 (IntKind.u8.wrap (n23.fdiv ((2 : Int) ^ min (Int.toNat (8 : Int)) IntKind.u16.bits))), V.int IntKind.u8 (IntKind.u8.wrap n24)] (1
  : Nat) false) → ∃ (p3 : Option (Nat × Nat)), ∃ (n25 : Nat), ∃ (f5 : Bool), ∃ (h'13 : Hp), xapp T h'12 (84 : Nat) (84 : Nat) (V.slc a2 n21 f4) (V.slc (some (h'11.next, (0 : Nat))) (2 : Nat) true) = some (V.slc p3 n25 f5, h'13) ∧ [V.agg
  [V.int IntKind.u32 n17, V.int IntKind.u16 n18, V.int IntKind.u32 n19, V.int IntKind.u16 n20]] = [V.agg [V.int IntKind.u32 n17, V.int IntKind.u16 n18, V.int IntKind.u32 n19, V.int IntKind.u16 n20]] ∧ I2 [V.slc p3 n25 f5, V.int IntKind.i64
  (IntKind.i64.wrap (n22 + (1 : Int)))] h'13 ∧ x2 [V.slc p3 n25 f5, V.int IntKind.i64 (IntKind.i64.wrap (n22 + (1 : Int)))] h'13 < x2 [V.slc a2 n21 f4, V.int IntKind.i64 n22] h2)) ∧ (n22 = (↑(1 : Nat) : Int) → ∀ (h'14 : Hp), h'14 = h2.alloc
  (O.row [V.int IntKind.u32 (0 : Int), V.int IntKind.u16 (0 : Int)] (1 : Nat) false) → ∃ (h'15 : Hp), h'14.st h2.next (0 : Nat) [V.int IntKind.u32 n19, V.int IntKind.u16 n20] = some h'15 ∧ ∃ (n26 : Int), h'15.ld h2.next (1 : Nat) = some
  (V.int IntKind.u16 n26) ∧ ¬(8 : Int) < (0 : Int) ∧ ∃ (n27 : Int), h'15.ld h2.next (1 : Nat) = some (V.int IntKind.u16 n27) ∧ ∀ (h'16 : Hp), h'16 = h'15.alloc (O.row [V.int IntKind.u8 (IntKind.u8.wrap (n26.fdiv ((2 : Int) ^ min (Int.toNat
  (8 : Int)) IntKind.u16.bits))), V.int IntKind.u8 (IntKind.u8.wrap n27)] (1 : Nat) false) → ∃ (p4 : Option (Nat × Nat)), ∃ (n28 : Nat), ∃ (f6 : Bool), ∃ (h'17 : Hp), xapp T h'16 (84 : Nat) (84 : Nat) (V.slc a2 n21 f4) (V.slc (some
  (h'15.next, (0 : Nat))) (2 : Nat) true) = some (V.slc p4 n28 f6, h'17) ∧ [V.agg [V.int IntKind.u32 n17, V.int IntKind.u16 n18, V.int IntKind.u32 n19, V.int IntKind.u16 n20]] = [V.agg [V.int IntKind.u32 n17, V.int IntKind.u16 n18, V.int
  IntKind.u32 n19, V.int IntKind.u16 n20]] ∧ I2 [V.slc p4 n28 f6, V.int IntKind.i64 (IntKind.i64.wrap (n22 + (1 : Int)))] h'17 ∧ x2 [V.slc p4 n28 f6, V.int IntKind.i64 (IntKind.i64.wrap (n22 + (1 : Int)))] h'17 < x2 [V.slc a2 n21 f4, V.int
  IntKind.i64 n22] h2) else ∃ (s1 : List UInt8), xconv T h2 (84 : Nat) (9 : Nat) (V.slc a2 n21 f4) = some (V.str s1) ∧ K (V.str s1) h2
theorem y41 (h : Hp) (K : V → Hp → Prop) (p_0 : Int) (p_1 : Int) (p_2 : Int) (p_3 : Int) : X41 h K p_0 p_1 p_2 p_3 = fnX Try.prog T F jl41 jj41 Try.f41 [V.agg [V.int IntKind.u32 p_0, V.int IntKind.u16 p_1, V.int IntKind.u32 p_2, V.int IntKind.u16 p_3]] h K := by kernel_rfl
theorem x41 {h : Hp} {K : V → Hp → Prop} (p_0 : Int) (p_1 : Int) (p_2 : Int) (p_3 : Int) (hx : X41 h K p_0 p_1 p_2 p_3) : XCalls Try.prog 41 [V.agg [V.int IntKind.u32 p_0, V.int IntKind.u16 p_1, V.int IntKind.u32 p_2, V.int IntKind.u16 p_3]] h K :=
  XCalls.ofX tok fok mixed (JL := jl41) (JJ := jj41) Try.func41 ((y41 h K p_0 p_1 p_2 p_3) ▸ hx) 
end Go.Vex
