/- TableShares (layer 23) (printed by VexPrint).
-/
import Derived.Test.YteknlobdnjcdbaaVexX
import Derived.Test.YteknlobdnjcdbaaTab23
set_option linter.unusedVariables false
set_option maxRecDepth 100000
namespace Go.Vex
open Go.Proofs
/-! 5: stevedore/stevedorelaw23.TableShares -/
-- loop 16: stays hash(2), own(3), a(5), t(9), n(10), p(13), k(14), who(15), seen(18); turns i(19)
-- loop 5: stays hash(2), own(3), a(5), t(9), n(10), any(11); turns i(12)
-- join 28: stays t(9), p(13), hash(2), k(14), who(15); turns 
def jl5 : Nat → Option JT := fun r => bif Nat.beq r 16 then some ⟨[2, 3, 5, 9, 10, 13, 14, 15, 18], [19], [V.int IntKind.i64 (0 : Int)]⟩ else bif Nat.beq r 5 then some ⟨[2, 3, 5, 9, 10, 11], [12], [V.int IntKind.i64 (0 : Int)]⟩ else none
def jj5 : Nat → Option JT := fun r => bif Nat.beq r 28 then some ⟨[9, 13, 2, 14, 15], [], []⟩ else none
def X5 (h : Hp) (K : V → Hp → Prop) (many : Int) (a_0 : Int) (a_1 : Int) (hash : Int) (own : Bool) : Prop := ∀ (h'1 : Hp), h'1 = h.alloc (O.row [V.int IntKind.u32 a_0, V.int IntKind.u16 a_1] (1 : Nat) false) → XCalls Try.prog (9 : Nat) []
  h'1 fun (v1 : V) (h'2 : Hp) => ∃ (a1 : Option (Nat × Nat)), v1 = V.ptr a1 ∧ ¬(30 : Int) = (0 : Int) ∧ ∃ (n1 : Int), h'2.ld h.next (1 : Nat) = some (V.int IntKind.u16 n1) ∧ ∀ (h'3 : Hp), h'3 = h'2.alloc (O.row [V.int IntKind.u32 (0 : Int),
  V.int IntKind.u16 (0 : Int)] (1 : Nat) false) → ∃ (h'4 : Hp), h'3.st h'2.next (0 : Nat) [V.int IntKind.u32 (0 : Int), V.int IntKind.u16 n1] = some h'4 ∧ ∃ (I1 : List V → Hp → Prop), ∃ (x1 : List V → Hp → Nat), ([V.int IntKind.u32 hash,
  V.bool own, V.ptr (some (h.next, (0 : Nat))), V.ptr a1, V.int IntKind.i64 (IntKind.i64.wrap (IntKind.i64.wrap (many.tmod (30 : Int)) + (1 : Int))), V.ptr (some (h'2.next, (0 : Nat)))] = [V.int IntKind.u32 hash, V.bool own, V.ptr (some
  (h.next, (0 : Nat))), V.ptr a1, V.int IntKind.i64 (IntKind.i64.wrap (IntKind.i64.wrap (many.tmod (30 : Int)) + (1 : Int))), V.ptr (some (h'2.next, (0 : Nat)))] ∧ I1 [V.int IntKind.i64 (0 : Int)] h'4) ∧ ∀ (bs1 : Nat → Option V) (n2 : Int)
  (h1 : Hp), I1 [V.int IntKind.i64 n2] h1 → bif ltI n2 (IntKind.i64.wrap (IntKind.i64.wrap (many.tmod (30 : Int)) + (1 : Int))) then ∃ (n3 : Int), ∃ (n4 : Int), h1.lda h'2.next (0 : Nat) (2 : Nat) = some (V.agg [V.int IntKind.u32 n3, V.int
  IntKind.u16 n4]) ∧ XCalls Try.prog (13 : Nat) [V.ptr a1, V.int IntKind.u64 (IntKind.u64.wrap (IntKind.u64.wrap n2 + (10 : Int))), V.agg [V.int IntKind.u32 n3, V.int IntKind.u16 n4]] h1 fun (v2 : V) (h'5 : Hp) => ∃ (n5 : Int), v2 = V.int
  IntKind.i64 n5 ∧ bif n5 != (0 : Int) then K (V.bool false) h'5 else [V.int IntKind.u32 hash, V.bool own, V.ptr (some (h.next, (0 : Nat))), V.ptr a1, V.int IntKind.i64 (IntKind.i64.wrap (IntKind.i64.wrap (many.tmod (30 : Int)) + (1 :
  Int))), V.ptr (some (h'2.next, (0 : Nat)))] = [V.int IntKind.u32 hash, V.bool own, V.ptr (some (h.next, (0 : Nat))), V.ptr a1, V.int IntKind.i64 (IntKind.i64.wrap (IntKind.i64.wrap (many.tmod (30 : Int)) + (1 : Int))), V.ptr (some
  (h'2.next, (0 : Nat)))] ∧ I1 [V.int IntKind.i64 (IntKind.i64.wrap (n2 + (1 : Int)))] h'5 ∧ x1 [V.int IntKind.i64 (IntKind.i64.wrap (n2 + (1 : Int)))] h'5 < x1 [V.int IntKind.i64 n2] h1 else ∃ (n6 : Int), ∃ (n7 : Int), h1.lda h.next (0 :
  Nat) (2 : Nat) = some (V.agg [V.int IntKind.u32 n6, V.int IntKind.u16 n7]) ∧ ∀ (h'6 : Hp), h'6 = h1.alloc (O.row [V.int IntKind.u32 (0 : Int), V.int IntKind.u16 (0 : Int), V.int IntKind.u32 (0 : Int), V.int IntKind.u16 (0 : Int)] (1 : Nat)
  false) → ∃ (h'7 : Hp), h'6.st h1.next (0 : Nat) [V.int IntKind.u32 n6, V.int IntKind.u16 n7, V.int IntKind.u32 (7 : Int), V.int IntKind.u16 (9 : Int)] = some h'7 ∧ ∃ (n8 : Int), ∃ (n9 : Int), ∃ (n10 : Int), ∃ (n11 : Int), h'7.lda h1.next
  (0 : Nat) (4 : Nat) = some (V.agg [V.int IntKind.u32 n8, V.int IntKind.u16 n9, V.int IntKind.u32 n10, V.int IntKind.u16 n11]) ∧ XCalls Try.prog (14 : Nat) [V.ptr a1, V.agg [V.int IntKind.u32 n8, V.int IntKind.u16 n9, V.int IntKind.u32 n10,
  V.int IntKind.u16 n11], V.int IntKind.u32 hash, V.int IntKind.i64 (0 : Int)] h'7 fun (v3 : V) (h'8 : Hp) => ∃ (n12 : Int), ∃ (n13 : Int), v3 = V.tup [V.int IntKind.u8 n12, V.int IntKind.u64 n13] ∧ ∃ (n14 : Int), ∃ (n15 : Int), ∃ (n16 :
  Int), ∃ (n17 : Int), h'8.lda h1.next (0 : Nat) (4 : Nat) = some (V.agg [V.int IntKind.u32 n14, V.int IntKind.u16 n15, V.int IntKind.u32 n16, V.int IntKind.u16 n17]) ∧ XCalls Try.prog (14 : Nat) [V.ptr a1, V.agg [V.int IntKind.u32 n14,
  V.int IntKind.u16 n15, V.int IntKind.u32 n16, V.int IntKind.u16 n17], V.int IntKind.u32 hash, V.int IntKind.i64 (50 : Int)] h'8 fun (v4 : V) (h'9 : Hp) => ∃ (n18 : Int), ∃ (n19 : Int), v4 = V.tup [V.int IntKind.u8 n18, V.int IntKind.u64
  n19] ∧ bif n12 != (2 : Int) then K (V.bool false) h'9 else bif n18 != n12 then K (V.bool false) h'9 else bif n13 != n19 then K (V.bool false) h'9 else bif ltI n13 (10 : Int) then K (V.bool false) h'9 else bif !ltI n13 (IntKind.u64.wrap
  (IntKind.u64.wrap (IntKind.i64.wrap (IntKind.i64.wrap (many.tmod (30 : Int)) + (1 : Int))) + (10 : Int))) then K (V.bool false) h'9 else ∀ (h'10 : Hp), h'10 = h'9.alloc (O.map [] (0 : Nat)) → ∃ (I2 : List V → Hp → Prop), ∃ (x2 : List V →
  Hp → Nat), ([V.int IntKind.u32 hash, V.bool own, V.ptr (some (h.next, (0 : Nat))), V.ptr a1, V.int IntKind.i64 (IntKind.i64.wrap (IntKind.i64.wrap (many.tmod (30 : Int)) + (1 : Int))), V.ptr (some (h1.next, (0 : Nat))), V.int IntKind.u8
  n12, V.int IntKind.u64 n13, V.map (some h'9.next)] = [V.int IntKind.u32 hash, V.bool own, V.ptr (some (h.next, (0 : Nat))), V.ptr a1, V.int IntKind.i64 (IntKind.i64.wrap (IntKind.i64.wrap (many.tmod (30 : Int)) + (1 : Int))), V.ptr (some
  (h1.next, (0 : Nat))), V.int IntKind.u8 n12, V.int IntKind.u64 n13, V.map (some h'9.next)] ∧ I2 [V.int IntKind.i64 (0 : Int)] h'10) ∧ ∀ (bs2 : Nat → Option V) (n20 : Int) (h2 : Hp), I2 [V.int IntKind.i64 n20] h2 → bif ltI n20 (64 : Int)
  then ∃ (n21 : Int), ∃ (n22 : Int), ∃ (n23 : Int), ∃ (n24 : Int), h2.lda h1.next (0 : Nat) (4 : Nat) = some (V.agg [V.int IntKind.u32 n21, V.int IntKind.u16 n22, V.int IntKind.u32 n23, V.int IntKind.u16 n24]) ∧ ¬(26 : Int) < (0 : Int) ∧
  XCalls Try.prog (14 : Nat) [V.ptr a1, V.agg [V.int IntKind.u32 n21, V.int IntKind.u16 n22, V.int IntKind.u32 n23, V.int IntKind.u16 n24], V.int IntKind.u32 (IntKind.u32.wrap (IntKind.u32.wrap n20 * (2 : Int) ^ min (Int.toNat (26 : Int))
  IntKind.u32.bits)), V.int IntKind.i64 (0 : Int)] h2 fun (v5 : V) (h'11 : Hp) => ∃ (n25 : Int), ∃ (n26 : Int), v5 = V.tup [V.int IntKind.u8 n25, V.int IntKind.u64 n26] ∧ ∃ (n27 : Int), xlook T h'11 (49 : Nat) (V.map (some h'9.next)) (V.int
  IntKind.u64 n26) false = some (V.int IntKind.i64 n27) ∧ ∃ (h'12 : Hp), xput T h'11 (49 : Nat) (V.map (some h'9.next)) (V.int IntKind.u64 n26) (V.int IntKind.i64 (IntKind.i64.wrap (n27 + (1 : Int)))) = some h'12 ∧ [V.int IntKind.u32 hash,
  V.bool own, V.ptr (some (h.next, (0 : Nat))), V.ptr a1, V.int IntKind.i64 (IntKind.i64.wrap (IntKind.i64.wrap (many.tmod (30 : Int)) + (1 : Int))), V.ptr (some (h1.next, (0 : Nat))), V.int IntKind.u8 n12, V.int IntKind.u64 n13, V.map (some
  h'9.next)] = [V.int IntKind.u32 hash, V.bool own, V.ptr (some (h.next, (0 : Nat))), V.ptr a1, V.int IntKind.i64 (IntKind.i64.wrap (IntKind.i64.wrap (many.tmod (30 : Int)) + (1 : Int))), V.ptr (some (h1.next, (0 : Nat))), V.int IntKind.u8
  n12, V.int IntKind.u64 n13, V.map (some h'9.next)] ∧ I2 [V.int IntKind.i64 (IntKind.i64.wrap (n20 + (1 : Int)))] h'12 ∧ x2 [V.int IntKind.i64 (IntKind.i64.wrap (n20 + (1 : Int)))] h'12 < x2 [V.int IntKind.i64 n20] h2 else ∃ (n28 : Int),
  xlen T h2 (49 : Nat) (V.map (some h'9.next)) = some (V.int IntKind.i64 n28) ∧ bif n28 != IntKind.i64.wrap (IntKind.i64.wrap (many.tmod (30 : Int)) + (1 : Int)) then K (V.bool false) h2 else ∃ (Q1 : List V → Hp → Prop), (bif own then ∃ (n29
  : Int), h2.ld h.next (0 : Nat) = some (V.int IntKind.u32 n29) ∧ bif n29 != (0 : Int) then ∃ (n30 : Int), ∃ (n31 : Int), h2.lda h.next (0 : Nat) (2 : Nat) = some (V.agg [V.int IntKind.u32 n30, V.int IntKind.u16 n31]) ∧ XCalls Try.prog (13 :
  Nat) [V.ptr a1, V.int IntKind.u64 (5 : Int), V.agg [V.int IntKind.u32 n30, V.int IntKind.u16 n31]] h2 fun (v6 : V) (h'13 : Hp) => ∃ (n32 : Int), v6 = V.int IntKind.i64 n32 ∧ bif n32 != (0 : Int) then K (V.bool false) h'13 else ∃ (n33 :
  Int), ∃ (n34 : Int), ∃ (n35 : Int), ∃ (n36 : Int), h'13.lda h1.next (0 : Nat) (4 : Nat) = some (V.agg [V.int IntKind.u32 n33, V.int IntKind.u16 n34, V.int IntKind.u32 n35, V.int IntKind.u16 n36]) ∧ XCalls Try.prog (14 : Nat) [V.ptr a1,
  V.agg [V.int IntKind.u32 n33, V.int IntKind.u16 n34, V.int IntKind.u32 n35, V.int IntKind.u16 n36], V.int IntKind.u32 hash, V.int IntKind.i64 (0 : Int)] h'13 fun (v7 : V) (h'14 : Hp) => ∃ (n37 : Int), ∃ (n38 : Int), v7 = V.tup [V.int
  IntKind.u8 n37, V.int IntKind.u64 n38] ∧ bif n37 != (2 : Int) then K (V.bool false) h'14 else bif n38 != (5 : Int) then K (V.bool false) h'14 else ∀ (h'15 : Hp), h'15 = h'14.alloc (O.row [V.int IntKind.u64 (5 : Int)] (1 : Nat) false) →
  XCalls Try.prog (16 : Nat) [V.ptr a1, V.slc (some (h'14.next, (0 : Nat))) (1 : Nat) true] h'15 fun (v8 : V) (h'16 : Hp) => ∃ (n39 : Int), v8 = V.int IntKind.i64 n39 ∧ bif n39 != (1 : Int) then K (V.bool false) h'16 else [V.ptr a1, V.ptr
  (some (h1.next, (0 : Nat))), V.int IntKind.u32 hash, V.int IntKind.u8 n12, V.int IntKind.u64 n13] = [V.ptr a1, V.ptr (some (h1.next, (0 : Nat))), V.int IntKind.u32 hash, V.int IntKind.u8 n12, V.int IntKind.u64 n13] ∧ Q1 [] h'16 else [V.ptr
  a1, V.ptr (some (h1.next, (0 : Nat))), V.int IntKind.u32 hash, V.int IntKind.u8 n12, V.int IntKind.u64 n13] = [V.ptr a1, V.ptr (some (h1.next, (0 : Nat))), V.int IntKind.u32 hash, V.int IntKind.u8 n12, V.int IntKind.u64 n13] ∧ Q1 [] h2
  else [V.ptr a1, V.ptr (some (h1.next, (0 : Nat))), V.int IntKind.u32 hash, V.int IntKind.u8 n12, V.int IntKind.u64 n13] = [V.ptr a1, V.ptr (some (h1.next, (0 : Nat))), V.int IntKind.u32 hash, V.int IntKind.u8 n12, V.int IntKind.u64 n13] ∧
  Q1 [] h2) ∧ ∀ (bs3 : Nat → Option V) (h3 : Hp), Q1 [] h3 → ∃ (n40 : Int), ∃ (n41 : Int), ∃ (n42 : Int), ∃ (n43 : Int), h3.lda h1.next (0 : Nat) (4 : Nat) = some (V.agg [V.int IntKind.u32 n40, V.int IntKind.u16 n41, V.int IntKind.u32 n42,
  V.int IntKind.u16 n43]) ∧ XCalls Try.prog (14 : Nat) [V.ptr a1, V.agg [V.int IntKind.u32 n40, V.int IntKind.u16 n41, V.int IntKind.u32 n42, V.int IntKind.u16 n43], V.int IntKind.u32 hash, V.int IntKind.i64 (0 : Int)] h3 fun (v9 : V) (h'17
  : Hp) => ∃ (n44 : Int), ∃ (n45 : Int), v9 = V.tup [V.int IntKind.u8 n44, V.int IntKind.u64 n45] ∧ bif n44 == n12 then bif n45 == n13 then XCalls Try.prog (8 : Nat) [] h'17 fun (v10 : V) (h'18 : Hp) => ∃ (b1 : Bool), v10 = V.bool b1 ∧ K
  (V.bool b1) h'18 else K (V.bool false) h'17 else K (V.bool false) h'17
theorem y5 (h : Hp) (K : V → Hp → Prop) (many : Int) (a_0 : Int) (a_1 : Int) (hash : Int) (own : Bool) : X5 h K many a_0 a_1 hash own = fnX Try.prog T F jl5 jj5 Try.f5 [V.int IntKind.u8 many, V.agg [V.int IntKind.u32 a_0, V.int IntKind.u16
  a_1], V.int IntKind.u32 hash, V.bool own] h K := by kernel_rfl
theorem x5 {h : Hp} {K : V → Hp → Prop} (many : Int) (a_0 : Int) (a_1 : Int) (hash : Int) (own : Bool) (hx : X5 h K many a_0 a_1 hash own) : XCalls Try.prog 5 [V.int IntKind.u8 many, V.agg [V.int IntKind.u32 a_0, V.int IntKind.u16 a_1], V.int IntKind.u32 hash, V.bool own] h K :=
  XCalls.ofX tok fok mixed (JL := jl5) (JJ := jj5) Try.func5 ((y5 h K many a_0 a_1 hash own) ▸ hx) 
end Go.Vex
