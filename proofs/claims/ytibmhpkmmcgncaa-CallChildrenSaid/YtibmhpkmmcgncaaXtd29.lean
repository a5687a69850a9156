/- CallChildren as a statement about data (printed by VexPrint).
-/
import Derived.Test.YtibmhpkmmcgncaaVexX
import Derived.Test.YtibmhpkmmcgncaaTab29
set_option linter.unusedVariables false
set_option maxRecDepth 100000
namespace Go.Vex
open Go.Proofs
/-! 3: stevedore/stevedorelaw29.CallChildren -/
-- loop 12: stays to(2), n(5), t(6), fd(8); turns i(13)
def jl3 : Nat → Option JT := fun r => bif Nat.beq r 12 then some ⟨[2, 5, 6, 8], [13], [V.int IntKind.i64 (0 : Int)]⟩ else none
def jj3 : Nat → Option JT := fun r => none
def X3 (h : Hp) (K : V → Hp → Prop) (to_0 : Int) (to_1 : Int) (most : Int) : Prop := ∀ (h'1 : Hp), h'1 = h.alloc (O.row [V.int IntKind.u32 to_0, V.int IntKind.u16 to_1] (1 : Nat) false) → ¬(64 : Int) = (0 : Int) ∧ ∀ (h'2 : Hp), h'2 =
  h'1.alloc (O.row [V.int IntKind.u32 (7 : Int)] (1 : Nat) false) → XCalls Try.prog (8 : Nat) [V.int IntKind.i64 (IntKind.i64.wrap ((IntKind.i64.wrap most).tmod (64 : Int) + (1 : Int))), V.slc (some (h'1.next, (0 : Nat))) (1 : Nat) true] h'2
  fun (v1 : V) (h'3 : Hp) => ∃ (a1 : Option (Nat × Nat)), ∃ (n1 : Int), v1 = V.tup [V.ptr a1, V.int IntKind.i64 n1] ∧ bif n1 != (0 : Int) then K (V.bool false) h'3 else bif a1.isNone then K (V.bool false) h'3 else XCalls Try.prog (9 : Nat)
  [V.ptr a1, V.int IntKind.u8 (2 : Int)] h'3 fun (v2 : V) (h'4 : Hp) => ∃ (n2 : Int), ∃ (n3 : Int), ∃ (n4 : Int), v2 = V.tup [V.int IntKind.i64 n2, V.int IntKind.u64 n3, V.int IntKind.i64 n4] ∧ ∃ (n5 : Int), ∃ (n6 : Int), h'4.lda h.next (0 :
  Nat) (2 : Nat) = some (V.agg [V.int IntKind.u32 n5, V.int IntKind.u16 n6]) ∧ XCalls Try.prog (11 : Nat) [V.agg [V.int IntKind.u32 n5, V.int IntKind.u16 n6]] h'4 fun (v3 : V) (h'5 : Hp) => ∃ (n7 : Int), ∃ (n8 : Int), ∃ (n9 : Int), ∃ (n10 :
  Int), v3 = V.agg [V.int IntKind.u32 n7, V.int IntKind.u16 n8, V.int IntKind.u32 n9, V.int IntKind.u16 n10] ∧ XCalls Try.prog (12 : Nat) [V.ptr a1] h'5 fun (v4 : V) (h'6 : Hp) => ∃ (n11 : Int), v4 = V.int IntKind.u64 n11 ∧ XCalls Try.prog
  (10 : Nat) [V.ptr a1, V.int IntKind.i64 n2, V.agg [V.int IntKind.u32 n7, V.int IntKind.u16 n8, V.int IntKind.u32 n9, V.int IntKind.u16 n10], V.int IntKind.u64 n11] h'6 fun (v5 : V) (h'7 : Hp) => ∃ (n12 : Int), ∃ (n13 : Int), v5 = V.tup
  [V.int IntKind.i64 n12, V.int IntKind.i64 n13] ∧ bif n13 != (3 : Int) then K (V.bool false) h'7 else XCalls Try.prog (13 : Nat) [V.ptr a1, V.int IntKind.i64 n2, V.agg [V.int IntKind.u32 (0 : Int), V.int IntKind.u16 (80 : Int)]] h'7 fun (v6
  : V) (h'8 : Hp) => ∃ (n14 : Int), v6 = V.int IntKind.i64 n14 ∧ XCalls Try.prog (14 : Nat) [V.ptr a1, V.int IntKind.i64 n2] h'8 fun (v7 : V) (h'9 : Hp) => ∃ (n15 : Int), v7 = V.int IntKind.i64 n15 ∧ ∃ (I1 : List V → Hp → Prop), ∃ (x1 : List
  V → Hp → Nat), ([V.ptr (some (h.next, (0 : Nat))), V.int IntKind.i64 (IntKind.i64.wrap ((IntKind.i64.wrap most).tmod (64 : Int) + (1 : Int))), V.ptr a1, V.int IntKind.i64 n2] = [V.ptr (some (h.next, (0 : Nat))), V.int IntKind.i64
  (IntKind.i64.wrap ((IntKind.i64.wrap most).tmod (64 : Int) + (1 : Int))), V.ptr a1, V.int IntKind.i64 n2] ∧ I1 [V.int IntKind.i64 (0 : Int)] h'9) ∧ ∀ (bs1 : Nat → Option V) (n16 : Int) (h1 : Hp), I1 [V.int IntKind.i64 n16] h1 → bif ltI n16
  (IntKind.i64.wrap (IntKind.i64.wrap ((IntKind.i64.wrap most).tmod (64 : Int) + (1 : Int)) + (2 : Int))) then XCalls Try.prog (12 : Nat) [V.ptr a1] h1 fun (v8 : V) (h'10 : Hp) => ∃ (n17 : Int), v8 = V.int IntKind.u64 n17 ∧ ∃ (n18 : Int), ∃
  (n19 : Int), h'10.lda h.next (0 : Nat) (2 : Nat) = some (V.agg [V.int IntKind.u32 n18, V.int IntKind.u16 n19]) ∧ XCalls Try.prog (11 : Nat) [V.agg [V.int IntKind.u32 n18, V.int IntKind.u16 n19]] h'10 fun (v9 : V) (h'11 : Hp) => ∃ (n20 :
  Int), ∃ (n21 : Int), ∃ (n22 : Int), ∃ (n23 : Int), v9 = V.agg [V.int IntKind.u32 n20, V.int IntKind.u16 n21, V.int IntKind.u32 n22, V.int IntKind.u16 n23] ∧ XCalls Try.prog (10 : Nat) [V.ptr a1, V.int IntKind.i64 n2, V.agg [V.int
  IntKind.u32 n20, V.int IntKind.u16 n21, V.int IntKind.u32 n22, V.int IntKind.u16 n23], V.int IntKind.u64 n17] h'11 fun (v10 : V) (h'12 : Hp) => ∃ (n24 : Int), ∃ (n25 : Int), v10 = V.tup [V.int IntKind.i64 n24, V.int IntKind.i64 n25] ∧ bif
  !ltI n16 (IntKind.i64.wrap (IntKind.i64.wrap ((IntKind.i64.wrap most).tmod (64 : Int) + (1 : Int)) - (1 : Int))) then bif n25 != (291 : Int) then K (V.bool false) h'12 else [V.ptr (some (h.next, (0 : Nat))), V.int IntKind.i64
  (IntKind.i64.wrap ((IntKind.i64.wrap most).tmod (64 : Int) + (1 : Int))), V.ptr a1, V.int IntKind.i64 n2] = [V.ptr (some (h.next, (0 : Nat))), V.int IntKind.i64 (IntKind.i64.wrap ((IntKind.i64.wrap most).tmod (64 : Int) + (1 : Int))),
  V.ptr a1, V.int IntKind.i64 n2] ∧ I1 [V.int IntKind.i64 (IntKind.i64.wrap (n16 + (1 : Int)))] h'12 ∧ x1 [V.int IntKind.i64 (IntKind.i64.wrap (n16 + (1 : Int)))] h'12 < x1 [V.int IntKind.i64 n16] h1 else XCalls Try.prog (15 : Nat) [V.ptr
  a1, V.int IntKind.i64 n24] h'12 fun (v11 : V) (h'13 : Hp) => ∃ (n26 : Int), ∃ (n27 : Int), ∃ (n28 : Int), ∃ (b1 : Bool), ∃ (b2 : Bool), v11 = V.tup [V.agg [V.int IntKind.u8 n26, V.int IntKind.u8 n27, V.int IntKind.u64 n28, V.bool b1],
  V.bool b2] ∧ ∀ (h'14 : Hp), h'14 = h'13.alloc (O.row [V.int IntKind.u8 (0 : Int), V.int IntKind.u8 (0 : Int), V.int IntKind.u64 (0 : Int), V.bool false] (1 : Nat) false) → ∃ (h'15 : Hp), h'14.st h'13.next (0 : Nat) [V.int IntKind.u8 n26,
  V.int IntKind.u8 n27, V.int IntKind.u64 n28, V.bool b1] = some h'15 ∧ XCalls Try.prog (16 : Nat) [V.ptr a1, V.int IntKind.u64 n17] h'15 fun (v12 : V) (h'16 : Hp) => ∃ (n29 : Int), ∃ (n30 : Int), ∃ (n31 : Int), ∃ (n32 : Int), ∃ (n33 : Int),
  ∃ (b3 : Bool), ∃ (n34 : Int), ∃ (n35 : Int), ∃ (n36 : Int), ∃ (n37 : Int), ∃ (b4 : Bool), v12 = V.tup [V.agg [V.int IntKind.u8 n29, V.int IntKind.u8 n30, V.int IntKind.u8 n31, V.int IntKind.u32 n32, V.int IntKind.u16 n33, V.bool b3, V.int
  IntKind.u32 n34, V.int IntKind.u16 n35, V.int IntKind.u32 n36, V.int IntKind.u16 n37], V.bool b4] ∧ ∀ (h'17 : Hp), h'17 = h'16.alloc (O.row [V.int IntKind.u8 (0 : Int), V.int IntKind.u8 (0 : Int), V.int IntKind.u8 (0 : Int), V.int
  IntKind.u32 (0 : Int), V.int IntKind.u16 (0 : Int), V.bool false, V.int IntKind.u32 (0 : Int), V.int IntKind.u16 (0 : Int), V.int IntKind.u32 (0 : Int), V.int IntKind.u16 (0 : Int)] (1 : Nat) false) → ∃ (h'18 : Hp), h'17.st h'16.next (0 :
  Nat) [V.int IntKind.u8 n29, V.int IntKind.u8 n30, V.int IntKind.u8 n31, V.int IntKind.u32 n32, V.int IntKind.u16 n33, V.bool b3, V.int IntKind.u32 n34, V.int IntKind.u16 n35, V.int IntKind.u32 n36, V.int IntKind.u16 n37] = some h'18 ∧ bif
  n25 != (0 : Int) then K (V.bool false) h'18 else bif !b2 then K (V.bool false) h'18 else ∃ (n38 : Int), h'18.ld h'13.next (2 : Nat) = some (V.int IntKind.u64 n38) ∧ bif n38 != n17 then K (V.bool false) h'18 else ∃ (n39 : Int), h'18.ld
  h'13.next (1 : Nat) = some (V.int IntKind.u8 n39) ∧ bif n39 != (2 : Int) then K (V.bool false) h'18 else bif !b4 then K (V.bool false) h'18 else ∃ (n40 : Int), ∃ (n41 : Int), ∃ (n42 : Int), ∃ (n43 : Int), h'18.lda h'16.next (6 : Nat) (4 :
  Nat) = some (V.agg [V.int IntKind.u32 n40, V.int IntKind.u16 n41, V.int IntKind.u32 n42, V.int IntKind.u16 n43]) ∧ ∃ (n44 : Int), ∃ (n45 : Int), h'18.lda h.next (0 : Nat) (2 : Nat) = some (V.agg [V.int IntKind.u32 n44, V.int IntKind.u16
  n45]) ∧ XCalls Try.prog (11 : Nat) [V.agg [V.int IntKind.u32 n44, V.int IntKind.u16 n45]] h'18 fun (v13 : V) (h'19 : Hp) => ∃ (n46 : Int), ∃ (n47 : Int), ∃ (n48 : Int), ∃ (n49 : Int), v13 = V.agg [V.int IntKind.u32 n46, V.int IntKind.u16
  n47, V.int IntKind.u32 n48, V.int IntKind.u16 n49] ∧ (∃ (n50 : Int), ∃ (n51 : Int), ∃ (n52 : Int), ∃ (n53 : Int), h'19.lda h'16.next (6 : Nat) (4 : Nat) = some (V.agg [V.int IntKind.u32 n50, V.int IntKind.u16 n51, V.int IntKind.u32 n52,
  V.int IntKind.u16 n53]) ∧ V.agg [V.int IntKind.u32 n50, V.int IntKind.u16 n51, V.int IntKind.u32 n52, V.int IntKind.u16 n53] = V.agg [V.int IntKind.u32 n40, V.int IntKind.u16 n41, V.int IntKind.u32 n42, V.int IntKind.u16 n43]) ∧ V.ptr
  (some (h'16.next, (6 : Nat))) = V.ptr (some (h'16.next, (6 : Nat))) ∧ bif !(n40 == n46 && (n41 == n47 && true) && (n42 == n48 && (n43 == n49 && true) && true)) then K (V.bool false) h'19 else ∃ (n54 : Int), h'19.ld h'16.next (1 : Nat) =
  some (V.int IntKind.u8 n54) ∧ bif n54 != (3 : Int) then K (V.bool false) h'19 else ∃ (n55 : Int), ∃ (n56 : Int), ∃ (n57 : Int), ∃ (b5 : Bool), h'19.lda h'16.next (2 : Nat) (4 : Nat) = some (V.agg [V.int IntKind.u8 n55, V.int IntKind.u32
  n56, V.int IntKind.u16 n57, V.bool b5]) ∧ bif !(n55 == (0 : Int) && (n56 == (0 : Int) && (n57 == (0 : Int) && (b5 == false && true)))) then K (V.bool false) h'19 else ∃ (n58 : Int), ∃ (n59 : Int), h'19.lda h.next (0 : Nat) (2 : Nat) = some
  (V.agg [V.int IntKind.u32 n58, V.int IntKind.u16 n59]) ∧ XCalls Try.prog (11 : Nat) [V.agg [V.int IntKind.u32 n58, V.int IntKind.u16 n59]] h'19 fun (v14 : V) (h'20 : Hp) => ∃ (n60 : Int), ∃ (n61 : Int), ∃ (n62 : Int), ∃ (n63 : Int), v14 =
  V.agg [V.int IntKind.u32 n60, V.int IntKind.u16 n61, V.int IntKind.u32 n62, V.int IntKind.u16 n63] ∧ XCalls Try.prog (10 : Nat) [V.ptr a1, V.int IntKind.i64 n2, V.agg [V.int IntKind.u32 n60, V.int IntKind.u16 n61, V.int IntKind.u32 n62,
  V.int IntKind.u16 n63], V.int IntKind.u64 n17] h'20 fun (v15 : V) (h'21 : Hp) => ∃ (n64 : Int), ∃ (n65 : Int), v15 = V.tup [V.int IntKind.i64 n64, V.int IntKind.i64 n65] ∧ bif n65 != (2 : Int) then K (V.bool false) h'21 else [V.ptr (some
  (h.next, (0 : Nat))), V.int IntKind.i64 (IntKind.i64.wrap ((IntKind.i64.wrap most).tmod (64 : Int) + (1 : Int))), V.ptr a1, V.int IntKind.i64 n2] = [V.ptr (some (h.next, (0 : Nat))), V.int IntKind.i64 (IntKind.i64.wrap ((IntKind.i64.wrap
  most).tmod (64 : Int) + (1 : Int))), V.ptr a1, V.int IntKind.i64 n2] ∧ I1 [V.int IntKind.i64 (IntKind.i64.wrap (n16 + (1 : Int)))] h'21 ∧ x1 [V.int IntKind.i64 (IntKind.i64.wrap (n16 + (1 : Int)))] h'21 < x1 [V.int IntKind.i64 n16] h1 else
  XCalls Try.prog (17 : Nat) [] h1 fun (v16 : V) (h'22 : Hp) => ∃ (b6 : Bool), v16 = V.bool b6 ∧ K (V.bool b6) h'22
theorem y3 (h : Hp) (K : V → Hp → Prop) (to_0 : Int) (to_1 : Int) (most : Int) : X3 h K to_0 to_1 most = fnX Try.prog T F jl3 jj3 Try.f3 [V.agg [V.int IntKind.u32 to_0, V.int IntKind.u16 to_1], V.int IntKind.u8 most] h K := by kernel_rfl
theorem x3 {h : Hp} {K : V → Hp → Prop} (to_0 : Int) (to_1 : Int) (most : Int) (hx : X3 h K to_0 to_1 most) : XCalls Try.prog 3 [V.agg [V.int IntKind.u32 to_0, V.int IntKind.u16 to_1], V.int IntKind.u8 most] h K :=
  XCalls.ofX tok fok mixed (JL := jl3) (JJ := jj3) Try.func3 ((y3 h K to_0 to_1 most) ▸ hx) 
end Go.Vex
