/- the table's functions (layer 23) (printed by VexPrint).
-/
import Derived.Test.YteknlobdnjcdbaaVexX
import Derived.Test.YteknlobdnjcdbaaTab23
set_option linter.unusedVariables false
set_option maxRecDepth 100000
namespace Go.Vex
open Go.Proofs
/-! 9: stevedore/table.New -/
-- loop 3: stays t(1); turns (6)
def jl9 : Nat → Option JT := fun r => bif Nat.beq r 3 then some ⟨[1], [6], [V.int IntKind.i64 (0 : Int)]⟩ else none
def jj9 : Nat → Option JT := fun r => none
def X9 (h : Hp) (K : V → Hp → Prop)  : Prop := ∀ (h'1 : Hp), h'1 = h.alloc (O.map [] (0 : Nat)) → ∀ (h'2 : Hp), h'2 = h'1.alloc (O.row [V.map none, V.map none, V.map none, V.map none, V.map none, V.map none, V.map none, V.map none, V.map
  (some h.next), V.int IntKind.i64 (0 : Int), V.int IntKind.i64 (0 : Int)] (1 : Nat) false) → ∃ (I1 : List V → Hp → Prop), ∃ (x1 : List V → Hp → Nat), ([V.ptr (some (h'1.next, (0 : Nat)))] = [V.ptr (some (h'1.next, (0 : Nat)))] ∧ I1 [V.int
  IntKind.i64 (0 : Int)] h'2) ∧ ∀ (bs1 : Nat → Option V) (n1 : Int) (h1 : Hp), I1 [V.int IntKind.i64 n1] h1 → bif ltI n1 (8 : Int) then ∀ (h'3 : Hp), h'3 = h1.alloc (O.map [] (0 : Nat)) → ((0 : Int) ≤ n1 ∧ n1 < (↑(8 : Nat) : Int)) ∧ ∃ (h'4 :
  Hp), h'3.st h'1.next ((0 : Nat) + n1.toNat * (1 : Nat)) [V.map (some h1.next)] = some h'4 ∧ [V.ptr (some (h'1.next, (0 : Nat)))] = [V.ptr (some (h'1.next, (0 : Nat)))] ∧ I1 [V.int IntKind.i64 (IntKind.i64.wrap (n1 + (1 : Int)))] h'4 ∧ x1
  [V.int IntKind.i64 (IntKind.i64.wrap (n1 + (1 : Int)))] h'4 < x1 [V.int IntKind.i64 n1] h1 else K (V.ptr (some (h'1.next, (0 : Nat)))) h1
theorem y9 (h : Hp) (K : V → Hp → Prop)  : X9 h K  = fnX Try.prog T F jl9 jj9 Try.f9 [] h K := by kernel_rfl
theorem x9 {h : Hp} {K : V → Hp → Prop}  (hx : X9 h K ) : XCalls Try.prog 9 [] h K :=
  XCalls.ofX tok fok mixed (JL := jl9) (JJ := jj9) Try.func9 ((y9 h K ) ▸ hx)
/-! 10: (*stevedore/table.Table).Put -/
def jl10 : Nat → Option JT := fun r => none
def jj10 : Nat → Option JT := fun r => none
def X10 (h : Hp) (K : V → Hp → Prop) (t : Nat) (p_0 : Int) (p_1 : Int) (p_2 : Int) (p_3 : Int) (socket : Int) : Prop := ∀ (h'1 : Hp), h'1 = h.alloc (O.row [V.int IntKind.u32 p_0, V.int IntKind.u16 p_1, V.int IntKind.u32 p_2, V.int
  IntKind.u16 p_3] (1 : Nat) false) → XCalls Try.prog (28 : Nat) [V.ptr (some (t, (0 : Nat)))] h'1 fun (v1 : V) (h'2 : Hp) => ∃ (b1 : Bool), v1 = V.bool b1 ∧ bif !b1 then K (V.int IntKind.i64 (1 : Int)) h'2 else ∃ (n1 : Int), ∃ (n2 : Int), ∃
  (n3 : Int), ∃ (n4 : Int), h'2.lda h.next (0 : Nat) (4 : Nat) = some (V.agg [V.int IntKind.u32 n1, V.int IntKind.u16 n2, V.int IntKind.u32 n3, V.int IntKind.u16 n4]) ∧ XCalls Try.prog (15 : Nat) [V.agg [V.int IntKind.u32 n1, V.int
  IntKind.u16 n2, V.int IntKind.u32 n3, V.int IntKind.u16 n4]] h'2 fun (v2 : V) (h'3 : Hp) => ∃ (n5 : Int), v2 = V.int IntKind.i64 n5 ∧ V.ptr (some (t, (0 : Nat))) = V.ptr (some (t, (0 : Nat))) ∧ V.ptr (some (t, (0 : Nat))) = V.ptr (some (t,
  (0 : Nat))) ∧ V.ptr (some (t, (0 : Nat))) = V.ptr (some (t, (0 : Nat))) ∧ ((0 : Int) ≤ n5 ∧ n5 < (↑(8 : Nat) : Int)) ∧ ∃ (r1 : Option Nat), h'3.ld t ((0 : Nat) + n5.toNat * (1 : Nat)) = some (V.map r1) ∧ ∃ (n6 : Int), ∃ (n7 : Int), ∃ (n8 :
  Int), ∃ (n9 : Int), h'3.lda h.next (0 : Nat) (4 : Nat) = some (V.agg [V.int IntKind.u32 n6, V.int IntKind.u16 n7, V.int IntKind.u32 n8, V.int IntKind.u16 n9]) ∧ ∃ (n10 : Int), ∃ (n11 : Int), ∃ (b'1 : Bool), xlook T h'3 (65 : Nat) (V.map
  r1) (V.agg [V.int IntKind.u32 n6, V.int IntKind.u16 n7, V.int IntKind.u32 n8, V.int IntKind.u16 n9]) true = some (V.tup [V.agg [V.int IntKind.u64 n10, V.int IntKind.i64 n11], V.bool b'1]) ∧ ∀ (h'4 : Hp), h'4 = h'3.alloc (O.row [V.int
  IntKind.u64 (0 : Int), V.int IntKind.i64 (0 : Int)] (1 : Nat) false) → ∃ (h'5 : Hp), h'4.st h'3.next (0 : Nat) [V.int IntKind.u64 n10, V.int IntKind.i64 n11] = some h'5 ∧ bif socket == (0 : Int) then K (V.int IntKind.i64 (2 : Int)) h'5
  else bif b'1 then K (V.int IntKind.i64 (7 : Int)) h'5 else ∃ (n12 : Int), h'5.ld t (9 : Nat) = some (V.int IntKind.i64 n12) ∧ bif !ltI n12 (1024 : Int) then K (V.int IntKind.i64 (6 : Int)) h'5 else ∃ (n13 : Int), ∃ (n14 : Int), ∃ (n15 :
  Int), ∃ (n16 : Int), h'5.lda h.next (0 : Nat) (4 : Nat) = some (V.agg [V.int IntKind.u32 n13, V.int IntKind.u16 n14, V.int IntKind.u32 n15, V.int IntKind.u16 n16]) ∧ ∃ (h'6 : Hp), xput T h'5 (65 : Nat) (V.map r1) (V.agg [V.int IntKind.u32
  n13, V.int IntKind.u16 n14, V.int IntKind.u32 n15, V.int IntKind.u16 n16]) (V.agg [V.int IntKind.u64 socket, V.int IntKind.i64 (0 : Int)]) = some h'6 ∧ ∃ (n17 : Int), h'6.ld t (9 : Nat) = some (V.int IntKind.i64 n17) ∧ ∃ (h'7 : Hp), h'6.st
  t (9 : Nat) [V.int IntKind.i64 (IntKind.i64.wrap (n17 + (1 : Int)))] = some h'7 ∧ K (V.int IntKind.i64 (0 : Int)) h'7
theorem y10 (h : Hp) (K : V → Hp → Prop) (t : Nat) (p_0 : Int) (p_1 : Int) (p_2 : Int) (p_3 : Int) (socket : Int) : X10 h K t p_0 p_1 p_2 p_3 socket = fnX Try.prog T F jl10 jj10 Try.f10 [V.ptr (some (t, (0 : Nat))), V.agg [V.int IntKind.u32
  p_0, V.int IntKind.u16 p_1, V.int IntKind.u32 p_2, V.int IntKind.u16 p_3], V.int IntKind.u64 socket] h K := by kernel_rfl
theorem x10 {h : Hp} {K : V → Hp → Prop} (t : Nat) (p_0 : Int) (p_1 : Int) (p_2 : Int) (p_3 : Int) (socket : Int) (hx : X10 h K t p_0 p_1 p_2 p_3 socket) : XCalls Try.prog 10 [V.ptr (some (t, (0 : Nat))), V.agg [V.int IntKind.u32 p_0, V.int
  IntKind.u16 p_1, V.int IntKind.u32 p_2, V.int IntKind.u16 p_3], V.int IntKind.u64 socket] h K :=
  XCalls.ofX tok fok mixed (JL := jl10) (JJ := jj10) Try.func10 ((y10 h K t p_0 p_1 p_2 p_3 socket) ▸ hx)
/-! 11: (*stevedore/table.Table).Rest -/
-- join 7: stays t(0), untl(2), x(8), s(7), p(4), is(9); turns rests(10)
def jl11 : Nat → Option JT := fun r => none
def jj11 : Nat → Option JT := fun r => bif Nat.beq r 7 then some ⟨[0, 2, 8, 7, 4, 9], [10], [V.bool false]⟩ else none
def X11 (h : Hp) (K : V → Hp → Prop) (t : Nat) (p_0 : Int) (p_1 : Int) (p_2 : Int) (p_3 : Int) (untl : Int) : Prop := ∀ (h'1 : Hp), h'1 = h.alloc (O.row [V.int IntKind.u32 p_0, V.int IntKind.u16 p_1, V.int IntKind.u32 p_2, V.int IntKind.u16
  p_3] (1 : Nat) false) → XCalls Try.prog (28 : Nat) [V.ptr (some (t, (0 : Nat)))] h'1 fun (v1 : V) (h'2 : Hp) => ∃ (b1 : Bool), v1 = V.bool b1 ∧ bif !b1 then K (V.int IntKind.i64 (1 : Int)) h'2 else ∃ (n1 : Int), ∃ (n2 : Int), ∃ (n3 : Int),
  ∃ (n4 : Int), h'2.lda h.next (0 : Nat) (4 : Nat) = some (V.agg [V.int IntKind.u32 n1, V.int IntKind.u16 n2, V.int IntKind.u32 n3, V.int IntKind.u16 n4]) ∧ XCalls Try.prog (15 : Nat) [V.agg [V.int IntKind.u32 n1, V.int IntKind.u16 n2, V.int
  IntKind.u32 n3, V.int IntKind.u16 n4]] h'2 fun (v2 : V) (h'3 : Hp) => ∃ (n5 : Int), v2 = V.int IntKind.i64 n5 ∧ V.ptr (some (t, (0 : Nat))) = V.ptr (some (t, (0 : Nat))) ∧ V.ptr (some (t, (0 : Nat))) = V.ptr (some (t, (0 : Nat))) ∧ V.ptr
  (some (t, (0 : Nat))) = V.ptr (some (t, (0 : Nat))) ∧ ((0 : Int) ≤ n5 ∧ n5 < (↑(8 : Nat) : Int)) ∧ ∃ (r1 : Option Nat), h'3.ld t ((0 : Nat) + n5.toNat * (1 : Nat)) = some (V.map r1) ∧ ∃ (n6 : Int), ∃ (n7 : Int), ∃ (n8 : Int), ∃ (n9 : Int),
  h'3.lda h.next (0 : Nat) (4 : Nat) = some (V.agg [V.int IntKind.u32 n6, V.int IntKind.u16 n7, V.int IntKind.u32 n8, V.int IntKind.u16 n9]) ∧ ∃ (n10 : Int), ∃ (n11 : Int), ∃ (b'1 : Bool), xlook T h'3 (65 : Nat) (V.map r1) (V.agg [V.int
  IntKind.u32 n6, V.int IntKind.u16 n7, V.int IntKind.u32 n8, V.int IntKind.u16 n9]) true = some (V.tup [V.agg [V.int IntKind.u64 n10, V.int IntKind.i64 n11], V.bool b'1]) ∧ ∀ (h'4 : Hp), h'4 = h'3.alloc (O.row [V.int IntKind.u64 (0 : Int),
  V.int IntKind.i64 (0 : Int)] (1 : Nat) false) → ∃ (h'5 : Hp), h'4.st h'3.next (0 : Nat) [V.int IntKind.u64 n10, V.int IntKind.i64 n11] = some h'5 ∧ ∃ (Q1 : List V → Hp → Prop), (bif b'1 then ∃ (n12 : Int), h'5.ld h'3.next (0 : Nat) = some
  (V.int IntKind.u64 n12) ∧ [V.ptr (some (t, (0 : Nat))), V.int IntKind.i64 untl, V.ptr (some (h'3.next, (0 : Nat))), V.map r1, V.ptr (some (h.next, (0 : Nat))), V.bool b'1] = [V.ptr (some (t, (0 : Nat))), V.int IntKind.i64 untl, V.ptr
  (some (h'3.next, (0 : Nat))), V.map r1, V.ptr (some (h.next, (0 : Nat))), V.bool b'1] ∧ Q1 [V.bool (n12 == (0 : Int))] h'5 else [V.ptr (some (t, (0 : Nat))), V.int IntKind.i64 untl, V.ptr (some (h'3.next, (0 : Nat))), V.map r1, V.ptr
  (some (h.next, (0 : Nat))), V.bool b'1] = [V.ptr (some (t, (0 : Nat))), V.int IntKind.i64 untl, V.ptr (some (h'3.next, (0 : Nat))), V.map r1, V.ptr (some (h.next, (0 : Nat))), V.bool b'1] ∧ Q1 [V.bool false] h'5) ∧ ∀ (bs1 : Nat → Option
  V) (b2 : Bool) (h1 : Hp), Q1 [V.bool b2] h1 → bif !b2 then ∃ (n13 : Int), h1.ld t (10 : Nat) = some (V.int IntKind.i64 n13) ∧ bif !ltI n13 (1024 : Int) then K (V.int IntKind.i64 (6 : Int)) h1 else bif b2 then ∃ (n14 : Int), h1.ld h'3.next
  (1 : Nat) = some (V.int IntKind.i64 n14) ∧ ∃ (n15 : Int), ∃ (n16 : Int), ∃ (n17 : Int), ∃ (n18 : Int), h1.lda h.next (0 : Nat) (4 : Nat) = some (V.agg [V.int IntKind.u32 n15, V.int IntKind.u16 n16, V.int IntKind.u32 n17, V.int IntKind.u16
  n18]) ∧ ∃ (h'6 : Hp), xput T h1 (65 : Nat) (V.map r1) (V.agg [V.int IntKind.u32 n15, V.int IntKind.u16 n16, V.int IntKind.u32 n17, V.int IntKind.u16 n18]) (V.agg [V.int IntKind.u64 (0 : Int), V.int IntKind.i64 (bif ltI untl n14 then n14
  else untl)]) = some h'6 ∧ K (V.int IntKind.i64 (0 : Int)) h'6 else bif b'1 then ∃ (n19 : Int), h1.ld t (9 : Nat) = some (V.int IntKind.i64 n19) ∧ ∃ (h'7 : Hp), h1.st t (9 : Nat) [V.int IntKind.i64 (IntKind.i64.wrap (n19 - (1 : Int)))] =
  some h'7 ∧ ∃ (n20 : Int), h'7.ld t (10 : Nat) = some (V.int IntKind.i64 n20) ∧ ∃ (h'8 : Hp), h'7.st t (10 : Nat) [V.int IntKind.i64 (IntKind.i64.wrap (n20 + (1 : Int)))] = some h'8 ∧ ∃ (n21 : Int), ∃ (n22 : Int), ∃ (n23 : Int), ∃ (n24 :
  Int), h'8.lda h.next (0 : Nat) (4 : Nat) = some (V.agg [V.int IntKind.u32 n21, V.int IntKind.u16 n22, V.int IntKind.u32 n23, V.int IntKind.u16 n24]) ∧ ∃ (h'9 : Hp), xput T h'8 (65 : Nat) (V.map r1) (V.agg [V.int IntKind.u32 n21, V.int
  IntKind.u16 n22, V.int IntKind.u32 n23, V.int IntKind.u16 n24]) (V.agg [V.int IntKind.u64 (0 : Int), V.int IntKind.i64 untl]) = some h'9 ∧ K (V.int IntKind.i64 (0 : Int)) h'9 else ∃ (n25 : Int), h1.ld t (10 : Nat) = some (V.int
  IntKind.i64 n25) ∧ ∃ (h'10 : Hp), h1.st t (10 : Nat) [V.int IntKind.i64 (IntKind.i64.wrap (n25 + (1 : Int)))] = some h'10 ∧ ∃ (n26 : Int), ∃ (n27 : Int), ∃ (n28 : Int), ∃ (n29 : Int), h'10.lda h.next (0 : Nat) (4 : Nat) = some (V.agg
  [V.int IntKind.u32 n26, V.int IntKind.u16 n27, V.int IntKind.u32 n28, V.int IntKind.u16 n29]) ∧ ∃ (h'11 : Hp), xput T h'10 (65 : Nat) (V.map r1) (V.agg [V.int IntKind.u32 n26, V.int IntKind.u16 n27, V.int IntKind.u32 n28, V.int IntKind.u16
  n29]) (V.agg [V.int IntKind.u64 (0 : Int), V.int IntKind.i64 untl]) = some h'11 ∧ K (V.int IntKind.i64 (0 : Int)) h'11 else bif b2 then ∃ (n30 : Int), h1.ld h'3.next (1 : Nat) = some (V.int IntKind.i64 n30) ∧ ∃ (n31 : Int), ∃ (n32 :
  Int), ∃ (n33 : Int), ∃ (n34 : Int), h1.lda h.next (0 : Nat) (4 : Nat) = some (V.agg [V.int IntKind.u32 n31, V.int IntKind.u16 n32, V.int IntKind.u32 n33, V.int IntKind.u16 n34]) ∧ ∃ (h'12 : Hp), xput T h1 (65 : Nat) (V.map r1) (V.agg
  [V.int IntKind.u32 n31, V.int IntKind.u16 n32, V.int IntKind.u32 n33, V.int IntKind.u16 n34]) (V.agg [V.int IntKind.u64 (0 : Int), V.int IntKind.i64 (bif ltI untl n30 then n30 else untl)]) = some h'12 ∧ K (V.int IntKind.i64 (0 :
  Int)) h'12 else bif b'1 then ∃ (n35 : Int), h1.ld t (9 : Nat) = some (V.int IntKind.i64 n35) ∧ ∃ (h'13 : Hp), h1.st t (9 : Nat) [V.int IntKind.i64 (IntKind.i64.wrap (n35 - (1 : Int)))] = some h'13 ∧ ∃ (n36 : Int), h'13.ld t (10 : Nat) =
  some (V.int IntKind.i64 n36) ∧ ∃ (h'14 : Hp), h'13.st t (10 : Nat) [V.int IntKind.i64 (IntKind.i64.wrap (n36 + (1 : Int)))] = some h'14 ∧ ∃ (n37 : Int), ∃ (n38 : Int), ∃ (n39 : Int), ∃ (n40 : Int), h'14.lda h.next (0 : Nat) (4 : Nat) =
  some (V.agg [V.int IntKind.u32 n37, V.int IntKind.u16 n38, V.int IntKind.u32 n39, V.int IntKind.u16 n40]) ∧ ∃ (h'15 : Hp), xput T h'14 (65 : Nat) (V.map r1) (V.agg [V.int IntKind.u32 n37, V.int IntKind.u16 n38, V.int IntKind.u32 n39, V.int
  IntKind.u16 n40]) (V.agg [V.int IntKind.u64 (0 : Int), V.int IntKind.i64 untl]) = some h'15 ∧ K (V.int IntKind.i64 (0 : Int)) h'15 else ∃ (n41 : Int), h1.ld t (10 : Nat) = some (V.int IntKind.i64 n41) ∧ ∃ (h'16 : Hp), h1.st t (10 : Nat)
  [V.int IntKind.i64 (IntKind.i64.wrap (n41 + (1 : Int)))] = some h'16 ∧ ∃ (n42 : Int), ∃ (n43 : Int), ∃ (n44 : Int), ∃ (n45 : Int), h'16.lda h.next (0 : Nat) (4 : Nat) = some (V.agg [V.int IntKind.u32 n42, V.int IntKind.u16 n43, V.int
  IntKind.u32 n44, V.int IntKind.u16 n45]) ∧ ∃ (h'17 : Hp), xput T h'16 (65 : Nat) (V.map r1) (V.agg [V.int IntKind.u32 n42, V.int IntKind.u16 n43, V.int IntKind.u32 n44, V.int IntKind.u16 n45]) (V.agg [V.int IntKind.u64 (0 : Int), V.int
  IntKind.i64 untl]) = some h'17 ∧ K (V.int IntKind.i64 (0 : Int)) h'17
theorem y11 (h : Hp) (K : V → Hp → Prop) (t : Nat) (p_0 : Int) (p_1 : Int) (p_2 : Int) (p_3 : Int) (untl : Int) : X11 h K t p_0 p_1 p_2 p_3 untl = fnX Try.prog T F jl11 jj11 Try.f11 [V.ptr (some (t, (0 : Nat))), V.agg [V.int IntKind.u32
  p_0, V.int IntKind.u16 p_1, V.int IntKind.u32 p_2, V.int IntKind.u16 p_3], V.int IntKind.i64 untl] h K := by kernel_rfl
theorem x11 {h : Hp} {K : V → Hp → Prop} (t : Nat) (p_0 : Int) (p_1 : Int) (p_2 : Int) (p_3 : Int) (untl : Int) (hx : X11 h K t p_0 p_1 p_2 p_3 untl) : XCalls Try.prog 11 [V.ptr (some (t, (0 : Nat))), V.agg [V.int IntKind.u32 p_0, V.int
  IntKind.u16 p_1, V.int IntKind.u32 p_2, V.int IntKind.u16 p_3], V.int IntKind.i64 untl] h K :=
  XCalls.ofX tok fok mixed (JL := jl11) (JJ := jj11) Try.func11 ((y11 h K t p_0 p_1 p_2 p_3 untl) ▸ hx)
/-! 12: (*stevedore/table.Table).Old -/
-- loop 5: stays t(2), now(3), was(5), (18); turns (19)
def jl12 : Nat → Option JT := fun r => bif Nat.beq r 5 then some ⟨[2, 3, 5, 18], [19], [V.int IntKind.i64 (0 : Int)]⟩ else none
def jj12 : Nat → Option JT := fun r => none
def X12 (h : Hp) (K : V → Hp → Prop) (t : Nat) (now : Int) : Prop := ∀ (h'1 : Hp), h'1 = h.alloc (O.row [V.ptr (some (t, (0 : Nat)))] (1 : Nat) false) → ∀ (h'2 : Hp), h'2 = h'1.alloc (O.row [V.int IntKind.i64 now] (1 : Nat) false) → ∃ (a1 :
  Option (Nat × Nat)), h'2.ld h.next (0 : Nat) = some (V.ptr a1) ∧ XCalls Try.prog (28 : Nat) [V.ptr a1] h'2 fun (v1 : V) (h'3 : Hp) => ∃ (b1 : Bool), v1 = V.bool b1 ∧ bif !b1 then K (V.int IntKind.i64 (0 : Int)) h'3 else ∃ (a2 : Option (Nat
  × Nat)), h'3.ld h.next (0 : Nat) = some (V.ptr a2) ∧ onS a2 fun (i1 o1 : Nat) => ∃ (n1 : Int), h'3.ld i1 (o1 + (10 : Nat)) = some (V.int IntKind.i64 n1) ∧ ∃ (a3 : Option (Nat × Nat)), h'3.ld h.next (0 : Nat) = some (V.ptr a3) ∧ onS a3 fun
  (i2 o2 : Nat) => ∃ (r1 : Option Nat), ∃ (r2 : Option Nat), ∃ (r3 : Option Nat), ∃ (r4 : Option Nat), ∃ (r5 : Option Nat), ∃ (r6 : Option Nat), ∃ (r7 : Option Nat), ∃ (r8 : Option Nat), h'3.lda i2 (o2 + (0 : Nat)) (8 : Nat) = some (V.agg
  [V.map r1, V.map r2, V.map r3, V.map r4, V.map r5, V.map r6, V.map r7, V.map r8]) ∧ ∃ (I1 : List V → Hp → Prop), ∃ (x1 : List V → Hp → Nat), ([V.ptr (some (h.next, (0 : Nat))), V.ptr (some (h'1.next, (0 : Nat))), V.int IntKind.i64 n1,
  V.agg [V.map r1, V.map r2, V.map r3, V.map r4, V.map r5, V.map r6, V.map r7, V.map r8]] = [V.ptr (some (h.next, (0 : Nat))), V.ptr (some (h'1.next, (0 : Nat))), V.int IntKind.i64 n1, V.agg [V.map r1, V.map r2, V.map r3, V.map r4, V.map r5,
  V.map r6, V.map r7, V.map r8]] ∧ I1 [V.int IntKind.i64 (0 : Int)] h'3) ∧ ∀ (bs1 : Nat → Option V) (n2 : Int) (h1 : Hp), I1 [V.int IntKind.i64 n2] h1 → bif ltI n2 (8 : Int) then ((0 : Int) ≤ n2 ∧ n2 < (↑(8 : Nat) : Int)) ∧ (((((((True ∧ (n2
  = (↑(0 : Nat) : Int) → XCalls Try.prog (29 : Nat) [V.map r1, V.fn (Fn.func (30 : Nat)) [] [V.ptr (some (h'1.next, (0 : Nat))), V.ptr (some (h.next, (0 : Nat)))]] h1 fun (v2 : V) (h'4 : Hp) => [V.ptr (some (h.next, (0 : Nat))), V.ptr (some
  (h'1.next, (0 : Nat))), V.int IntKind.i64 n1, V.agg [V.map r1, V.map r2, V.map r3, V.map r4, V.map r5, V.map r6, V.map r7, V.map r8]] = [V.ptr (some (h.next, (0 : Nat))), V.ptr (some (h'1.next, (0 : Nat))), V.int IntKind.i64 n1, V.agg
  [V.map r1, V.map r2, V.map r3, V.map r4, V.map r5, V.map r6, V.map r7, V.map r8]] ∧ I1 [V.int IntKind.i64 (IntKind.i64.wrap (n2 + (1 : Int)))] h'4 ∧ x1 [V.int IntKind.i64 (IntKind.i64.wrap (n2 + (1 : Int)))] h'4 < x1 [V.int IntKind.i64 n2]
  h1)) ∧ (n2 = (↑(1 : Nat) : Int) → XCalls Try.prog (29 : Nat) [V.map r2, V.fn (Fn.func (30 : Nat)) [] [V.ptr (some (h'1.next, (0 : Nat))), V.ptr (some (h.next, (0 : Nat)))]] h1 fun (v3 : V) (h'5 : Hp) => [V.ptr (some (h.next, (0 : Nat))),
  V.ptr (some (h'1.next, (0 : Nat))), V.int IntKind.i64 n1, V.agg [V.map r1, V.map r2, V.map r3, V.map r4, V.map r5, V.map r6, V.map r7, V.map r8]] = [V.ptr (some (h.next, (0 : Nat))), V.ptr (some (h'1.next, (0 : Nat))), V.int IntKind.i64
  n1, V.agg [V.map r1, V.map r2, V.map r3, V.map r4, V.map r5, V.map r6, V.map r7, V.map r8]] ∧ I1 [V.int IntKind.i64 (IntKind.i64.wrap (n2 + (1 : Int)))] h'5 ∧ x1 [V.int IntKind.i64 (IntKind.i64.wrap (n2 + (1 : Int)))] h'5 < x1 [V.int
  IntKind.i64 n2] h1)) ∧ (n2 = (↑(2 : Nat) : Int) → XCalls Try.prog (29 : Nat) [V.map r3, V.fn (Fn.func (30 : Nat)) [] [V.ptr (some (h'1.next, (0 : Nat))), V.ptr (some (h.next, (0 : Nat)))]] h1 fun (v4 : V) (h'6 : Hp) => [V.ptr (some
  (h.next, (0 : Nat))), V.ptr (some (h'1.next, (0 : Nat))), V.int IntKind.i64 n1, V.agg [V.map r1, V.map r2, V.map r3, V.map r4, V.map r5, V.map r6, V.map r7, V.map r8]] = [V.ptr (some (h.next, (0 : Nat))), V.ptr (some (h'1.next, (0 :
  Nat))), V.int IntKind.i64 n1, V.agg [V.map r1, V.map r2, V.map r3, V.map r4, V.map r5, V.map r6, V.map r7, V.map r8]] ∧ I1 [V.int IntKind.i64 (IntKind.i64.wrap (n2 + (1 : Int)))] h'6 ∧ x1 [V.int IntKind.i64 (IntKind.i64.wrap (n2 + (1 :
  Int)))] h'6 < x1 [V.int IntKind.i64 n2] h1)) ∧ (n2 = (↑(3 : Nat) : Int) → XCalls Try.prog (29 : Nat) [V.map r4, V.fn (Fn.func (30 : Nat)) [] [V.ptr (some (h'1.next, (0 : Nat))), V.ptr (some (h.next, (0 : Nat)))]] h1 fun (v5 : V) (h'7 : Hp)
  => [V.ptr (some (h.next, (0 : Nat))), V.ptr (some (h'1.next, (0 : Nat))), V.int IntKind.i64 n1, V.agg [V.map r1, V.map r2, V.map r3, V.map r4, V.map r5, V.map r6, V.map r7, V.map r8]] = [V.ptr (some (h.next, (0 : Nat))), V.ptr (some
  (h'1.next, (0 : Nat))), V.int IntKind.i64 n1, V.agg [V.map r1, V.map r2, V.map r3, V.map r4, V.map r5, V.map r6, V.map r7, V.map r8]] ∧ I1 [V.int IntKind.i64 (IntKind.i64.wrap (n2 + (1 : Int)))] h'7 ∧ x1 [V.int IntKind.i64
  (IntKind.i64.wrap (n2 + (1 : Int)))] h'7 < x1 [V.int IntKind.i64 n2] h1)) ∧ (n2 = (↑(4 : Nat) : Int) → XCalls Try.prog (29 : Nat) [V.map r5, V.fn (Fn.func (30 : Nat)) [] [V.ptr (some (h'1.next, (0 : Nat))), V.ptr (some (h.next, (0 :
  Nat)))]] h1 fun (v6 : V) (h'8 : Hp) => [V.ptr (some (h.next, (0 : Nat))), V.ptr (some (h'1.next, (0 : Nat))), V.int IntKind.i64 n1, V.agg [V.map r1, V.map r2, V.map r3, V.map r4, V.map r5, V.map r6, V.map r7, V.map r8]] = [V.ptr (some
  (h.next, (0 : Nat))), V.ptr (some (h'1.next, (0 : Nat))), V.int IntKind.i64 n1, V.agg [V.map r1, V.map r2, V.map r3, V.map r4, V.map r5, V.map r6, V.map r7, V.map r8]] ∧ I1 [V.int IntKind.i64 (IntKind.i64.wrap (n2 + (1 : Int)))] h'8 ∧ x1
  [V.int IntKind.i64 (IntKind.i64.wrap (n2 + (1 : Int)))] h'8 < x1 [V.int IntKind.i64 n2] h1)) ∧ (n2 = (↑(5 : Nat) : Int) → XCalls Try.prog (29 : Nat) [V.map r6, V.fn (Fn.func (30 : Nat)) [] [V.ptr (some (h'1.next, (0 : Nat))), V.ptr (some
  (h.next, (0 : Nat)))]] h1 fun (v7 : V) (h'9 : Hp) => [V.ptr (some (h.next, (0 : Nat))), V.ptr (some (h'1.next, (0 : Nat))), V.int IntKind.i64 n1, V.agg [V.map r1, V.map r2, V.map r3, V.map r4, V.map r5, V.map r6, V.map r7, V.map r8]] =
  [V.ptr (some (h.next, (0 : Nat))), V.ptr (some (h'1.next, (0 : Nat))), V.int IntKind.i64 n1, V.agg [V.map r1, V.map r2, V.map r3, V.map r4, V.map r5, V.map r6, V.map r7, V.map r8]] ∧ I1 [V.int IntKind.i64 (IntKind.i64.wrap (n2 + (1 :
  Int)))] h'9 ∧ x1 [V.int IntKind.i64 (IntKind.i64.wrap (n2 + (1 : Int)))] h'9 < x1 [V.int IntKind.i64 n2] h1)) ∧ (n2 = (↑(6 : Nat) : Int) → XCalls Try.prog (29 : Nat) [V.map r7, V.fn (Fn.func (30 : Nat)) [] [V.ptr (some (h'1.next, (0 :
  Nat))), V.ptr (some (h.next, (0 : Nat)))]] h1 fun (v8 : V) (h'10 : Hp) => [V.ptr (some (h.next, (0 : Nat))), V.ptr (some (h'1.next, (0 : Nat))), V.int IntKind.i64 n1, V.agg [V.map r1, V.map r2, V.map r3, V.map r4, V.map r5, V.map r6, V.map
  r7, V.map r8]] = [V.ptr (some (h.next, (0 : Nat))), V.ptr (some (h'1.next, (0 : Nat))), V.int IntKind.i64 n1, V.agg [V.map r1, V.map r2, V.map r3, V.map r4, V.map r5, V.map r6, V.map r7, V.map r8]] ∧ I1 [V.int IntKind.i64 (IntKind.i64.wrap
  (n2 + (1 : Int)))] h'10 ∧ x1 [V.int IntKind.i64 (IntKind.i64.wrap (n2 + (1 : Int)))] h'10 < x1 [V.int IntKind.i64 n2] h1)) ∧ (n2 = (↑(7 : Nat) : Int) → XCalls Try.prog (29 : Nat) [V.map r8, V.fn (Fn.func (30 : Nat)) [] [V.ptr (some
  (h'1.next, (0 : Nat))), V.ptr (some (h.next, (0 : Nat)))]] h1 fun (v9 : V) (h'11 : Hp) => [V.ptr (some (h.next, (0 : Nat))), V.ptr (some (h'1.next, (0 : Nat))), V.int IntKind.i64 n1, V.agg [V.map r1, V.map r2, V.map r3, V.map r4, V.map r5,
  V.map r6, V.map r7, V.map r8]] = [V.ptr (some (h.next, (0 : Nat))), V.ptr (some (h'1.next, (0 : Nat))), V.int IntKind.i64 n1, V.agg [V.map r1, V.map r2, V.map r3, V.map r4, V.map r5, V.map r6, V.map r7, V.map r8]] ∧ I1 [V.int IntKind.i64
  (IntKind.i64.wrap (n2 + (1 : Int)))] h'11 ∧ x1 [V.int IntKind.i64 (IntKind.i64.wrap (n2 + (1 : Int)))] h'11 < x1 [V.int IntKind.i64 n2] h1) else ∃ (a4 : Option (Nat × Nat)), h1.ld h.next (0 : Nat) = some (V.ptr a4) ∧ onS a4 fun (i3 o3 :
  Nat) => ∃ (n3 : Int), h1.ld i3 (o3 + (10 : Nat)) = some (V.int IntKind.i64 n3) ∧ K (V.int IntKind.i64 (IntKind.i64.wrap (n1 - n3))) h1
theorem y12 (h : Hp) (K : V → Hp → Prop) (t : Nat) (now : Int) : X12 h K t now = fnX Try.prog T F jl12 jj12 Try.f12 [V.ptr (some (t, (0 : Nat))), V.int IntKind.i64 now] h K := by kernel_rfl
theorem x12 {h : Hp} {K : V → Hp → Prop} (t : Nat) (now : Int) (hx : X12 h K t now) : XCalls Try.prog 12 [V.ptr (some (t, (0 : Nat))), V.int IntKind.i64 now] h K :=
  XCalls.ofX tok fok mixed (JL := jl12) (JJ := jj12) Try.func12 ((y12 h K t now) ▸ hx)
/-! 13: (*stevedore/table.Table).Listen -/
def jl13 : Nat → Option JT := fun r => none
def jj13 : Nat → Option JT := fun r => none
def X13 (h : Hp) (K : V → Hp → Prop) (t : Nat) (socket : Int) (a2_0 : Int) (a2_1 : Int) : Prop := ∀ (h'1 : Hp), h'1 = h.alloc (O.row [V.int IntKind.u32 a2_0, V.int IntKind.u16 a2_1] (1 : Nat) false) → XCalls Try.prog (28 : Nat) [V.ptr (some
  (t, (0 : Nat)))] h'1 fun (v1 : V) (h'2 : Hp) => ∃ (b1 : Bool), v1 = V.bool b1 ∧ bif !b1 then K (V.int IntKind.i64 (1 : Int)) h'2 else ∃ (r1 : Option Nat), h'2.ld t (8 : Nat) = some (V.map r1) ∧ ∃ (n1 : Int), ∃ (n2 : Int), ∃ (b'1 : Bool),
  xlook T h'2 (64 : Nat) (V.map r1) (V.int IntKind.u64 socket) true = some (V.tup [V.agg [V.int IntKind.u32 n1, V.int IntKind.u16 n2], V.bool b'1]) ∧ ∀ (h'3 : Hp), h'3 = h'2.alloc (O.row [V.int IntKind.u32 (0 : Int), V.int IntKind.u16 (0 :
  Int)] (1 : Nat) false) → ∃ (h'4 : Hp), h'3.st h'2.next (0 : Nat) [V.int IntKind.u32 n1, V.int IntKind.u16 n2] = some h'4 ∧ bif socket == (0 : Int) then K (V.int IntKind.i64 (2 : Int)) h'4 else bif b'1 then K (V.int IntKind.i64 (7 : Int))
  h'4 else ∃ (r2 : Option Nat), h'4.ld t (8 : Nat) = some (V.map r2) ∧ ∃ (n3 : Int), ∃ (n4 : Int), h'4.lda h.next (0 : Nat) (2 : Nat) = some (V.agg [V.int IntKind.u32 n3, V.int IntKind.u16 n4]) ∧ ∃ (h'5 : Hp), xput T h'4 (64 : Nat) (V.map
  r2) (V.int IntKind.u64 socket) (V.agg [V.int IntKind.u32 n3, V.int IntKind.u16 n4]) = some h'5 ∧ K (V.int IntKind.i64 (0 : Int)) h'5
theorem y13 (h : Hp) (K : V → Hp → Prop) (t : Nat) (socket : Int) (a2_0 : Int) (a2_1 : Int) : X13 h K t socket a2_0 a2_1 = fnX Try.prog T F jl13 jj13 Try.f13 [V.ptr (some (t, (0 : Nat))), V.int IntKind.u64 socket, V.agg [V.int IntKind.u32 a2_0, V.int IntKind.u16 a2_1]] h K := by kernel_rfl
theorem x13 {h : Hp} {K : V → Hp → Prop} (t : Nat) (socket : Int) (a2_0 : Int) (a2_1 : Int) (hx : X13 h K t socket a2_0 a2_1) : XCalls Try.prog 13 [V.ptr (some (t, (0 : Nat))), V.int IntKind.u64 socket, V.agg [V.int IntKind.u32 a2_0, V.int IntKind.u16 a2_1]] h K :=
  XCalls.ofX tok fok mixed (JL := jl13) (JJ := jj13) Try.func13 ((y13 h K t socket a2_0 a2_1) ▸ hx)
/-! 14: (*stevedore/table.Table).Find -/
-- join 11: stays hash(2); turns l(12)
-- join 8: stays t(0), p(5), hash(2); turns 
def jl14 : Nat → Option JT := fun r => none
def jj14 : Nat → Option JT := fun r => bif Nat.beq r 11 then some ⟨[2], [12], [V.slc none (0 : Nat) true]⟩ else bif Nat.beq r 8 then some ⟨[0, 5, 2], [], []⟩ else none
def X14 (h : Hp) (K : V → Hp → Prop) (t : Nat) (p_0 : Int) (p_1 : Int) (p_2 : Int) (p_3 : Int) (hash : Int) (now : Int) : Prop := ∀ (h'1 : Hp), h'1 = h.alloc (O.row [V.int IntKind.u32 p_0, V.int IntKind.u16 p_1, V.int IntKind.u32 p_2, V.int
  IntKind.u16 p_3] (1 : Nat) false) → XCalls Try.prog (28 : Nat) [V.ptr (some (t, (0 : Nat)))] h'1 fun (v1 : V) (h'2 : Hp) => ∃ (b1 : Bool), v1 = V.bool b1 ∧ bif !b1 then K (V.tup [V.int IntKind.u8 (0 : Int), V.int IntKind.u64 (0 : Int)])
  h'2 else ∃ (n1 : Int), ∃ (n2 : Int), ∃ (n3 : Int), ∃ (n4 : Int), h'2.lda h.next (0 : Nat) (4 : Nat) = some (V.agg [V.int IntKind.u32 n1, V.int IntKind.u16 n2, V.int IntKind.u32 n3, V.int IntKind.u16 n4]) ∧ ∃ (n5 : Int), ∃ (n6 : Int), ∃ (n7
  : Int), ∃ (n8 : Int), h'2.lda h.next (0 : Nat) (4 : Nat) = some (V.agg [V.int IntKind.u32 n5, V.int IntKind.u16 n6, V.int IntKind.u32 n7, V.int IntKind.u16 n8]) ∧ (XCalls Try.prog (15 : Nat) [V.agg [V.int IntKind.u32 n1, V.int IntKind.u16
  n2, V.int IntKind.u32 n3, V.int IntKind.u16 n4]] h'2 fun (v2 : V) (h'3 : Hp) => ∃ (n9 : Int), v2 = V.int IntKind.i64 n9 ∧ (∃ (n10 : Int), ∃ (n11 : Int), ∃ (n12 : Int), ∃ (n13 : Int), h'3.lda h.next (0 : Nat) (4 : Nat) = some (V.agg [V.int
  IntKind.u32 n10, V.int IntKind.u16 n11, V.int IntKind.u32 n12, V.int IntKind.u16 n13]) ∧ V.agg [V.int IntKind.u32 n10, V.int IntKind.u16 n11, V.int IntKind.u32 n12, V.int IntKind.u16 n13] = V.agg [V.int IntKind.u32 n5, V.int IntKind.u16
  n6, V.int IntKind.u32 n7, V.int IntKind.u16 n8]) ∧ V.ptr (some (t, (0 : Nat))) = V.ptr (some (t, (0 : Nat))) ∧ V.ptr (some (t, (0 : Nat))) = V.ptr (some (t, (0 : Nat))) ∧ V.ptr (some (t, (0 : Nat))) = V.ptr (some (t, (0 : Nat))) ∧ ((0 :
  Int) ≤ n9 ∧ n9 < (↑(8 : Nat) : Int)) ∧ ∃ (r1 : Option Nat), h'3.ld t ((0 : Nat) + n9.toNat * (1 : Nat)) = some (V.map r1) ∧ ∃ (n14 : Int), ∃ (n15 : Int), ∃ (b'1 : Bool), xlook T h'3 (65 : Nat) (V.map r1) (V.agg [V.int IntKind.u32 n5, V.int
  IntKind.u16 n6, V.int IntKind.u32 n7, V.int IntKind.u16 n8]) true = some (V.tup [V.agg [V.int IntKind.u64 n14, V.int IntKind.i64 n15], V.bool b'1]) ∧ ∀ (h'4 : Hp), h'4 = h'3.alloc (O.row [V.int IntKind.u64 (0 : Int), V.int IntKind.i64 (0 :
  Int)] (1 : Nat) false) → V.bool b'1 = V.bool b'1 ∧ V.agg [V.int IntKind.u64 n14, V.int IntKind.i64 n15] = V.agg [V.int IntKind.u64 n14, V.int IntKind.i64 n15] ∧ V.tup [V.agg [V.int IntKind.u64 n14, V.int IntKind.i64 n15], V.bool b'1] =
  V.tup [V.agg [V.int IntKind.u64 n14, V.int IntKind.i64 n15], V.bool b'1] ∧ (∃ (n16 : Int), ∃ (n17 : Int), ∃ (b'2 : Bool), xlook T h'4 (65 : Nat) (V.map r1) (V.agg [V.int IntKind.u32 n5, V.int IntKind.u16 n6, V.int IntKind.u32 n7, V.int
  IntKind.u16 n8]) true = some (V.tup [V.agg [V.int IntKind.u64 n16, V.int IntKind.i64 n17], V.bool b'2]) ∧ V.tup [V.agg [V.int IntKind.u64 n16, V.int IntKind.i64 n17], V.bool b'2] = V.tup [V.agg [V.int IntKind.u64 n14, V.int IntKind.i64
  n15], V.bool b'1]) ∧ (∃ (r2 : Option Nat), h'4.ld t ((0 : Nat) + n9.toNat * (1 : Nat)) = some (V.map r2) ∧ V.map r2 = V.map r1) ∧ (((0 : Int) ≤ n9 ∧ n9 < (↑(8 : Nat) : Int)) ∧ V.ptr (some (t, (0 : Nat) + n9.toNat * (1 : Nat))) = V.ptr
  (some (t, (0 : Nat) + n9.toNat * (1 : Nat)))) ∧ (∃ (n18 : Int), ∃ (n19 : Int), ∃ (n20 : Int), ∃ (n21 : Int), h'4.lda h.next (0 : Nat) (4 : Nat) = some (V.agg [V.int IntKind.u32 n18, V.int IntKind.u16 n19, V.int IntKind.u32 n20, V.int
  IntKind.u16 n21]) ∧ V.agg [V.int IntKind.u32 n18, V.int IntKind.u16 n19, V.int IntKind.u32 n20, V.int IntKind.u16 n21] = V.agg [V.int IntKind.u32 n5, V.int IntKind.u16 n6, V.int IntKind.u32 n7, V.int IntKind.u16 n8]) ∧ V.ptr (some (t, (0 :
  Nat))) = V.ptr (some (t, (0 : Nat))) ∧ V.ptr (some (t, (0 : Nat))) = V.ptr (some (t, (0 : Nat))) ∧ V.ptr (some (t, (0 : Nat))) = V.ptr (some (t, (0 : Nat))) ∧ ∃ (h'5 : Hp), h'4.st h'3.next (0 : Nat) [V.int IntKind.u64 n14, V.int
  IntKind.i64 n15] = some h'5 ∧ V.bool b'1 = V.bool b'1 ∧ ∃ (Q1 : List V → Hp → Prop), (bif b'1 then ∃ (n22 : Int), h'5.ld h'3.next (0 : Nat) = some (V.int IntKind.u64 n22) ∧ bif ltI (0 : Int) n22 then ∃ (n23 : Int), h'5.ld h'3.next (0 :
  Nat) = some (V.int IntKind.u64 n23) ∧ K (V.tup [V.int IntKind.u8 (1 : Int), V.int IntKind.u64 n23]) h'5 else bif b'1 then ∃ (n24 : Int), h'5.ld h'3.next (1 : Nat) = some (V.int IntKind.i64 n24) ∧ bif ltI now n24 then K (V.tup [V.int
  IntKind.u8 (3 : Int), V.int IntKind.u64 (0 : Int)]) h'5 else [V.ptr (some (t, (0 : Nat))), V.ptr (some (h.next, (0 : Nat))), V.int IntKind.u32 hash] = [V.ptr (some (t, (0 : Nat))), V.ptr (some (h.next, (0 : Nat))), V.int IntKind.u32 hash]
  ∧ Q1 [] h'5 else [V.ptr (some (t, (0 : Nat))), V.ptr (some (h.next, (0 : Nat))), V.int IntKind.u32 hash] = [V.ptr (some (t, (0 : Nat))), V.ptr (some (h.next, (0 : Nat))), V.int IntKind.u32 hash] ∧ Q1 [] h'5 else bif b'1 then ∃ (n25 : Int),
  h'5.ld h'3.next (1 : Nat) = some (V.int IntKind.i64 n25) ∧ bif ltI now n25 then K (V.tup [V.int IntKind.u8 (3 : Int), V.int IntKind.u64 (0 : Int)]) h'5 else [V.ptr (some (t, (0 : Nat))), V.ptr (some (h.next, (0 : Nat))), V.int IntKind.u32
  hash] = [V.ptr (some (t, (0 : Nat))), V.ptr (some (h.next, (0 : Nat))), V.int IntKind.u32 hash] ∧ Q1 [] h'5 else [V.ptr (some (t, (0 : Nat))), V.ptr (some (h.next, (0 : Nat))), V.int IntKind.u32 hash] = [V.ptr (some (t, (0 : Nat))), V.ptr
  (some (h.next, (0 : Nat))), V.int IntKind.u32 hash] ∧ Q1 [] h'5) ∧ ∀ (bs1 : Nat → Option V) (h1 : Hp), Q1 [] h1 → ∃ (n26 : Int), ∃ (n27 : Int), h1.lda h.next (0 : Nat) (2 : Nat) = some (V.agg [V.int IntKind.u32 n26, V.int IntKind.u16 n27])
  ∧ XCalls Try.prog (31 : Nat) [V.ptr (some (t, (0 : Nat))), V.agg [V.int IntKind.u32 n26, V.int IntKind.u16 n27]] h1 fun (v3 : V) (h'6 : Hp) => ∃ (a1 : Option (Nat × Nat)), ∃ (n28 : Nat), ∃ (f1 : Bool), v3 = V.slc a1 n28 f1 ∧ ∃ (Q2 : List V
  → Hp → Prop), (bif (↑n28 : Int) == (0 : Int) then ∃ (n29 : Int), h'6.ld h.next (1 : Nat) = some (V.int IntKind.u16 n29) ∧ XCalls Try.prog (31 : Nat) [V.ptr (some (t, (0 : Nat))), V.agg [V.int IntKind.u32 (0 : Int), V.int IntKind.u16 n29]]
  h'6 fun (v4 : V) (h'7 : Hp) => ∃ (a2 : Option (Nat × Nat)), ∃ (n30 : Nat), ∃ (f2 : Bool), v4 = V.slc a2 n30 f2 ∧ [V.int IntKind.u32 hash] = [V.int IntKind.u32 hash] ∧ Q2 [V.slc a2 n30 f2] h'7 else [V.int IntKind.u32 hash] = [V.int
  IntKind.u32 hash] ∧ Q2 [V.slc a1 n28 f1] h'6) ∧ ∀ (bs2 : Nat → Option V) (a3 : Option (Nat × Nat)) (n31 : Nat) (f3 : Bool) (h2 : Hp), Q2 [V.slc a3 n31 f3] h2 → bif (↑n31 : Int) == (0 : Int) then K (V.tup [V.int IntKind.u8 (0 : Int), V.int
  IntKind.u64 (0 : Int)]) h2 else ¬(32 : Int) < (0 : Int) ∧ ((0 : Int) ≤ (IntKind.u64.wrap (IntKind.u64.wrap hash * IntKind.u64.wrap (↑n31 : Int))).fdiv ((2 : Int) ^ min (Int.toNat (32 : Int)) IntKind.u64.bits) ∧ (IntKind.u64.wrap
  (IntKind.u64.wrap hash * IntKind.u64.wrap (↑n31 : Int))).fdiv ((2 : Int) ^ min (Int.toNat (32 : Int)) IntKind.u64.bits) < (↑n31 : Int)) ∧ onS a3 fun (i1 o1 : Nat) => ∃ (n32 : Int), h2.ld i1 (o1 + ((IntKind.u64.wrap (IntKind.u64.wrap hash *
  IntKind.u64.wrap (↑n31 : Int))).fdiv ((2 : Int) ^ min (Int.toNat (32 : Int)) IntKind.u64.bits)).toNat * (1 : Nat)) = some (V.int IntKind.u64 n32) ∧ K (V.tup [V.int IntKind.u8 (2 : Int), V.int IntKind.u64 n32]) h2) ∧ (∀ (h'8 : Hp), h'8 =
  h'2.alloc (O.row [V.int IntKind.u64 (0 : Int), V.int IntKind.i64 (0 : Int)] (1 : Nat) false) → (∃ (n33 : Int), ∃ (n34 : Int), ∃ (n35 : Int), ∃ (n36 : Int), h'8.lda h.next (0 : Nat) (4 : Nat) = some (V.agg [V.int IntKind.u32 n33, V.int
  IntKind.u16 n34, V.int IntKind.u32 n35, V.int IntKind.u16 n36]) ∧ V.agg [V.int IntKind.u32 n33, V.int IntKind.u16 n34, V.int IntKind.u32 n35, V.int IntKind.u16 n36] = V.agg [V.int IntKind.u32 n5, V.int IntKind.u16 n6, V.int IntKind.u32 n7,
  V.int IntKind.u16 n8]) ∧ V.ptr (some (t, (0 : Nat))) = V.ptr (some (t, (0 : Nat))) ∧ V.ptr (some (t, (0 : Nat))) = V.ptr (some (t, (0 : Nat))) ∧ (∃ (n37 : Int), ∃ (n38 : Int), ∃ (n39 : Int), ∃ (n40 : Int), h'8.lda h.next (0 : Nat) (4 :
  Nat) = some (V.agg [V.int IntKind.u32 n37, V.int IntKind.u16 n38, V.int IntKind.u32 n39, V.int IntKind.u16 n40]) ∧ V.agg [V.int IntKind.u32 n37, V.int IntKind.u16 n38, V.int IntKind.u32 n39, V.int IntKind.u16 n40] = V.agg [V.int
  IntKind.u32 n1, V.int IntKind.u16 n2, V.int IntKind.u32 n3, V.int IntKind.u16 n4]) ∧ V.ptr (some (t, (0 : Nat))) = V.ptr (some (t, (0 : Nat))) ∧ XCalls Try.prog (15 : Nat) [V.agg [V.int IntKind.u32 n1, V.int IntKind.u16 n2, V.int
  IntKind.u32 n3, V.int IntKind.u16 n4]] h'8 fun (v5 : V) (h'9 : Hp) => ∃ (n41 : Int), v5 = V.int IntKind.i64 n41 ∧ (∃ (n42 : Int), ∃ (n43 : Int), ∃ (n44 : Int), ∃ (n45 : Int), h'9.lda h.next (0 : Nat) (4 : Nat) = some (V.agg [V.int
  IntKind.u32 n42, V.int IntKind.u16 n43, V.int IntKind.u32 n44, V.int IntKind.u16 n45]) ∧ V.agg [V.int IntKind.u32 n42, V.int IntKind.u16 n43, V.int IntKind.u32 n44, V.int IntKind.u16 n45] = V.agg [V.int IntKind.u32 n5, V.int IntKind.u16
  n6, V.int IntKind.u32 n7, V.int IntKind.u16 n8]) ∧ V.ptr (some (t, (0 : Nat))) = V.ptr (some (t, (0 : Nat))) ∧ V.ptr (some (t, (0 : Nat))) = V.ptr (some (t, (0 : Nat))) ∧ V.ptr (some (t, (0 : Nat))) = V.ptr (some (t, (0 : Nat))) ∧ ((0 :
  Int) ≤ n41 ∧ n41 < (↑(8 : Nat) : Int)) ∧ ∃ (r3 : Option Nat), h'9.ld t ((0 : Nat) + n41.toNat * (1 : Nat)) = some (V.map r3) ∧ ∃ (n46 : Int), ∃ (n47 : Int), ∃ (b'3 : Bool), xlook T h'9 (65 : Nat) (V.map r3) (V.agg [V.int IntKind.u32 n5,
  V.int IntKind.u16 n6, V.int IntKind.u32 n7, V.int IntKind.u16 n8]) true = some (V.tup [V.agg [V.int IntKind.u64 n46, V.int IntKind.i64 n47], V.bool b'3]) ∧ ∃ (h'10 : Hp), h'9.st h'2.next (0 : Nat) [V.int IntKind.u64 n46, V.int IntKind.i64
  n47] = some h'10 ∧ V.bool b'3 = V.bool b'3 ∧ ∃ (Q3 : List V → Hp → Prop), (bif b'3 then ∃ (n48 : Int), h'10.ld h'2.next (0 : Nat) = some (V.int IntKind.u64 n48) ∧ bif ltI (0 : Int) n48 then ∃ (n49 : Int), h'10.ld h'2.next (0 : Nat) = some
  (V.int IntKind.u64 n49) ∧ K (V.tup [V.int IntKind.u8 (1 : Int), V.int IntKind.u64 n49]) h'10 else bif b'3 then ∃ (n50 : Int), h'10.ld h'2.next (1 : Nat) = some (V.int IntKind.i64 n50) ∧ bif ltI now n50 then K (V.tup [V.int IntKind.u8 (3 :
  Int), V.int IntKind.u64 (0 : Int)]) h'10 else [V.ptr (some (t, (0 : Nat))), V.ptr (some (h.next, (0 : Nat))), V.int IntKind.u32 hash] = [V.ptr (some (t, (0 : Nat))), V.ptr (some (h.next, (0 : Nat))), V.int IntKind.u32 hash] ∧ Q3 [] h'10
  else [V.ptr (some (t, (0 : Nat))), V.ptr (some (h.next, (0 : Nat))), V.int IntKind.u32 hash] = [V.ptr (some (t, (0 : Nat))), V.ptr (some (h.next, (0 : Nat))), V.int IntKind.u32 hash] ∧ Q3 [] h'10 else bif b'3 then ∃ (n51 : Int), h'10.ld
  h'2.next (1 : Nat) = some (V.int IntKind.i64 n51) ∧ bif ltI now n51 then K (V.tup [V.int IntKind.u8 (3 : Int), V.int IntKind.u64 (0 : Int)]) h'10 else [V.ptr (some (t, (0 : Nat))), V.ptr (some (h.next, (0 : Nat))), V.int IntKind.u32 hash]
  = [V.ptr (some (t, (0 : Nat))), V.ptr (some (h.next, (0 : Nat))), V.int IntKind.u32 hash] ∧ Q3 [] h'10 else [V.ptr (some (t, (0 : Nat))), V.ptr (some (h.next, (0 : Nat))), V.int IntKind.u32 hash] = [V.ptr (some (t, (0 : Nat))), V.ptr (some
  (h.next, (0 : Nat))), V.int IntKind.u32 hash] ∧ Q3 [] h'10) ∧ ∀ (bs3 : Nat → Option V) (h3 : Hp), Q3 [] h3 → ∃ (n52 : Int), ∃ (n53 : Int), h3.lda h.next (0 : Nat) (2 : Nat) = some (V.agg [V.int IntKind.u32 n52, V.int IntKind.u16 n53]) ∧
  XCalls Try.prog (31 : Nat) [V.ptr (some (t, (0 : Nat))), V.agg [V.int IntKind.u32 n52, V.int IntKind.u16 n53]] h3 fun (v6 : V) (h'11 : Hp) => ∃ (a4 : Option (Nat × Nat)), ∃ (n54 : Nat), ∃ (f4 : Bool), v6 = V.slc a4 n54 f4 ∧ ∃ (Q4 : List V
  → Hp → Prop), (bif (↑n54 : Int) == (0 : Int) then ∃ (n55 : Int), h'11.ld h.next (1 : Nat) = some (V.int IntKind.u16 n55) ∧ XCalls Try.prog (31 : Nat) [V.ptr (some (t, (0 : Nat))), V.agg [V.int IntKind.u32 (0 : Int), V.int IntKind.u16 n55]]
  h'11 fun (v7 : V) (h'12 : Hp) => ∃ (a5 : Option (Nat × Nat)), ∃ (n56 : Nat), ∃ (f5 : Bool), v7 = V.slc a5 n56 f5 ∧ [V.int IntKind.u32 hash] = [V.int IntKind.u32 hash] ∧ Q4 [V.slc a5 n56 f5] h'12 else [V.int IntKind.u32 hash] = [V.int
  IntKind.u32 hash] ∧ Q4 [V.slc a4 n54 f4] h'11) ∧ ∀ (bs4 : Nat → Option V) (a6 : Option (Nat × Nat)) (n57 : Nat) (f6 : Bool) (h4 : Hp), Q4 [V.slc a6 n57 f6] h4 → bif (↑n57 : Int) == (0 : Int) then K (V.tup [V.int IntKind.u8 (0 : Int), V.int
  IntKind.u64 (0 : Int)]) h4 else ¬(32 : Int) < (0 : Int) ∧ ((0 : Int) ≤ (IntKind.u64.wrap (IntKind.u64.wrap hash * IntKind.u64.wrap (↑n57 : Int))).fdiv ((2 : Int) ^ min (Int.toNat (32 : Int)) IntKind.u64.bits) ∧ (IntKind.u64.wrap
  (IntKind.u64.wrap hash * IntKind.u64.wrap (↑n57 : Int))).fdiv ((2 : Int) ^ min (Int.toNat (32 : Int)) IntKind.u64.bits) < (↑n57 : Int)) ∧ onS a6 fun (i2 o2 : Nat) => ∃ (n58 : Int), h4.ld i2 (o2 + ((IntKind.u64.wrap (IntKind.u64.wrap hash *
  IntKind.u64.wrap (↑n57 : Int))).fdiv ((2 : Int) ^ min (Int.toNat (32 : Int)) IntKind.u64.bits)).toNat * (1 : Nat)) = some (V.int IntKind.u64 n58) ∧ K (V.tup [V.int IntKind.u8 (2 : Int), V.int IntKind.u64 n58]) h4) ∧ True
theorem y14 (h : Hp) (K : V → Hp → Prop) (t : Nat) (p_0 : Int) (p_1 : Int) (p_2 : Int) (p_3 : Int) (hash : Int) (now : Int) : X14 h K t p_0 p_1 p_2 p_3 hash now = fnX Try.prog T F jl14 jj14 Try.f14 [V.ptr (some (t, (0 : Nat))), V.agg [V.int
  IntKind.u32 p_0, V.int IntKind.u16 p_1, V.int IntKind.u32 p_2, V.int IntKind.u16 p_3], V.int IntKind.u32 hash, V.int IntKind.i64 now] h K := by kernel_rfl
theorem x14 {h : Hp} {K : V → Hp → Prop} (t : Nat) (p_0 : Int) (p_1 : Int) (p_2 : Int) (p_3 : Int) (hash : Int) (now : Int) (hx : X14 h K t p_0 p_1 p_2 p_3 hash now) : XCalls Try.prog 14 [V.ptr (some (t, (0 : Nat))), V.agg [V.int IntKind.u32
  p_0, V.int IntKind.u16 p_1, V.int IntKind.u32 p_2, V.int IntKind.u16 p_3], V.int IntKind.u32 hash, V.int IntKind.i64 now] h K :=
  XCalls.ofX tok fok mixed (JL := jl14) (JJ := jj14) Try.func14 ((y14 h K t p_0 p_1 p_2 p_3 hash now) ▸ hx)
/-! 16: (*stevedore/table.Table).Deaf -/
-- loop 4: stays t(0), (12), (13); turns n(4), (14)
def jl16 : Nat → Option JT := fun r => bif Nat.beq r 4 then some ⟨[0, 12, 13], [4, 14], [V.int IntKind.i64 (0 : Int), V.int IntKind.i64 (0 : Int)]⟩ else none
def jj16 : Nat → Option JT := fun r => none
def X16 (h : Hp) (K : V → Hp → Prop) (t : Nat) (sockets : Option (Nat × Nat)) (sockets_n : Nat) (sockets_f : Bool) : Prop := XCalls Try.prog (28 : Nat) [V.ptr (some (t, (0 : Nat)))] h fun (v1 : V) (h'1 : Hp) => ∃ (b1 : Bool), v1 = V.bool b1
  ∧ bif !b1 then K (V.int IntKind.i64 (0 : Int)) h'1 else ∃ (I1 : List V → Hp → Prop), ∃ (x1 : List V → Hp → Nat), ([V.ptr (some (t, (0 : Nat))), V.slc sockets sockets_n sockets_f, V.int IntKind.i64 (↑sockets_n : Int)] = [V.ptr (some (t, (0
  : Nat))), V.slc sockets sockets_n sockets_f, V.int IntKind.i64 (↑sockets_n : Int)] ∧ I1 [V.int IntKind.i64 (0 : Int), V.int IntKind.i64 (0 : Int)] h'1) ∧ ∀ (bs1 : Nat → Option V) (n1 n2 : Int) (h1 : Hp), I1 [V.int IntKind.i64 n1, V.int
  IntKind.i64 n2] h1 → bif ltI n2 (↑sockets_n : Int) then ((0 : Int) ≤ n2 ∧ n2 < (↑sockets_n : Int)) ∧ onS sockets fun (i1 o1 : Nat) => ∃ (n3 : Int), h1.ld i1 (o1 + n2.toNat * (1 : Nat)) = some (V.int IntKind.u64 n3) ∧ ∃ (r1 : Option Nat),
  h1.ld t (8 : Nat) = some (V.map r1) ∧ ∃ (n4 : Int), ∃ (n5 : Int), ∃ (b'1 : Bool), xlook T h1 (64 : Nat) (V.map r1) (V.int IntKind.u64 n3) true = some (V.tup [V.agg [V.int IntKind.u32 n4, V.int IntKind.u16 n5], V.bool b'1]) ∧ ∀ (h'2 : Hp),
  h'2 = h1.alloc (O.row [V.int IntKind.u32 (0 : Int), V.int IntKind.u16 (0 : Int)] (1 : Nat) false) → ∃ (h'3 : Hp), h'2.st h1.next (0 : Nat) [V.int IntKind.u32 n4, V.int IntKind.u16 n5] = some h'3 ∧ bif b'1 then ∃ (r2 : Option Nat), h'3.ld t
  (8 : Nat) = some (V.map r2) ∧ ∃ (h'4 : Hp), xdel T h'3 (64 : Nat) (V.map r2) (V.int IntKind.u64 n3) = some h'4 ∧ [V.ptr (some (t, (0 : Nat))), V.slc sockets sockets_n sockets_f, V.int IntKind.i64 (↑sockets_n : Int)] = [V.ptr (some (t, (0 :
  Nat))), V.slc sockets sockets_n sockets_f, V.int IntKind.i64 (↑sockets_n : Int)] ∧ I1 [V.int IntKind.i64 (IntKind.i64.wrap (n1 + (1 : Int))), V.int IntKind.i64 (IntKind.i64.wrap (n2 + (1 : Int)))] h'4 ∧ x1 [V.int IntKind.i64
  (IntKind.i64.wrap (n1 + (1 : Int))), V.int IntKind.i64 (IntKind.i64.wrap (n2 + (1 : Int)))] h'4 < x1 [V.int IntKind.i64 n1, V.int IntKind.i64 n2] h1 else [V.ptr (some (t, (0 : Nat))), V.slc sockets sockets_n sockets_f, V.int IntKind.i64
  (↑sockets_n : Int)] = [V.ptr (some (t, (0 : Nat))), V.slc sockets sockets_n sockets_f, V.int IntKind.i64 (↑sockets_n : Int)] ∧ I1 [V.int IntKind.i64 n1, V.int IntKind.i64 (IntKind.i64.wrap (n2 + (1 : Int)))] h'3 ∧ x1 [V.int IntKind.i64 n1,
  V.int IntKind.i64 (IntKind.i64.wrap (n2 + (1 : Int)))] h'3 < x1 [V.int IntKind.i64 n1, V.int IntKind.i64 n2] h1 else K (V.int IntKind.i64 n1) h1
theorem y16 (h : Hp) (K : V → Hp → Prop) (t : Nat) (sockets : Option (Nat × Nat)) (sockets_n : Nat) (sockets_f : Bool) : X16 h K t sockets sockets_n sockets_f = fnX Try.prog T F jl16 jj16 Try.f16 [V.ptr (some (t, (0 : Nat))), V.slc sockets sockets_n sockets_f] h K := by kernel_rfl
theorem x16 {h : Hp} {K : V → Hp → Prop} (t : Nat) (sockets : Option (Nat × Nat)) (sockets_n : Nat) (sockets_f : Bool) (hx : X16 h K t sockets sockets_n sockets_f) : XCalls Try.prog 16 [V.ptr (some (t, (0 : Nat))), V.slc sockets sockets_n sockets_f] h K :=
  XCalls.ofX tok fok mixed (JL := jl16) (JJ := jj16) Try.func16 ((y16 h K t sockets sockets_n sockets_f) ▸ hx)
/-! 24: (*stevedore/table.Table).Conns -/
def jl24 : Nat → Option JT := fun r => none
def jj24 : Nat → Option JT := fun r => none
def X24 (h : Hp) (K : V → Hp → Prop) (t : Nat) : Prop := ∃ (n1 : Int), h.ld t (9 : Nat) = some (V.int IntKind.i64 n1) ∧ K (V.int IntKind.i64 n1) h
theorem y24 (h : Hp) (K : V → Hp → Prop) (t : Nat) : X24 h K t = fnX Try.prog T F jl24 jj24 Try.f24 [V.ptr (some (t, (0 : Nat)))] h K := by kernel_rfl
theorem x24 {h : Hp} {K : V → Hp → Prop} (t : Nat) (hx : X24 h K t) : XCalls Try.prog 24 [V.ptr (some (t, (0 : Nat)))] h K :=
  XCalls.ofX tok fok mixed (JL := jl24) (JJ := jj24) Try.func24 ((y24 h K t) ▸ hx)
/-! 25: (*stevedore/table.Table).Rests -/
def jl25 : Nat → Option JT := fun r => none
def jj25 : Nat → Option JT := fun r => none
def X25 (h : Hp) (K : V → Hp → Prop) (t : Nat) : Prop := ∃ (n1 : Int), h.ld t (10 : Nat) = some (V.int IntKind.i64 n1) ∧ K (V.int IntKind.i64 n1) h
theorem y25 (h : Hp) (K : V → Hp → Prop) (t : Nat) : X25 h K t = fnX Try.prog T F jl25 jj25 Try.f25 [V.ptr (some (t, (0 : Nat)))] h K := by kernel_rfl
theorem x25 {h : Hp} {K : V → Hp → Prop} (t : Nat) (hx : X25 h K t) : XCalls Try.prog 25 [V.ptr (some (t, (0 : Nat)))] h K :=
  XCalls.ofX tok fok mixed (JL := jl25) (JJ := jj25) Try.func25 ((y25 h K t) ▸ hx)
/-! 27: stevedore/stevedorelaw23.pair -/
def jl27 : Nat → Option JT := fun r => none
def jj27 : Nat → Option JT := fun r => none
def X27 (h : Hp) (K : V → Hp → Prop) (a : Int) (b : Int) : Prop := ∀ (h'1 : Hp), h'1 = h.alloc (O.row [V.int IntKind.u32 (0 : Int), V.int IntKind.u16 (0 : Int), V.int IntKind.u32 (0 : Int), V.int IntKind.u16 (0 : Int)] (1 : Nat) false) → ∃
  (h'2 : Hp), h'1.st h.next (0 : Nat) [V.int IntKind.u32 (1 : Int), V.int IntKind.u16 a, V.int IntKind.u32 (2 : Int), V.int IntKind.u16 b] = some h'2 ∧ ∃ (n1 : Int), ∃ (n2 : Int), ∃ (n3 : Int), ∃ (n4 : Int), h'2.lda h.next (0 : Nat) (4 :
  Nat) = some (V.agg [V.int IntKind.u32 n1, V.int IntKind.u16 n2, V.int IntKind.u32 n3, V.int IntKind.u16 n4]) ∧ K (V.agg [V.int IntKind.u32 n1, V.int IntKind.u16 n2, V.int IntKind.u32 n3, V.int IntKind.u16 n4]) h'2
theorem y27 (h : Hp) (K : V → Hp → Prop) (a : Int) (b : Int) : X27 h K a b = fnX Try.prog T F jl27 jj27 Try.f27 [V.int IntKind.u16 a, V.int IntKind.u16 b] h K := by kernel_rfl
theorem x27 {h : Hp} {K : V → Hp → Prop} (a : Int) (b : Int) (hx : X27 h K a b) : XCalls Try.prog 27 [V.int IntKind.u16 a, V.int IntKind.u16 b] h K :=
  XCalls.ofX tok fok mixed (JL := jl27) (JJ := jj27) Try.func27 ((y27 h K a b) ▸ hx)
/-! 28: (*stevedore/table.Table).made -/
def jl28 : Nat → Option JT := fun r => none
def jj28 : Nat → Option JT := fun r => none
def X28 (h : Hp) (K : V → Hp → Prop) (t : Nat) : Prop := ∃ (r1 : Option Nat), h.ld t (8 : Nat) = some (V.map r1) ∧ K (V.bool !r1.isNone) h
theorem y28 (h : Hp) (K : V → Hp → Prop) (t : Nat) : X28 h K t = fnX Try.prog T F jl28 jj28 Try.f28 [V.ptr (some (t, (0 : Nat)))] h K := by kernel_rfl
theorem x28 {h : Hp} {K : V → Hp → Prop} (t : Nat) (hx : X28 h K t) : XCalls Try.prog 28 [V.ptr (some (t, (0 : Nat)))] h K :=
  XCalls.ofX tok fok mixed (JL := jl28) (JJ := jj28) Try.func28 ((y28 h K t) ▸ hx)
/-! 29: maps.DeleteFunc[map[stevedore/api.Pair]stevedore/table.entry,stevedore/api.Pair,stevedore/table.entry] -/
-- loop 1: stays m(0), del(1), (7); turns 
def jl29 : Nat → Option JT := fun r => bif Nat.beq r 1 then some ⟨[0, 1, 7], [], []⟩ else none
def jj29 : Nat → Option JT := fun r => none
def X29 (h : Hp) (K : V → Hp → Prop) (m : Option Nat) (del_0 : Nat) (del_1 : Nat) : Prop := ∃ (h'1 : Hp), xrange T h (65 : Nat) (V.map m) = some (V.ptr (some (h.next, (0 : Nat))), h'1) ∧ ∃ (I1 : List V → Hp → Prop), ∃ (x1 : List V → Hp →
  Nat), ([V.map m, V.fn (Fn.func (30 : Nat)) [] [V.ptr (some (del_0, (0 : Nat))), V.ptr (some (del_1, (0 : Nat)))], V.ptr (some (h.next, (0 : Nat)))] = [V.map m, V.fn (Fn.func (30 : Nat)) [] [V.ptr (some (del_0, (0 : Nat))), V.ptr (some
  (del_1, (0 : Nat)))], V.ptr (some (h.next, (0 : Nat)))] ∧ I1 [] h'1) ∧ ∀ (bs1 : Nat → Option V) (h1 : Hp), I1 [] h1 → ∃ (l1 : List (V × Hp)), xnext h1 (V.ptr (some (h.next, (0 : Nat)))) = some l1 ∧ (List.Mem (V.tup [V.bool false], h1) l1 →
  K (V.tup []) h1) ∧ (∀ (r1 : V × Hp), List.Mem r1 l1 → r1 = (V.tup [V.bool false], h1) ∨ ∃ (a1 : V), ∃ (b1 : V), r1.1 = V.tup [V.bool true, a1, b1]) ∧ ∀ (a2 b2 : V) (h'2 : Hp), List.Mem (V.tup [V.bool true, a2, b2], h'2) l1 → ∃ (n1 : Int),
  ∃ (n2 : Int), ∃ (n3 : Int), ∃ (n4 : Int), ∃ (n5 : Int), ∃ (n6 : Int), xentry h'2 (V.ptr (some (h.next, (0 : Nat)))) = some (V.tup [V.agg [V.int IntKind.u32 n1, V.int IntKind.u16 n2, V.int IntKind.u32 n3, V.int IntKind.u16 n4], V.agg [V.int
  IntKind.u64 n5, V.int IntKind.i64 n6]]) ∧ ∀ (h'3 : Hp), h'3 = h'2.alloc (O.row [V.int IntKind.u32 (0 : Int), V.int IntKind.u16 (0 : Int), V.int IntKind.u32 (0 : Int), V.int IntKind.u16 (0 : Int)] (1 : Nat) false) → ∀ (h'4 : Hp), h'4 =
  h'3.alloc (O.row [V.int IntKind.u64 (0 : Int), V.int IntKind.i64 (0 : Int)] (1 : Nat) false) → ∃ (h'5 : Hp), h'4.st h'2.next (0 : Nat) [V.int IntKind.u32 n1, V.int IntKind.u16 n2, V.int IntKind.u32 n3, V.int IntKind.u16 n4] = some h'5 ∧ ∃
  (h'6 : Hp), h'5.st h'3.next (0 : Nat) [V.int IntKind.u64 n5, V.int IntKind.i64 n6] = some h'6 ∧ ∃ (n7 : Int), ∃ (n8 : Int), ∃ (n9 : Int), ∃ (n10 : Int), h'6.lda h'2.next (0 : Nat) (4 : Nat) = some (V.agg [V.int IntKind.u32 n7, V.int
  IntKind.u16 n8, V.int IntKind.u32 n9, V.int IntKind.u16 n10]) ∧ ∃ (n11 : Int), ∃ (n12 : Int), h'6.lda h'3.next (0 : Nat) (2 : Nat) = some (V.agg [V.int IntKind.u64 n11, V.int IntKind.i64 n12]) ∧ XCalls Try.prog (30 : Nat) [V.agg [V.int
  IntKind.u32 n7, V.int IntKind.u16 n8, V.int IntKind.u32 n9, V.int IntKind.u16 n10], V.agg [V.int IntKind.u64 n11, V.int IntKind.i64 n12], V.ptr (some (del_0, (0 : Nat))), V.ptr (some (del_1, (0 : Nat)))] h'6 fun (v1 : V) (h'7 : Hp) => ∃
  (b3 : Bool), v1 = V.bool b3 ∧ bif b3 then ∃ (n13 : Int), ∃ (n14 : Int), ∃ (n15 : Int), ∃ (n16 : Int), h'7.lda h'2.next (0 : Nat) (4 : Nat) = some (V.agg [V.int IntKind.u32 n13, V.int IntKind.u16 n14, V.int IntKind.u32 n15, V.int
  IntKind.u16 n16]) ∧ ∃ (h'8 : Hp), xdel T h'7 (65 : Nat) (V.map m) (V.agg [V.int IntKind.u32 n13, V.int IntKind.u16 n14, V.int IntKind.u32 n15, V.int IntKind.u16 n16]) = some h'8 ∧ [V.map m, V.fn (Fn.func (30 : Nat)) [] [V.ptr (some (del_0,
  (0 : Nat))), V.ptr (some (del_1, (0 : Nat)))], V.ptr (some (h.next, (0 : Nat)))] = [V.map m, V.fn (Fn.func (30 : Nat)) [] [V.ptr (some (del_0, (0 : Nat))), V.ptr (some (del_1, (0 : Nat)))], V.ptr (some (h.next, (0 : Nat)))] ∧ I1 [] h'8 ∧
  x1 [] h'8 < x1 [] h1 else [V.map m, V.fn (Fn.func (30 : Nat)) [] [V.ptr (some (del_0, (0 : Nat))), V.ptr (some (del_1, (0 : Nat)))], V.ptr (some (h.next, (0 : Nat)))] = [V.map m, V.fn (Fn.func (30 : Nat)) [] [V.ptr (some (del_0, (0 :
  Nat))), V.ptr (some (del_1, (0 : Nat)))], V.ptr (some (h.next, (0 : Nat)))] ∧ I1 [] h'7 ∧ x1 [] h'7 < x1 [] h1
theorem y29 (h : Hp) (K : V → Hp → Prop) (m : Option Nat) (del_0 : Nat) (del_1 : Nat) : X29 h K m del_0 del_1 = fnX Try.prog T F jl29 jj29 Try.f29 [V.map m, V.fn (Fn.func (30 : Nat)) [] [V.ptr (some (del_0, (0 : Nat))), V.ptr (some (del_1, (0 : Nat)))]] h K := by kernel_rfl
theorem x29 {h : Hp} {K : V → Hp → Prop} (m : Option Nat) (del_0 : Nat) (del_1 : Nat) (hx : X29 h K m del_0 del_1) : XCalls Try.prog 29 [V.map m, V.fn (Fn.func (30 : Nat)) [] [V.ptr (some (del_0, (0 : Nat))), V.ptr (some (del_1, (0 : Nat)))]] h K :=
  XCalls.ofX tok fok mixed (JL := jl29) (JJ := jj29) Try.func29 ((y29 h K m del_0 del_1) ▸ hx)
/-! 30: (*stevedore/table.Table).Old$1 -/
-- join 2: stays (3); turns old(7)
def jl30 : Nat → Option JT := fun r => none
def jj30 : Nat → Option JT := fun r => bif Nat.beq r 2 then some ⟨[3], [7], [V.bool false]⟩ else none
def X30 (h : Hp) (K : V → Hp → Prop) (a0_0 : Int) (a0_1 : Int) (a0_2 : Int) (a0_3 : Int) (x_0 : Int) (x_1 : Int) (c2 : Nat) (c3 : Nat) : Prop := ∀ (h'1 : Hp), h'1 = h.alloc (O.row [V.int IntKind.u32 a0_0, V.int IntKind.u16 a0_1, V.int
  IntKind.u32 a0_2, V.int IntKind.u16 a0_3] (1 : Nat) false) → ∀ (h'2 : Hp), h'2 = h'1.alloc (O.row [V.int IntKind.u64 x_0, V.int IntKind.i64 x_1] (1 : Nat) false) → ∃ (Q1 : List V → Hp → Prop), (∃ (n1 : Int), h'2.ld h'1.next (0 : Nat) =
  some (V.int IntKind.u64 n1) ∧ bif n1 == (0 : Int) then ∃ (n2 : Int), h'2.ld h'1.next (1 : Nat) = some (V.int IntKind.i64 n2) ∧ ∃ (n3 : Int), h'2.ld c2 (0 : Nat) = some (V.int IntKind.i64 n3) ∧ [V.ptr (some (c3, (0 : Nat)))] = [V.ptr (some
  (c3, (0 : Nat)))] ∧ Q1 [V.bool !ltI n3 n2] h'2 else [V.ptr (some (c3, (0 : Nat)))] = [V.ptr (some (c3, (0 : Nat)))] ∧ Q1 [V.bool false] h'2) ∧ ∀ (bs1 : Nat → Option V) (b1 : Bool) (h1 : Hp), Q1 [V.bool b1] h1 → bif b1 then ∃ (a1 : Option
  (Nat × Nat)), h1.ld c3 (0 : Nat) = some (V.ptr a1) ∧ onS a1 fun (i1 o1 : Nat) => ∃ (n4 : Int), h1.ld i1 (o1 + (10 : Nat)) = some (V.int IntKind.i64 n4) ∧ onS a1 fun (i2 o2 : Nat) => ∃ (h'3 : Hp), h1.st i2 (o2 + (10 : Nat)) [V.int
  IntKind.i64 (IntKind.i64.wrap (n4 - (1 : Int)))] = some h'3 ∧ K (V.bool b1) h'3 else K (V.bool b1) h1
theorem x30 {h : Hp} {K : V → Hp → Prop} (a0_0 : Int) (a0_1 : Int) (a0_2 : Int) (a0_3 : Int) (x_0 : Int) (x_1 : Int) (c2 : Nat) (c3 : Nat) (hx : X30 h K a0_0 a0_1 a0_2 a0_3 x_0 x_1 c2 c3) : XCalls Try.prog 30 [V.agg [V.int IntKind.u32 a0_0,
  V.int IntKind.u16 a0_1, V.int IntKind.u32 a0_2, V.int IntKind.u16 a0_3], V.agg [V.int IntKind.u64 x_0, V.int IntKind.i64 x_1], V.ptr (some (c2, (0 : Nat))), V.ptr (some (c3, (0 : Nat)))] h K :=
  XCalls.ofX tok fok mixed (JL := jl30) (JJ := jj30) Try.func30 (cast (by kernel_rfl) hx)
/-! 31: (*stevedore/table.Table).at -/
-- loop 2: stays t(0), a(3), (12), (13); turns l(4), (14)
def jl31 : Nat → Option JT := fun r => bif Nat.beq r 2 then some ⟨[0, 3, 12, 13], [4, 14], [V.slc none (0 : Nat) true, V.int IntKind.i64 (0 : Int)]⟩ else none
def jj31 : Nat → Option JT := fun r => none
def X31 (h : Hp) (K : V → Hp → Prop) (t : Nat) (a_0 : Int) (a_1 : Int) : Prop := ∀ (h'1 : Hp), h'1 = h.alloc (O.row [V.int IntKind.u32 a_0, V.int IntKind.u16 a_1] (1 : Nat) false) → ∃ (r1 : Option Nat), h'1.ld t (8 : Nat) = some (V.map r1) ∧
  XCalls Try.prog (39 : Nat) [V.map r1] h'1 fun (v1 : V) (h'2 : Hp) => ∃ (c1 : Nat), v1 = V.fn (Fn.func (51 : Nat)) [] [V.ptr (some (c1, (0 : Nat)))] ∧ XCalls Try.prog (38 : Nat) [V.fn (Fn.func (51 : Nat)) [] [V.ptr (some (c1, (0 : Nat)))]]
  h'2 fun (v2 : V) (h'3 : Hp) => ∃ (a1 : Option (Nat × Nat)), ∃ (n1 : Nat), ∃ (f1 : Bool), v2 = V.slc a1 n1 f1 ∧ ∃ (I1 : List V → Hp → Prop), ∃ (x1 : List V → Hp → Nat), ([V.ptr (some (t, (0 : Nat))), V.ptr (some (h.next, (0 : Nat))), V.slc
  a1 n1 f1, V.int IntKind.i64 (↑n1 : Int)] = [V.ptr (some (t, (0 : Nat))), V.ptr (some (h.next, (0 : Nat))), V.slc a1 n1 f1, V.int IntKind.i64 (↑n1 : Int)] ∧ I1 [V.slc none (0 : Nat) true, V.int IntKind.i64 (0 : Int)] h'3) ∧ ∀ (bs1 : Nat →
  Option V) (a2 : Option (Nat × Nat)) (n2 : Nat) (f2 : Bool) (n3 : Int) (h1 : Hp), I1 [V.slc a2 n2 f2, V.int IntKind.i64 n3] h1 → bif ltI n3 (↑n1 : Int) then ((0 : Int) ≤ n3 ∧ n3 < (↑n1 : Int)) ∧ onS a1 fun (i1 o1 : Nat) => ∃ (n4 : Int),
  h1.ld i1 (o1 + n3.toNat * (1 : Nat)) = some (V.int IntKind.u64 n4) ∧ ∃ (r2 : Option Nat), h1.ld t (8 : Nat) = some (V.map r2) ∧ ∃ (n5 : Int), ∃ (n6 : Int), xlook T h1 (64 : Nat) (V.map r2) (V.int IntKind.u64 n4) false = some (V.agg [V.int
  IntKind.u32 n5, V.int IntKind.u16 n6]) ∧ ∃ (n7 : Int), ∃ (n8 : Int), h1.lda h.next (0 : Nat) (2 : Nat) = some (V.agg [V.int IntKind.u32 n7, V.int IntKind.u16 n8]) ∧ bif n5 == n7 && (n6 == n8 && true) then ∀ (h'4 : Hp), h'4 = h1.alloc
  (O.row [V.int IntKind.u64 n4] (1 : Nat) false) → ∃ (p1 : Option (Nat × Nat)), ∃ (n9 : Nat), ∃ (f3 : Bool), ∃ (h'5 : Hp), xapp T h'4 (75 : Nat) (75 : Nat) (V.slc a2 n2 f2) (V.slc (some (h1.next, (0 : Nat))) (1 : Nat) true) = some (V.slc p1
  n9 f3, h'5) ∧ [V.ptr (some (t, (0 : Nat))), V.ptr (some (h.next, (0 : Nat))), V.slc a1 n1 f1, V.int IntKind.i64 (↑n1 : Int)] = [V.ptr (some (t, (0 : Nat))), V.ptr (some (h.next, (0 : Nat))), V.slc a1 n1 f1, V.int IntKind.i64 (↑n1 : Int)] ∧
  I1 [V.slc p1 n9 f3, V.int IntKind.i64 (IntKind.i64.wrap (n3 + (1 : Int)))] h'5 ∧ x1 [V.slc p1 n9 f3, V.int IntKind.i64 (IntKind.i64.wrap (n3 + (1 : Int)))] h'5 < x1 [V.slc a2 n2 f2, V.int IntKind.i64 n3] h1 else [V.ptr (some (t, (0 :
  Nat))), V.ptr (some (h.next, (0 : Nat))), V.slc a1 n1 f1, V.int IntKind.i64 (↑n1 : Int)] = [V.ptr (some (t, (0 : Nat))), V.ptr (some (h.next, (0 : Nat))), V.slc a1 n1 f1, V.int IntKind.i64 (↑n1 : Int)] ∧ I1 [V.slc a2 n2 f2, V.int
  IntKind.i64 (IntKind.i64.wrap (n3 + (1 : Int)))] h1 ∧ x1 [V.slc a2 n2 f2, V.int IntKind.i64 (IntKind.i64.wrap (n3 + (1 : Int)))] h1 < x1 [V.slc a2 n2 f2, V.int IntKind.i64 n3] h1 else K (V.slc a2 n2 f2) h1
theorem y31 (h : Hp) (K : V → Hp → Prop) (t : Nat) (a_0 : Int) (a_1 : Int) : X31 h K t a_0 a_1 = fnX Try.prog T F jl31 jj31 Try.f31 [V.ptr (some (t, (0 : Nat))), V.agg [V.int IntKind.u32 a_0, V.int IntKind.u16 a_1]] h K := by kernel_rfl
theorem x31 {h : Hp} {K : V → Hp → Prop} (t : Nat) (a_0 : Int) (a_1 : Int) (hx : X31 h K t a_0 a_1) : XCalls Try.prog 31 [V.ptr (some (t, (0 : Nat))), V.agg [V.int IntKind.u32 a_0, V.int IntKind.u16 a_1]] h K :=
  XCalls.ofX tok fok mixed (JL := jl31) (JJ := jj31) Try.func31 ((y31 h K t a_0 a_1) ▸ hx) 
end Go.Vex
