/- CallPairs as a statement about data (printed by VexPrint).
-/
import Derived.Test.YtibmhpkmmcgncaaVexX
import Derived.Test.YtibmhpkmmcgncaaTab29
set_option linter.unusedVariables false
set_option maxRecDepth 100000
namespace Go.Vex
open Go.Proofs
/-! 4: stevedore/stevedorelaw29.CallPairs -/
-- join 21: stays t(11), to(5), draw(2); turns 
-- join 15: stays t(11), id(15), p(17), fd(14), other(6), draw(2), udp(4), to(5); turns 
-- join 12: stays t(11), fd(14), to(5), draw(2), bound(3), id(15), other(6), udp(4); turns 
-- join 9: stays t(11), bound(3), to(5), draw(2), other(6), udp(4); turns proto(13)
def jl4 : Nat → Option JT := fun r => none
def jj4 : Nat → Option JT := fun r => bif Nat.beq r 21 then some ⟨[11, 5, 2], [], []⟩ else bif Nat.beq r 15 then some ⟨[11, 15, 17, 14, 6, 2, 4, 5], [], []⟩ else bif Nat.beq r 12 then some ⟨[11, 14, 5, 2, 3, 15, 6, 4], [], []⟩ else bif
  Nat.beq r 9 then some ⟨[11, 3, 5, 2, 6, 4], [13], [V.int IntKind.u8 (0 : Int)]⟩ else none
def X4 (h : Hp) (K : V → Hp → Prop) (to_0 : Int) (to_1 : Int) (other_0 : Int) (other_1 : Int) (draw : Int) (bound : Bool) (udp : Bool) : Prop := ∀ (h'1 : Hp), h'1 = h.alloc (O.row [V.int IntKind.u32 to_0, V.int IntKind.u16 to_1] (1 : Nat)
  false) → ∀ (h'2 : Hp), h'2 = h'1.alloc (O.row [V.int IntKind.u32 other_0, V.int IntKind.u16 other_1] (1 : Nat) false) → ∃ (n1 : Int), h'2.ld h.next (0 : Nat) = some (V.int IntKind.u32 n1) ∧ bif n1 == (0 : Int) then XCalls Try.prog (17 :
  Nat) [] h'2 fun (v1 : V) (h'3 : Hp) => ∃ (b1 : Bool), v1 = V.bool b1 ∧ K (V.bool b1) h'3 else ∃ (n2 : Int), h'2.ld h.next (1 : Nat) = some (V.int IntKind.u16 n2) ∧ bif n2 == (0 : Int) then XCalls Try.prog (17 : Nat) [] h'2 fun (v2 : V)
  (h'4 : Hp) => ∃ (b2 : Bool), v2 = V.bool b2 ∧ K (V.bool b2) h'4 else ∃ (n3 : Int), h'2.ld h'1.next (0 : Nat) = some (V.int IntKind.u32 n3) ∧ bif n3 == (0 : Int) then XCalls Try.prog (17 : Nat) [] h'2 fun (v3 : V) (h'5 : Hp) => ∃ (b3 :
  Bool), v3 = V.bool b3 ∧ K (V.bool b3) h'5 else ∃ (n4 : Int), h'2.ld h'1.next (1 : Nat) = some (V.int IntKind.u16 n4) ∧ bif n4 == (0 : Int) then XCalls Try.prog (17 : Nat) [] h'2 fun (v4 : V) (h'6 : Hp) => ∃ (b4 : Bool), v4 = V.bool b4 ∧ K
  (V.bool b4) h'6 else ∀ (h'7 : Hp), h'7 = h'2.alloc (O.row [V.int IntKind.u32 (7 : Int), V.int IntKind.u32 (8 : Int)] (1 : Nat) false) → XCalls Try.prog (8 : Nat) [V.int IntKind.i64 (9 : Int), V.slc (some (h'2.next, (0 : Nat))) (2 : Nat)
  true] h'7 fun (v5 : V) (h'8 : Hp) => ∃ (a1 : Option (Nat × Nat)), ∃ (n5 : Int), v5 = V.tup [V.ptr a1, V.int IntKind.i64 n5] ∧ bif n5 != (0 : Int) then K (V.bool false) h'8 else bif a1.isNone then K (V.bool false) h'8 else ∃ (Q1 : List V →
  Hp → Prop), (bif udp then [V.ptr a1, V.bool bound, V.ptr (some (h.next, (0 : Nat))), V.int IntKind.u16 draw, V.ptr (some (h'1.next, (0 : Nat))), V.bool udp] = [V.ptr a1, V.bool bound, V.ptr (some (h.next, (0 : Nat))), V.int IntKind.u16
  draw, V.ptr (some (h'1.next, (0 : Nat))), V.bool udp] ∧ Q1 [V.int IntKind.u8 (1 : Int)] h'8 else [V.ptr a1, V.bool bound, V.ptr (some (h.next, (0 : Nat))), V.int IntKind.u16 draw, V.ptr (some (h'1.next, (0 : Nat))), V.bool udp] = [V.ptr
  a1, V.bool bound, V.ptr (some (h.next, (0 : Nat))), V.int IntKind.u16 draw, V.ptr (some (h'1.next, (0 : Nat))), V.bool udp] ∧ Q1 [V.int IntKind.u8 (2 : Int)] h'8) ∧ ∀ (bs1 : Nat → Option V) (n6 : Int) (h1 : Hp), Q1 [V.int IntKind.u8 n6] h1
  → XCalls Try.prog (9 : Nat) [V.ptr a1, V.int IntKind.u8 n6] h1 fun (v6 : V) (h'9 : Hp) => ∃ (n7 : Int), ∃ (n8 : Int), ∃ (n9 : Int), v6 = V.tup [V.int IntKind.i64 n7, V.int IntKind.u64 n8, V.int IntKind.i64 n9] ∧ ∃ (Q2 : List V → Hp →
  Prop), (bif bound then XCalls Try.prog (13 : Nat) [V.ptr a1, V.int IntKind.i64 n7, V.agg [V.int IntKind.u32 (0 : Int), V.int IntKind.u16 (99 : Int)]] h'9 fun (v7 : V) (h'10 : Hp) => ∃ (n10 : Int), v7 = V.int IntKind.i64 n10 ∧ bif n10 != (0
  : Int) then K (V.bool false) h'10 else [V.ptr a1, V.int IntKind.i64 n7, V.ptr (some (h.next, (0 : Nat))), V.int IntKind.u16 draw, V.bool bound, V.int IntKind.u64 n8, V.ptr (some (h'1.next, (0 : Nat))), V.bool udp] = [V.ptr a1, V.int
  IntKind.i64 n7, V.ptr (some (h.next, (0 : Nat))), V.int IntKind.u16 draw, V.bool bound, V.int IntKind.u64 n8, V.ptr (some (h'1.next, (0 : Nat))), V.bool udp] ∧ Q2 [] h'10 else [V.ptr a1, V.int IntKind.i64 n7, V.ptr (some (h.next, (0 :
  Nat))), V.int IntKind.u16 draw, V.bool bound, V.int IntKind.u64 n8, V.ptr (some (h'1.next, (0 : Nat))), V.bool udp] = [V.ptr a1, V.int IntKind.i64 n7, V.ptr (some (h.next, (0 : Nat))), V.int IntKind.u16 draw, V.bool bound, V.int
  IntKind.u64 n8, V.ptr (some (h'1.next, (0 : Nat))), V.bool udp] ∧ Q2 [] h'9) ∧ ∀ (bs2 : Nat → Option V) (h2 : Hp), Q2 [] h2 → ∃ (n11 : Int), ∃ (n12 : Int), h2.lda h.next (0 : Nat) (2 : Nat) = some (V.agg [V.int IntKind.u32 n11, V.int
  IntKind.u16 n12]) ∧ XCalls Try.prog (18 : Nat) [V.ptr a1, V.int IntKind.i64 n7, V.int IntKind.u32 (8 : Int), V.agg [V.int IntKind.u32 n11, V.int IntKind.u16 n12], V.int IntKind.u16 draw] h2 fun (v8 : V) (h'11 : Hp) => ∃ (n13 : Int), ∃ (n14
  : Int), ∃ (n15 : Int), ∃ (n16 : Int), ∃ (n17 : Int), v8 = V.tup [V.agg [V.int IntKind.u32 n13, V.int IntKind.u16 n14, V.int IntKind.u32 n15, V.int IntKind.u16 n16], V.int IntKind.i64 n17] ∧ ∀ (h'12 : Hp), h'12 = h'11.alloc (O.row [V.int
  IntKind.u32 (0 : Int), V.int IntKind.u16 (0 : Int), V.int IntKind.u32 (0 : Int), V.int IntKind.u16 (0 : Int)] (1 : Nat) false) → ∃ (h'13 : Hp), h'12.st h'11.next (0 : Nat) [V.int IntKind.u32 n13, V.int IntKind.u16 n14, V.int IntKind.u32
  n15, V.int IntKind.u16 n16] = some h'13 ∧ ∃ (Q3 : List V → Hp → Prop), (bif n17 != (0 : Int) then K (V.bool false) h'13 else ∃ (n18 : Int), ∃ (n19 : Int), h'13.lda h'11.next (2 : Nat) (2 : Nat) = some (V.agg [V.int IntKind.u32 n18, V.int
  IntKind.u16 n19]) ∧ ∃ (n20 : Int), ∃ (n21 : Int), h'13.lda h.next (0 : Nat) (2 : Nat) = some (V.agg [V.int IntKind.u32 n20, V.int IntKind.u16 n21]) ∧ bif !(n18 == n20 && (n19 == n21 && true)) then K (V.bool false) h'13 else ∃ (n22 : Int),
  h'13.ld h'11.next (0 : Nat) = some (V.int IntKind.u32 n22) ∧ bif n22 != (8 : Int) then K (V.bool false) h'13 else bif bound then ∃ (n23 : Int), h'13.ld h'11.next (1 : Nat) = some (V.int IntKind.u16 n23) ∧ bif n23 != (99 : Int) then K
  (V.bool false) h'13 else bif !bound then ∃ (n24 : Int), h'13.ld h'11.next (1 : Nat) = some (V.int IntKind.u16 n24) ∧ bif ltI n24 (32768 : Int) then K (V.bool false) h'13 else ∃ (n25 : Int), h'13.ld h'11.next (1 : Nat) = some (V.int
  IntKind.u16 n25) ∧ bif ltI (60999 : Int) n25 then K (V.bool false) h'13 else [V.ptr a1, V.int IntKind.u64 n8, V.ptr (some (h'11.next, (0 : Nat))), V.int IntKind.i64 n7, V.ptr (some (h'1.next, (0 : Nat))), V.int IntKind.u16 draw, V.bool
  udp, V.ptr (some (h.next, (0 : Nat)))] = [V.ptr a1, V.int IntKind.u64 n8, V.ptr (some (h'11.next, (0 : Nat))), V.int IntKind.i64 n7, V.ptr (some (h'1.next, (0 : Nat))), V.int IntKind.u16 draw, V.bool udp, V.ptr (some (h.next, (0 : Nat)))]
  ∧ Q3 [] h'13 else [V.ptr a1, V.int IntKind.u64 n8, V.ptr (some (h'11.next, (0 : Nat))), V.int IntKind.i64 n7, V.ptr (some (h'1.next, (0 : Nat))), V.int IntKind.u16 draw, V.bool udp, V.ptr (some (h.next, (0 : Nat)))] = [V.ptr a1, V.int
  IntKind.u64 n8, V.ptr (some (h'11.next, (0 : Nat))), V.int IntKind.i64 n7, V.ptr (some (h'1.next, (0 : Nat))), V.int IntKind.u16 draw, V.bool udp, V.ptr (some (h.next, (0 : Nat)))] ∧ Q3 [] h'13 else bif !bound then ∃ (n26 : Int), h'13.ld
  h'11.next (1 : Nat) = some (V.int IntKind.u16 n26) ∧ bif ltI n26 (32768 : Int) then K (V.bool false) h'13 else ∃ (n27 : Int), h'13.ld h'11.next (1 : Nat) = some (V.int IntKind.u16 n27) ∧ bif ltI (60999 : Int) n27 then K (V.bool false) h'13
  else [V.ptr a1, V.int IntKind.u64 n8, V.ptr (some (h'11.next, (0 : Nat))), V.int IntKind.i64 n7, V.ptr (some (h'1.next, (0 : Nat))), V.int IntKind.u16 draw, V.bool udp, V.ptr (some (h.next, (0 : Nat)))] = [V.ptr a1, V.int IntKind.u64 n8,
  V.ptr (some (h'11.next, (0 : Nat))), V.int IntKind.i64 n7, V.ptr (some (h'1.next, (0 : Nat))), V.int IntKind.u16 draw, V.bool udp, V.ptr (some (h.next, (0 : Nat)))] ∧ Q3 [] h'13 else [V.ptr a1, V.int IntKind.u64 n8, V.ptr (some (h'11.next,
  (0 : Nat))), V.int IntKind.i64 n7, V.ptr (some (h'1.next, (0 : Nat))), V.int IntKind.u16 draw, V.bool udp, V.ptr (some (h.next, (0 : Nat)))] = [V.ptr a1, V.int IntKind.u64 n8, V.ptr (some (h'11.next, (0 : Nat))), V.int IntKind.i64 n7,
  V.ptr (some (h'1.next, (0 : Nat))), V.int IntKind.u16 draw, V.bool udp, V.ptr (some (h.next, (0 : Nat)))] ∧ Q3 [] h'13) ∧ ∀ (bs3 : Nat → Option V) (h3 : Hp), Q3 [] h3 → XCalls Try.prog (16 : Nat) [V.ptr a1, V.int IntKind.u64 n8] h3 fun (v9
  : V) (h'14 : Hp) => ∃ (n28 : Int), ∃ (n29 : Int), ∃ (n30 : Int), ∃ (n31 : Int), ∃ (n32 : Int), ∃ (b5 : Bool), ∃ (n33 : Int), ∃ (n34 : Int), ∃ (n35 : Int), ∃ (n36 : Int), ∃ (b6 : Bool), v9 = V.tup [V.agg [V.int IntKind.u8 n28, V.int
  IntKind.u8 n29, V.int IntKind.u8 n30, V.int IntKind.u32 n31, V.int IntKind.u16 n32, V.bool b5, V.int IntKind.u32 n33, V.int IntKind.u16 n34, V.int IntKind.u32 n35, V.int IntKind.u16 n36], V.bool b6] ∧ ∀ (h'15 : Hp), h'15 = h'14.alloc
  (O.row [V.int IntKind.u8 (0 : Int), V.int IntKind.u8 (0 : Int), V.int IntKind.u8 (0 : Int), V.int IntKind.u32 (0 : Int), V.int IntKind.u16 (0 : Int), V.bool false, V.int IntKind.u32 (0 : Int), V.int IntKind.u16 (0 : Int), V.int IntKind.u32
  (0 : Int), V.int IntKind.u16 (0 : Int)] (1 : Nat) false) → ∃ (h'16 : Hp), h'15.st h'14.next (0 : Nat) [V.int IntKind.u8 n28, V.int IntKind.u8 n29, V.int IntKind.u8 n30, V.int IntKind.u32 n31, V.int IntKind.u16 n32, V.bool b5, V.int
  IntKind.u32 n33, V.int IntKind.u16 n34, V.int IntKind.u32 n35, V.int IntKind.u16 n36] = some h'16 ∧ bif !b6 then K (V.bool false) h'16 else ∃ (n37 : Int), ∃ (n38 : Int), ∃ (n39 : Int), ∃ (n40 : Int), h'16.lda h'14.next (6 : Nat) (4 : Nat)
  = some (V.agg [V.int IntKind.u32 n37, V.int IntKind.u16 n38, V.int IntKind.u32 n39, V.int IntKind.u16 n40]) ∧ ∃ (n41 : Int), ∃ (n42 : Int), ∃ (n43 : Int), ∃ (n44 : Int), h'16.lda h'11.next (0 : Nat) (4 : Nat) = some (V.agg [V.int
  IntKind.u32 n41, V.int IntKind.u16 n42, V.int IntKind.u32 n43, V.int IntKind.u16 n44]) ∧ bif !(n37 == n41 && (n38 == n42 && true) && (n39 == n43 && (n40 == n44 && true) && true)) then K (V.bool false) h'16 else ∃ (n45 : Int), h'16.ld
  h'14.next (1 : Nat) = some (V.int IntKind.u8 n45) ∧ bif n45 != (3 : Int) then K (V.bool false) h'16 else ∃ (n46 : Int), ∃ (n47 : Int), h'16.lda h'1.next (0 : Nat) (2 : Nat) = some (V.agg [V.int IntKind.u32 n46, V.int IntKind.u16 n47]) ∧
  XCalls Try.prog (18 : Nat) [V.ptr a1, V.int IntKind.i64 n7, V.int IntKind.u32 (8 : Int), V.agg [V.int IntKind.u32 n46, V.int IntKind.u16 n47], V.int IntKind.u16 draw] h'16 fun (v10 : V) (h'17 : Hp) => ∃ (n48 : Int), ∃ (n49 : Int), ∃ (n50 :
  Int), ∃ (n51 : Int), ∃ (n52 : Int), v10 = V.tup [V.agg [V.int IntKind.u32 n48, V.int IntKind.u16 n49, V.int IntKind.u32 n50, V.int IntKind.u16 n51], V.int IntKind.i64 n52] ∧ ∀ (h'18 : Hp), h'18 = h'17.alloc (O.row [V.int IntKind.u32 (0 :
  Int), V.int IntKind.u16 (0 : Int), V.int IntKind.u32 (0 : Int), V.int IntKind.u16 (0 : Int)] (1 : Nat) false) → ∃ (h'19 : Hp), h'18.st h'17.next (0 : Nat) [V.int IntKind.u32 n48, V.int IntKind.u16 n49, V.int IntKind.u32 n50, V.int
  IntKind.u16 n51] = some h'19 ∧ ∃ (Q4 : List V → Hp → Prop), (bif udp then bif n52 != (0 : Int) then K (V.bool false) h'19 else ∃ (n53 : Int), ∃ (n54 : Int), h'19.lda h'17.next (2 : Nat) (2 : Nat) = some (V.agg [V.int IntKind.u32 n53, V.int
  IntKind.u16 n54]) ∧ ∃ (n55 : Int), ∃ (n56 : Int), h'19.lda h'1.next (0 : Nat) (2 : Nat) = some (V.agg [V.int IntKind.u32 n55, V.int IntKind.u16 n56]) ∧ bif !(n53 == n55 && (n54 == n56 && true)) then K (V.bool false) h'19 else ∃ (n57 :
  Int), ∃ (n58 : Int), h'19.lda h'17.next (0 : Nat) (2 : Nat) = some (V.agg [V.int IntKind.u32 n57, V.int IntKind.u16 n58]) ∧ ∃ (n59 : Int), ∃ (n60 : Int), h'19.lda h'11.next (0 : Nat) (2 : Nat) = some (V.agg [V.int IntKind.u32 n59, V.int
  IntKind.u16 n60]) ∧ bif !(n57 == n59 && (n58 == n60 && true)) then K (V.bool false) h'19 else bif !udp then bif n52 != (292 : Int) then K (V.bool false) h'19 else XCalls Try.prog (14 : Nat) [V.ptr a1, V.int IntKind.i64 n7] h'19 fun (v11 :
  V) (h'20 : Hp) => ∃ (n61 : Int), v11 = V.int IntKind.i64 n61 ∧ bif n61 != (292 : Int) then K (V.bool false) h'20 else [V.ptr a1, V.ptr (some (h.next, (0 : Nat))), V.int IntKind.u16 draw] = [V.ptr a1, V.ptr (some (h.next, (0 : Nat))), V.int
  IntKind.u16 draw] ∧ Q4 [] h'20 else [V.ptr a1, V.ptr (some (h.next, (0 : Nat))), V.int IntKind.u16 draw] = [V.ptr a1, V.ptr (some (h.next, (0 : Nat))), V.int IntKind.u16 draw] ∧ Q4 [] h'19 else bif !udp then bif n52 != (292 : Int) then K
  (V.bool false) h'19 else XCalls Try.prog (14 : Nat) [V.ptr a1, V.int IntKind.i64 n7] h'19 fun (v12 : V) (h'21 : Hp) => ∃ (n62 : Int), v12 = V.int IntKind.i64 n62 ∧ bif n62 != (292 : Int) then K (V.bool false) h'21 else [V.ptr a1, V.ptr
  (some (h.next, (0 : Nat))), V.int IntKind.u16 draw] = [V.ptr a1, V.ptr (some (h.next, (0 : Nat))), V.int IntKind.u16 draw] ∧ Q4 [] h'21 else [V.ptr a1, V.ptr (some (h.next, (0 : Nat))), V.int IntKind.u16 draw] = [V.ptr a1, V.ptr (some
  (h.next, (0 : Nat))), V.int IntKind.u16 draw] ∧ Q4 [] h'19) ∧ ∀ (bs4 : Nat → Option V) (h4 : Hp), Q4 [] h4 → XCalls Try.prog (9 : Nat) [V.ptr a1, V.int IntKind.u8 (2 : Int)] h4 fun (v13 : V) (h'22 : Hp) => ∃ (n63 : Int), ∃ (n64 : Int), ∃
  (n65 : Int), v13 = V.tup [V.int IntKind.i64 n63, V.int IntKind.u64 n64, V.int IntKind.i64 n65] ∧ XCalls Try.prog (13 : Nat) [V.ptr a1, V.int IntKind.i64 n63, V.agg [V.int IntKind.u32 (0 : Int), V.int IntKind.u16 (1000 : Int)]] h'22 fun
  (v14 : V) (h'23 : Hp) => ∃ (n66 : Int), v14 = V.int IntKind.i64 n66 ∧ XCalls Try.prog (14 : Nat) [V.ptr a1, V.int IntKind.i64 n63] h'23 fun (v15 : V) (h'24 : Hp) => ∃ (n67 : Int), v15 = V.int IntKind.i64 n67 ∧ ∃ (n68 : Int), ∃ (n69 : Int),
  h'24.lda h.next (0 : Nat) (2 : Nat) = some (V.agg [V.int IntKind.u32 n68, V.int IntKind.u16 n69]) ∧ XCalls Try.prog (18 : Nat) [V.ptr a1, V.int IntKind.i64 n63, V.int IntKind.u32 (8 : Int), V.agg [V.int IntKind.u32 n68, V.int IntKind.u16
  n69], V.int IntKind.u16 draw] h'24 fun (v16 : V) (h'25 : Hp) => ∃ (n70 : Int), ∃ (n71 : Int), ∃ (n72 : Int), ∃ (n73 : Int), ∃ (n74 : Int), v16 = V.tup [V.agg [V.int IntKind.u32 n70, V.int IntKind.u16 n71, V.int IntKind.u32 n72, V.int
  IntKind.u16 n73], V.int IntKind.i64 n74] ∧ ∀ (h'26 : Hp), h'26 = h'25.alloc (O.row [V.int IntKind.u32 (0 : Int), V.int IntKind.u16 (0 : Int), V.int IntKind.u32 (0 : Int), V.int IntKind.u16 (0 : Int)] (1 : Nat) false) → ∃ (h'27 : Hp),
  h'26.st h'25.next (0 : Nat) [V.int IntKind.u32 n70, V.int IntKind.u16 n71, V.int IntKind.u32 n72, V.int IntKind.u16 n73] = some h'27 ∧ ∃ (n75 : Int), ∃ (n76 : Int), h'27.lda h.next (0 : Nat) (2 : Nat) = some (V.agg [V.int IntKind.u32 n75,
  V.int IntKind.u16 n76]) ∧ XCalls Try.prog (18 : Nat) [V.ptr a1, V.int IntKind.i64 n63, V.int IntKind.u32 (9 : Int), V.agg [V.int IntKind.u32 n75, V.int IntKind.u16 n76], V.int IntKind.u16 draw] h'27 fun (v17 : V) (h'28 : Hp) => ∃ (n77 :
  Int), ∃ (n78 : Int), ∃ (n79 : Int), ∃ (n80 : Int), ∃ (n81 : Int), v17 = V.tup [V.agg [V.int IntKind.u32 n77, V.int IntKind.u16 n78, V.int IntKind.u32 n79, V.int IntKind.u16 n80], V.int IntKind.i64 n81] ∧ ∀ (h'29 : Hp), h'29 = h'28.alloc
  (O.row [V.int IntKind.u32 (0 : Int), V.int IntKind.u16 (0 : Int), V.int IntKind.u32 (0 : Int), V.int IntKind.u16 (0 : Int)] (1 : Nat) false) → ∃ (h'30 : Hp), h'29.st h'28.next (0 : Nat) [V.int IntKind.u32 n77, V.int IntKind.u16 n78, V.int
  IntKind.u32 n79, V.int IntKind.u16 n80] = some h'30 ∧ bif n74 == (3 : Int) then bif n81 == (2 : Int) then XCalls Try.prog (17 : Nat) [] h'30 fun (v18 : V) (h'31 : Hp) => ∃ (b7 : Bool), v18 = V.bool b7 ∧ K (V.bool b7) h'31 else K (V.bool
  false) h'30 else K (V.bool false) h'30
theorem y4 (h : Hp) (K : V → Hp → Prop) (to_0 : Int) (to_1 : Int) (other_0 : Int) (other_1 : Int) (draw : Int) (bound : Bool) (udp : Bool) : X4 h K to_0 to_1 other_0 other_1 draw bound udp = fnX Try.prog T F jl4 jj4 Try.f4 [V.agg [V.int
  IntKind.u32 to_0, V.int IntKind.u16 to_1], V.agg [V.int IntKind.u32 other_0, V.int IntKind.u16 other_1], V.int IntKind.u16 draw, V.bool bound, V.bool udp] h K := by kernel_rfl
theorem x4 {h : Hp} {K : V → Hp → Prop} (to_0 : Int) (to_1 : Int) (other_0 : Int) (other_1 : Int) (draw : Int) (bound : Bool) (udp : Bool) (hx : X4 h K to_0 to_1 other_0 other_1 draw bound udp) : XCalls Try.prog 4 [V.agg [V.int IntKind.u32
  to_0, V.int IntKind.u16 to_1], V.agg [V.int IntKind.u32 other_0, V.int IntKind.u16 other_1], V.int IntKind.u16 draw, V.bool bound, V.bool udp] h K :=
  XCalls.ofX tok fok mixed (JL := jl4) (JJ := jj4) Try.func4 ((y4 h K to_0 to_1 other_0 other_1 draw bound udp) ▸ hx) 
end Go.Vex
