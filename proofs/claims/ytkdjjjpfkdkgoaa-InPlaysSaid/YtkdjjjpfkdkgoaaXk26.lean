/- InPlays as a statement about data (printed by VexPrint).
-/
import Derived.Test.YtkdjjjpfkdkgoaaVexX
import Derived.Test.YtkdjjjpfkdkgoaaTab26
set_option linter.unusedVariables false
set_option maxRecDepth 100000
namespace Go.Vex
open Go.Proofs
/-! 7: stevedore/stevedorelaw26.InPlays -/
-- loop 26: stays script(2), i(7), r(9), k(10), g(14), h(15); turns n(16)
-- loop 12: stays script(2), i(7), r(9); turns k(10)
-- join 25: stays g(14), h(15), k(10), script(2), r(9), i(7); turns 
-- join 22: stays i(7), r(9), k(10), script(2); turns fine(13)
def jl7 : Nat → Option JT := fun r => bif Nat.beq r 26 then some ⟨[2, 7, 9, 10, 14, 15], [16], [V.int IntKind.i64 (0 : Int)]⟩ else bif Nat.beq r 12 then some ⟨[2, 7, 9], [10], [V.int IntKind.i64 (0 : Int)]⟩ else none
def jj7 : Nat → Option JT := fun r => bif Nat.beq r 25 then some ⟨[14, 15, 10, 2, 9, 7], [], []⟩ else bif Nat.beq r 22 then some ⟨[7, 9, 10, 2], [13], [V.bool false]⟩ else none
def X7 (h : Hp) (K : V → Hp → Prop) (a0 : Int) (most : Int) (script : Option (Nat × Nat)) (script_n : Nat) (script_f : Bool) : Prop := XCalls Try.prog (24 : Nat) [V.slc script script_n script_f] h fun (v1 : V) (h'1 : Hp) => ∃ (b1 : Bool), v1
  = V.bool b1 ∧ bif b1 then XCalls Try.prog (10 : Nat) [] h'1 fun (v2 : V) (h'2 : Hp) => ∃ (b2 : Bool), v2 = V.bool b2 ∧ K (V.bool b2) h'2 else XCalls Try.prog (25 : Nat) [V.int IntKind.u32 a0, V.int IntKind.i64 most] h'1 fun (v3 : V) (h'3 :
  Hp) => ∃ (a1 : Option (Nat × Nat)), ∃ (n1 : Int), v3 = V.tup [V.ptr a1, V.int IntKind.i64 n1] ∧ bif ltI most (1 : Int) then bif a1.isNone then bif n1 == (2 : Int) then XCalls Try.prog (10 : Nat) [] h'3 fun (v4 : V) (h'4 : Hp) => ∃ (b3 :
  Bool), v4 = V.bool b3 ∧ K (V.bool b3) h'4 else K (V.bool false) h'3 else K (V.bool false) h'3 else bif ltI (16384 : Int) most then bif a1.isNone then bif n1 == (2 : Int) then XCalls Try.prog (10 : Nat) [] h'3 fun (v5 : V) (h'5 : Hp) => ∃
  (b4 : Bool), v5 = V.bool b4 ∧ K (V.bool b4) h'5 else K (V.bool false) h'3 else K (V.bool false) h'3 else bif a1.isNone then K (V.bool false) h'3 else bif n1 != (0 : Int) then K (V.bool false) h'3 else bif ltI (400 : Int) most then XCalls
  Try.prog (10 : Nat) [] h'3 fun (v6 : V) (h'6 : Hp) => ∃ (b5 : Bool), v6 = V.bool b5 ∧ K (V.bool b5) h'6 else XCalls Try.prog (34 : Nat) [V.int IntKind.u32 a0, V.int IntKind.i64 most] h'3 fun (v7 : V) (h'7 : Hp) => ∃ (a2 : Option (Nat ×
  Nat)), v7 = V.ptr a2 ∧ ∃ (I1 : List V → Hp → Prop), ∃ (x1 : List V → Hp → Nat), ([V.slc script script_n script_f, V.ptr a1, V.ptr a2] = [V.slc script script_n script_f, V.ptr a1, V.ptr a2] ∧ I1 [V.int IntKind.i64 (0 : Int)] h'7) ∧ ∀ (bs1 :
  Nat → Option V) (n2 : Int) (h1 : Hp), I1 [V.int IntKind.i64 n2] h1 → bif ltI n2 (↑script_n : Int) then ((0 : Int) ≤ n2 ∧ n2 < (↑script_n : Int)) ∧ onS script fun (i1 o1 : Nat) => ∃ (b6 : Bool), ∃ (b7 : Bool), ∃ (n3 : Int), ∃ (n4 : Int), ∃
  (s1 : List UInt8), h1.lda i1 (o1 + n2.toNat * (5 : Nat)) (5 : Nat) = some (V.agg [V.bool b6, V.bool b7, V.int IntKind.i64 n3, V.int IntKind.i64 n4, V.str s1]) ∧ ∀ (h'8 : Hp), h'8 = h1.alloc (O.row [V.bool false, V.bool false, V.int
  IntKind.i64 (0 : Int), V.int IntKind.i64 (0 : Int), V.str []] (1 : Nat) false) → ∃ (h'9 : Hp), h'8.st h1.next (0 : Nat) [V.bool b6, V.bool b7, V.int IntKind.i64 n3, V.int IntKind.i64 n4, V.str s1] = some h'9 ∧ onS a2 fun (i2 o2 : Nat) => ∃
  (n5 : Int), h'9.ld i2 (o2 + (0 : Nat)) = some (V.int IntKind.u32 n5) ∧ ∃ (n6 : Int), h'9.ld h1.next (2 : Nat) = some (V.int IntKind.i64 n6) ∧ ∃ (Q1 : List V → Hp → Prop), (∃ (b8 : Bool), h'9.ld h1.next (0 : Nat) = some (V.bool b8) ∧ bif b8
  then ∃ (n7 : Int), h'9.ld h1.next (3 : Nat) = some (V.int IntKind.i64 n7) ∧ ∃ (n8 : Int), h'9.ld h1.next (3 : Nat) = some (V.int IntKind.i64 n8) ∧ XCalls Try.prog (26 : Nat) [V.ptr a1, V.int IntKind.i64 n7] h'9 fun (v8 : V) (h'10 : Hp) =>
  ∃ (s2 : List UInt8), v8 = V.str s2 ∧ (∃ (n9 : Int), h'10.ld h1.next (3 : Nat) = some (V.int IntKind.i64 n9) ∧ V.int IntKind.i64 n9 = V.int IntKind.i64 n8) ∧ V.ptr (some (h1.next, (3 : Nat))) = V.ptr (some (h1.next, (3 : Nat))) ∧ V.ptr a2 =
  V.ptr a2 ∧ XCalls Try.prog (35 : Nat) [V.ptr a2, V.int IntKind.i64 n8] h'10 fun (v9 : V) (h'11 : Hp) => ∃ (s3 : List UInt8), v9 = V.str s3 ∧ [V.ptr a1, V.ptr a2, V.int IntKind.i64 n2, V.slc script script_n script_f] = [V.ptr a1, V.ptr a2,
  V.int IntKind.i64 n2, V.slc script script_n script_f] ∧ Q1 [V.bool (s2 == s3)] h'11 else ∃ (b9 : Bool), h'9.ld h1.next (1 : Nat) = some (V.bool b9) ∧ bif b9 then XCalls Try.prog (27 : Nat) [V.ptr a1, V.int IntKind.u32 (IntKind.u32.wrap (n5
  + IntKind.u32.wrap n6))] h'9 fun (v10 : V) (h'12 : Hp) => ∃ (b10 : Bool), v10 = V.bool b10 ∧ XCalls Try.prog (36 : Nat) [V.ptr a2, V.int IntKind.u32 (IntKind.u32.wrap (n5 + IntKind.u32.wrap n6))] h'12 fun (v11 : V) (h'13 : Hp) => ∃ (b11 :
  Bool), v11 = V.bool b11 ∧ [V.ptr a1, V.ptr a2, V.int IntKind.i64 n2, V.slc script script_n script_f] = [V.ptr a1, V.ptr a2, V.int IntKind.i64 n2, V.slc script script_n script_f] ∧ Q1 [V.bool (b10 == b11)] h'13 else ∃ (s4 : List UInt8),
  h'9.ld h1.next (4 : Nat) = some (V.str s4) ∧ ∃ (s5 : List UInt8), h'9.ld h1.next (4 : Nat) = some (V.str s5) ∧ XCalls Try.prog (28 : Nat) [V.ptr a1, V.int IntKind.u32 (IntKind.u32.wrap (n5 + IntKind.u32.wrap n6)), V.str s4] h'9 fun (v12 :
  V) (h'14 : Hp) => ∃ (n10 : Int), v12 = V.int IntKind.i64 n10 ∧ (∃ (s6 : List UInt8), h'14.ld h1.next (4 : Nat) = some (V.str s6) ∧ V.str s6 = V.str s5) ∧ V.ptr (some (h1.next, (4 : Nat))) = V.ptr (some (h1.next, (4 : Nat))) ∧ V.int
  IntKind.u32 (IntKind.u32.wrap (n5 + IntKind.u32.wrap n6)) = V.int IntKind.u32 (IntKind.u32.wrap (n5 + IntKind.u32.wrap n6)) ∧ V.ptr a2 = V.ptr a2 ∧ XCalls Try.prog (37 : Nat) [V.ptr a2, V.int IntKind.u32 (IntKind.u32.wrap (n5 +
  IntKind.u32.wrap n6)), V.str s5] h'14 fun (v13 : V) (h'15 : Hp) => ∃ (n11 : Int), v13 = V.int IntKind.i64 n11 ∧ [V.ptr a1, V.ptr a2, V.int IntKind.i64 n2, V.slc script script_n script_f] = [V.ptr a1, V.ptr a2, V.int IntKind.i64 n2, V.slc
  script script_n script_f] ∧ Q1 [V.bool (n10 == n11)] h'15) ∧ ∀ (bs2 : Nat → Option V) (b12 : Bool) (h2 : Hp), Q1 [V.bool b12] h2 → XCalls Try.prog (33 : Nat) [V.ptr a1] h2 fun (v14 : V) (h'16 : Hp) => ∃ (a3 : Option (Nat × Nat)), ∃ (n12 :
  Nat), ∃ (f1 : Bool), v14 = V.slc a3 n12 f1 ∧ XCalls Try.prog (38 : Nat) [V.ptr a2] h'16 fun (v15 : V) (h'17 : Hp) => ∃ (a4 : Option (Nat × Nat)), ∃ (n13 : Nat), ∃ (f2 : Bool), v15 = V.slc a4 n13 f2 ∧ ∃ (Q2 : List V → Hp → Prop), (bif !b12
  then K (V.bool false) h'17 else onS a2 fun (i3 o3 : Nat) => ∃ (n14 : Int), h'17.ld i3 (o3 + (0 : Nat)) = some (V.int IntKind.u32 n14) ∧ XCalls Try.prog (31 : Nat) [V.ptr a1] h'17 fun (v16 : V) (h'18 : Hp) => ∃ (n15 : Int), v16 = V.int
  IntKind.u32 n15 ∧ (∃ (n16 : Int), h'18.ld i3 (o3 + (0 : Nat)) = some (V.int IntKind.u32 n16) ∧ V.int IntKind.u32 n16 = V.int IntKind.u32 n14) ∧ V.ptr (some (i3, o3 + (0 : Nat))) = V.ptr (some (i3, o3 + (0 : Nat))) ∧ (onS a2 fun (i4 o4 :
  Nat) => V.ptr (some (i4, o4)) = V.ptr (some (i3, o3))) ∧ V.ptr a2 = V.ptr a2 ∧ bif n15 != n14 then K (V.bool false) h'18 else XCalls Try.prog (30 : Nat) [V.ptr a1] h'18 fun (v17 : V) (h'19 : Hp) => ∃ (n17 : Int), v17 = V.int IntKind.i64
  n17 ∧ V.ptr a2 = V.ptr a2 ∧ XCalls Try.prog (39 : Nat) [V.ptr a2] h'19 fun (v18 : V) (h'20 : Hp) => ∃ (n18 : Int), v18 = V.int IntKind.i64 n18 ∧ bif n17 != n18 then K (V.bool false) h'20 else onS a2 fun (i5 o5 : Nat) => ∃ (s7 : List
  UInt8), h'20.ld i5 (o5 + (1 : Nat)) = some (V.str s7) ∧ XCalls Try.prog (29 : Nat) [V.ptr a1] h'20 fun (v19 : V) (h'21 : Hp) => ∃ (n19 : Int), v19 = V.int IntKind.i64 n19 ∧ V.int IntKind.i64 (↑s7.length : Int) = V.int IntKind.i64
  (↑s7.length : Int) ∧ (∃ (s8 : List UInt8), h'21.ld i5 (o5 + (1 : Nat)) = some (V.str s8) ∧ V.str s8 = V.str s7) ∧ V.ptr (some (i5, o5 + (1 : Nat))) = V.ptr (some (i5, o5 + (1 : Nat))) ∧ (onS a2 fun (i6 o6 : Nat) => V.ptr (some (i6, o6)) =
  V.ptr (some (i5, o5))) ∧ V.ptr a2 = V.ptr a2 ∧ bif n19 != (↑s7.length : Int) then K (V.bool false) h'21 else bif (↑n12 : Int) != (↑n13 : Int) then K (V.bool false) h'21 else onS a2 fun (i7 o7 : Nat) => ∃ (n20 : Int), h'21.ld i7 (o7 + (3 :
  Nat)) = some (V.int IntKind.i64 n20) ∧ XCalls Try.prog (32 : Nat) [V.ptr a1] h'21 fun (v20 : V) (h'22 : Hp) => ∃ (b13 : Bool), v20 = V.bool b13 ∧ V.bool (n20 == (0 : Int)) = V.bool (n20 == (0 : Int)) ∧ (∃ (n21 : Int), h'22.ld i7 (o7 + (3 :
  Nat)) = some (V.int IntKind.i64 n21) ∧ V.int IntKind.i64 n21 = V.int IntKind.i64 n20) ∧ V.ptr (some (i7, o7 + (3 : Nat))) = V.ptr (some (i7, o7 + (3 : Nat))) ∧ (onS a2 fun (i8 o8 : Nat) => V.ptr (some (i8, o8)) = V.ptr (some (i7, o7))) ∧
  V.ptr a2 = V.ptr a2 ∧ bif n20 == (0 : Int) then onS a2 fun (i9 o9 : Nat) => ∃ (s9 : List UInt8), h'22.ld i9 (o9 + (1 : Nat)) = some (V.str s9) ∧ bif !b13 == ((↑s9.length : Int) == (0 : Int)) then K (V.bool false) h'22 else [V.slc a3 n12
  f1, V.slc a4 n13 f2, V.int IntKind.i64 n2, V.slc script script_n script_f, V.ptr a2, V.ptr a1] = [V.slc a3 n12 f1, V.slc a4 n13 f2, V.int IntKind.i64 n2, V.slc script script_n script_f, V.ptr a2, V.ptr a1] ∧ Q2 [] h'22 else bif !b13 ==
  false then K (V.bool false) h'22 else [V.slc a3 n12 f1, V.slc a4 n13 f2, V.int IntKind.i64 n2, V.slc script script_n script_f, V.ptr a2, V.ptr a1] = [V.slc a3 n12 f1, V.slc a4 n13 f2, V.int IntKind.i64 n2, V.slc script script_n script_f,
  V.ptr a2, V.ptr a1] ∧ Q2 [] h'22) ∧ ∀ (bs3 : Nat → Option V) (h3 : Hp), Q2 [] h3 → ∃ (I2 : List V → Hp → Prop), ∃ (x2 : List V → Hp → Nat), ([V.slc script script_n script_f, V.ptr a1, V.ptr a2, V.int IntKind.i64 n2, V.slc a3 n12 f1, V.slc
  a4 n13 f2] = [V.slc script script_n script_f, V.ptr a1, V.ptr a2, V.int IntKind.i64 n2, V.slc a3 n12 f1, V.slc a4 n13 f2] ∧ I2 [V.int IntKind.i64 (0 : Int)] h3) ∧ ∀ (bs4 : Nat → Option V) (n22 : Int) (h4 : Hp), I2 [V.int IntKind.i64 n22]
  h4 → bif ltI n22 (↑n12 : Int) then ((0 : Int) ≤ n22 ∧ n22 < (↑n12 : Int)) ∧ onS a3 fun (i10 o10 : Nat) => ∃ (n23 : Int), ∃ (n24 : Int), h4.lda i10 (o10 + n22.toNat * (2 : Nat)) (2 : Nat) = some (V.agg [V.int IntKind.u32 n23, V.int
  IntKind.u32 n24]) ∧ ((0 : Int) ≤ n22 ∧ n22 < (↑n13 : Int)) ∧ onS a4 fun (i11 o11 : Nat) => ∃ (n25 : Int), ∃ (n26 : Int), h4.lda i11 (o11 + n22.toNat * (2 : Nat)) (2 : Nat) = some (V.agg [V.int IntKind.u32 n25, V.int IntKind.u32 n26]) ∧ bif
  !(n23 == n25 && (n24 == n26 && true)) then K (V.bool false) h4 else [V.slc script script_n script_f, V.ptr a1, V.ptr a2, V.int IntKind.i64 n2, V.slc a3 n12 f1, V.slc a4 n13 f2] = [V.slc script script_n script_f, V.ptr a1, V.ptr a2, V.int
  IntKind.i64 n2, V.slc a3 n12 f1, V.slc a4 n13 f2] ∧ I2 [V.int IntKind.i64 (IntKind.i64.wrap (n22 + (1 : Int)))] h4 ∧ x2 [V.int IntKind.i64 (IntKind.i64.wrap (n22 + (1 : Int)))] h4 < x2 [V.int IntKind.i64 n22] h4 else [V.slc script script_n
  script_f, V.ptr a1, V.ptr a2] = [V.slc script script_n script_f, V.ptr a1, V.ptr a2] ∧ I1 [V.int IntKind.i64 (IntKind.i64.wrap (n2 + (1 : Int)))] h4 ∧ x1 [V.int IntKind.i64 (IntKind.i64.wrap (n2 + (1 : Int)))] h4 < x1 [V.int IntKind.i64
  n2] h1 else XCalls Try.prog (10 : Nat) [] h1 fun (v21 : V) (h'23 : Hp) => ∃ (b14 : Bool), v21 = V.bool b14 ∧ K (V.bool b14) h'23
theorem y7 (h : Hp) (K : V → Hp → Prop) (a0 : Int) (most : Int) (script : Option (Nat × Nat)) (script_n : Nat) (script_f : Bool) : X7 h K a0 most script script_n script_f = fnX Try.prog T F jl7 jj7 Try.f7 [V.int IntKind.u32 a0, V.int
  IntKind.i64 most, V.slc script script_n script_f] h K := by kernel_rfl
theorem x7 {h : Hp} {K : V → Hp → Prop} (a0 : Int) (most : Int) (script : Option (Nat × Nat)) (script_n : Nat) (script_f : Bool) (hx : X7 h K a0 most script script_n script_f) : XCalls Try.prog 7 [V.int IntKind.u32 a0, V.int IntKind.i64 most, V.slc script script_n script_f] h K :=
  XCalls.ofX tok fok mixed (JL := jl7) (JJ := jj7) Try.func7 ((y7 h K a0 most script script_n script_f) ▸ hx) 
end Go.Vex
