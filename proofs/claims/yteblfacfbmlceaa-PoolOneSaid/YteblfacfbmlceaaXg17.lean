/- Held and PoolOne as statements about data (printed by VexPrint).
-/
import Derived.Test.YteblfacfbmlceaaVexX
import Derived.Test.YteblfacfbmlceaaTab17
set_option linter.unusedVariables false
set_option maxRecDepth 100000
namespace Go.Vex
open Go.Proofs
/-! 20: (*stevedore/pool.Pool).Held -/
-- loop 4: stays p(0), holder(1), (14), (15); turns l(4), (16)
def jl20 : Nat → Option JT := fun r => bif Nat.beq r 4 then some ⟨[0, 1, 14, 15], [4, 16], [V.slc none (0 : Nat) true, V.int IntKind.i64 (0 : Int)]⟩ else none
def jj20 : Nat → Option JT := fun r => none
def X20 (h : Hp) (K : V → Hp → Prop) (p : Nat) (holder : List UInt8) : Prop := ∃ (r1 : Option Nat), h.ld p (2 : Nat) = some (V.map r1) ∧ XCalls Try.prog (27 : Nat) [V.map r1] h fun (v1 : V) (h'1 : Hp) => ∃ (c1 : Nat), v1 = V.fn (Fn.func (30
  : Nat)) [] [V.ptr (some (c1, (0 : Nat)))] ∧ XCalls Try.prog (26 : Nat) [V.fn (Fn.func (30 : Nat)) [] [V.ptr (some (c1, (0 : Nat)))]] h'1 fun (v2 : V) (h'2 : Hp) => ∃ (a1 : Option (Nat × Nat)), ∃ (n1 : Nat), ∃ (f1 : Bool), v2 = V.slc a1 n1
  f1 ∧ ∃ (I1 : List V → Hp → Prop), ∃ (x1 : List V → Hp → Nat), ([V.ptr (some (p, (0 : Nat))), V.str holder, V.slc a1 n1 f1, V.int IntKind.i64 (↑n1 : Int)] = [V.ptr (some (p, (0 : Nat))), V.str holder, V.slc a1 n1 f1, V.int IntKind.i64 (↑n1
  : Int)] ∧ I1 [V.slc none (0 : Nat) true, V.int IntKind.i64 (0 : Int)] h'2) ∧ ∀ (bs1 : Nat → Option V) (a2 : Option (Nat × Nat)) (n2 : Nat) (f2 : Bool) (n3 : Int) (h1 : Hp), I1 [V.slc a2 n2 f2, V.int IntKind.i64 n3] h1 → bif ltI n3 (↑n1 :
  Int) then ((0 : Int) ≤ n3 ∧ n3 < (↑n1 : Int)) ∧ onS a1 fun (i1 o1 : Nat) => ∃ (n4 : Int), h1.ld i1 (o1 + n3.toNat * (1 : Nat)) = some (V.int IntKind.u64 n4) ∧ ∃ (r2 : Option Nat), h1.ld p (2 : Nat) = some (V.map r2) ∧ ∃ (a3 : Option (Nat ×
  Nat)), xlook T h1 (58 : Nat) (V.map r2) (V.int IntKind.u64 n4) false = some (V.ptr a3) ∧ onS a3 fun (i2 o2 : Nat) => ∃ (s1 : List UInt8), h1.ld i2 (o2 + (1 : Nat)) = some (V.str s1) ∧ bif s1 == holder then ∀ (h'3 : Hp), h'3 = h1.alloc
  (O.row [V.int IntKind.u64 n4] (1 : Nat) false) → ∃ (p1 : Option (Nat × Nat)), ∃ (n5 : Nat), ∃ (f3 : Bool), ∃ (h'4 : Hp), xapp T h'3 (31 : Nat) (31 : Nat) (V.slc a2 n2 f2) (V.slc (some (h1.next, (0 : Nat))) (1 : Nat) true) = some (V.slc p1
  n5 f3, h'4) ∧ [V.ptr (some (p, (0 : Nat))), V.str holder, V.slc a1 n1 f1, V.int IntKind.i64 (↑n1 : Int)] = [V.ptr (some (p, (0 : Nat))), V.str holder, V.slc a1 n1 f1, V.int IntKind.i64 (↑n1 : Int)] ∧ I1 [V.slc p1 n5 f3, V.int IntKind.i64
  (IntKind.i64.wrap (n3 + (1 : Int)))] h'4 ∧ x1 [V.slc p1 n5 f3, V.int IntKind.i64 (IntKind.i64.wrap (n3 + (1 : Int)))] h'4 < x1 [V.slc a2 n2 f2, V.int IntKind.i64 n3] h1 else [V.ptr (some (p, (0 : Nat))), V.str holder, V.slc a1 n1 f1, V.int
  IntKind.i64 (↑n1 : Int)] = [V.ptr (some (p, (0 : Nat))), V.str holder, V.slc a1 n1 f1, V.int IntKind.i64 (↑n1 : Int)] ∧ I1 [V.slc a2 n2 f2, V.int IntKind.i64 (IntKind.i64.wrap (n3 + (1 : Int)))] h1 ∧ x1 [V.slc a2 n2 f2, V.int IntKind.i64
  (IntKind.i64.wrap (n3 + (1 : Int)))] h1 < x1 [V.slc a2 n2 f2, V.int IntKind.i64 n3] h1 else K (V.slc a2 n2 f2) h1
theorem y20 (h : Hp) (K : V → Hp → Prop) (p : Nat) (holder : List UInt8) : X20 h K p holder = fnX Try.prog T F jl20 jj20 Try.f20 [V.ptr (some (p, (0 : Nat))), V.str holder] h K := by kernel_rfl
theorem x20 {h : Hp} {K : V → Hp → Prop} (p : Nat) (holder : List UInt8) (hx : X20 h K p holder) : XCalls Try.prog 20 [V.ptr (some (p, (0 : Nat))), V.str holder] h K :=
  XCalls.ofX tok fok mixed (JL := jl20) (JJ := jj20) Try.func20 ((y20 h K p holder) ▸ hx)
/-! 6: stevedore/stevedorelaw17.PoolOne -/
-- loop 28: stays script(1), n(5), p(6), last(8), who(9), i(10), held(14), seen(15), h(16), l(17), (75); turns k(18)
-- loop 23: stays script(1), n(5), p(6), last(8), who(9), i(10), seen(15), (75); turns held(14)
-- loop 10: stays script(1), n(5), p(6), who(9); turns last(8), i(10)
-- join 20: stays who(9), p(6), n(5), i(10), script(1); turns last(8)
def jl6 : Nat → Option JT := fun r => bif Nat.beq r 28 then some ⟨[1, 5, 6, 8, 9, 10, 14, 15, 16, 17, 75], [18], [V.int IntKind.i64 (0 : Int)]⟩ else bif Nat.beq r 23 then some ⟨[1, 5, 6, 8, 9, 10, 15, 75], [14], [V.int IntKind.i64 (0 :
  Int)]⟩ else bif Nat.beq r 10 then some ⟨[1, 5, 6, 9], [8, 10], [V.int IntKind.u64 (0 : Int), V.int IntKind.i64 (0 : Int)]⟩ else none
def jj6 : Nat → Option JT := fun r => bif Nat.beq r 20 then some ⟨[9, 6, 5, 10, 1], [8], [V.int IntKind.u64 (0 : Int)]⟩ else none
def X6 (h : Hp) (K : V → Hp → Prop) (most : Int) (script : Option (Nat × Nat)) (script_n : Nat) (script_f : Bool) : Prop := XCalls Try.prog (14 : Nat) [V.slc script script_n script_f] h fun (v1 : V) (h'1 : Hp) => ∃ (b1 : Bool), v1 = V.bool
  b1 ∧ bif b1 then XCalls Try.prog (9 : Nat) [] h'1 fun (v2 : V) (h'2 : Hp) => ∃ (b2 : Bool), v2 = V.bool b2 ∧ K (V.bool b2) h'2 else ¬(40 : Int) = (0 : Int) ∧ XCalls Try.prog (8 : Nat) [V.int IntKind.i64 (IntKind.i64.wrap (IntKind.i64.wrap
  (most.tmod (40 : Int)) + (1 : Int)))] h'1 fun (v3 : V) (h'3 : Hp) => ∃ (a1 : Option (Nat × Nat)), ∃ (n1 : Int), v3 = V.tup [V.ptr a1, V.int IntKind.i64 n1] ∧ bif n1 != (0 : Int) then K (V.bool false) h'3 else bif a1.isNone then K (V.bool
  false) h'3 else ∀ (h'4 : Hp), h'4 = h'3.alloc (O.map [] (0 : Nat)) → ∃ (I1 : List V → Hp → Prop), ∃ (x1 : List V → Hp → Nat), ([V.slc script script_n script_f, V.int IntKind.i64 (IntKind.i64.wrap (IntKind.i64.wrap (most.tmod (40 : Int)) +
  (1 : Int))), V.ptr a1, V.map (some h'3.next)] = [V.slc script script_n script_f, V.int IntKind.i64 (IntKind.i64.wrap (IntKind.i64.wrap (most.tmod (40 : Int)) + (1 : Int))), V.ptr a1, V.map (some h'3.next)] ∧ I1 [V.int IntKind.u64 (0 :
  Int), V.int IntKind.i64 (0 : Int)] h'4) ∧ ∀ (bs1 : Nat → Option V) (n2 n3 : Int) (h1 : Hp), I1 [V.int IntKind.u64 n2, V.int IntKind.i64 n3] h1 → bif ltI n3 (↑script_n : Int) then ((0 : Int) ≤ n3 ∧ n3 < (↑script_n : Int)) ∧ onS script fun
  (i1 o1 : Nat) => ∃ (n4 : Int), ∃ (s1 : List UInt8), ∃ (s2 : List UInt8), ∃ (s3 : List UInt8), ∃ (n5 : Int), ∃ (a2 : Option (Nat × Nat)), ∃ (n6 : Nat), ∃ (f1 : Bool), h1.lda i1 (o1 + n3.toNat * (6 : Nat)) (6 : Nat) = some (V.agg [V.int
  IntKind.i64 n4, V.str s1, V.str s2, V.str s3, V.int IntKind.u64 n5, V.slc a2 n6 f1]) ∧ ∀ (h'5 : Hp), h'5 = h1.alloc (O.row [V.int IntKind.i64 (0 : Int), V.str [], V.str [], V.str [], V.int IntKind.u64 (0 : Int), V.slc none (0 : Nat) true]
  (1 : Nat) false) → ∃ (h'6 : Hp), h'5.st h1.next (0 : Nat) [V.int IntKind.i64 n4, V.str s1, V.str s2, V.str s3, V.int IntKind.u64 n5, V.slc a2 n6 f1] = some h'6 ∧ ∃ (s4 : List UInt8), h'6.ld h1.next (1 : Nat) = some (V.str s4) ∧ ∃ (h'7 :
  Hp), xput T h'6 (54 : Nat) (V.map (some h'3.next)) (V.str s4) (V.int IntKind.i64 (1 : Int)) = some h'7 ∧ ∃ (s5 : List UInt8), h'7.ld h1.next (2 : Nat) = some (V.str s5) ∧ ∃ (h'8 : Hp), xput T h'7 (54 : Nat) (V.map (some h'3.next)) (V.str
  s5) (V.int IntKind.i64 (1 : Int)) = some h'8 ∧ ∃ (n7 : Int), ∃ (s6 : List UInt8), ∃ (s7 : List UInt8), ∃ (s8 : List UInt8), ∃ (n8 : Int), ∃ (a3 : Option (Nat × Nat)), ∃ (n9 : Nat), ∃ (f2 : Bool), h'8.lda h1.next (0 : Nat) (6 : Nat) = some
  (V.agg [V.int IntKind.i64 n7, V.str s6, V.str s7, V.str s8, V.int IntKind.u64 n8, V.slc a3 n9 f2]) ∧ XCalls Try.prog (15 : Nat) [V.ptr a1, V.agg [V.int IntKind.i64 n7, V.str s6, V.str s7, V.str s8, V.int IntKind.u64 n8, V.slc a3 n9 f2]]
  h'8 fun (v4 : V) (h'9 : Hp) => ∃ (n10 : Int), ∃ (n11 : Int), v4 = V.tup [V.int IntKind.u64 n10, V.int IntKind.i64 n11] ∧ ∃ (Q1 : List V → Hp → Prop), (∃ (n12 : Int), h'9.ld h1.next (0 : Nat) = some (V.int IntKind.i64 n12) ∧ bif n12 == (0 :
  Int) then bif n11 == (0 : Int) then bif !ltI n2 n10 then K (V.bool false) h'9 else [V.map (some h'3.next), V.ptr a1, V.int IntKind.i64 (IntKind.i64.wrap (IntKind.i64.wrap (most.tmod (40 : Int)) + (1 : Int))), V.int IntKind.i64 n3, V.slc
  script script_n script_f] = [V.map (some h'3.next), V.ptr a1, V.int IntKind.i64 (IntKind.i64.wrap (IntKind.i64.wrap (most.tmod (40 : Int)) + (1 : Int))), V.int IntKind.i64 n3, V.slc script script_n script_f] ∧ Q1 [V.int IntKind.u64 n10]
  h'9 else [V.map (some h'3.next), V.ptr a1, V.int IntKind.i64 (IntKind.i64.wrap (IntKind.i64.wrap (most.tmod (40 : Int)) + (1 : Int))), V.int IntKind.i64 n3, V.slc script script_n script_f] = [V.map (some h'3.next), V.ptr a1, V.int
  IntKind.i64 (IntKind.i64.wrap (IntKind.i64.wrap (most.tmod (40 : Int)) + (1 : Int))), V.int IntKind.i64 n3, V.slc script script_n script_f] ∧ Q1 [V.int IntKind.u64 n2] h'9 else [V.map (some h'3.next), V.ptr a1, V.int IntKind.i64
  (IntKind.i64.wrap (IntKind.i64.wrap (most.tmod (40 : Int)) + (1 : Int))), V.int IntKind.i64 n3, V.slc script script_n script_f] = [V.map (some h'3.next), V.ptr a1, V.int IntKind.i64 (IntKind.i64.wrap (IntKind.i64.wrap (most.tmod (40 :
  Int)) + (1 : Int))), V.int IntKind.i64 n3, V.slc script script_n script_f] ∧ Q1 [V.int IntKind.u64 n2] h'9) ∧ ∀ (bs2 : Nat → Option V) (n13 : Int) (h2 : Hp), Q1 [V.int IntKind.u64 n13] h2 → ∀ (h'10 : Hp), h'10 = h2.alloc (O.map [] (0 :
  Nat)) → ∃ (h'11 : Hp), xrange T h'10 (54 : Nat) (V.map (some h'3.next)) = some (V.ptr (some (h'10.next, (0 : Nat))), h'11) ∧ ∃ (I2 : List V → Hp → Prop), ∃ (x2 : List V → Hp → Nat), ([V.slc script script_n script_f, V.int IntKind.i64
  (IntKind.i64.wrap (IntKind.i64.wrap (most.tmod (40 : Int)) + (1 : Int))), V.ptr a1, V.int IntKind.u64 n13, V.map (some h'3.next), V.int IntKind.i64 n3, V.map (some h2.next), V.ptr (some (h'10.next, (0 : Nat)))] = [V.slc script script_n
  script_f, V.int IntKind.i64 (IntKind.i64.wrap (IntKind.i64.wrap (most.tmod (40 : Int)) + (1 : Int))), V.ptr a1, V.int IntKind.u64 n13, V.map (some h'3.next), V.int IntKind.i64 n3, V.map (some h2.next), V.ptr (some (h'10.next, (0 : Nat)))]
  ∧ I2 [V.int IntKind.i64 (0 : Int)] h'11) ∧ ∀ (bs3 : Nat → Option V) (n14 : Int) (h3 : Hp), I2 [V.int IntKind.i64 n14] h3 → ∃ (l1 : List (V × Hp)), xnext h3 (V.ptr (some (h'10.next, (0 : Nat)))) = some l1 ∧ (List.Mem (V.tup [V.bool false],
  h3) l1 → XCalls Try.prog (13 : Nat) [V.ptr a1] h3 fun (v5 : V) (h'12 : Hp) => ∃ (n15 : Int), v5 = V.int IntKind.i64 n15 ∧ bif IntKind.i64.wrap (n14 + n15) != IntKind.i64.wrap (IntKind.i64.wrap (most.tmod (40 : Int)) + (1 : Int)) then K
  (V.bool false) h'12 else XCalls Try.prog (13 : Nat) [V.ptr a1] h'12 fun (v6 : V) (h'13 : Hp) => ∃ (n16 : Int), v6 = V.int IntKind.i64 n16 ∧ bif ltI n16 (0 : Int) then K (V.bool false) h'13 else [V.slc script script_n script_f, V.int
  IntKind.i64 (IntKind.i64.wrap (IntKind.i64.wrap (most.tmod (40 : Int)) + (1 : Int))), V.ptr a1, V.map (some h'3.next)] = [V.slc script script_n script_f, V.int IntKind.i64 (IntKind.i64.wrap (IntKind.i64.wrap (most.tmod (40 : Int)) + (1 :
  Int))), V.ptr a1, V.map (some h'3.next)] ∧ I1 [V.int IntKind.u64 n13, V.int IntKind.i64 (IntKind.i64.wrap (n3 + (1 : Int)))] h'13 ∧ x1 [V.int IntKind.u64 n13, V.int IntKind.i64 (IntKind.i64.wrap (n3 + (1 : Int)))] h'13 < x1 [V.int
  IntKind.u64 n2, V.int IntKind.i64 n3] h1) ∧ (∀ (r1 : V × Hp), List.Mem r1 l1 → r1 = (V.tup [V.bool false], h3) ∨ ∃ (a4 : V), ∃ (b3 : V), r1.1 = V.tup [V.bool true, a4, b3]) ∧ ∀ (a5 b4 : V) (h'14 : Hp), List.Mem (V.tup [V.bool true, a5,
  b4], h'14) l1 → ∃ (s9 : List UInt8), ∃ (v7 : V), xentry h'14 (V.ptr (some (h'10.next, (0 : Nat)))) = some (V.tup [V.str s9, v7]) ∧ XCalls Try.prog (20 : Nat) [V.ptr a1, V.str s9] h'14 fun (v8 : V) (h'15 : Hp) => ∃ (a6 : Option (Nat ×
  Nat)), ∃ (n17 : Nat), ∃ (f3 : Bool), v8 = V.slc a6 n17 f3 ∧ ∃ (I3 : List V → Hp → Prop), ∃ (x3 : List V → Hp → Nat), ([V.slc script script_n script_f, V.int IntKind.i64 (IntKind.i64.wrap (IntKind.i64.wrap (most.tmod (40 : Int)) + (1 :
  Int))), V.ptr a1, V.int IntKind.u64 n13, V.map (some h'3.next), V.int IntKind.i64 n3, V.int IntKind.i64 (IntKind.i64.wrap (n14 + (↑n17 : Int))), V.map (some h2.next), V.str s9, V.slc a6 n17 f3, V.ptr (some (h'10.next, (0 : Nat)))] = [V.slc
  script script_n script_f, V.int IntKind.i64 (IntKind.i64.wrap (IntKind.i64.wrap (most.tmod (40 : Int)) + (1 : Int))), V.ptr a1, V.int IntKind.u64 n13, V.map (some h'3.next), V.int IntKind.i64 n3, V.int IntKind.i64 (IntKind.i64.wrap (n14 +
  (↑n17 : Int))), V.map (some h2.next), V.str s9, V.slc a6 n17 f3, V.ptr (some (h'10.next, (0 : Nat)))] ∧ I3 [V.int IntKind.i64 (0 : Int)] h'15) ∧ ∀ (bs4 : Nat → Option V) (n18 : Int) (h4 : Hp), I3 [V.int IntKind.i64 n18] h4 → bif ltI n18
  (↑n17 : Int) then ((0 : Int) ≤ n18 ∧ n18 < (↑n17 : Int)) ∧ onS a6 fun (i2 o2 : Nat) => ∃ (n19 : Int), h4.ld i2 (o2 + n18.toNat * (1 : Nat)) = some (V.int IntKind.u64 n19) ∧ XCalls Try.prog (17 : Nat) [V.ptr a1, V.int IntKind.u64 n19] h4
  fun (v9 : V) (h'16 : Hp) => ∃ (n20 : Int), ∃ (s10 : List UInt8), ∃ (s11 : List UInt8), ∃ (b5 : Bool), v9 = V.tup [V.agg [V.int IntKind.u64 n20, V.str s10, V.str s11], V.bool b5] ∧ ∀ (h'17 : Hp), h'17 = h'16.alloc (O.row [V.int IntKind.u64
  (0 : Int), V.str [], V.str []] (1 : Nat) false) → ∃ (h'18 : Hp), h'17.st h'16.next (0 : Nat) [V.int IntKind.u64 n20, V.str s10, V.str s11] = some h'18 ∧ ((0 : Int) ≤ n18 ∧ n18 < (↑n17 : Int)) ∧ onS a6 fun (i3 o3 : Nat) => ∃ (n21 : Int),
  h'18.ld i3 (o3 + n18.toNat * (1 : Nat)) = some (V.int IntKind.u64 n21) ∧ ∃ (n22 : Int), xlook T h'18 (32 : Nat) (V.map (some h2.next)) (V.int IntKind.u64 n21) false = some (V.int IntKind.i64 n22) ∧ ∃ (h'19 : Hp), xput T h'18 (32 : Nat)
  (V.map (some h2.next)) (V.int IntKind.u64 n21) (V.int IntKind.i64 (IntKind.i64.wrap (n22 + (1 : Int)))) = some h'19 ∧ bif !b5 then K (V.bool false) h'19 else ∃ (s12 : List UInt8), h'19.ld h'16.next (1 : Nat) = some (V.str s12) ∧ bif !s12
  == s9 then K (V.bool false) h'19 else bif s9 == [] then K (V.bool false) h'19 else ∃ (n23 : Int), h'19.ld h'16.next (0 : Nat) = some (V.int IntKind.u64 n23) ∧ ((0 : Int) ≤ n18 ∧ n18 < (↑n17 : Int)) ∧ onS a6 fun (i4 o4 : Nat) => ∃ (n24 :
  Int), h'19.ld i4 (o4 + n18.toNat * (1 : Nat)) = some (V.int IntKind.u64 n24) ∧ bif n23 != n24 then K (V.bool false) h'19 else ((0 : Int) ≤ n18 ∧ n18 < (↑n17 : Int)) ∧ onS a6 fun (i5 o5 : Nat) => ∃ (n25 : Int), h'19.ld i5 (o5 + n18.toNat *
  (1 : Nat)) = some (V.int IntKind.u64 n25) ∧ ∃ (n26 : Int), xlook T h'19 (32 : Nat) (V.map (some h2.next)) (V.int IntKind.u64 n25) false = some (V.int IntKind.i64 n26) ∧ bif ltI (1 : Int) n26 then K (V.bool false) h'19 else bif ltI (0 :
  Int) n18 then ((0 : Int) ≤ IntKind.i64.wrap (n18 - (1 : Int)) ∧ IntKind.i64.wrap (n18 - (1 : Int)) < (↑n17 : Int)) ∧ onS a6 fun (i6 o6 : Nat) => ∃ (n27 : Int), h'19.ld i6 (o6 + (IntKind.i64.wrap (n18 - (1 : Int))).toNat * (1 : Nat)) = some
  (V.int IntKind.u64 n27) ∧ ((0 : Int) ≤ n18 ∧ n18 < (↑n17 : Int)) ∧ onS a6 fun (i7 o7 : Nat) => ∃ (n28 : Int), h'19.ld i7 (o7 + n18.toNat * (1 : Nat)) = some (V.int IntKind.u64 n28) ∧ bif !ltI n27 n28 then K (V.bool false) h'19 else [V.slc
  script script_n script_f, V.int IntKind.i64 (IntKind.i64.wrap (IntKind.i64.wrap (most.tmod (40 : Int)) + (1 : Int))), V.ptr a1, V.int IntKind.u64 n13, V.map (some h'3.next), V.int IntKind.i64 n3, V.int IntKind.i64 (IntKind.i64.wrap (n14 +
  (↑n17 : Int))), V.map (some h2.next), V.str s9, V.slc a6 n17 f3, V.ptr (some (h'10.next, (0 : Nat)))] = [V.slc script script_n script_f, V.int IntKind.i64 (IntKind.i64.wrap (IntKind.i64.wrap (most.tmod (40 : Int)) + (1 : Int))), V.ptr a1,
  V.int IntKind.u64 n13, V.map (some h'3.next), V.int IntKind.i64 n3, V.int IntKind.i64 (IntKind.i64.wrap (n14 + (↑n17 : Int))), V.map (some h2.next), V.str s9, V.slc a6 n17 f3, V.ptr (some (h'10.next, (0 : Nat)))] ∧ I3 [V.int IntKind.i64
  (IntKind.i64.wrap (n18 + (1 : Int)))] h'19 ∧ x3 [V.int IntKind.i64 (IntKind.i64.wrap (n18 + (1 : Int)))] h'19 < x3 [V.int IntKind.i64 n18] h4 else [V.slc script script_n script_f, V.int IntKind.i64 (IntKind.i64.wrap (IntKind.i64.wrap
  (most.tmod (40 : Int)) + (1 : Int))), V.ptr a1, V.int IntKind.u64 n13, V.map (some h'3.next), V.int IntKind.i64 n3, V.int IntKind.i64 (IntKind.i64.wrap (n14 + (↑n17 : Int))), V.map (some h2.next), V.str s9, V.slc a6 n17 f3, V.ptr (some
  (h'10.next, (0 : Nat)))] = [V.slc script script_n script_f, V.int IntKind.i64 (IntKind.i64.wrap (IntKind.i64.wrap (most.tmod (40 : Int)) + (1 : Int))), V.ptr a1, V.int IntKind.u64 n13, V.map (some h'3.next), V.int IntKind.i64 n3, V.int
  IntKind.i64 (IntKind.i64.wrap (n14 + (↑n17 : Int))), V.map (some h2.next), V.str s9, V.slc a6 n17 f3, V.ptr (some (h'10.next, (0 : Nat)))] ∧ I3 [V.int IntKind.i64 (IntKind.i64.wrap (n18 + (1 : Int)))] h'19 ∧ x3 [V.int IntKind.i64
  (IntKind.i64.wrap (n18 + (1 : Int)))] h'19 < x3 [V.int IntKind.i64 n18] h4 else [V.slc script script_n script_f, V.int IntKind.i64 (IntKind.i64.wrap (IntKind.i64.wrap (most.tmod (40 : Int)) + (1 : Int))), V.ptr a1, V.int IntKind.u64 n13,
  V.map (some h'3.next), V.int IntKind.i64 n3, V.map (some h2.next), V.ptr (some (h'10.next, (0 : Nat)))] = [V.slc script script_n script_f, V.int IntKind.i64 (IntKind.i64.wrap (IntKind.i64.wrap (most.tmod (40 : Int)) + (1 : Int))), V.ptr
  a1, V.int IntKind.u64 n13, V.map (some h'3.next), V.int IntKind.i64 n3, V.map (some h2.next), V.ptr (some (h'10.next, (0 : Nat)))] ∧ I2 [V.int IntKind.i64 (IntKind.i64.wrap (n14 + (↑n17 : Int)))] h4 ∧ x2 [V.int IntKind.i64
  (IntKind.i64.wrap (n14 + (↑n17 : Int)))] h4 < x2 [V.int IntKind.i64 n14] h3 else XCalls Try.prog (9 : Nat) [] h1 fun (v10 : V) (h'20 : Hp) => ∃ (b6 : Bool), v10 = V.bool b6 ∧ K (V.bool b6) h'20
theorem y6 (h : Hp) (K : V → Hp → Prop) (most : Int) (script : Option (Nat × Nat)) (script_n : Nat) (script_f : Bool) : X6 h K most script script_n script_f = fnX Try.prog T F jl6 jj6 Try.f6 [V.int IntKind.u8 most, V.slc script script_n script_f] h K := by kernel_rfl
theorem x6 {h : Hp} {K : V → Hp → Prop} (most : Int) (script : Option (Nat × Nat)) (script_n : Nat) (script_f : Bool) (hx : X6 h K most script script_n script_f) : XCalls Try.prog 6 [V.int IntKind.u8 most, V.slc script script_n script_f] h K :=
  XCalls.ofX tok fok mixed (JL := jl6) (JJ := jj6) Try.func6 ((y6 h K most script script_n script_f) ▸ hx) 
end Go.Vex
