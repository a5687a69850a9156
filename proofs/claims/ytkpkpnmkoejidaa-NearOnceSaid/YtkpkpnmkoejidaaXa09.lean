/- near: its functions (layer 9) (printed by VexPrint).
-/
import Derived.Test.YtkpkpnmkoejidaaVexX
import Derived.Test.YtkpkpnmkoejidaaTab09
set_option linter.unusedVariables false
set_option maxRecDepth 100000
namespace Go.Vex
open Go.Proofs
/-! 6: stevedore/near.New -/
def jl6 : Nat → Option JT := fun r => none
def jj6 : Nat → Option JT := fun r => none
def X6 (h : Hp) (K : V → Hp → Prop) (c_0 : Int) (c_1 : Int) (c_2 : Int) (c_3 : Int) (c_4 : Int) (c_5 : Int) : Prop := ∀ (h'1 : Hp), h'1 = h.alloc (O.row [V.int IntKind.i64 c_0, V.int IntKind.i64 c_1, V.int IntKind.i64 c_2, V.int IntKind.i64
  c_3, V.int IntKind.i64 c_4, V.int IntKind.i64 c_5] (1 : Nat) false) → ∃ (n1 : Int), h'1.ld h.next (0 : Nat) = some (V.int IntKind.i64 n1) ∧ bif ltI n1 (1 : Int) then K (V.tup [V.ptr none, V.int IntKind.i64 (2 : Int)]) h'1 else ∃ (n2 :
  Int), h'1.ld h.next (0 : Nat) = some (V.int IntKind.i64 n2) ∧ bif ltI (1024 : Int) n2 then K (V.tup [V.ptr none, V.int IntKind.i64 (2 : Int)]) h'1 else ∃ (n3 : Int), h'1.ld h.next (1 : Nat) = some (V.int IntKind.i64 n3) ∧ bif ltI n3 (0 :
  Int) then K (V.tup [V.ptr none, V.int IntKind.i64 (2 : Int)]) h'1 else ∃ (n4 : Int), h'1.ld h.next (1 : Nat) = some (V.int IntKind.i64 n4) ∧ bif ltI (1024 : Int) n4 then K (V.tup [V.ptr none, V.int IntKind.i64 (2 : Int)]) h'1 else ∃ (n5 :
  Int), h'1.ld h.next (2 : Nat) = some (V.int IntKind.i64 n5) ∧ bif ltI n5 (0 : Int) then K (V.tup [V.ptr none, V.int IntKind.i64 (2 : Int)]) h'1 else ∃ (n6 : Int), h'1.ld h.next (3 : Nat) = some (V.int IntKind.i64 n6) ∧ bif ltI n6 (1 : Int)
  then K (V.tup [V.ptr none, V.int IntKind.i64 (2 : Int)]) h'1 else ∃ (n7 : Int), h'1.ld h.next (3 : Nat) = some (V.int IntKind.i64 n7) ∧ bif ltI (1099511627776 : Int) n7 then K (V.tup [V.ptr none, V.int IntKind.i64 (2 : Int)]) h'1 else ∃
  (n8 : Int), h'1.ld h.next (4 : Nat) = some (V.int IntKind.i64 n8) ∧ bif ltI n8 (1 : Int) then K (V.tup [V.ptr none, V.int IntKind.i64 (2 : Int)]) h'1 else ∃ (n9 : Int), h'1.ld h.next (4 : Nat) = some (V.int IntKind.i64 n9) ∧ bif ltI
  (1048576 : Int) n9 then K (V.tup [V.ptr none, V.int IntKind.i64 (2 : Int)]) h'1 else ∃ (n10 : Int), h'1.ld h.next (5 : Nat) = some (V.int IntKind.i64 n10) ∧ bif ltI n10 (1 : Int) then K (V.tup [V.ptr none, V.int IntKind.i64 (2 : Int)]) h'1
  else ∃ (n11 : Int), h'1.ld h.next (5 : Nat) = some (V.int IntKind.i64 n11) ∧ bif ltI (1099511627776 : Int) n11 then K (V.tup [V.ptr none, V.int IntKind.i64 (2 : Int)]) h'1 else ∃ (n12 : Int), ∃ (n13 : Int), ∃ (n14 : Int), ∃ (n15 : Int), ∃
  (n16 : Int), ∃ (n17 : Int), h'1.lda h.next (0 : Nat) (6 : Nat) = some (V.agg [V.int IntKind.i64 n12, V.int IntKind.i64 n13, V.int IntKind.i64 n14, V.int IntKind.i64 n15, V.int IntKind.i64 n16, V.int IntKind.i64 n17]) ∧ ∀ (h'2 : Hp), h'2 =
  h'1.alloc (O.map [] (0 : Nat)) → ∀ (h'3 : Hp), h'3 = h'2.alloc (O.row [V.int IntKind.i64 n12, V.int IntKind.i64 n13, V.int IntKind.i64 n14, V.int IntKind.i64 n15, V.int IntKind.i64 n16, V.int IntKind.i64 n17, V.map (some h'1.next), V.int
  IntKind.i64 (0 : Int), V.int IntKind.i64 (0 : Int)] (1 : Nat) false) → K (V.tup [V.ptr (some (h'2.next, (0 : Nat))), V.int IntKind.i64 (0 : Int)]) h'3
theorem y6 (h : Hp) (K : V → Hp → Prop) (c_0 : Int) (c_1 : Int) (c_2 : Int) (c_3 : Int) (c_4 : Int) (c_5 : Int) : X6 h K c_0 c_1 c_2 c_3 c_4 c_5 = fnX Try.prog T F jl6 jj6 Try.f6 [V.agg [V.int IntKind.i64 c_0, V.int IntKind.i64 c_1, V.int
  IntKind.i64 c_2, V.int IntKind.i64 c_3, V.int IntKind.i64 c_4, V.int IntKind.i64 c_5]] h K := by kernel_rfl
theorem x6 {h : Hp} {K : V → Hp → Prop} (c_0 : Int) (c_1 : Int) (c_2 : Int) (c_3 : Int) (c_4 : Int) (c_5 : Int) (hx : X6 h K c_0 c_1 c_2 c_3 c_4 c_5) : XCalls Try.prog 6 [V.agg [V.int IntKind.i64 c_0, V.int IntKind.i64 c_1, V.int IntKind.i64
  c_2, V.int IntKind.i64 c_3, V.int IntKind.i64 c_4, V.int IntKind.i64 c_5]] h K :=
  XCalls.ofX tok fok mixed (JL := jl6) (JJ := jj6) Try.func6 ((y6 h K c_0 c_1 c_2 c_3 c_4 c_5) ▸ hx)
/-! 8: (*stevedore/near.Near).Find -/
-- join 17: stays x(12), number(2), n(0), is(13); turns 
-- join 14: stays is(13), n(0), ip(1), x(12), number(2); turns 
-- join 12: stays is(13), n(0), ip(1), number(2); turns x(12)
-- join 10: stays is(13), n(0), ip(1), number(2), x(12); turns 
-- join 9: stays x(12); turns asks(10)
def jl8 : Nat → Option JT := fun r => none
def jj8 : Nat → Option JT := fun r => bif Nat.beq r 17 then some ⟨[12, 2, 0, 13], [], []⟩ else bif Nat.beq r 14 then some ⟨[13, 0, 1, 12, 2], [], []⟩ else bif Nat.beq r 12 then some ⟨[13, 0, 1, 2], [12], [V.ptr none]⟩ else bif Nat.beq r 10
  then some ⟨[13, 0, 1, 2, 12], [], []⟩ else bif Nat.beq r 9 then some ⟨[12], [10], [V.bool false]⟩ else none
def X8 (h : Hp) (K : V → Hp → Prop) (n : Nat) (ip : Int) (number : Int) (now : Int) : Prop := XCalls Try.prog (15 : Nat) [V.ptr (some (n, (0 : Nat)))] h fun (v1 : V) (h'1 : Hp) => ∃ (b1 : Bool), v1 = V.bool b1 ∧ bif b1 then K (V.tup [V.int
  IntKind.u64 (0 : Int), V.bool false, V.bool false, V.int IntKind.i64 (1 : Int)]) h'1 else XCalls Try.prog (16 : Nat) [V.ptr (some (n, (0 : Nat))), V.int IntKind.i64 now] h'1 fun (v2 : V) (h'2 : Hp) => ∃ (r1 : Option Nat), h'2.ld n (6 :
  Nat) = some (V.map r1) ∧ ∃ (a1 : Option (Nat × Nat)), ∃ (b'1 : Bool), xlook T h'2 (52 : Nat) (V.map r1) (V.int IntKind.u32 ip) true = some (V.tup [V.ptr a1, V.bool b'1]) ∧ ∃ (Q1 : List V → Hp → Prop), (bif b'1 then onS a1 fun (i1 o1 : Nat)
  => ∃ (n1 : Int), h'2.ld i1 (o1 + (0 : Nat)) = some (V.int IntKind.u8 n1) ∧ bif n1 != (1 : Int) then ∃ (Q2 : List V → Hp → Prop), (onS a1 fun (i2 o2 : Nat) => ∃ (n2 : Int), h'2.ld i2 (o2 + (0 : Nat)) = some (V.int IntKind.u8 n2) ∧ bif n2 ==
  (3 : Int) then onS a1 fun (i3 o3 : Nat) => ∃ (n3 : Int), h'2.ld i3 (o3 + (3 : Nat)) = some (V.int IntKind.i64 n3) ∧ bif n3 == (0 : Int) then XCalls Try.prog (17 : Nat) [V.ptr (some (n, (0 : Nat))), V.ptr a1] h'2 fun (v3 : V) (h'3 : Hp) =>
  [V.ptr a1] = [V.ptr a1] ∧ Q2 [V.bool (n3 == (0 : Int))] h'3 else [V.ptr a1] = [V.ptr a1] ∧ Q2 [V.bool (n3 == (0 : Int))] h'2 else [V.ptr a1] = [V.ptr a1] ∧ Q2 [V.bool false] h'2) ∧ ∀ (bs1 : Nat → Option V) (b2 : Bool) (h1 : Hp), Q2 [V.bool
  b2] h1 → onS a1 fun (i4 o4 : Nat) => ∃ (n4 : Int), h1.ld i4 (o4 + (1 : Nat)) = some (V.int IntKind.u64 n4) ∧ K (V.tup [V.int IntKind.u64 n4, V.bool true, V.bool b2, V.int IntKind.i64 (0 : Int)]) h1 else [V.bool b'1, V.ptr (some (n, (0 :
  Nat))), V.int IntKind.u32 ip, V.int IntKind.u64 number, V.ptr a1] = [V.bool b'1, V.ptr (some (n, (0 : Nat))), V.int IntKind.u32 ip, V.int IntKind.u64 number, V.ptr a1] ∧ Q1 [] h'2 else [V.bool b'1, V.ptr (some (n, (0 : Nat))), V.int
  IntKind.u32 ip, V.int IntKind.u64 number, V.ptr a1] = [V.bool b'1, V.ptr (some (n, (0 : Nat))), V.int IntKind.u32 ip, V.int IntKind.u64 number, V.ptr a1] ∧ Q1 [] h'2) ∧ ∀ (bs2 : Nat → Option V) (h2 : Hp), Q1 [] h2 → ∃ (Q3 : List V → Hp →
  Prop), (bif !b'1 then ∀ (h'4 : Hp), h'4 = h2.alloc (O.row [V.int IntKind.u8 (1 : Int), V.int IntKind.u64 (0 : Int), V.int IntKind.i64 (0 : Int), V.int IntKind.i64 (0 : Int), V.slc none (0 : Nat) true] (1 : Nat) false) → [V.bool b'1, V.ptr
  (some (n, (0 : Nat))), V.int IntKind.u32 ip, V.int IntKind.u64 number] = [V.bool b'1, V.ptr (some (n, (0 : Nat))), V.int IntKind.u32 ip, V.int IntKind.u64 number] ∧ Q3 [V.ptr (some (h2.next, (0 : Nat)))] h'4 else [V.bool b'1, V.ptr (some
  (n, (0 : Nat))), V.int IntKind.u32 ip, V.int IntKind.u64 number] = [V.bool b'1, V.ptr (some (n, (0 : Nat))), V.int IntKind.u32 ip, V.int IntKind.u64 number] ∧ Q3 [V.ptr a1] h2) ∧ ∀ (bs3 : Nat → Option V) (a2 : Option (Nat × Nat)) (h3 :
  Hp), Q3 [V.ptr a2] h3 → ∃ (Q4 : List V → Hp → Prop), (bif !b'1 then ∃ (r2 : Option Nat), h3.ld n (6 : Nat) = some (V.map r2) ∧ ∃ (n5 : Int), xlen T h3 (52 : Nat) (V.map r2) = some (V.int IntKind.i64 n5) ∧ ∃ (n6 : Int), h3.ld n (0 : Nat) =
  some (V.int IntKind.i64 n6) ∧ bif !ltI n5 n6 then K (V.tup [V.int IntKind.u64 (0 : Int), V.bool false, V.bool false, V.int IntKind.i64 (6 : Int)]) h3 else onS a2 fun (i5 o5 : Nat) => ∃ (a3 : Option (Nat × Nat)), ∃ (n7 : Nat), ∃ (f1 :
  Bool), h3.ld i5 (o5 + (4 : Nat)) = some (V.slc a3 n7 f1) ∧ ∃ (n8 : Int), h3.ld n (2 : Nat) = some (V.int IntKind.i64 n8) ∧ bif !ltI (↑n7 : Int) n8 then K (V.tup [V.int IntKind.u64 (0 : Int), V.bool false, V.bool false, V.int IntKind.i64 (6
  : Int)]) h3 else ∃ (n9 : Int), h3.ld n (8 : Nat) = some (V.int IntKind.i64 n9) ∧ ∃ (n10 : Int), h3.ld n (1 : Nat) = some (V.int IntKind.i64 n10) ∧ bif !ltI n9 n10 then K (V.tup [V.int IntKind.u64 (0 : Int), V.bool false, V.bool false,
  V.int IntKind.i64 (6 : Int)]) h3 else [V.bool b'1, V.ptr (some (n, (0 : Nat))), V.int IntKind.u32 ip, V.ptr a2, V.int IntKind.u64 number] = [V.bool b'1, V.ptr (some (n, (0 : Nat))), V.int IntKind.u32 ip, V.ptr a2, V.int IntKind.u64 number]
  ∧ Q4 [] h3 else onS a2 fun (i6 o6 : Nat) => ∃ (a4 : Option (Nat × Nat)), ∃ (n11 : Nat), ∃ (f2 : Bool), h3.ld i6 (o6 + (4 : Nat)) = some (V.slc a4 n11 f2) ∧ ∃ (n12 : Int), h3.ld n (2 : Nat) = some (V.int IntKind.i64 n12) ∧ bif !ltI (↑n11 :
  Int) n12 then K (V.tup [V.int IntKind.u64 (0 : Int), V.bool false, V.bool false, V.int IntKind.i64 (6 : Int)]) h3 else ∃ (n13 : Int), h3.ld n (8 : Nat) = some (V.int IntKind.i64 n13) ∧ ∃ (n14 : Int), h3.ld n (1 : Nat) = some (V.int
  IntKind.i64 n14) ∧ bif !ltI n13 n14 then K (V.tup [V.int IntKind.u64 (0 : Int), V.bool false, V.bool false, V.int IntKind.i64 (6 : Int)]) h3 else [V.bool b'1, V.ptr (some (n, (0 : Nat))), V.int IntKind.u32 ip, V.ptr a2, V.int IntKind.u64
  number] = [V.bool b'1, V.ptr (some (n, (0 : Nat))), V.int IntKind.u32 ip, V.ptr a2, V.int IntKind.u64 number] ∧ Q4 [] h3) ∧ ∀ (bs4 : Nat → Option V) (h4 : Hp), Q4 [] h4 → ∃ (Q5 : List V → Hp → Prop), (bif !b'1 then ∃ (r3 : Option Nat),
  h4.ld n (6 : Nat) = some (V.map r3) ∧ ∃ (h'5 : Hp), xput T h4 (52 : Nat) (V.map r3) (V.int IntKind.u32 ip) (V.ptr a2) = some h'5 ∧ XCalls Try.prog (17 : Nat) [V.ptr (some (n, (0 : Nat))), V.ptr a2] h'5 fun (v4 : V) (h'6 : Hp) => [V.ptr a2,
  V.int IntKind.u64 number, V.ptr (some (n, (0 : Nat))), V.bool b'1] = [V.ptr a2, V.int IntKind.u64 number, V.ptr (some (n, (0 : Nat))), V.bool b'1] ∧ Q5 [] h'6 else [V.ptr a2, V.int IntKind.u64 number, V.ptr (some (n, (0 : Nat))), V.bool
  b'1] = [V.ptr a2, V.int IntKind.u64 number, V.ptr (some (n, (0 : Nat))), V.bool b'1] ∧ Q5 [] h4) ∧ ∀ (bs5 : Nat → Option V) (h5 : Hp), Q5 [] h5 → onS a2 fun (i7 o7 : Nat) => ∃ (a5 : Option (Nat × Nat)), ∃ (n15 : Nat), ∃ (f3 : Bool), h5.ld
  i7 (o7 + (4 : Nat)) = some (V.slc a5 n15 f3) ∧ ∀ (h'7 : Hp), h'7 = h5.alloc (O.row [V.int IntKind.u64 number] (1 : Nat) false) → ∃ (p1 : Option (Nat × Nat)), ∃ (n16 : Nat), ∃ (f4 : Bool), ∃ (h'8 : Hp), xapp T h'7 (36 : Nat) (36 : Nat)
  (V.slc a5 n15 f3) (V.slc (some (h5.next, (0 : Nat))) (1 : Nat) true) = some (V.slc p1 n16 f4, h'8) ∧ onS a2 fun (i8 o8 : Nat) => ∃ (h'9 : Hp), h'8.st i8 (o8 + (4 : Nat)) [V.slc p1 n16 f4] = some h'9 ∧ ∃ (n17 : Int), h'9.ld n (8 : Nat) =
  some (V.int IntKind.i64 n17) ∧ ∃ (h'10 : Hp), h'9.st n (8 : Nat) [V.int IntKind.i64 (IntKind.i64.wrap (n17 + (1 : Int)))] = some h'10 ∧ K (V.tup [V.int IntKind.u64 (0 : Int), V.bool false, V.bool !b'1, V.int IntKind.i64 (0 : Int)]) h'10
theorem y8 (h : Hp) (K : V → Hp → Prop) (n : Nat) (ip : Int) (number : Int) (now : Int) : X8 h K n ip number now = fnX Try.prog T F jl8 jj8 Try.f8 [V.ptr (some (n, (0 : Nat))), V.int IntKind.u32 ip, V.int IntKind.u64 number, V.int IntKind.i64 now] h K := by kernel_rfl
theorem x8 {h : Hp} {K : V → Hp → Prop} (n : Nat) (ip : Int) (number : Int) (now : Int) (hx : X8 h K n ip number now) : XCalls Try.prog 8 [V.ptr (some (n, (0 : Nat))), V.int IntKind.u32 ip, V.int IntKind.u64 number, V.int IntKind.i64 now] h K :=
  XCalls.ofX tok fok mixed (JL := jl8) (JJ := jj8) Try.func8 ((y8 h K n ip number now) ▸ hx)
/-! 9: (*stevedore/near.Near).State -/
def jl9 : Nat → Option JT := fun r => none
def jj9 : Nat → Option JT := fun r => none
def X9 (h : Hp) (K : V → Hp → Prop) (n : Nat) (ip : Int) : Prop := XCalls Try.prog (15 : Nat) [V.ptr (some (n, (0 : Nat)))] h fun (v1 : V) (h'1 : Hp) => ∃ (b1 : Bool), v1 = V.bool b1 ∧ bif b1 then K (V.int IntKind.u8 (0 : Int)) h'1 else ∃
  (r1 : Option Nat), h'1.ld n (6 : Nat) = some (V.map r1) ∧ ∃ (a1 : Option (Nat × Nat)), xlook T h'1 (52 : Nat) (V.map r1) (V.int IntKind.u32 ip) false = some (V.ptr a1) ∧ bif a1.isNone then K (V.int IntKind.u8 (0 : Int)) h'1 else ∃ (r2 :
  Option Nat), h'1.ld n (6 : Nat) = some (V.map r2) ∧ ∃ (a2 : Option (Nat × Nat)), xlook T h'1 (52 : Nat) (V.map r2) (V.int IntKind.u32 ip) false = some (V.ptr a2) ∧ onS a2 fun (i1 o1 : Nat) => ∃ (n1 : Int), h'1.ld i1 (o1 + (0 : Nat)) = some
  (V.int IntKind.u8 n1) ∧ K (V.int IntKind.u8 n1) h'1
theorem y9 (h : Hp) (K : V → Hp → Prop) (n : Nat) (ip : Int) : X9 h K n ip = fnX Try.prog T F jl9 jj9 Try.f9 [V.ptr (some (n, (0 : Nat))), V.int IntKind.u32 ip] h K := by kernel_rfl
theorem x9 {h : Hp} {K : V → Hp → Prop} (n : Nat) (ip : Int) (hx : X9 h K n ip) : XCalls Try.prog 9 [V.ptr (some (n, (0 : Nat))), V.int IntKind.u32 ip] h K :=
  XCalls.ofX tok fok mixed (JL := jl9) (JJ := jj9) Try.func9 ((y9 h K n ip) ▸ hx)
/-! 10: (*stevedore/near.Near).Tick -/
def jl10 : Nat → Option JT := fun r => none
def jj10 : Nat → Option JT := fun r => none
def X10 (h : Hp) (K : V → Hp → Prop) (n : Nat) (now : Int) : Prop := ∀ (h'1 : Hp), h'1 = h.alloc (O.row [V.ptr (some (n, (0 : Nat)))] (1 : Nat) false) → ∀ (h'2 : Hp), h'2 = h'1.alloc (O.row [V.slc none (0 : Nat) true] (1 : Nat) false) → ∀
  (h'3 : Hp), h'3 = h'2.alloc (O.row [V.slc none (0 : Nat) true] (1 : Nat) false) → ∃ (a1 : Option (Nat × Nat)), h'3.ld h.next (0 : Nat) = some (V.ptr a1) ∧ XCalls Try.prog (15 : Nat) [V.ptr a1] h'3 fun (v1 : V) (h'4 : Hp) => ∃ (b1 : Bool),
  v1 = V.bool b1 ∧ bif b1 then ∃ (h'5 : Hp), h'4.st h'1.next (0 : Nat) [V.slc none (0 : Nat) true] = some h'5 ∧ ∃ (h'6 : Hp), h'5.st h'2.next (0 : Nat) [V.slc none (0 : Nat) true] = some h'6 ∧ ∃ (a2 : Option (Nat × Nat)), ∃ (n1 : Nat), ∃ (f1
  : Bool), h'6.ld h'1.next (0 : Nat) = some (V.slc a2 n1 f1) ∧ ∃ (a3 : Option (Nat × Nat)), ∃ (n2 : Nat), ∃ (f2 : Bool), h'6.ld h'2.next (0 : Nat) = some (V.slc a3 n2 f2) ∧ K (V.tup [V.slc a2 n1 f1, V.slc a3 n2 f2]) h'6 else ∃ (a4 : Option
  (Nat × Nat)), h'4.ld h.next (0 : Nat) = some (V.ptr a4) ∧ XCalls Try.prog (16 : Nat) [V.ptr a4, V.int IntKind.i64 now] h'4 fun (v2 : V) (h'7 : Hp) => ∃ (a5 : Option (Nat × Nat)), h'7.ld h.next (0 : Nat) = some (V.ptr a5) ∧ XCalls Try.prog
  (18 : Nat) [V.ptr a5] h'7 fun (v3 : V) (h'8 : Hp) => ∃ (c1 : Nat), v3 = V.fn (Fn.func (19 : Nat)) [] [V.ptr (some (c1, (0 : Nat)))] ∧ ∀ (rec1 : LoopState → Option Code → O), LRec rec1 → ∀ (h'9 : Hp), h'9 = (h'8.alloc (O.dfr true)).alloc
  (rec1 LoopState.ready none) → (∀ (n3 : Int) (a6 : Option (Nat × Nat)) (h1 : Hp) (K1 : V → Hp → Prop), h1.get (h'8.next + (1 : Nat)) = some (rec1 LoopState.ready none) → (h1.get (h'8.next + (1 : Nat)) = some (rec1 LoopState.ready none) ∧ ∀
  (h2 : Hp), h2 = h1.set (h'8.next + (1 : Nat)) (rec1 LoopState.busy none) → onS a6 fun (i1 o1 : Nat) => ∃ (n4 : Int), h2.ld i1 (o1 + (2 : Nat)) = some (V.int IntKind.i64 n4) ∧ ∃ (a7 : Option (Nat × Nat)), h2.ld h.next (0 : Nat) = some
  (V.ptr a7) ∧ onS a7 fun (i2 o2 : Nat) => ∃ (n5 : Int), h2.ld i2 (o2 + (7 : Nat)) = some (V.int IntKind.i64 n5) ∧ bif ltI n5 n4 then h2.get (h'8.next + (1 : Nat)) = some (rec1 LoopState.busy none) ∧ ∀ (h'10 : Hp), h'10 = h2.set (h'8.next +
  (1 : Nat)) (rec1 LoopState.ready none) → K1 (V.bool true) h'10 else onS a6 fun (i3 o3 : Nat) => ∃ (n6 : Int), h2.ld i3 (o3 + (0 : Nat)) = some (V.int IntKind.u8 n6) ∧ bif n6 == (2 : Int) then ∃ (a8 : Option (Nat × Nat)), h2.ld h.next (0 :
  Nat) = some (V.ptr a8) ∧ onS a8 fun (i4 o4 : Nat) => ∃ (n7 : Int), h2.ld i4 (o4 + (7 : Nat)) = some (V.int IntKind.i64 n7) ∧ ∃ (a9 : Option (Nat × Nat)), h2.ld h.next (0 : Nat) = some (V.ptr a9) ∧ onS a9 fun (i5 o5 : Nat) => ∃ (n8 : Int),
  h2.ld i5 (o5 + (0 : Nat) + (3 : Nat)) = some (V.int IntKind.i64 n8) ∧ onS a6 fun (i6 o6 : Nat) => ∃ (h'11 : Hp), h2.st i6 (o6 + (0 : Nat)) [V.int IntKind.u8 (3 : Int)] = some h'11 ∧ V.int IntKind.i64 (IntKind.i64.wrap (n7 + n8)) = V.int
  IntKind.i64 (IntKind.i64.wrap (n7 + n8)) ∧ V.ptr a6 = V.ptr a6 ∧ V.ptr a6 = V.ptr a6 ∧ onS a6 fun (i7 o7 : Nat) => ∃ (h'12 : Hp), h'11.st i7 (o7 + (3 : Nat)) [V.int IntKind.i64 (0 : Int)] = some h'12 ∧ V.int IntKind.i64 (IntKind.i64.wrap
  (n7 + n8)) = V.int IntKind.i64 (IntKind.i64.wrap (n7 + n8)) ∧ V.ptr a6 = V.ptr a6 ∧ onS a6 fun (i8 o8 : Nat) => ∃ (h'13 : Hp), h'12.st i8 (o8 + (2 : Nat)) [V.int IntKind.i64 (IntKind.i64.wrap (n7 + n8))] = some h'13 ∧ h'13.get (h'8.next +
  (1 : Nat)) = some (rec1 LoopState.busy none) ∧ ∀ (h'14 : Hp), h'14 = h'13.set (h'8.next + (1 : Nat)) (rec1 LoopState.ready none) → K1 (V.bool true) h'14 else onS a6 fun (i9 o9 : Nat) => ∃ (n9 : Int), h2.ld i9 (o9 + (0 : Nat)) = some (V.int
  IntKind.u8 n9) ∧ bif n9 == (3 : Int) then onS a6 fun (i10 o10 : Nat) => ∃ (n10 : Int), h2.ld i10 (o10 + (3 : Nat)) = some (V.int IntKind.i64 n10) ∧ bif n10 == (0 : Int) then ∃ (a10 : Option (Nat × Nat)), ∃ (n11 : Nat), ∃ (f3 : Bool), h2.ld
  h'2.next (0 : Nat) = some (V.slc a10 n11 f3) ∧ onS a6 fun (i11 o11 : Nat) => ∃ (a11 : Option (Nat × Nat)), ∃ (n12 : Nat), ∃ (f4 : Bool), h2.ld i11 (o11 + (4 : Nat)) = some (V.slc a11 n12 f4) ∧ ∃ (p1 : Option (Nat × Nat)), ∃ (n13 : Nat), ∃
  (f5 : Bool), ∃ (h'15 : Hp), xapp T h2 (36 : Nat) (36 : Nat) (V.slc a10 n11 f3) (V.slc a11 n12 f4) = some (V.slc p1 n13 f5, h'15) ∧ ∃ (h'16 : Hp), h'15.st h'2.next (0 : Nat) [V.slc p1 n13 f5] = some h'16 ∧ ∃ (a12 : Option (Nat × Nat)),
  h'16.ld h.next (0 : Nat) = some (V.ptr a12) ∧ onS a12 fun (i12 o12 : Nat) => ∃ (n14 : Int), h'16.ld i12 (o12 + (8 : Nat)) = some (V.int IntKind.i64 n14) ∧ onS a6 fun (i13 o13 : Nat) => ∃ (a13 : Option (Nat × Nat)), ∃ (n15 : Nat), ∃ (f6 :
  Bool), h'16.ld i13 (o13 + (4 : Nat)) = some (V.slc a13 n15 f6) ∧ onS a12 fun (i14 o14 : Nat) => ∃ (h'17 : Hp), h'16.st i14 (o14 + (8 : Nat)) [V.int IntKind.i64 (IntKind.i64.wrap (n14 - (↑n15 : Int)))] = some h'17 ∧ ∃ (a14 : Option (Nat ×
  Nat)), h'17.ld h.next (0 : Nat) = some (V.ptr a14) ∧ onS a14 fun (i15 o15 : Nat) => ∃ (r1 : Option Nat), h'17.ld i15 (o15 + (6 : Nat)) = some (V.map r1) ∧ ∃ (h'18 : Hp), xdel T h'17 (52 : Nat) (V.map r1) (V.int IntKind.u32 n3) = some h'18
  ∧ h'18.get (h'8.next + (1 : Nat)) = some (rec1 LoopState.busy none) ∧ ∀ (h'19 : Hp), h'19 = h'18.set (h'8.next + (1 : Nat)) (rec1 LoopState.ready none) → K1 (V.bool true) h'19 else onS a6 fun (i16 o16 : Nat) => ∃ (n16 : Int), h2.ld i16
  (o16 + (3 : Nat)) = some (V.int IntKind.i64 n16) ∧ ∃ (a15 : Option (Nat × Nat)), h2.ld h.next (0 : Nat) = some (V.ptr a15) ∧ onS a15 fun (i17 o17 : Nat) => ∃ (n17 : Int), h2.ld i17 (o17 + (0 : Nat) + (4 : Nat)) = some (V.int IntKind.i64
  n17) ∧ bif !ltI n16 n17 then ∃ (a16 : Option (Nat × Nat)), ∃ (n18 : Nat), ∃ (f7 : Bool), h2.ld h'2.next (0 : Nat) = some (V.slc a16 n18 f7) ∧ onS a6 fun (i18 o18 : Nat) => ∃ (a17 : Option (Nat × Nat)), ∃ (n19 : Nat), ∃ (f8 : Bool), h2.ld
  i18 (o18 + (4 : Nat)) = some (V.slc a17 n19 f8) ∧ ∃ (p2 : Option (Nat × Nat)), ∃ (n20 : Nat), ∃ (f9 : Bool), ∃ (h'20 : Hp), xapp T h2 (36 : Nat) (36 : Nat) (V.slc a16 n18 f7) (V.slc a17 n19 f8) = some (V.slc p2 n20 f9, h'20) ∧ ∃ (h'21 :
  Hp), h'20.st h'2.next (0 : Nat) [V.slc p2 n20 f9] = some h'21 ∧ ∃ (a18 : Option (Nat × Nat)), h'21.ld h.next (0 : Nat) = some (V.ptr a18) ∧ onS a18 fun (i19 o19 : Nat) => ∃ (n21 : Int), h'21.ld i19 (o19 + (8 : Nat)) = some (V.int
  IntKind.i64 n21) ∧ onS a6 fun (i20 o20 : Nat) => ∃ (a19 : Option (Nat × Nat)), ∃ (n22 : Nat), ∃ (f10 : Bool), h'21.ld i20 (o20 + (4 : Nat)) = some (V.slc a19 n22 f10) ∧ onS a18 fun (i21 o21 : Nat) => ∃ (h'22 : Hp), h'21.st i21 (o21 + (8 :
  Nat)) [V.int IntKind.i64 (IntKind.i64.wrap (n21 - (↑n22 : Int)))] = some h'22 ∧ ∃ (a20 : Option (Nat × Nat)), h'22.ld h.next (0 : Nat) = some (V.ptr a20) ∧ onS a20 fun (i22 o22 : Nat) => ∃ (r2 : Option Nat), h'22.ld i22 (o22 + (6 : Nat)) =
  some (V.map r2) ∧ ∃ (h'23 : Hp), xdel T h'22 (52 : Nat) (V.map r2) (V.int IntKind.u32 n3) = some h'23 ∧ h'23.get (h'8.next + (1 : Nat)) = some (rec1 LoopState.busy none) ∧ ∀ (h'24 : Hp), h'24 = h'23.set (h'8.next + (1 : Nat)) (rec1
  LoopState.ready none) → K1 (V.bool true) h'24 else ∃ (a21 : Option (Nat × Nat)), h2.ld h.next (0 : Nat) = some (V.ptr a21) ∧ XCalls Try.prog (17 : Nat) [V.ptr a21, V.ptr a6] h2 fun (v4 : V) (h'25 : Hp) => ∃ (a22 : Option (Nat × Nat)), ∃
  (n23 : Nat), ∃ (f11 : Bool), h'25.ld h'1.next (0 : Nat) = some (V.slc a22 n23 f11) ∧ ∀ (h'26 : Hp), h'26 = h'25.alloc (O.row [V.int IntKind.u32 n3] (1 : Nat) false) → ∃ (p3 : Option (Nat × Nat)), ∃ (n24 : Nat), ∃ (f12 : Bool), ∃ (h'27 :
  Hp), xapp T h'26 (35 : Nat) (35 : Nat) (V.slc a22 n23 f11) (V.slc (some (h'25.next, (0 : Nat))) (1 : Nat) true) = some (V.slc p3 n24 f12, h'27) ∧ ∃ (h'28 : Hp), h'27.st h'1.next (0 : Nat) [V.slc p3 n24 f12] = some h'28 ∧ h'28.get (h'8.next
  + (1 : Nat)) = some (rec1 LoopState.busy none) ∧ ∀ (h'29 : Hp), h'29 = h'28.set (h'8.next + (1 : Nat)) (rec1 LoopState.ready none) → K1 (V.bool true) h'29 else onS a6 fun (i23 o23 : Nat) => ∃ (n25 : Int), h2.ld i23 (o23 + (3 : Nat)) = some
  (V.int IntKind.i64 n25) ∧ ∃ (a23 : Option (Nat × Nat)), h2.ld h.next (0 : Nat) = some (V.ptr a23) ∧ onS a23 fun (i24 o24 : Nat) => ∃ (n26 : Int), h2.ld i24 (o24 + (0 : Nat) + (4 : Nat)) = some (V.int IntKind.i64 n26) ∧ bif !ltI n25 n26
  then ∃ (a24 : Option (Nat × Nat)), ∃ (n27 : Nat), ∃ (f13 : Bool), h2.ld h'2.next (0 : Nat) = some (V.slc a24 n27 f13) ∧ onS a6 fun (i25 o25 : Nat) => ∃ (a25 : Option (Nat × Nat)), ∃ (n28 : Nat), ∃ (f14 : Bool), h2.ld i25 (o25 + (4 : Nat))
  = some (V.slc a25 n28 f14) ∧ ∃ (p4 : Option (Nat × Nat)), ∃ (n29 : Nat), ∃ (f15 : Bool), ∃ (h'30 : Hp), xapp T h2 (36 : Nat) (36 : Nat) (V.slc a24 n27 f13) (V.slc a25 n28 f14) = some (V.slc p4 n29 f15, h'30) ∧ ∃ (h'31 : Hp), h'30.st
  h'2.next (0 : Nat) [V.slc p4 n29 f15] = some h'31 ∧ ∃ (a26 : Option (Nat × Nat)), h'31.ld h.next (0 : Nat) = some (V.ptr a26) ∧ onS a26 fun (i26 o26 : Nat) => ∃ (n30 : Int), h'31.ld i26 (o26 + (8 : Nat)) = some (V.int IntKind.i64 n30) ∧
  onS a6 fun (i27 o27 : Nat) => ∃ (a27 : Option (Nat × Nat)), ∃ (n31 : Nat), ∃ (f16 : Bool), h'31.ld i27 (o27 + (4 : Nat)) = some (V.slc a27 n31 f16) ∧ onS a26 fun (i28 o28 : Nat) => ∃ (h'32 : Hp), h'31.st i28 (o28 + (8 : Nat)) [V.int
  IntKind.i64 (IntKind.i64.wrap (n30 - (↑n31 : Int)))] = some h'32 ∧ ∃ (a28 : Option (Nat × Nat)), h'32.ld h.next (0 : Nat) = some (V.ptr a28) ∧ onS a28 fun (i29 o29 : Nat) => ∃ (r3 : Option Nat), h'32.ld i29 (o29 + (6 : Nat)) = some (V.map
  r3) ∧ ∃ (h'33 : Hp), xdel T h'32 (52 : Nat) (V.map r3) (V.int IntKind.u32 n3) = some h'33 ∧ h'33.get (h'8.next + (1 : Nat)) = some (rec1 LoopState.busy none) ∧ ∀ (h'34 : Hp), h'34 = h'33.set (h'8.next + (1 : Nat)) (rec1 LoopState.ready
  none) → K1 (V.bool true) h'34 else ∃ (a29 : Option (Nat × Nat)), h2.ld h.next (0 : Nat) = some (V.ptr a29) ∧ XCalls Try.prog (17 : Nat) [V.ptr a29, V.ptr a6] h2 fun (v5 : V) (h'35 : Hp) => ∃ (a30 : Option (Nat × Nat)), ∃ (n32 : Nat), ∃
  (f17 : Bool), h'35.ld h'1.next (0 : Nat) = some (V.slc a30 n32 f17) ∧ ∀ (h'36 : Hp), h'36 = h'35.alloc (O.row [V.int IntKind.u32 n3] (1 : Nat) false) → ∃ (p5 : Option (Nat × Nat)), ∃ (n33 : Nat), ∃ (f18 : Bool), ∃ (h'37 : Hp), xapp T h'36
  (35 : Nat) (35 : Nat) (V.slc a30 n32 f17) (V.slc (some (h'35.next, (0 : Nat))) (1 : Nat) true) = some (V.slc p5 n33 f18, h'37) ∧ ∃ (h'38 : Hp), h'37.st h'1.next (0 : Nat) [V.slc p5 n33 f18] = some h'38 ∧ h'38.get (h'8.next + (1 : Nat)) =
  some (rec1 LoopState.busy none) ∧ ∀ (h'39 : Hp), h'39 = h'38.set (h'8.next + (1 : Nat)) (rec1 LoopState.ready none) → K1 (V.bool true) h'39) → XYield Try.prog (h'8.next + (1 : Nat)) [V.int IntKind.u32 n3, V.ptr a6] h1 fun (a31 : V) (a32 :
  Hp) => K1 a31 a32) → XCalls Try.prog (19 : Nat) [V.yld (h'8.next + (1 : Nat)), V.ptr (some (c1, (0 : Nat)))] h'9 fun (a33 : V) (a34 : Hp) => (a34.get (h'8.next + (1 : Nat)) = some (rec1 LoopState.ready none) ∧ ∀ (h'40 : Hp), h'40 = a34.set
  (h'8.next + (1 : Nat)) (rec1 LoopState.exhausted none) → ∃ (a35 : Option (Nat × Nat)), ∃ (n34 : Nat), ∃ (f19 : Bool), h'40.ld h'1.next (0 : Nat) = some (V.slc a35 n34 f19) ∧ ∃ (a36 : Option (Nat × Nat)), ∃ (n35 : Nat), ∃ (f20 : Bool),
  h'40.ld h'2.next (0 : Nat) = some (V.slc a36 n35 f20) ∧ ∃ (h'41 : Hp), h'40.st h'1.next (0 : Nat) [V.slc a35 n34 f19] = some h'41 ∧ (∃ (a37 : Option (Nat × Nat)), ∃ (n36 : Nat), ∃ (f21 : Bool), h'41.ld h'2.next (0 : Nat) = some (V.slc a37
  n36 f21) ∧ V.slc a37 n36 f21 = V.slc a36 n35 f20) ∧ ∃ (h'42 : Hp), h'41.st h'2.next (0 : Nat) [V.slc a36 n35 f20] = some h'42 ∧ ∃ (h'43 : Hp), shut [h'8.next] h'42 = some h'43 ∧ ∃ (a38 : Option (Nat × Nat)), ∃ (n37 : Nat), ∃ (f22 : Bool),
  h'43.ld h'1.next (0 : Nat) = some (V.slc a38 n37 f22) ∧ ∃ (a39 : Option (Nat × Nat)), ∃ (n38 : Nat), ∃ (f23 : Bool), h'43.ld h'2.next (0 : Nat) = some (V.slc a39 n38 f23) ∧ K (V.tup [V.slc a38 n37 f22, V.slc a39 n38 f23]) h'43) ∨ False
theorem y10 (h : Hp) (K : V → Hp → Prop) (n : Nat) (now : Int) : X10 h K n now = fnX Try.prog T F jl10 jj10 Try.f10 [V.ptr (some (n, (0 : Nat))), V.int IntKind.i64 now] h K := by kernel_rfl
theorem x10 {h : Hp} {K : V → Hp → Prop} (n : Nat) (now : Int) (hx : X10 h K n now) : XCalls Try.prog 10 [V.ptr (some (n, (0 : Nat))), V.int IntKind.i64 now] h K :=
  XCalls.ofX tok fok mixed (JL := jl10) (JJ := jj10) Try.func10 ((y10 h K n now) ▸ hx)
/-! 11: (*stevedore/near.Near).Hear -/
-- join 9: stays n(0), ip(1), mac(2); turns out(10)
def jl11 : Nat → Option JT := fun r => none
def jj11 : Nat → Option JT := fun r => bif Nat.beq r 9 then some ⟨[0, 1, 2], [10], [V.slc none (0 : Nat) true]⟩ else none
def X11 (h : Hp) (K : V → Hp → Prop) (n : Nat) (ip : Int) (mac : Int) (asked : Bool) (now : Int) : Prop := XCalls Try.prog (15 : Nat) [V.ptr (some (n, (0 : Nat)))] h fun (v1 : V) (h'1 : Hp) => ∃ (b1 : Bool), v1 = V.bool b1 ∧ bif b1 then K
  (V.slc none (0 : Nat) true) h'1 else XCalls Try.prog (16 : Nat) [V.ptr (some (n, (0 : Nat))), V.int IntKind.i64 now] h'1 fun (v2 : V) (h'2 : Hp) => ∃ (r1 : Option Nat), h'2.ld n (6 : Nat) = some (V.map r1) ∧ ∃ (a1 : Option (Nat × Nat)), ∃
  (b'1 : Bool), xlook T h'2 (52 : Nat) (V.map r1) (V.int IntKind.u32 ip) true = some (V.tup [V.ptr a1, V.bool b'1]) ∧ ∃ (Q1 : List V → Hp → Prop), (bif b'1 then onS a1 fun (i1 o1 : Nat) => ∃ (a2 : Option (Nat × Nat)), ∃ (n1 : Nat), ∃ (f1 :
  Bool), h'2.ld i1 (o1 + (4 : Nat)) = some (V.slc a2 n1 f1) ∧ [V.ptr (some (n, (0 : Nat))), V.int IntKind.u32 ip, V.int IntKind.u64 mac] = [V.ptr (some (n, (0 : Nat))), V.int IntKind.u32 ip, V.int IntKind.u64 mac] ∧ Q1 [V.slc a2 n1 f1] h'2
  else bif !asked then K (V.slc none (0 : Nat) true) h'2 else ∃ (r2 : Option Nat), h'2.ld n (6 : Nat) = some (V.map r2) ∧ ∃ (n2 : Int), xlen T h'2 (52 : Nat) (V.map r2) = some (V.int IntKind.i64 n2) ∧ ∃ (n3 : Int), h'2.ld n (0 : Nat) = some
  (V.int IntKind.i64 n3) ∧ bif !ltI n2 n3 then K (V.slc none (0 : Nat) true) h'2 else [V.ptr (some (n, (0 : Nat))), V.int IntKind.u32 ip, V.int IntKind.u64 mac] = [V.ptr (some (n, (0 : Nat))), V.int IntKind.u32 ip, V.int IntKind.u64 mac] ∧
  Q1 [V.slc none (0 : Nat) true] h'2) ∧ ∀ (bs1 : Nat → Option V) (a3 : Option (Nat × Nat)) (n4 : Nat) (f2 : Bool) (h1 : Hp), Q1 [V.slc a3 n4 f2] h1 → ∃ (n5 : Int), h1.ld n (8 : Nat) = some (V.int IntKind.i64 n5) ∧ ∃ (h'3 : Hp), h1.st n (8 :
  Nat) [V.int IntKind.i64 (IntKind.i64.wrap (n5 - (↑n4 : Int)))] = some h'3 ∧ ∃ (r3 : Option Nat), h'3.ld n (6 : Nat) = some (V.map r3) ∧ ∃ (n6 : Int), h'3.ld n (7 : Nat) = some (V.int IntKind.i64 n6) ∧ ∃ (n7 : Int), h'3.ld n (3 : Nat) =
  some (V.int IntKind.i64 n7) ∧ ∀ (h'4 : Hp), h'4 = h'3.alloc (O.row [V.int IntKind.u8 (2 : Int), V.int IntKind.u64 mac, V.int IntKind.i64 (IntKind.i64.wrap (n6 + n7)), V.int IntKind.i64 (0 : Int), V.slc none (0 : Nat) true] (1 : Nat) false)
  → V.int IntKind.u32 ip = V.int IntKind.u32 ip ∧ (∃ (r4 : Option Nat), h'4.ld n (6 : Nat) = some (V.map r4) ∧ V.map r4 = V.map r3) ∧ V.ptr (some (n, (6 : Nat))) = V.ptr (some (n, (6 : Nat))) ∧ V.ptr (some (n, (0 : Nat))) = V.ptr (some (n,
  (0 : Nat))) ∧ V.ptr (some (n, (0 : Nat))) = V.ptr (some (n, (0 : Nat))) ∧ ∃ (h'5 : Hp), xput T h'4 (52 : Nat) (V.map r3) (V.int IntKind.u32 ip) (V.ptr (some (h'3.next, (0 : Nat)))) = some h'5 ∧ K (V.slc a3 n4 f2) h'5
theorem y11 (h : Hp) (K : V → Hp → Prop) (n : Nat) (ip : Int) (mac : Int) (asked : Bool) (now : Int) : X11 h K n ip mac asked now = fnX Try.prog T F jl11 jj11 Try.f11 [V.ptr (some (n, (0 : Nat))), V.int IntKind.u32 ip, V.int IntKind.u64 mac, V.bool asked, V.int IntKind.i64 now] h K := by kernel_rfl
theorem x11 {h : Hp} {K : V → Hp → Prop} (n : Nat) (ip : Int) (mac : Int) (asked : Bool) (now : Int) (hx : X11 h K n ip mac asked now) : XCalls Try.prog 11 [V.ptr (some (n, (0 : Nat))), V.int IntKind.u32 ip, V.int IntKind.u64 mac, V.bool asked, V.int IntKind.i64 now] h K :=
  XCalls.ofX tok fok mixed (JL := jl11) (JJ := jj11) Try.func11 ((y11 h K n ip mac asked now) ▸ hx)
/-! 12: (*stevedore/near.Near).Waits -/
-- loop 7: stays l(2), ip(3), (16), (17); turns (18)
def jl12 : Nat → Option JT := fun r => bif Nat.beq r 7 then some ⟨[2, 3, 16, 17], [18], [V.int IntKind.i64 (0 : Int)]⟩ else none
def jj12 : Nat → Option JT := fun r => none
def X12 (h : Hp) (K : V → Hp → Prop) (n : Nat) : Prop := ∀ (h'1 : Hp), h'1 = h.alloc (O.row [V.slc none (0 : Nat) true] (1 : Nat) false) → XCalls Try.prog (15 : Nat) [V.ptr (some (n, (0 : Nat)))] h'1 fun (v1 : V) (h'2 : Hp) => ∃ (b1 : Bool),
  v1 = V.bool b1 ∧ bif b1 then ∃ (h'3 : Hp), h'2.st h.next (0 : Nat) [V.slc none (0 : Nat) true] = some h'3 ∧ ∃ (a1 : Option (Nat × Nat)), ∃ (n1 : Nat), ∃ (f1 : Bool), h'3.ld h.next (0 : Nat) = some (V.slc a1 n1 f1) ∧ K (V.slc a1 n1 f1) h'3
  else XCalls Try.prog (18 : Nat) [V.ptr (some (n, (0 : Nat)))] h'2 fun (v2 : V) (h'4 : Hp) => ∃ (c1 : Nat), v2 = V.fn (Fn.func (19 : Nat)) [] [V.ptr (some (c1, (0 : Nat)))] ∧ ∀ (rec1 : LoopState → Option Code → O), LRec rec1 → ∀ (h'5 : Hp),
  h'5 = (h'4.alloc (O.dfr true)).alloc (rec1 LoopState.ready none) → (∀ (n2 : Int) (a2 : Option (Nat × Nat)) (h1 : Hp) (K1 : V → Hp → Prop), h1.get (h'4.next + (1 : Nat)) = some (rec1 LoopState.ready none) → (h1.get (h'4.next + (1 : Nat)) =
  some (rec1 LoopState.ready none) ∧ ∀ (h2 : Hp), h2 = h1.set (h'4.next + (1 : Nat)) (rec1 LoopState.busy none) → onS a2 fun (i1 o1 : Nat) => ∃ (a3 : Option (Nat × Nat)), ∃ (n3 : Nat), ∃ (f2 : Bool), h2.ld i1 (o1 + (4 : Nat)) = some (V.slc
  a3 n3 f2) ∧ ∃ (I1 : List V → Hp → Prop), ∃ (x1 : List V → Hp → Nat), ([V.ptr (some (h.next, (0 : Nat))), V.int IntKind.u32 n2, V.slc a3 n3 f2, V.int IntKind.i64 (↑n3 : Int)] = [V.ptr (some (h.next, (0 : Nat))), V.int IntKind.u32 n2, V.slc
  a3 n3 f2, V.int IntKind.i64 (↑n3 : Int)] ∧ I1 [V.int IntKind.i64 (0 : Int)] h2) ∧ ∀ (bs1 : Nat → Option V) (n4 : Int) (h3 : Hp), I1 [V.int IntKind.i64 n4] h3 → bif ltI n4 (↑n3 : Int) then ((0 : Int) ≤ n4 ∧ n4 < (↑n3 : Int)) ∧ onS a3 fun
  (i2 o2 : Nat) => ∃ (n5 : Int), h3.ld i2 (o2 + n4.toNat * (1 : Nat)) = some (V.int IntKind.u64 n5) ∧ ∃ (a4 : Option (Nat × Nat)), ∃ (n6 : Nat), ∃ (f3 : Bool), h3.ld h.next (0 : Nat) = some (V.slc a4 n6 f3) ∧ ∀ (h'6 : Hp), h'6 = h3.alloc
  (O.row [V.int IntKind.u32 n2, V.int IntKind.u64 n5] (2 : Nat) false) → ∃ (p1 : Option (Nat × Nat)), ∃ (n7 : Nat), ∃ (f4 : Bool), ∃ (h'7 : Hp), xapp T h'6 (46 : Nat) (46 : Nat) (V.slc a4 n6 f3) (V.slc (some (h3.next, (0 : Nat))) (1 : Nat)
  true) = some (V.slc p1 n7 f4, h'7) ∧ ∃ (h'8 : Hp), h'7.st h.next (0 : Nat) [V.slc p1 n7 f4] = some h'8 ∧ [V.ptr (some (h.next, (0 : Nat))), V.int IntKind.u32 n2, V.slc a3 n3 f2, V.int IntKind.i64 (↑n3 : Int)] = [V.ptr (some (h.next, (0 :
  Nat))), V.int IntKind.u32 n2, V.slc a3 n3 f2, V.int IntKind.i64 (↑n3 : Int)] ∧ I1 [V.int IntKind.i64 (IntKind.i64.wrap (n4 + (1 : Int)))] h'8 ∧ x1 [V.int IntKind.i64 (IntKind.i64.wrap (n4 + (1 : Int)))] h'8 < x1 [V.int IntKind.i64 n4] h3
  else h3.get (h'4.next + (1 : Nat)) = some (rec1 LoopState.busy none) ∧ ∀ (h'9 : Hp), h'9 = h3.set (h'4.next + (1 : Nat)) (rec1 LoopState.ready none) → K1 (V.bool true) h'9) → XYield Try.prog (h'4.next + (1 : Nat)) [V.int IntKind.u32 n2,
  V.ptr a2] h1 fun (a5 : V) (a6 : Hp) => K1 a5 a6) → XCalls Try.prog (19 : Nat) [V.yld (h'4.next + (1 : Nat)), V.ptr (some (c1, (0 : Nat)))] h'5 fun (a7 : V) (a8 : Hp) => (a8.get (h'4.next + (1 : Nat)) = some (rec1 LoopState.ready none) ∧ ∀
  (h'10 : Hp), h'10 = a8.set (h'4.next + (1 : Nat)) (rec1 LoopState.exhausted none) → ∃ (a9 : Option (Nat × Nat)), ∃ (n8 : Nat), ∃ (f5 : Bool), h'10.ld h.next (0 : Nat) = some (V.slc a9 n8 f5) ∧ ∃ (h'11 : Hp), h'10.st h.next (0 : Nat) [V.slc
  a9 n8 f5] = some h'11 ∧ ∃ (h'12 : Hp), shut [h'4.next] h'11 = some h'12 ∧ ∃ (a10 : Option (Nat × Nat)), ∃ (n9 : Nat), ∃ (f6 : Bool), h'12.ld h.next (0 : Nat) = some (V.slc a10 n9 f6) ∧ K (V.slc a10 n9 f6) h'12) ∨ (a8.get (h'4.next + (1 :
  Nat)) = some (rec1 LoopState.done (some (Code.exit (2 : Nat)))) ∧ ∀ (h'13 : Hp), h'13 = a8.set (h'4.next + (1 : Nat)) (rec1 LoopState.exhausted (some (Code.exit (2 : Nat)))) → False) ∨ False
theorem y12 (h : Hp) (K : V → Hp → Prop) (n : Nat) : X12 h K n = fnX Try.prog T F jl12 jj12 Try.f12 [V.ptr (some (n, (0 : Nat)))] h K := by kernel_rfl
theorem x12 {h : Hp} {K : V → Hp → Prop} (n : Nat) (hx : X12 h K n) : XCalls Try.prog 12 [V.ptr (some (n, (0 : Nat)))] h K :=
  XCalls.ofX tok fok mixed (JL := jl12) (JJ := jj12) Try.func12 ((y12 h K n) ▸ hx)
/-! 15: (*stevedore/near.Near).none -/
def jl15 : Nat → Option JT := fun r => none
def jj15 : Nat → Option JT := fun r => none
def X15 (h : Hp) (K : V → Hp → Prop) (n : Nat) : Prop := ∃ (r1 : Option Nat), h.ld n (6 : Nat) = some (V.map r1) ∧ K (V.bool r1.isNone) h
theorem y15 (h : Hp) (K : V → Hp → Prop) (n : Nat) : X15 h K n = fnX Try.prog T F jl15 jj15 Try.f15 [V.ptr (some (n, (0 : Nat)))] h K := by kernel_rfl
theorem x15 {h : Hp} {K : V → Hp → Prop} (n : Nat) (hx : X15 h K n) : XCalls Try.prog 15 [V.ptr (some (n, (0 : Nat)))] h K :=
  XCalls.ofX tok fok mixed (JL := jl15) (JJ := jj15) Try.func15 ((y15 h K n) ▸ hx)
/-! 16: (*stevedore/near.Near).time -/
def jl16 : Nat → Option JT := fun r => none
def jj16 : Nat → Option JT := fun r => none
def X16 (h : Hp) (K : V → Hp → Prop) (n : Nat) (now : Int) : Prop := ∃ (n1 : Int), h.ld n (7 : Nat) = some (V.int IntKind.i64 n1) ∧ ∃ (h'1 : Hp), h.st n (7 : Nat) [V.int IntKind.i64 (bif ltI n1 (bif ltI (17592186044416 : Int) now then
  (17592186044416 : Int) else now) then bif ltI (17592186044416 : Int) now then (17592186044416 : Int) else now else n1)] = some h'1 ∧ K (V.tup []) h'1
theorem y16 (h : Hp) (K : V → Hp → Prop) (n : Nat) (now : Int) : X16 h K n now = fnX Try.prog T F jl16 jj16 Try.f16 [V.ptr (some (n, (0 : Nat))), V.int IntKind.i64 now] h K := by kernel_rfl
theorem x16 {h : Hp} {K : V → Hp → Prop} (n : Nat) (now : Int) (hx : X16 h K n now) : XCalls Try.prog 16 [V.ptr (some (n, (0 : Nat))), V.int IntKind.i64 now] h K :=
  XCalls.ofX tok fok mixed (JL := jl16) (JJ := jj16) Try.func16 ((y16 h K n now) ▸ hx)
/-! 17: (*stevedore/near.Near).ask -/
def jl17 : Nat → Option JT := fun r => none
def jj17 : Nat → Option JT := fun r => none
def X17 (h : Hp) (K : V → Hp → Prop) (n : Nat) (e : Nat) : Prop := ∃ (n1 : Int), h.ld e (3 : Nat) = some (V.int IntKind.i64 n1) ∧ ∃ (h'1 : Hp), h.st e (3 : Nat) [V.int IntKind.i64 (IntKind.i64.wrap (n1 + (1 : Int)))] = some h'1 ∧ ∃ (n2 :
  Int), h'1.ld n (7 : Nat) = some (V.int IntKind.i64 n2) ∧ ∃ (n3 : Int), h'1.ld n (5 : Nat) = some (V.int IntKind.i64 n3) ∧ ∃ (h'2 : Hp), h'1.st e (2 : Nat) [V.int IntKind.i64 (IntKind.i64.wrap (n2 + n3))] = some h'2 ∧ K (V.tup []) h'2
theorem y17 (h : Hp) (K : V → Hp → Prop) (n : Nat) (e : Nat) : X17 h K n e = fnX Try.prog T F jl17 jj17 Try.f17 [V.ptr (some (n, (0 : Nat))), V.ptr (some (e, (0 : Nat)))] h K := by kernel_rfl
theorem x17 {h : Hp} {K : V → Hp → Prop} (n : Nat) (e : Nat) (hx : X17 h K n e) : XCalls Try.prog 17 [V.ptr (some (n, (0 : Nat))), V.ptr (some (e, (0 : Nat)))] h K :=
  XCalls.ofX tok fok mixed (JL := jl17) (JJ := jj17) Try.func17 ((y17 h K n e) ▸ hx)
/-! 18: (*stevedore/near.Near).each -/
def jl18 : Nat → Option JT := fun r => none
def jj18 : Nat → Option JT := fun r => none
def X18 (h : Hp) (K : V → Hp → Prop) (n : Nat) : Prop := ∀ (h'1 : Hp), h'1 = h.alloc (O.row [V.ptr (some (n, (0 : Nat)))] (1 : Nat) false) → K (V.fn (Fn.func (19 : Nat)) [] [V.ptr (some (h.next, (0 : Nat)))]) h'1
theorem y18 (h : Hp) (K : V → Hp → Prop) (n : Nat) : X18 h K n = fnX Try.prog T F jl18 jj18 Try.f18 [V.ptr (some (n, (0 : Nat)))] h K := by kernel_rfl
theorem x18 {h : Hp} {K : V → Hp → Prop} (n : Nat) (hx : X18 h K n) : XCalls Try.prog 18 [V.ptr (some (n, (0 : Nat)))] h K :=
  XCalls.ofX tok fok mixed (JL := jl18) (JJ := jj18) Try.func18 ((y18 h K n) ▸ hx)
/-! 19: (*stevedore/near.Near).each$1 -/
-- loop 1: stays yield(0), (1), (10), (11); turns (12)
def jl19 : Nat → Option JT := fun r => bif Nat.beq r 1 then some ⟨[0, 1, 10, 11], [12], [V.int IntKind.i64 (0 : Int)]⟩ else none
def jj19 : Nat → Option JT := fun r => none
def X19 (h : Hp) (K : V → Hp → Prop) (yield : Nat) (c1 : Nat) : Prop := ∃ (a1 : Option (Nat × Nat)), h.ld c1 (0 : Nat) = some (V.ptr a1) ∧ onS a1 fun (i1 o1 : Nat) => ∃ (r1 : Option Nat), h.ld i1 (o1 + (6 : Nat)) = some (V.map r1) ∧ XCalls
  Try.prog (21 : Nat) [V.map r1] h fun (v1 : V) (h'1 : Hp) => ∃ (c1_1 : Nat), v1 = V.fn (Fn.func (24 : Nat)) [] [V.ptr (some (c1_1, (0 : Nat)))] ∧ XCalls Try.prog (20 : Nat) [V.fn (Fn.func (24 : Nat)) [] [V.ptr (some (c1_1, (0 : Nat)))]] h'1
  fun (v2 : V) (h'2 : Hp) => ∃ (a2 : Option (Nat × Nat)), ∃ (n1 : Nat), ∃ (f1 : Bool), v2 = V.slc a2 n1 f1 ∧ ∃ (I1 : List V → Hp → Prop), ∃ (x1 : List V → Hp → Nat), ([V.yld yield, V.ptr (some (c1, (0 : Nat))), V.slc a2 n1 f1, V.int
  IntKind.i64 (↑n1 : Int)] = [V.yld yield, V.ptr (some (c1, (0 : Nat))), V.slc a2 n1 f1, V.int IntKind.i64 (↑n1 : Int)] ∧ I1 [V.int IntKind.i64 (0 : Int)] h'2) ∧ ∀ (bs1 : Nat → Option V) (n2 : Int) (h1 : Hp), I1 [V.int IntKind.i64 n2] h1 →
  bif ltI n2 (↑n1 : Int) then ((0 : Int) ≤ n2 ∧ n2 < (↑n1 : Int)) ∧ onS a2 fun (i2 o2 : Nat) => ∃ (n3 : Int), h1.ld i2 (o2 + n2.toNat * (1 : Nat)) = some (V.int IntKind.u32 n3) ∧ ∃ (a3 : Option (Nat × Nat)), h1.ld c1 (0 : Nat) = some (V.ptr
  a3) ∧ onS a3 fun (i3 o3 : Nat) => ∃ (r2 : Option Nat), h1.ld i3 (o3 + (6 : Nat)) = some (V.map r2) ∧ ∃ (a4 : Option (Nat × Nat)), xlook T h1 (52 : Nat) (V.map r2) (V.int IntKind.u32 n3) false = some (V.ptr a4) ∧ XYield Try.prog yield
  [V.int IntKind.u32 n3, V.ptr a4] h1 fun (v3 : V) (h'3 : Hp) => ∃ (b1 : Bool), v3 = V.bool b1 ∧ bif !b1 then K (V.tup []) h'3 else [V.yld yield, V.ptr (some (c1, (0 : Nat))), V.slc a2 n1 f1, V.int IntKind.i64 (↑n1 : Int)] = [V.yld yield,
  V.ptr (some (c1, (0 : Nat))), V.slc a2 n1 f1, V.int IntKind.i64 (↑n1 : Int)] ∧ I1 [V.int IntKind.i64 (IntKind.i64.wrap (n2 + (1 : Int)))] h'3 ∧ x1 [V.int IntKind.i64 (IntKind.i64.wrap (n2 + (1 : Int)))] h'3 < x1 [V.int IntKind.i64 n2] h1
  else K (V.tup []) h1
theorem y19 (h : Hp) (K : V → Hp → Prop) (yield : Nat) (c1 : Nat) : X19 h K yield c1 = fnX Try.prog T F jl19 jj19 Try.f19 [V.yld yield, V.ptr (some (c1, (0 : Nat)))] h K := by kernel_rfl
theorem x19 {h : Hp} {K : V → Hp → Prop} (yield : Nat) (c1 : Nat) (hx : X19 h K yield c1) : XCalls Try.prog 19 [V.yld yield, V.ptr (some (c1, (0 : Nat)))] h K :=
  XCalls.ofX tok fok mixed (JL := jl19) (JJ := jj19) Try.func19 ((y19 h K yield c1) ▸ hx) 
end Go.Vex
