/- the reference's In (layer 26) as statements about data (printed by VexPrint).
-/
import Derived.Test.YtkdjjjpfkdkgoaaVexX
import Derived.Test.YtkdjjjpfkdkgoaaTab26
set_option linter.unusedVariables false
set_option maxRecDepth 100000
namespace Go.Vex
open Go.Proofs
/-! 34: stevedore/stevedoreref26.NewIn -/
-- loop 3: stays most(1), i(5); turns k(6)
def jl34 : Nat → Option JT := fun r => bif Nat.beq r 3 then some ⟨[1, 5], [6], [V.int IntKind.i64 (0 : Int)]⟩ else none
def jj34 : Nat → Option JT := fun r => none
def X34 (h : Hp) (K : V → Hp → Prop) (a0 : Int) (most : Int) : Prop := ∀ (h'1 : Hp), h'1 = h.alloc (O.row [V.int IntKind.u32 a0, V.str [], V.slc none (0 : Nat) true, V.int IntKind.i64 (-1 : Int), V.int IntKind.i64 most] (1 : Nat) false) → ∃
  (I1 : List V → Hp → Prop), ∃ (x1 : List V → Hp → Nat), ([V.int IntKind.i64 most, V.ptr (some (h.next, (0 : Nat)))] = [V.int IntKind.i64 most, V.ptr (some (h.next, (0 : Nat)))] ∧ I1 [V.int IntKind.i64 (0 : Int)] h'1) ∧ ∀ (bs1 : Nat → Option
  V) (n1 : Int) (h1 : Hp), I1 [V.int IntKind.i64 n1] h1 → bif ltI n1 most then ∃ (a1 : Option (Nat × Nat)), ∃ (n2 : Nat), ∃ (f1 : Bool), h1.ld h.next (2 : Nat) = some (V.slc a1 n2 f1) ∧ ∀ (h'2 : Hp), h'2 = h1.alloc (O.row [V.int IntKind.i64
  (-1 : Int)] (1 : Nat) false) → ∃ (p1 : Option (Nat × Nat)), ∃ (n3 : Nat), ∃ (f2 : Bool), ∃ (h'3 : Hp), xapp T h'2 (61 : Nat) (61 : Nat) (V.slc a1 n2 f1) (V.slc (some (h1.next, (0 : Nat))) (1 : Nat) true) = some (V.slc p1 n3 f2, h'3) ∧ ∃
  (h'4 : Hp), h'3.st h.next (2 : Nat) [V.slc p1 n3 f2] = some h'4 ∧ [V.int IntKind.i64 most, V.ptr (some (h.next, (0 : Nat)))] = [V.int IntKind.i64 most, V.ptr (some (h.next, (0 : Nat)))] ∧ I1 [V.int IntKind.i64 (IntKind.i64.wrap (n1 + (1 :
  Int)))] h'4 ∧ x1 [V.int IntKind.i64 (IntKind.i64.wrap (n1 + (1 : Int)))] h'4 < x1 [V.int IntKind.i64 n1] h1 else K (V.ptr (some (h.next, (0 : Nat)))) h1
theorem y34 (h : Hp) (K : V → Hp → Prop) (a0 : Int) (most : Int) : X34 h K a0 most = fnX Try.prog T F jl34 jj34 Try.f34 [V.int IntKind.u32 a0, V.int IntKind.i64 most] h K := by kernel_rfl
theorem x34 {h : Hp} {K : V → Hp → Prop} (a0 : Int) (most : Int) (hx : X34 h K a0 most) : XCalls Try.prog 34 [V.int IntKind.u32 a0, V.int IntKind.i64 most] h K :=
  XCalls.ofX tok fok mixed (JL := jl34) (JJ := jj34) Try.func34 ((y34 h K a0 most) ▸ hx)
/-! 35: (*stevedore/stevedoreref26.In).Read -/
def jl35 : Nat → Option JT := fun r => none
def jj35 : Nat → Option JT := fun r => none
def X35 (h : Hp) (K : V → Hp → Prop) (i : Nat) (n : Int) : Prop := ∃ (s1 : List UInt8), h.ld i (1 : Nat) = some (V.str s1) ∧ ∃ (s2 : List UInt8), h.ld i (1 : Nat) = some (V.str s2) ∧ ((0 : Int) ≤ bif ltI (↑s1.length : Int) (bif ltI n (0 :
  Int) then (0 : Int) else n) then (↑s1.length : Int) else bif ltI n (0 : Int) then (0 : Int) else n) ∧ ((0 : Nat) ≤ (bif ltI (↑s1.length : Int) (bif ltI n (0 : Int) then (0 : Int) else n) then (↑s1.length : Int) else bif ltI n (0 : Int)
  then (0 : Int) else n).toNat ∧ (bif ltI (↑s1.length : Int) (bif ltI n (0 : Int) then (0 : Int) else n) then (↑s1.length : Int) else bif ltI n (0 : Int) then (0 : Int) else n).toNat ≤ s2.length) ∧ ∃ (s3 : List UInt8), h.ld i (1 : Nat) =
  some (V.str s3) ∧ ((0 : Int) ≤ bif ltI (↑s1.length : Int) (bif ltI n (0 : Int) then (0 : Int) else n) then (↑s1.length : Int) else bif ltI n (0 : Int) then (0 : Int) else n) ∧ ((bif ltI (↑s1.length : Int) (bif ltI n (0 : Int) then (0 :
  Int) else n) then (↑s1.length : Int) else bif ltI n (0 : Int) then (0 : Int) else n).toNat ≤ s3.length ∧ s3.length ≤ s3.length) ∧ ∃ (h'1 : Hp), h.st i (1 : Nat) [V.str (List.take (s3.length - (bif ltI (↑s1.length : Int) (bif ltI n (0 :
  Int) then (0 : Int) else n) then (↑s1.length : Int) else bif ltI n (0 : Int) then (0 : Int) else n).toNat) (List.drop (bif ltI (↑s1.length : Int) (bif ltI n (0 : Int) then (0 : Int) else n) then (↑s1.length : Int) else bif ltI n (0 : Int)
  then (0 : Int) else n).toNat s3))] = some h'1 ∧ K (V.str (List.take ((bif ltI (↑s1.length : Int) (bif ltI n (0 : Int) then (0 : Int) else n) then (↑s1.length : Int) else bif ltI n (0 : Int) then (0 : Int) else n).toNat - (0 : Nat))
  (List.drop (0 : Nat) s2))) h'1
theorem y35 (h : Hp) (K : V → Hp → Prop) (i : Nat) (n : Int) : X35 h K i n = fnX Try.prog T F jl35 jj35 Try.f35 [V.ptr (some (i, (0 : Nat))), V.int IntKind.i64 n] h K := by kernel_rfl
theorem x35 {h : Hp} {K : V → Hp → Prop} (i : Nat) (n : Int) (hx : X35 h K i n) : XCalls Try.prog 35 [V.ptr (some (i, (0 : Nat))), V.int IntKind.i64 n] h K :=
  XCalls.ofX tok fok mixed (JL := jl35) (JJ := jj35) Try.func35 ((y35 h K i n) ▸ hx)
/-! 36: (*stevedore/stevedoreref26.In).Fin -/
-- loop 5: stays i(0), far(5); turns last(6), k(7)
def jl36 : Nat → Option JT := fun r => bif Nat.beq r 5 then some ⟨[0, 5], [6, 7], [V.int IntKind.i64 (0 : Int), V.int IntKind.i64 (0 : Int)]⟩ else none
def jj36 : Nat → Option JT := fun r => none
def X36 (h : Hp) (K : V → Hp → Prop) (i : Nat) (a1 : Int) : Prop := ∃ (n1 : Int), h.ld i (0 : Nat) = some (V.int IntKind.u32 n1) ∧ ∃ (n2 : Int), h.ld i (3 : Nat) = some (V.int IntKind.i64 n2) ∧ bif ltI n2 (0 : Int) then bif !ltI
  (IntKind.i64.wrap (IntKind.i32.wrap (IntKind.u32.wrap (a1 - n1)))) (0 : Int) then XCalls Try.prog (39 : Nat) [V.ptr (some (i, (0 : Nat)))] h fun (v1 : V) (h'1 : Hp) => ∃ (n3 : Int), v1 = V.int IntKind.i64 n3 ∧ bif !ltI n3 (IntKind.i64.wrap
  (IntKind.i32.wrap (IntKind.u32.wrap (a1 - n1)))) then ∃ (I1 : List V → Hp → Prop), ∃ (x1 : List V → Hp → Nat), ([V.ptr (some (i, (0 : Nat))), V.int IntKind.i64 (IntKind.i64.wrap (IntKind.i32.wrap (IntKind.u32.wrap (a1 - n1))))] = [V.ptr
  (some (i, (0 : Nat))), V.int IntKind.i64 (IntKind.i64.wrap (IntKind.i32.wrap (IntKind.u32.wrap (a1 - n1))))] ∧ I1 [V.int IntKind.i64 (-1 : Int), V.int IntKind.i64 (0 : Int)] h'1) ∧ ∀ (bs1 : Nat → Option V) (n4 n5 : Int) (h1 : Hp), I1
  [V.int IntKind.i64 n4, V.int IntKind.i64 n5] h1 → ∃ (a1_1 : Option (Nat × Nat)), ∃ (n6 : Nat), ∃ (f1 : Bool), h1.ld i (2 : Nat) = some (V.slc a1_1 n6 f1) ∧ bif ltI n5 (↑n6 : Int) then ∃ (a2 : Option (Nat × Nat)), ∃ (n7 : Nat), ∃ (f2 :
  Bool), h1.ld i (2 : Nat) = some (V.slc a2 n7 f2) ∧ ((0 : Int) ≤ n5 ∧ n5 < (↑n7 : Int)) ∧ onS a2 fun (i1 o1 : Nat) => ∃ (n8 : Int), h1.ld i1 (o1 + n5.toNat * (1 : Nat)) = some (V.int IntKind.i64 n8) ∧ bif !ltI n8 (0 : Int) then [V.ptr (some
  (i, (0 : Nat))), V.int IntKind.i64 (IntKind.i64.wrap (IntKind.i32.wrap (IntKind.u32.wrap (a1 - n1))))] = [V.ptr (some (i, (0 : Nat))), V.int IntKind.i64 (IntKind.i64.wrap (IntKind.i32.wrap (IntKind.u32.wrap (a1 - n1))))] ∧ I1 [V.int
  IntKind.i64 n5, V.int IntKind.i64 (IntKind.i64.wrap (n5 + (1 : Int)))] h1 ∧ x1 [V.int IntKind.i64 n5, V.int IntKind.i64 (IntKind.i64.wrap (n5 + (1 : Int)))] h1 < x1 [V.int IntKind.i64 n4, V.int IntKind.i64 n5] h1 else [V.ptr (some (i, (0 :
  Nat))), V.int IntKind.i64 (IntKind.i64.wrap (IntKind.i32.wrap (IntKind.u32.wrap (a1 - n1))))] = [V.ptr (some (i, (0 : Nat))), V.int IntKind.i64 (IntKind.i64.wrap (IntKind.i32.wrap (IntKind.u32.wrap (a1 - n1))))] ∧ I1 [V.int IntKind.i64 n4,
  V.int IntKind.i64 (IntKind.i64.wrap (n5 + (1 : Int)))] h1 ∧ x1 [V.int IntKind.i64 n4, V.int IntKind.i64 (IntKind.i64.wrap (n5 + (1 : Int)))] h1 < x1 [V.int IntKind.i64 n4, V.int IntKind.i64 n5] h1 else bif ltI n4 (IntKind.i64.wrap
  (IntKind.i32.wrap (IntKind.u32.wrap (a1 - n1)))) then ∃ (h'2 : Hp), h1.st i (3 : Nat) [V.int IntKind.i64 (IntKind.i64.wrap (IntKind.i32.wrap (IntKind.u32.wrap (a1 - n1))))] = some h'2 ∧ ∃ (n9 : Int), h'2.ld i (3 : Nat) = some (V.int
  IntKind.i64 n9) ∧ K (V.bool (n9 == (0 : Int))) h'2 else ∃ (n10 : Int), h1.ld i (3 : Nat) = some (V.int IntKind.i64 n10) ∧ K (V.bool (n10 == (0 : Int))) h1 else ∃ (n11 : Int), h'1.ld i (3 : Nat) = some (V.int IntKind.i64 n11) ∧ K (V.bool
  (n11 == (0 : Int))) h'1 else ∃ (n12 : Int), h.ld i (3 : Nat) = some (V.int IntKind.i64 n12) ∧ K (V.bool (n12 == (0 : Int))) h else ∃ (n13 : Int), h.ld i (3 : Nat) = some (V.int IntKind.i64 n13) ∧ K (V.bool (n13 == (0 : Int))) h
theorem y36 (h : Hp) (K : V → Hp → Prop) (i : Nat) (a1 : Int) : X36 h K i a1 = fnX Try.prog T F jl36 jj36 Try.f36 [V.ptr (some (i, (0 : Nat))), V.int IntKind.u32 a1] h K := by kernel_rfl
theorem x36 {h : Hp} {K : V → Hp → Prop} (i : Nat) (a1 : Int) (hx : X36 h K i a1) : XCalls Try.prog 36 [V.ptr (some (i, (0 : Nat))), V.int IntKind.u32 a1] h K :=
  XCalls.ofX tok fok mixed (JL := jl36) (JJ := jj36) Try.func36 ((y36 h K i a1) ▸ hx)
/-! 37: (*stevedore/stevedoreref26.In).Put -/
-- loop 7: stays i(0), text(2), far(8), window(9); turns n(7), k(10)
-- join 11: stays i(0), p(11), text(2), k(10), far(8), window(9), n(7); turns 
def jl37 : Nat → Option JT := fun r => bif Nat.beq r 7 then some ⟨[0, 2, 8, 9], [7, 10], [V.int IntKind.i64 (0 : Int), V.int IntKind.i64 (0 : Int)]⟩ else none
def jj37 : Nat → Option JT := fun r => bif Nat.beq r 11 then some ⟨[0, 11, 2, 10, 8, 9, 7], [], []⟩ else none
def X37 (h : Hp) (K : V → Hp → Prop) (i : Nat) (a1 : Int) (text : List UInt8) : Prop := bif ltI (16384 : Int) (↑text.length : Int) then K (V.int IntKind.i64 (0 : Int)) h else ∃ (n1 : Int), h.ld i (0 : Nat) = some (V.int IntKind.u32 n1) ∧
  XCalls Try.prog (39 : Nat) [V.ptr (some (i, (0 : Nat)))] h fun (v1 : V) (h'1 : Hp) => ∃ (n2 : Int), v1 = V.int IntKind.i64 n2 ∧ ∃ (I1 : List V → Hp → Prop), ∃ (x1 : List V → Hp → Nat), ([V.ptr (some (i, (0 : Nat))), V.str text, V.int
  IntKind.i64 (IntKind.i64.wrap (IntKind.i32.wrap (IntKind.u32.wrap (a1 - n1)))), V.int IntKind.i64 n2] = [V.ptr (some (i, (0 : Nat))), V.str text, V.int IntKind.i64 (IntKind.i64.wrap (IntKind.i32.wrap (IntKind.u32.wrap (a1 - n1)))), V.int
  IntKind.i64 n2] ∧ I1 [V.int IntKind.i64 (0 : Int), V.int IntKind.i64 (0 : Int)] h'1) ∧ ∀ (bs1 : Nat → Option V) (n3 n4 : Int) (h1 : Hp), I1 [V.int IntKind.i64 n3, V.int IntKind.i64 n4] h1 → bif ltI n4 (↑text.length : Int) then ∃ (Q1 : List
  V → Hp → Prop), (bif ltI (IntKind.i64.wrap (IntKind.i64.wrap (IntKind.i32.wrap (IntKind.u32.wrap (a1 - n1))) + n4)) (0 : Int) then [V.ptr (some (i, (0 : Nat))), V.str text, V.int IntKind.i64 (IntKind.i64.wrap (IntKind.i32.wrap
  (IntKind.u32.wrap (a1 - n1)))), V.int IntKind.i64 n2] = [V.ptr (some (i, (0 : Nat))), V.str text, V.int IntKind.i64 (IntKind.i64.wrap (IntKind.i32.wrap (IntKind.u32.wrap (a1 - n1)))), V.int IntKind.i64 n2] ∧ I1 [V.int IntKind.i64 n3, V.int
  IntKind.i64 (IntKind.i64.wrap (n4 + (1 : Int)))] h1 ∧ x1 [V.int IntKind.i64 n3, V.int IntKind.i64 (IntKind.i64.wrap (n4 + (1 : Int)))] h1 < x1 [V.int IntKind.i64 n3, V.int IntKind.i64 n4] h1 else bif !ltI (IntKind.i64.wrap
  (IntKind.i64.wrap (IntKind.i32.wrap (IntKind.u32.wrap (a1 - n1))) + n4)) n2 then [V.ptr (some (i, (0 : Nat))), V.str text, V.int IntKind.i64 (IntKind.i64.wrap (IntKind.i32.wrap (IntKind.u32.wrap (a1 - n1)))), V.int IntKind.i64 n2] = [V.ptr
  (some (i, (0 : Nat))), V.str text, V.int IntKind.i64 (IntKind.i64.wrap (IntKind.i32.wrap (IntKind.u32.wrap (a1 - n1)))), V.int IntKind.i64 n2] ∧ I1 [V.int IntKind.i64 n3, V.int IntKind.i64 (IntKind.i64.wrap (n4 + (1 : Int)))] h1 ∧ x1
  [V.int IntKind.i64 n3, V.int IntKind.i64 (IntKind.i64.wrap (n4 + (1 : Int)))] h1 < x1 [V.int IntKind.i64 n3, V.int IntKind.i64 n4] h1 else ∃ (n5 : Int), h1.ld i (3 : Nat) = some (V.int IntKind.i64 n5) ∧ bif !ltI n5 (0 : Int) then ∃ (n6 :
  Int), h1.ld i (3 : Nat) = some (V.int IntKind.i64 n6) ∧ bif !ltI (IntKind.i64.wrap (IntKind.i64.wrap (IntKind.i32.wrap (IntKind.u32.wrap (a1 - n1))) + n4)) n6 then [V.ptr (some (i, (0 : Nat))), V.str text, V.int IntKind.i64
  (IntKind.i64.wrap (IntKind.i32.wrap (IntKind.u32.wrap (a1 - n1)))), V.int IntKind.i64 n2] = [V.ptr (some (i, (0 : Nat))), V.str text, V.int IntKind.i64 (IntKind.i64.wrap (IntKind.i32.wrap (IntKind.u32.wrap (a1 - n1)))), V.int IntKind.i64
  n2] ∧ I1 [V.int IntKind.i64 n3, V.int IntKind.i64 (IntKind.i64.wrap (n4 + (1 : Int)))] h1 ∧ x1 [V.int IntKind.i64 n3, V.int IntKind.i64 (IntKind.i64.wrap (n4 + (1 : Int)))] h1 < x1 [V.int IntKind.i64 n3, V.int IntKind.i64 n4] h1 else ∃
  (a1_1 : Option (Nat × Nat)), ∃ (n7 : Nat), ∃ (f1 : Bool), h1.ld i (2 : Nat) = some (V.slc a1_1 n7 f1) ∧ ((0 : Int) ≤ IntKind.i64.wrap (IntKind.i64.wrap (IntKind.i32.wrap (IntKind.u32.wrap (a1 - n1))) + n4) ∧ IntKind.i64.wrap
  (IntKind.i64.wrap (IntKind.i32.wrap (IntKind.u32.wrap (a1 - n1))) + n4) < (↑n7 : Int)) ∧ onS a1_1 fun (i1 o1 : Nat) => ∃ (n8 : Int), h1.ld i1 (o1 + (IntKind.i64.wrap (IntKind.i64.wrap (IntKind.i32.wrap (IntKind.u32.wrap (a1 - n1))) +
  n4)).toNat * (1 : Nat)) = some (V.int IntKind.i64 n8) ∧ bif !ltI n8 (0 : Int) then [V.ptr (some (i, (0 : Nat))), V.str text, V.int IntKind.i64 (IntKind.i64.wrap (IntKind.i32.wrap (IntKind.u32.wrap (a1 - n1)))), V.int IntKind.i64 n2] =
  [V.ptr (some (i, (0 : Nat))), V.str text, V.int IntKind.i64 (IntKind.i64.wrap (IntKind.i32.wrap (IntKind.u32.wrap (a1 - n1)))), V.int IntKind.i64 n2] ∧ I1 [V.int IntKind.i64 n3, V.int IntKind.i64 (IntKind.i64.wrap (n4 + (1 : Int)))] h1 ∧
  x1 [V.int IntKind.i64 n3, V.int IntKind.i64 (IntKind.i64.wrap (n4 + (1 : Int)))] h1 < x1 [V.int IntKind.i64 n3, V.int IntKind.i64 n4] h1 else [V.ptr (some (i, (0 : Nat))), V.int IntKind.i64 (IntKind.i64.wrap (IntKind.i64.wrap
  (IntKind.i32.wrap (IntKind.u32.wrap (a1 - n1))) + n4)), V.str text, V.int IntKind.i64 n4, V.int IntKind.i64 (IntKind.i64.wrap (IntKind.i32.wrap (IntKind.u32.wrap (a1 - n1)))), V.int IntKind.i64 n2, V.int IntKind.i64 n3] = [V.ptr (some (i,
  (0 : Nat))), V.int IntKind.i64 (IntKind.i64.wrap (IntKind.i64.wrap (IntKind.i32.wrap (IntKind.u32.wrap (a1 - n1))) + n4)), V.str text, V.int IntKind.i64 n4, V.int IntKind.i64 (IntKind.i64.wrap (IntKind.i32.wrap (IntKind.u32.wrap (a1 -
  n1)))), V.int IntKind.i64 n2, V.int IntKind.i64 n3] ∧ Q1 [] h1 else ∃ (a2 : Option (Nat × Nat)), ∃ (n9 : Nat), ∃ (f2 : Bool), h1.ld i (2 : Nat) = some (V.slc a2 n9 f2) ∧ ((0 : Int) ≤ IntKind.i64.wrap (IntKind.i64.wrap (IntKind.i32.wrap
  (IntKind.u32.wrap (a1 - n1))) + n4) ∧ IntKind.i64.wrap (IntKind.i64.wrap (IntKind.i32.wrap (IntKind.u32.wrap (a1 - n1))) + n4) < (↑n9 : Int)) ∧ onS a2 fun (i2 o2 : Nat) => ∃ (n10 : Int), h1.ld i2 (o2 + (IntKind.i64.wrap (IntKind.i64.wrap
  (IntKind.i32.wrap (IntKind.u32.wrap (a1 - n1))) + n4)).toNat * (1 : Nat)) = some (V.int IntKind.i64 n10) ∧ bif !ltI n10 (0 : Int) then [V.ptr (some (i, (0 : Nat))), V.str text, V.int IntKind.i64 (IntKind.i64.wrap (IntKind.i32.wrap
  (IntKind.u32.wrap (a1 - n1)))), V.int IntKind.i64 n2] = [V.ptr (some (i, (0 : Nat))), V.str text, V.int IntKind.i64 (IntKind.i64.wrap (IntKind.i32.wrap (IntKind.u32.wrap (a1 - n1)))), V.int IntKind.i64 n2] ∧ I1 [V.int IntKind.i64 n3, V.int
  IntKind.i64 (IntKind.i64.wrap (n4 + (1 : Int)))] h1 ∧ x1 [V.int IntKind.i64 n3, V.int IntKind.i64 (IntKind.i64.wrap (n4 + (1 : Int)))] h1 < x1 [V.int IntKind.i64 n3, V.int IntKind.i64 n4] h1 else [V.ptr (some (i, (0 : Nat))), V.int
  IntKind.i64 (IntKind.i64.wrap (IntKind.i64.wrap (IntKind.i32.wrap (IntKind.u32.wrap (a1 - n1))) + n4)), V.str text, V.int IntKind.i64 n4, V.int IntKind.i64 (IntKind.i64.wrap (IntKind.i32.wrap (IntKind.u32.wrap (a1 - n1)))), V.int
  IntKind.i64 n2, V.int IntKind.i64 n3] = [V.ptr (some (i, (0 : Nat))), V.int IntKind.i64 (IntKind.i64.wrap (IntKind.i64.wrap (IntKind.i32.wrap (IntKind.u32.wrap (a1 - n1))) + n4)), V.str text, V.int IntKind.i64 n4, V.int IntKind.i64
  (IntKind.i64.wrap (IntKind.i32.wrap (IntKind.u32.wrap (a1 - n1)))), V.int IntKind.i64 n2, V.int IntKind.i64 n3] ∧ Q1 [] h1) ∧ ∀ (bs2 : Nat → Option V) (h2 : Hp), Q1 [] h2 → ∃ (a3 : Option (Nat × Nat)), ∃ (n11 : Nat), ∃ (f3 : Bool), h2.ld i
  (2 : Nat) = some (V.slc a3 n11 f3) ∧ (0 : Int) ≤ n4 ∧ ∃ (b1 : UInt8), text.get?Internal n4.toNat = some b1 ∧ ((0 : Int) ≤ IntKind.i64.wrap (IntKind.i64.wrap (IntKind.i32.wrap (IntKind.u32.wrap (a1 - n1))) + n4) ∧ IntKind.i64.wrap
  (IntKind.i64.wrap (IntKind.i32.wrap (IntKind.u32.wrap (a1 - n1))) + n4) < (↑n11 : Int)) ∧ onS a3 fun (i3 o3 : Nat) => ∃ (h'2 : Hp), h2.st i3 (o3 + (IntKind.i64.wrap (IntKind.i64.wrap (IntKind.i32.wrap (IntKind.u32.wrap (a1 - n1))) +
  n4)).toNat * (1 : Nat)) [V.int IntKind.i64 (IntKind.i64.wrap (↑b1.toNat : Int))] = some h'2 ∧ XCalls Try.prog (46 : Nat) [V.ptr (some (i, (0 : Nat)))] h'2 fun (v2 : V) (h'3 : Hp) => ∃ (n12 : Int), v2 = V.int IntKind.i64 n12 ∧ bif ltI (64 :
  Int) n12 then ∃ (a4 : Option (Nat × Nat)), ∃ (n13 : Nat), ∃ (f4 : Bool), h'3.ld i (2 : Nat) = some (V.slc a4 n13 f4) ∧ ((0 : Int) ≤ IntKind.i64.wrap (IntKind.i64.wrap (IntKind.i32.wrap (IntKind.u32.wrap (a1 - n1))) + n4) ∧ IntKind.i64.wrap
  (IntKind.i64.wrap (IntKind.i32.wrap (IntKind.u32.wrap (a1 - n1))) + n4) < (↑n13 : Int)) ∧ onS a4 fun (i4 o4 : Nat) => ∃ (h'4 : Hp), h'3.st i4 (o4 + (IntKind.i64.wrap (IntKind.i64.wrap (IntKind.i32.wrap (IntKind.u32.wrap (a1 - n1))) +
  n4)).toNat * (1 : Nat)) [V.int IntKind.i64 (-1 : Int)] = some h'4 ∧ [V.ptr (some (i, (0 : Nat))), V.str text, V.int IntKind.i64 (IntKind.i64.wrap (IntKind.i32.wrap (IntKind.u32.wrap (a1 - n1)))), V.int IntKind.i64 n2] = [V.ptr (some (i, (0
  : Nat))), V.str text, V.int IntKind.i64 (IntKind.i64.wrap (IntKind.i32.wrap (IntKind.u32.wrap (a1 - n1)))), V.int IntKind.i64 n2] ∧ I1 [V.int IntKind.i64 n3, V.int IntKind.i64 (IntKind.i64.wrap (n4 + (1 : Int)))] h'4 ∧ x1 [V.int
  IntKind.i64 n3, V.int IntKind.i64 (IntKind.i64.wrap (n4 + (1 : Int)))] h'4 < x1 [V.int IntKind.i64 n3, V.int IntKind.i64 n4] h1 else [V.ptr (some (i, (0 : Nat))), V.str text, V.int IntKind.i64 (IntKind.i64.wrap (IntKind.i32.wrap
  (IntKind.u32.wrap (a1 - n1)))), V.int IntKind.i64 n2] = [V.ptr (some (i, (0 : Nat))), V.str text, V.int IntKind.i64 (IntKind.i64.wrap (IntKind.i32.wrap (IntKind.u32.wrap (a1 - n1)))), V.int IntKind.i64 n2] ∧ I1 [V.int IntKind.i64
  (IntKind.i64.wrap (n3 + (1 : Int))), V.int IntKind.i64 (IntKind.i64.wrap (n4 + (1 : Int)))] h'3 ∧ x1 [V.int IntKind.i64 (IntKind.i64.wrap (n3 + (1 : Int))), V.int IntKind.i64 (IntKind.i64.wrap (n4 + (1 : Int)))] h'3 < x1 [V.int IntKind.i64
  n3, V.int IntKind.i64 n4] h1 else XCalls Try.prog (47 : Nat) [V.ptr (some (i, (0 : Nat)))] h1 fun (v3 : V) (h'5 : Hp) => K (V.int IntKind.i64 n3) h'5
theorem y37 (h : Hp) (K : V → Hp → Prop) (i : Nat) (a1 : Int) (text : List UInt8) : X37 h K i a1 text = fnX Try.prog T F jl37 jj37 Try.f37 [V.ptr (some (i, (0 : Nat))), V.int IntKind.u32 a1, V.str text] h K := by kernel_rfl
theorem x37 {h : Hp} {K : V → Hp → Prop} (i : Nat) (a1 : Int) (text : List UInt8) (hx : X37 h K i a1 text) : XCalls Try.prog 37 [V.ptr (some (i, (0 : Nat))), V.int IntKind.u32 a1, V.str text] h K :=
  XCalls.ofX tok fok mixed (JL := jl37) (JJ := jj37) Try.func37 ((y37 h K i a1 text) ▸ hx)
/-! 38: (*stevedore/stevedoreref26.In).Gaps -/
-- loop 3: stays i(0); turns l(3), k(4)
def jl38 : Nat → Option JT := fun r => bif Nat.beq r 3 then some ⟨[0], [3, 4], [V.slc none (0 : Nat) true, V.int IntKind.i64 (0 : Int)]⟩ else none
def jj38 : Nat → Option JT := fun r => none
def X38 (h : Hp) (K : V → Hp → Prop) (i : Nat) : Prop := ∃ (I1 : List V → Hp → Prop), ∃ (x1 : List V → Hp → Nat), ([V.ptr (some (i, (0 : Nat)))] = [V.ptr (some (i, (0 : Nat)))] ∧ I1 [V.slc none (0 : Nat) true, V.int IntKind.i64 (0 : Int)] h)
  ∧ ∀ (bs1 : Nat → Option V) (a1 : Option (Nat × Nat)) (n1 : Nat) (f1 : Bool) (n2 : Int) (h1 : Hp), I1 [V.slc a1 n1 f1, V.int IntKind.i64 n2] h1 → ∃ (a2 : Option (Nat × Nat)), ∃ (n3 : Nat), ∃ (f2 : Bool), h1.ld i (2 : Nat) = some (V.slc a2
  n3 f2) ∧ bif ltI n2 (↑n3 : Int) then ∃ (a3 : Option (Nat × Nat)), ∃ (n4 : Nat), ∃ (f3 : Bool), h1.ld i (2 : Nat) = some (V.slc a3 n4 f3) ∧ ((0 : Int) ≤ n2 ∧ n2 < (↑n4 : Int)) ∧ onS a3 fun (i1 o1 : Nat) => ∃ (n5 : Int), h1.ld i1 (o1 +
  n2.toNat * (1 : Nat)) = some (V.int IntKind.i64 n5) ∧ bif ltI n5 (0 : Int) then [V.ptr (some (i, (0 : Nat)))] = [V.ptr (some (i, (0 : Nat)))] ∧ I1 [V.slc a1 n1 f1, V.int IntKind.i64 (IntKind.i64.wrap (n2 + (1 : Int)))] h1 ∧ x1 [V.slc a1 n1
  f1, V.int IntKind.i64 (IntKind.i64.wrap (n2 + (1 : Int)))] h1 < x1 [V.slc a1 n1 f1, V.int IntKind.i64 n2] h1 else ∃ (n6 : Int), h1.ld i (0 : Nat) = some (V.int IntKind.u32 n6) ∧ bif ltI (0 : Int) (↑n1 : Int) then ((0 : Int) ≤
  IntKind.i64.wrap ((↑n1 : Int) - (1 : Int)) ∧ IntKind.i64.wrap ((↑n1 : Int) - (1 : Int)) < (↑n1 : Int)) ∧ onS a1 fun (i2 o2 : Nat) => ∃ (n7 : Int), h1.ld i2 (o2 + (IntKind.i64.wrap ((↑n1 : Int) - (1 : Int))).toNat * (2 : Nat) + (1 : Nat)) =
  some (V.int IntKind.u32 n7) ∧ bif n7 == IntKind.u32.wrap (n6 + IntKind.u32.wrap n2) then ((0 : Int) ≤ IntKind.i64.wrap ((↑n1 : Int) - (1 : Int)) ∧ IntKind.i64.wrap ((↑n1 : Int) - (1 : Int)) < (↑n1 : Int)) ∧ onS a1 fun (i3 o3 : Nat) => ∃
  (n8 : Int), h1.ld i3 (o3 + (IntKind.i64.wrap ((↑n1 : Int) - (1 : Int))).toNat * (2 : Nat) + (0 : Nat)) = some (V.int IntKind.u32 n8) ∧ ((0 : Int) ≤ IntKind.i64.wrap ((↑n1 : Int) - (1 : Int)) ∧ IntKind.i64.wrap ((↑n1 : Int) - (1 : Int)) <
  (↑n1 : Int)) ∧ onS a1 fun (i4 o4 : Nat) => ∃ (h'1 : Hp), h1.st i4 (o4 + (IntKind.i64.wrap ((↑n1 : Int) - (1 : Int))).toNat * (2 : Nat)) [V.int IntKind.u32 n8, V.int IntKind.u32 (IntKind.u32.wrap (IntKind.u32.wrap (n6 + IntKind.u32.wrap n2)
  + (1 : Int)))] = some h'1 ∧ [V.ptr (some (i, (0 : Nat)))] = [V.ptr (some (i, (0 : Nat)))] ∧ I1 [V.slc a1 n1 f1, V.int IntKind.i64 (IntKind.i64.wrap (n2 + (1 : Int)))] h'1 ∧ x1 [V.slc a1 n1 f1, V.int IntKind.i64 (IntKind.i64.wrap (n2 + (1 :
  Int)))] h'1 < x1 [V.slc a1 n1 f1, V.int IntKind.i64 n2] h1 else ∀ (h'2 : Hp), h'2 = h1.alloc (O.row [V.int IntKind.u32 (IntKind.u32.wrap (n6 + IntKind.u32.wrap n2)), V.int IntKind.u32 (IntKind.u32.wrap (IntKind.u32.wrap (n6 +
  IntKind.u32.wrap n2) + (1 : Int)))] (2 : Nat) false) → ∃ (p1 : Option (Nat × Nat)), ∃ (n9 : Nat), ∃ (f4 : Bool), ∃ (h'3 : Hp), xapp T h'2 (57 : Nat) (57 : Nat) (V.slc a1 n1 f1) (V.slc (some (h1.next, (0 : Nat))) (1 : Nat) true) = some
  (V.slc p1 n9 f4, h'3) ∧ [V.ptr (some (i, (0 : Nat)))] = [V.ptr (some (i, (0 : Nat)))] ∧ I1 [V.slc p1 n9 f4, V.int IntKind.i64 (IntKind.i64.wrap (n2 + (1 : Int)))] h'3 ∧ x1 [V.slc p1 n9 f4, V.int IntKind.i64 (IntKind.i64.wrap (n2 + (1 :
  Int)))] h'3 < x1 [V.slc a1 n1 f1, V.int IntKind.i64 n2] h1 else ∀ (h'4 : Hp), h'4 = h1.alloc (O.row [V.int IntKind.u32 (IntKind.u32.wrap (n6 + IntKind.u32.wrap n2)), V.int IntKind.u32 (IntKind.u32.wrap (IntKind.u32.wrap (n6 +
  IntKind.u32.wrap n2) + (1 : Int)))] (2 : Nat) false) → ∃ (p2 : Option (Nat × Nat)), ∃ (n10 : Nat), ∃ (f5 : Bool), ∃ (h'5 : Hp), xapp T h'4 (57 : Nat) (57 : Nat) (V.slc a1 n1 f1) (V.slc (some (h1.next, (0 : Nat))) (1 : Nat) true) = some
  (V.slc p2 n10 f5, h'5) ∧ [V.ptr (some (i, (0 : Nat)))] = [V.ptr (some (i, (0 : Nat)))] ∧ I1 [V.slc p2 n10 f5, V.int IntKind.i64 (IntKind.i64.wrap (n2 + (1 : Int)))] h'5 ∧ x1 [V.slc p2 n10 f5, V.int IntKind.i64 (IntKind.i64.wrap (n2 + (1 :
  Int)))] h'5 < x1 [V.slc a1 n1 f1, V.int IntKind.i64 n2] h1 else K (V.slc a1 n1 f1) h1
theorem y38 (h : Hp) (K : V → Hp → Prop) (i : Nat) : X38 h K i = fnX Try.prog T F jl38 jj38 Try.f38 [V.ptr (some (i, (0 : Nat)))] h K := by kernel_rfl
theorem x38 {h : Hp} {K : V → Hp → Prop} (i : Nat) (hx : X38 h K i) : XCalls Try.prog 38 [V.ptr (some (i, (0 : Nat)))] h K :=
  XCalls.ofX tok fok mixed (JL := jl38) (JJ := jj38) Try.func38 ((y38 h K i) ▸ hx)
/-! 39: (*stevedore/stevedoreref26.In).Window -/
def jl39 : Nat → Option JT := fun r => none
def jj39 : Nat → Option JT := fun r => none
def X39 (h : Hp) (K : V → Hp → Prop) (i : Nat) : Prop := ∃ (n1 : Int), h.ld i (4 : Nat) = some (V.int IntKind.i64 n1) ∧ ∃ (s1 : List UInt8), h.ld i (1 : Nat) = some (V.str s1) ∧ K (V.int IntKind.i64 (IntKind.i64.wrap (n1 - (↑s1.length : Int)))) h
theorem y39 (h : Hp) (K : V → Hp → Prop) (i : Nat) : X39 h K i = fnX Try.prog T F jl39 jj39 Try.f39 [V.ptr (some (i, (0 : Nat)))] h K := by kernel_rfl
theorem x39 {h : Hp} {K : V → Hp → Prop} (i : Nat) (hx : X39 h K i) : XCalls Try.prog 39 [V.ptr (some (i, (0 : Nat)))] h K :=
  XCalls.ofX tok fok mixed (JL := jl39) (JJ := jj39) Try.func39 ((y39 h K i) ▸ hx)
/-! 46: (*stevedore/stevedoreref26.In).rows -/
-- loop 3: stays i(0); turns n(3), k(4)
def jl46 : Nat → Option JT := fun r => bif Nat.beq r 3 then some ⟨[0], [3, 4], [V.int IntKind.i64 (0 : Int), V.int IntKind.i64 (0 : Int)]⟩ else none
def jj46 : Nat → Option JT := fun r => none
def X46 (h : Hp) (K : V → Hp → Prop) (i : Nat) : Prop := ∃ (I1 : List V → Hp → Prop), ∃ (x1 : List V → Hp → Nat), ([V.ptr (some (i, (0 : Nat)))] = [V.ptr (some (i, (0 : Nat)))] ∧ I1 [V.int IntKind.i64 (0 : Int), V.int IntKind.i64 (0 : Int)]
  h) ∧ ∀ (bs1 : Nat → Option V) (n1 n2 : Int) (h1 : Hp), I1 [V.int IntKind.i64 n1, V.int IntKind.i64 n2] h1 → ∃ (a1 : Option (Nat × Nat)), ∃ (n3 : Nat), ∃ (f1 : Bool), h1.ld i (2 : Nat) = some (V.slc a1 n3 f1) ∧ bif ltI n2 (↑n3 : Int) then
  bif ltI (0 : Int) n2 then ∃ (a2 : Option (Nat × Nat)), ∃ (n4 : Nat), ∃ (f2 : Bool), h1.ld i (2 : Nat) = some (V.slc a2 n4 f2) ∧ ((0 : Int) ≤ n2 ∧ n2 < (↑n4 : Int)) ∧ onS a2 fun (i1 o1 : Nat) => ∃ (n5 : Int), h1.ld i1 (o1 + n2.toNat * (1 :
  Nat)) = some (V.int IntKind.i64 n5) ∧ bif !ltI n5 (0 : Int) then ∃ (a3 : Option (Nat × Nat)), ∃ (n6 : Nat), ∃ (f3 : Bool), h1.ld i (2 : Nat) = some (V.slc a3 n6 f3) ∧ ((0 : Int) ≤ IntKind.i64.wrap (n2 - (1 : Int)) ∧ IntKind.i64.wrap (n2 -
  (1 : Int)) < (↑n6 : Int)) ∧ onS a3 fun (i2 o2 : Nat) => ∃ (n7 : Int), h1.ld i2 (o2 + (IntKind.i64.wrap (n2 - (1 : Int))).toNat * (1 : Nat)) = some (V.int IntKind.i64 n7) ∧ bif ltI n7 (0 : Int) then [V.ptr (some (i, (0 : Nat)))] = [V.ptr
  (some (i, (0 : Nat)))] ∧ I1 [V.int IntKind.i64 (IntKind.i64.wrap (n1 + (1 : Int))), V.int IntKind.i64 (IntKind.i64.wrap (n2 + (1 : Int)))] h1 ∧ x1 [V.int IntKind.i64 (IntKind.i64.wrap (n1 + (1 : Int))), V.int IntKind.i64 (IntKind.i64.wrap
  (n2 + (1 : Int)))] h1 < x1 [V.int IntKind.i64 n1, V.int IntKind.i64 n2] h1 else [V.ptr (some (i, (0 : Nat)))] = [V.ptr (some (i, (0 : Nat)))] ∧ I1 [V.int IntKind.i64 n1, V.int IntKind.i64 (IntKind.i64.wrap (n2 + (1 : Int)))] h1 ∧ x1 [V.int
  IntKind.i64 n1, V.int IntKind.i64 (IntKind.i64.wrap (n2 + (1 : Int)))] h1 < x1 [V.int IntKind.i64 n1, V.int IntKind.i64 n2] h1 else [V.ptr (some (i, (0 : Nat)))] = [V.ptr (some (i, (0 : Nat)))] ∧ I1 [V.int IntKind.i64 n1, V.int IntKind.i64
  (IntKind.i64.wrap (n2 + (1 : Int)))] h1 ∧ x1 [V.int IntKind.i64 n1, V.int IntKind.i64 (IntKind.i64.wrap (n2 + (1 : Int)))] h1 < x1 [V.int IntKind.i64 n1, V.int IntKind.i64 n2] h1 else [V.ptr (some (i, (0 : Nat)))] = [V.ptr (some (i, (0 :
  Nat)))] ∧ I1 [V.int IntKind.i64 n1, V.int IntKind.i64 (IntKind.i64.wrap (n2 + (1 : Int)))] h1 ∧ x1 [V.int IntKind.i64 n1, V.int IntKind.i64 (IntKind.i64.wrap (n2 + (1 : Int)))] h1 < x1 [V.int IntKind.i64 n1, V.int IntKind.i64 n2] h1 else K
  (V.int IntKind.i64 n1) h1
theorem y46 (h : Hp) (K : V → Hp → Prop) (i : Nat) : X46 h K i = fnX Try.prog T F jl46 jj46 Try.f46 [V.ptr (some (i, (0 : Nat)))] h K := by kernel_rfl
theorem x46 {h : Hp} {K : V → Hp → Prop} (i : Nat) (hx : X46 h K i) : XCalls Try.prog 46 [V.ptr (some (i, (0 : Nat)))] h K :=
  XCalls.ofX tok fok mixed (JL := jl46) (JJ := jj46) Try.func46 ((y46 h K i) ▸ hx)
/-! 47: (*stevedore/stevedoreref26.In).joins -/
-- loop 12: stays i(0), n(2); turns l(5), k(6)
-- loop 5: stays i(0), n(2); turns b(3), k(4)
-- loop 1: stays i(0); turns n(2)
-- join 3: stays i(0); turns n(2)
def jl47 : Nat → Option JT := fun r => bif Nat.beq r 12 then some ⟨[0, 2], [5, 6], [V.slc none (0 : Nat) true, V.int IntKind.i64 (0 : Int)]⟩ else bif Nat.beq r 5 then some ⟨[0, 2], [3, 4], [V.slc none (0 : Nat) true, V.int IntKind.i64 (0 :
  Int)]⟩ else bif Nat.beq r 1 then some ⟨[0], [2], [V.int IntKind.i64 (0 : Int)]⟩ else none
def jj47 : Nat → Option JT := fun r => bif Nat.beq r 3 then some ⟨[0], [2], [V.int IntKind.i64 (0 : Int)]⟩ else none
def X47 (h : Hp) (K : V → Hp → Prop) (i : Nat) : Prop := ∃ (Q1 : List V → Hp → Prop), (∃ (I1 : List V → Hp → Prop), ∃ (x1 : List V → Hp → Nat), ([V.ptr (some (i, (0 : Nat)))] = [V.ptr (some (i, (0 : Nat)))] ∧ I1 [V.int IntKind.i64 (0 : Int)]
  h) ∧ ∀ (bs1 : Nat → Option V) (n1 : Int) (h1 : Hp), I1 [V.int IntKind.i64 n1] h1 → ∃ (a1 : Option (Nat × Nat)), ∃ (n2 : Nat), ∃ (f1 : Bool), h1.ld i (2 : Nat) = some (V.slc a1 n2 f1) ∧ bif ltI n1 (↑n2 : Int) then ∃ (a2 : Option (Nat ×
  Nat)), ∃ (n3 : Nat), ∃ (f2 : Bool), h1.ld i (2 : Nat) = some (V.slc a2 n3 f2) ∧ ((0 : Int) ≤ n1 ∧ n1 < (↑n3 : Int)) ∧ onS a2 fun (i1 o1 : Nat) => ∃ (n4 : Int), h1.ld i1 (o1 + n1.toNat * (1 : Nat)) = some (V.int IntKind.i64 n4) ∧ bif !ltI
  n4 (0 : Int) then [V.ptr (some (i, (0 : Nat)))] = [V.ptr (some (i, (0 : Nat)))] ∧ I1 [V.int IntKind.i64 (IntKind.i64.wrap (n1 + (1 : Int)))] h1 ∧ x1 [V.int IntKind.i64 (IntKind.i64.wrap (n1 + (1 : Int)))] h1 < x1 [V.int IntKind.i64 n1] h1
  else [V.ptr (some (i, (0 : Nat)))] = [V.ptr (some (i, (0 : Nat)))] ∧ Q1 [V.int IntKind.i64 n1] h1 else [V.ptr (some (i, (0 : Nat)))] = [V.ptr (some (i, (0 : Nat)))] ∧ Q1 [V.int IntKind.i64 n1] h1) ∧ ∀ (bs2 : Nat → Option V) (n5 : Int) (h2
  : Hp), Q1 [V.int IntKind.i64 n5] h2 → ∃ (I2 : List V → Hp → Prop), ∃ (x2 : List V → Hp → Nat), ([V.ptr (some (i, (0 : Nat))), V.int IntKind.i64 n5] = [V.ptr (some (i, (0 : Nat))), V.int IntKind.i64 n5] ∧ I2 [V.slc none (0 : Nat) true,
  V.int IntKind.i64 (0 : Int)] h2) ∧ ∀ (bs3 : Nat → Option V) (a3 : Option (Nat × Nat)) (n6 : Nat) (f3 : Bool) (n7 : Int) (h3 : Hp), I2 [V.slc a3 n6 f3, V.int IntKind.i64 n7] h3 → bif ltI n7 n5 then ∃ (a4 : Option (Nat × Nat)), ∃ (n8 : Nat),
  ∃ (f4 : Bool), h3.ld i (2 : Nat) = some (V.slc a4 n8 f4) ∧ ((0 : Int) ≤ n7 ∧ n7 < (↑n8 : Int)) ∧ onS a4 fun (i2 o2 : Nat) => ∃ (n9 : Int), h3.ld i2 (o2 + n7.toNat * (1 : Nat)) = some (V.int IntKind.i64 n9) ∧ ∀ (h'1 : Hp), h'1 = h3.alloc
  (O.row [V.int IntKind.u8 (IntKind.u8.wrap n9)] (1 : Nat) false) → ∃ (p1 : Option (Nat × Nat)), ∃ (n10 : Nat), ∃ (f5 : Bool), ∃ (h'2 : Hp), xapp T h'1 (68 : Nat) (68 : Nat) (V.slc a3 n6 f3) (V.slc (some (h3.next, (0 : Nat))) (1 : Nat) true)
  = some (V.slc p1 n10 f5, h'2) ∧ [V.ptr (some (i, (0 : Nat))), V.int IntKind.i64 n5] = [V.ptr (some (i, (0 : Nat))), V.int IntKind.i64 n5] ∧ I2 [V.slc p1 n10 f5, V.int IntKind.i64 (IntKind.i64.wrap (n7 + (1 : Int)))] h'2 ∧ x2 [V.slc p1 n10
  f5, V.int IntKind.i64 (IntKind.i64.wrap (n7 + (1 : Int)))] h'2 < x2 [V.slc a3 n6 f3, V.int IntKind.i64 n7] h3 else ∃ (s1 : List UInt8), h3.ld i (1 : Nat) = some (V.str s1) ∧ ∃ (s2 : List UInt8), xconv T h3 (68 : Nat) (9 : Nat) (V.slc a3 n6
  f3) = some (V.str s2) ∧ s1.length + s2.length ≤ (9223372036854775807 : Nat) ∧ ∃ (h'3 : Hp), h3.st i (1 : Nat) [V.str (s1 ++ s2)] = some h'3 ∧ ∃ (a5 : Option (Nat × Nat)), ∃ (n11 : Nat), ∃ (f6 : Bool), h'3.ld i (2 : Nat) = some (V.slc a5
  n11 f6) ∧ ∃ (a6 : Option (Nat × Nat)), ∃ (n12 : Nat), ∃ (f7 : Bool), xslice T h'3 (61 : Nat) (V.slc a5 n11 f6) (some (V.int IntKind.i64 n5)) none none = some (V.slc a6 n12 f7) ∧ ∃ (p2 : Option (Nat × Nat)), ∃ (n13 : Nat), ∃ (f8 : Bool), ∃
  (h'4 : Hp), xapp T h'3 (61 : Nat) (61 : Nat) (V.slc none (0 : Nat) true) (V.slc a6 n12 f7) = some (V.slc p2 n13 f8, h'4) ∧ ∃ (I3 : List V → Hp → Prop), ∃ (x3 : List V → Hp → Nat), ([V.ptr (some (i, (0 : Nat))), V.int IntKind.i64 n5] =
  [V.ptr (some (i, (0 : Nat))), V.int IntKind.i64 n5] ∧ I3 [V.slc p2 n13 f8, V.int IntKind.i64 (0 : Int)] h'4) ∧ ∀ (bs4 : Nat → Option V) (a7 : Option (Nat × Nat)) (n14 : Nat) (f9 : Bool) (n15 : Int) (h4 : Hp), I3 [V.slc a7 n14 f9, V.int
  IntKind.i64 n15] h4 → bif ltI n15 n5 then ∀ (h'5 : Hp), h'5 = h4.alloc (O.row [V.int IntKind.i64 (-1 : Int)] (1 : Nat) false) → ∃ (p3 : Option (Nat × Nat)), ∃ (n16 : Nat), ∃ (f10 : Bool), ∃ (h'6 : Hp), xapp T h'5 (61 : Nat) (61 : Nat)
  (V.slc a7 n14 f9) (V.slc (some (h4.next, (0 : Nat))) (1 : Nat) true) = some (V.slc p3 n16 f10, h'6) ∧ [V.ptr (some (i, (0 : Nat))), V.int IntKind.i64 n5] = [V.ptr (some (i, (0 : Nat))), V.int IntKind.i64 n5] ∧ I3 [V.slc p3 n16 f10, V.int
  IntKind.i64 (IntKind.i64.wrap (n15 + (1 : Int)))] h'6 ∧ x3 [V.slc p3 n16 f10, V.int IntKind.i64 (IntKind.i64.wrap (n15 + (1 : Int)))] h'6 < x3 [V.slc a7 n14 f9, V.int IntKind.i64 n15] h4 else ∃ (h'7 : Hp), h4.st i (2 : Nat) [V.slc a7 n14
  f9] = some h'7 ∧ ∃ (n17 : Int), h'7.ld i (0 : Nat) = some (V.int IntKind.u32 n17) ∧ ∃ (h'8 : Hp), h'7.st i (0 : Nat) [V.int IntKind.u32 (IntKind.u32.wrap (n17 + IntKind.u32.wrap n5))] = some h'8 ∧ ∃ (n18 : Int), h'8.ld i (3 : Nat) = some
  (V.int IntKind.i64 n18) ∧ bif !ltI n18 (0 : Int) then ∃ (n19 : Int), h'8.ld i (3 : Nat) = some (V.int IntKind.i64 n19) ∧ ∃ (h'9 : Hp), h'8.st i (3 : Nat) [V.int IntKind.i64 (IntKind.i64.wrap (n19 - n5))] = some h'9 ∧ K (V.tup []) h'9 else
  K (V.tup []) h'8
theorem y47 (h : Hp) (K : V → Hp → Prop) (i : Nat) : X47 h K i = fnX Try.prog T F jl47 jj47 Try.f47 [V.ptr (some (i, (0 : Nat)))] h K := by kernel_rfl
theorem x47 {h : Hp} {K : V → Hp → Prop} (i : Nat) (hx : X47 h K i) : XCalls Try.prog 47 [V.ptr (some (i, (0 : Nat)))] h K :=
  XCalls.ofX tok fok mixed (JL := jl47) (JJ := jj47) Try.func47 ((y47 h K i) ▸ hx) 
end Go.Vex
