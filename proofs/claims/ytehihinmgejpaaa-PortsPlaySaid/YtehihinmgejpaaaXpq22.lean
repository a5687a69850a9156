/- the reference of ports, PortsPlay (printed by VexPrint).
-/
import Derived.Test.YtehihinmgejpaaaVexX
import Derived.Test.YtehihinmgejpaaaTab22
set_option linter.unusedVariables false
set_option maxRecDepth 100000
namespace Go.Vex
open Go.Proofs
/-! 30: stevedore/stevedoreref22.kind -/
def jl30 : Nat → Option JT := fun r => none
def jj30 : Nat → Option JT := fun r => none
def X30 (h : Hp) (K : V → Hp → Prop) (k : Int) : Prop := bif k == (1 : Int) then K (V.bool true) h else K (V.bool (k == (2 : Int))) h
theorem y30 (h : Hp) (K : V → Hp → Prop) (k : Int) : X30 h K k = fnX Try.prog T F jl30 jj30 Try.f30 [V.int IntKind.u8 k] h K := by kernel_rfl
theorem x30 {h : Hp} {K : V → Hp → Prop} (k : Int) (hx : X30 h K k) : XCalls Try.prog 30 [V.int IntKind.u8 k] h K :=
  XCalls.ofX tok fok mixed (JL := jl30) (JJ := jj30) Try.func30 ((y30 h K k) ▸ hx)
/-! 33: stevedore/stevedoreref22.Meet -/
def jl33 : Nat → Option JT := fun r => none
def jj33 : Nat → Option JT := fun r => none
def X33 (h : Hp) (K : V → Hp → Prop) (a_0 : Int) (a_1 : Int) (a_2 : Int) (a_3 : Bool) (b_0 : Int) (b_1 : Int) (b_2 : Int) (b_3 : Bool) : Prop := ∀ (h'1 : Hp), h'1 = h.alloc (O.row [V.int IntKind.u8 a_0, V.int IntKind.u32 a_1, V.int
  IntKind.u16 a_2, V.bool a_3] (1 : Nat) false) → ∀ (h'2 : Hp), h'2 = h'1.alloc (O.row [V.int IntKind.u8 b_0, V.int IntKind.u32 b_1, V.int IntKind.u16 b_2, V.bool b_3] (1 : Nat) false) → ∃ (n1 : Int), h'2.ld h.next (0 : Nat) = some (V.int
  IntKind.u8 n1) ∧ ∃ (n2 : Int), h'2.ld h'1.next (0 : Nat) = some (V.int IntKind.u8 n2) ∧ bif n1 == n2 then ∃ (n3 : Int), h'2.ld h.next (2 : Nat) = some (V.int IntKind.u16 n3) ∧ ∃ (n4 : Int), h'2.ld h'1.next (2 : Nat) = some (V.int
  IntKind.u16 n4) ∧ bif n3 == n4 then ∃ (n5 : Int), h'2.ld h.next (1 : Nat) = some (V.int IntKind.u32 n5) ∧ ∃ (n6 : Int), h'2.ld h'1.next (1 : Nat) = some (V.int IntKind.u32 n6) ∧ bif n5 == n6 then K (V.bool true) h'2 else ∃ (n7 : Int),
  h'2.ld h.next (1 : Nat) = some (V.int IntKind.u32 n7) ∧ bif n7 == (0 : Int) then K (V.bool true) h'2 else ∃ (n8 : Int), h'2.ld h'1.next (1 : Nat) = some (V.int IntKind.u32 n8) ∧ K (V.bool (n8 == (0 : Int))) h'2 else K (V.bool false) h'2
  else K (V.bool false) h'2
theorem y33 (h : Hp) (K : V → Hp → Prop) (a_0 : Int) (a_1 : Int) (a_2 : Int) (a_3 : Bool) (b_0 : Int) (b_1 : Int) (b_2 : Int) (b_3 : Bool) : X33 h K a_0 a_1 a_2 a_3 b_0 b_1 b_2 b_3 = fnX Try.prog T F jl33 jj33 Try.f33 [V.agg [V.int
  IntKind.u8 a_0, V.int IntKind.u32 a_1, V.int IntKind.u16 a_2, V.bool a_3], V.agg [V.int IntKind.u8 b_0, V.int IntKind.u32 b_1, V.int IntKind.u16 b_2, V.bool b_3]] h K := by kernel_rfl
theorem x33 {h : Hp} {K : V → Hp → Prop} (a_0 : Int) (a_1 : Int) (a_2 : Int) (a_3 : Bool) (b_0 : Int) (b_1 : Int) (b_2 : Int) (b_3 : Bool) (hx : X33 h K a_0 a_1 a_2 a_3 b_0 b_1 b_2 b_3) : XCalls Try.prog 33 [V.agg [V.int IntKind.u8 a_0,
  V.int IntKind.u32 a_1, V.int IntKind.u16 a_2, V.bool a_3], V.agg [V.int IntKind.u8 b_0, V.int IntKind.u32 b_1, V.int IntKind.u16 b_2, V.bool b_3]] h K :=
  XCalls.ofX tok fok mixed (JL := jl33) (JJ := jj33) Try.func33 ((y33 h K a_0 a_1 a_2 a_3 b_0 b_1 b_2 b_3) ▸ hx)
/-! 31: stevedore/stevedoreref22.Together -/
def jl31 : Nat → Option JT := fun r => none
def jj31 : Nat → Option JT := fun r => none
def X31 (h : Hp) (K : V → Hp → Prop) (a_0 : Int) (a_1 : Int) (a_2 : Int) (a_3 : Bool) (b_0 : Int) (b_1 : Int) (b_2 : Int) (b_3 : Bool) : Prop := ∀ (h'1 : Hp), h'1 = h.alloc (O.row [V.int IntKind.u8 a_0, V.int IntKind.u32 a_1, V.int
  IntKind.u16 a_2, V.bool a_3] (1 : Nat) false) → ∀ (h'2 : Hp), h'2 = h'1.alloc (O.row [V.int IntKind.u8 b_0, V.int IntKind.u32 b_1, V.int IntKind.u16 b_2, V.bool b_3] (1 : Nat) false) → ∃ (n1 : Int), ∃ (n2 : Int), ∃ (n3 : Int), ∃ (b1 :
  Bool), h'2.lda h.next (0 : Nat) (4 : Nat) = some (V.agg [V.int IntKind.u8 n1, V.int IntKind.u32 n2, V.int IntKind.u16 n3, V.bool b1]) ∧ ∃ (n4 : Int), ∃ (n5 : Int), ∃ (n6 : Int), ∃ (b2 : Bool), h'2.lda h'1.next (0 : Nat) (4 : Nat) = some
  (V.agg [V.int IntKind.u8 n4, V.int IntKind.u32 n5, V.int IntKind.u16 n6, V.bool b2]) ∧ XCalls Try.prog (33 : Nat) [V.agg [V.int IntKind.u8 n1, V.int IntKind.u32 n2, V.int IntKind.u16 n3, V.bool b1], V.agg [V.int IntKind.u8 n4, V.int
  IntKind.u32 n5, V.int IntKind.u16 n6, V.bool b2]] h'2 fun (v1 : V) (h'3 : Hp) => ∃ (b3 : Bool), v1 = V.bool b3 ∧ bif !b3 then K (V.bool true) h'3 else ∃ (b4 : Bool), h'3.ld h.next (3 : Nat) = some (V.bool b4) ∧ bif b4 then ∃ (b5 : Bool),
  h'3.ld h'1.next (3 : Nat) = some (V.bool b5) ∧ bif b5 then ∃ (n7 : Int), h'3.ld h.next (1 : Nat) = some (V.int IntKind.u32 n7) ∧ ∃ (n8 : Int), h'3.ld h'1.next (1 : Nat) = some (V.int IntKind.u32 n8) ∧ K (V.bool (n7 == n8)) h'3 else K
  (V.bool false) h'3 else K (V.bool false) h'3
theorem y31 (h : Hp) (K : V → Hp → Prop) (a_0 : Int) (a_1 : Int) (a_2 : Int) (a_3 : Bool) (b_0 : Int) (b_1 : Int) (b_2 : Int) (b_3 : Bool) : X31 h K a_0 a_1 a_2 a_3 b_0 b_1 b_2 b_3 = fnX Try.prog T F jl31 jj31 Try.f31 [V.agg [V.int
  IntKind.u8 a_0, V.int IntKind.u32 a_1, V.int IntKind.u16 a_2, V.bool a_3], V.agg [V.int IntKind.u8 b_0, V.int IntKind.u32 b_1, V.int IntKind.u16 b_2, V.bool b_3]] h K := by kernel_rfl
theorem x31 {h : Hp} {K : V → Hp → Prop} (a_0 : Int) (a_1 : Int) (a_2 : Int) (a_3 : Bool) (b_0 : Int) (b_1 : Int) (b_2 : Int) (b_3 : Bool) (hx : X31 h K a_0 a_1 a_2 a_3 b_0 b_1 b_2 b_3) : XCalls Try.prog 31 [V.agg [V.int IntKind.u8 a_0,
  V.int IntKind.u32 a_1, V.int IntKind.u16 a_2, V.bool a_3], V.agg [V.int IntKind.u8 b_0, V.int IntKind.u32 b_1, V.int IntKind.u16 b_2, V.bool b_3]] h K :=
  XCalls.ofX tok fok mixed (JL := jl31) (JJ := jj31) Try.func31 ((y31 h K a_0 a_1 a_2 a_3 b_0 b_1 b_2 b_3) ▸ hx)
/-! 13: (*stevedore/stevedoreref22.Ports).At -/
-- loop 2: stays p(0), socket(1); turns i(5)
def jl13 : Nat → Option JT := fun r => bif Nat.beq r 2 then some ⟨[0, 1], [5], [V.int IntKind.i64 (0 : Int)]⟩ else none
def jj13 : Nat → Option JT := fun r => none
def X13 (h : Hp) (K : V → Hp → Prop) (p : Nat) (socket : Int) : Prop := ∃ (I1 : List V → Hp → Prop), ∃ (x1 : List V → Hp → Nat), ([V.ptr (some (p, (0 : Nat))), V.int IntKind.u64 socket] = [V.ptr (some (p, (0 : Nat))), V.int IntKind.u64
  socket] ∧ I1 [V.int IntKind.i64 (0 : Int)] h) ∧ ∀ (bs1 : Nat → Option V) (n1 : Int) (h1 : Hp), I1 [V.int IntKind.i64 n1] h1 → ∃ (a1 : Option (Nat × Nat)), ∃ (n2 : Nat), ∃ (f1 : Bool), h1.ld p (0 : Nat) = some (V.slc a1 n2 f1) ∧ bif ltI n1
  (↑n2 : Int) then ∃ (a2 : Option (Nat × Nat)), ∃ (n3 : Nat), ∃ (f2 : Bool), h1.ld p (0 : Nat) = some (V.slc a2 n3 f2) ∧ ((0 : Int) ≤ n1 ∧ n1 < (↑n3 : Int)) ∧ onS a2 fun (i1 o1 : Nat) => ∃ (n4 : Int), h1.ld i1 (o1 + n1.toNat * (5 : Nat) + (0
  : Nat)) = some (V.int IntKind.u64 n4) ∧ bif n4 == socket then K (V.int IntKind.i64 n1) h1 else [V.ptr (some (p, (0 : Nat))), V.int IntKind.u64 socket] = [V.ptr (some (p, (0 : Nat))), V.int IntKind.u64 socket] ∧ I1 [V.int IntKind.i64
  (IntKind.i64.wrap (n1 + (1 : Int)))] h1 ∧ x1 [V.int IntKind.i64 (IntKind.i64.wrap (n1 + (1 : Int)))] h1 < x1 [V.int IntKind.i64 n1] h1 else K (V.int IntKind.i64 (-1 : Int)) h1
theorem y13 (h : Hp) (K : V → Hp → Prop) (p : Nat) (socket : Int) : X13 h K p socket = fnX Try.prog T F jl13 jj13 Try.f13 [V.ptr (some (p, (0 : Nat))), V.int IntKind.u64 socket] h K := by kernel_rfl
theorem x13 {h : Hp} {K : V → Hp → Prop} (p : Nat) (socket : Int) (hx : X13 h K p socket) : XCalls Try.prog 13 [V.ptr (some (p, (0 : Nat))), V.int IntKind.u64 socket] h K :=
  XCalls.ofX tok fok mixed (JL := jl13) (JJ := jj13) Try.func13 ((y13 h K p socket) ▸ hx)
/-! 32: (*stevedore/stevedoreref22.Ports).put -/
-- loop 2: stays p(0), x(3); turns k(4)
-- join 4: stays p(0), x(3); turns k(4)
def jl32 : Nat → Option JT := fun r => bif Nat.beq r 2 then some ⟨[0, 3], [4], [V.int IntKind.i64 (0 : Int)]⟩ else none
def jj32 : Nat → Option JT := fun r => bif Nat.beq r 4 then some ⟨[0, 3], [4], [V.int IntKind.i64 (0 : Int)]⟩ else none
def X32 (h : Hp) (K : V → Hp → Prop) (p : Nat) (x_0 : Int) (x_1 : Int) (x_2 : Int) (x_3 : Int) (x_4 : Bool) : Prop := ∀ (h'1 : Hp), h'1 = h.alloc (O.row [V.int IntKind.u64 x_0, V.int IntKind.u8 x_1, V.int IntKind.u32 x_2, V.int IntKind.u16
  x_3, V.bool x_4] (1 : Nat) false) → ∃ (Q1 : List V → Hp → Prop), (∃ (I1 : List V → Hp → Prop), ∃ (x1 : List V → Hp → Nat), ([V.ptr (some (p, (0 : Nat))), V.ptr (some (h.next, (0 : Nat)))] = [V.ptr (some (p, (0 : Nat))), V.ptr (some
  (h.next, (0 : Nat)))] ∧ I1 [V.int IntKind.i64 (0 : Int)] h'1) ∧ ∀ (bs1 : Nat → Option V) (n1 : Int) (h1 : Hp), I1 [V.int IntKind.i64 n1] h1 → ∃ (a1 : Option (Nat × Nat)), ∃ (n2 : Nat), ∃ (f1 : Bool), h1.ld p (0 : Nat) = some (V.slc a1 n2
  f1) ∧ bif ltI n1 (↑n2 : Int) then ∃ (a2 : Option (Nat × Nat)), ∃ (n3 : Nat), ∃ (f2 : Bool), h1.ld p (0 : Nat) = some (V.slc a2 n3 f2) ∧ ((0 : Int) ≤ n1 ∧ n1 < (↑n3 : Int)) ∧ onS a2 fun (i1 o1 : Nat) => ∃ (n4 : Int), h1.ld i1 (o1 + n1.toNat
  * (5 : Nat) + (0 : Nat)) = some (V.int IntKind.u64 n4) ∧ ∃ (n5 : Int), h1.ld h.next (0 : Nat) = some (V.int IntKind.u64 n5) ∧ bif ltI n4 n5 then [V.ptr (some (p, (0 : Nat))), V.ptr (some (h.next, (0 : Nat)))] = [V.ptr (some (p, (0 :
  Nat))), V.ptr (some (h.next, (0 : Nat)))] ∧ I1 [V.int IntKind.i64 (IntKind.i64.wrap (n1 + (1 : Int)))] h1 ∧ x1 [V.int IntKind.i64 (IntKind.i64.wrap (n1 + (1 : Int)))] h1 < x1 [V.int IntKind.i64 n1] h1 else [V.ptr (some (p, (0 : Nat))),
  V.ptr (some (h.next, (0 : Nat)))] = [V.ptr (some (p, (0 : Nat))), V.ptr (some (h.next, (0 : Nat)))] ∧ Q1 [V.int IntKind.i64 n1] h1 else [V.ptr (some (p, (0 : Nat))), V.ptr (some (h.next, (0 : Nat)))] = [V.ptr (some (p, (0 : Nat))), V.ptr
  (some (h.next, (0 : Nat)))] ∧ Q1 [V.int IntKind.i64 n1] h1) ∧ ∀ (bs2 : Nat → Option V) (n6 : Int) (h2 : Hp), Q1 [V.int IntKind.i64 n6] h2 → ∃ (a3 : Option (Nat × Nat)), ∃ (n7 : Nat), ∃ (f3 : Bool), h2.ld p (0 : Nat) = some (V.slc a3 n7 f3)
  ∧ ∃ (a4 : Option (Nat × Nat)), ∃ (n8 : Nat), ∃ (f4 : Bool), xslice T h2 (31 : Nat) (V.slc a3 n7 f3) none (some (V.int IntKind.i64 n6)) none = some (V.slc a4 n8 f4) ∧ ∃ (p1 : Option (Nat × Nat)), ∃ (n9 : Nat), ∃ (f5 : Bool), ∃ (h'2 : Hp),
  xapp T h2 (31 : Nat) (31 : Nat) (V.slc none (0 : Nat) true) (V.slc a4 n8 f4) = some (V.slc p1 n9 f5, h'2) ∧ ∃ (n10 : Int), ∃ (n11 : Int), ∃ (n12 : Int), ∃ (n13 : Int), ∃ (b1 : Bool), h'2.lda h.next (0 : Nat) (5 : Nat) = some (V.agg [V.int
  IntKind.u64 n10, V.int IntKind.u8 n11, V.int IntKind.u32 n12, V.int IntKind.u16 n13, V.bool b1]) ∧ ∀ (h'3 : Hp), h'3 = h'2.alloc (O.row [V.int IntKind.u64 n10, V.int IntKind.u8 n11, V.int IntKind.u32 n12, V.int IntKind.u16 n13, V.bool b1]
  (5 : Nat) false) → ∃ (p2 : Option (Nat × Nat)), ∃ (n14 : Nat), ∃ (f6 : Bool), ∃ (h'4 : Hp), xapp T h'3 (31 : Nat) (31 : Nat) (V.slc p1 n9 f5) (V.slc (some (h'2.next, (0 : Nat))) (1 : Nat) true) = some (V.slc p2 n14 f6, h'4) ∧ ∃ (a5 :
  Option (Nat × Nat)), ∃ (n15 : Nat), ∃ (f7 : Bool), h'4.ld p (0 : Nat) = some (V.slc a5 n15 f7) ∧ ∃ (a6 : Option (Nat × Nat)), ∃ (n16 : Nat), ∃ (f8 : Bool), xslice T h'4 (31 : Nat) (V.slc a5 n15 f7) (some (V.int IntKind.i64 n6)) none none =
  some (V.slc a6 n16 f8) ∧ ∃ (p3 : Option (Nat × Nat)), ∃ (n17 : Nat), ∃ (f9 : Bool), ∃ (h'5 : Hp), xapp T h'4 (31 : Nat) (31 : Nat) (V.slc p2 n14 f6) (V.slc a6 n16 f8) = some (V.slc p3 n17 f9, h'5) ∧ ∃ (h'6 : Hp), h'5.st p (0 : Nat) [V.slc
  p3 n17 f9] = some h'6 ∧ K (V.tup []) h'6
theorem y32 (h : Hp) (K : V → Hp → Prop) (p : Nat) (x_0 : Int) (x_1 : Int) (x_2 : Int) (x_3 : Int) (x_4 : Bool) : X32 h K p x_0 x_1 x_2 x_3 x_4 = fnX Try.prog T F jl32 jj32 Try.f32 [V.ptr (some (p, (0 : Nat))), V.agg [V.int IntKind.u64 x_0,
  V.int IntKind.u8 x_1, V.int IntKind.u32 x_2, V.int IntKind.u16 x_3, V.bool x_4]] h K := by kernel_rfl
theorem x32 {h : Hp} {K : V → Hp → Prop} (p : Nat) (x_0 : Int) (x_1 : Int) (x_2 : Int) (x_3 : Int) (x_4 : Bool) (hx : X32 h K p x_0 x_1 x_2 x_3 x_4) : XCalls Try.prog 32 [V.ptr (some (p, (0 : Nat))), V.agg [V.int IntKind.u64 x_0, V.int
  IntKind.u8 x_1, V.int IntKind.u32 x_2, V.int IntKind.u16 x_3, V.bool x_4]] h K :=
  XCalls.ofX tok fok mixed (JL := jl32) (JJ := jj32) Try.func32 ((y32 h K p x_0 x_1 x_2 x_3 x_4) ▸ hx)
/-! 20: (*stevedore/stevedoreref22.Ports).Bind -/
-- loop 8: stays p(0), socket(1), b(5); turns i(7)
def jl20 : Nat → Option JT := fun r => bif Nat.beq r 8 then some ⟨[0, 1, 5], [7], [V.int IntKind.i64 (0 : Int)]⟩ else none
def jj20 : Nat → Option JT := fun r => none
def X20 (h : Hp) (K : V → Hp → Prop) (p : Nat) (socket : Int) (b_0 : Int) (b_1 : Int) (b_2 : Int) (b_3 : Bool) : Prop := ∀ (h'1 : Hp), h'1 = h.alloc (O.row [V.int IntKind.u8 b_0, V.int IntKind.u32 b_1, V.int IntKind.u16 b_2, V.bool b_3] (1 :
  Nat) false) → ∃ (n1 : Int), h'1.ld h.next (0 : Nat) = some (V.int IntKind.u8 n1) ∧ XCalls Try.prog (30 : Nat) [V.int IntKind.u8 n1] h'1 fun (v1 : V) (h'2 : Hp) => ∃ (b1 : Bool), v1 = V.bool b1 ∧ bif !b1 then K (V.int IntKind.i64 (2 : Int))
  h'2 else ∃ (n2 : Int), h'2.ld h.next (2 : Nat) = some (V.int IntKind.u16 n2) ∧ bif n2 == (0 : Int) then K (V.int IntKind.i64 (2 : Int)) h'2 else XCalls Try.prog (13 : Nat) [V.ptr (some (p, (0 : Nat))), V.int IntKind.u64 socket] h'2 fun (v2
  : V) (h'3 : Hp) => ∃ (n3 : Int), v2 = V.int IntKind.i64 n3 ∧ bif !ltI n3 (0 : Int) then K (V.int IntKind.i64 (7 : Int)) h'3 else ∃ (a1 : Option (Nat × Nat)), ∃ (n4 : Nat), ∃ (f1 : Bool), h'3.ld p (0 : Nat) = some (V.slc a1 n4 f1) ∧ bif
  !ltI (↑n4 : Int) (1024 : Int) then K (V.int IntKind.i64 (6 : Int)) h'3 else ∃ (I1 : List V → Hp → Prop), ∃ (x1 : List V → Hp → Nat), ([V.ptr (some (p, (0 : Nat))), V.int IntKind.u64 socket, V.ptr (some (h.next, (0 : Nat)))] = [V.ptr (some
  (p, (0 : Nat))), V.int IntKind.u64 socket, V.ptr (some (h.next, (0 : Nat)))] ∧ I1 [V.int IntKind.i64 (0 : Int)] h'3) ∧ ∀ (bs1 : Nat → Option V) (n5 : Int) (h1 : Hp), I1 [V.int IntKind.i64 n5] h1 → ∃ (a2 : Option (Nat × Nat)), ∃ (n6 : Nat),
  ∃ (f2 : Bool), h1.ld p (0 : Nat) = some (V.slc a2 n6 f2) ∧ bif ltI n5 (↑n6 : Int) then ∃ (a3 : Option (Nat × Nat)), ∃ (n7 : Nat), ∃ (f3 : Bool), h1.ld p (0 : Nat) = some (V.slc a3 n7 f3) ∧ ((0 : Int) ≤ n5 ∧ n5 < (↑n7 : Int)) ∧ onS a3 fun
  (i1 o1 : Nat) => ∃ (n8 : Int), ∃ (n9 : Int), ∃ (n10 : Int), ∃ (b2 : Bool), h1.lda i1 (o1 + n5.toNat * (5 : Nat) + (1 : Nat)) (4 : Nat) = some (V.agg [V.int IntKind.u8 n8, V.int IntKind.u32 n9, V.int IntKind.u16 n10, V.bool b2]) ∧ ∃ (n11 :
  Int), ∃ (n12 : Int), ∃ (n13 : Int), ∃ (b3 : Bool), h1.lda h.next (0 : Nat) (4 : Nat) = some (V.agg [V.int IntKind.u8 n11, V.int IntKind.u32 n12, V.int IntKind.u16 n13, V.bool b3]) ∧ XCalls Try.prog (31 : Nat) [V.agg [V.int IntKind.u8 n8,
  V.int IntKind.u32 n9, V.int IntKind.u16 n10, V.bool b2], V.agg [V.int IntKind.u8 n11, V.int IntKind.u32 n12, V.int IntKind.u16 n13, V.bool b3]] h1 fun (v3 : V) (h'4 : Hp) => ∃ (b4 : Bool), v3 = V.bool b4 ∧ bif !b4 then K (V.int IntKind.i64
  (220 : Int)) h'4 else [V.ptr (some (p, (0 : Nat))), V.int IntKind.u64 socket, V.ptr (some (h.next, (0 : Nat)))] = [V.ptr (some (p, (0 : Nat))), V.int IntKind.u64 socket, V.ptr (some (h.next, (0 : Nat)))] ∧ I1 [V.int IntKind.i64
  (IntKind.i64.wrap (n5 + (1 : Int)))] h'4 ∧ x1 [V.int IntKind.i64 (IntKind.i64.wrap (n5 + (1 : Int)))] h'4 < x1 [V.int IntKind.i64 n5] h1 else ∃ (n14 : Int), ∃ (n15 : Int), ∃ (n16 : Int), ∃ (b5 : Bool), h1.lda h.next (0 : Nat) (4 : Nat) =
  some (V.agg [V.int IntKind.u8 n14, V.int IntKind.u32 n15, V.int IntKind.u16 n16, V.bool b5]) ∧ XCalls Try.prog (32 : Nat) [V.ptr (some (p, (0 : Nat))), V.agg [V.int IntKind.u64 socket, V.int IntKind.u8 n14, V.int IntKind.u32 n15, V.int
  IntKind.u16 n16, V.bool b5]] h1 fun (v4 : V) (h'5 : Hp) => K (V.int IntKind.i64 (0 : Int)) h'5
theorem y20 (h : Hp) (K : V → Hp → Prop) (p : Nat) (socket : Int) (b_0 : Int) (b_1 : Int) (b_2 : Int) (b_3 : Bool) : X20 h K p socket b_0 b_1 b_2 b_3 = fnX Try.prog T F jl20 jj20 Try.f20 [V.ptr (some (p, (0 : Nat))), V.int IntKind.u64
  socket, V.agg [V.int IntKind.u8 b_0, V.int IntKind.u32 b_1, V.int IntKind.u16 b_2, V.bool b_3]] h K := by kernel_rfl
theorem x20 {h : Hp} {K : V → Hp → Prop} (p : Nat) (socket : Int) (b_0 : Int) (b_1 : Int) (b_2 : Int) (b_3 : Bool) (hx : X20 h K p socket b_0 b_1 b_2 b_3) : XCalls Try.prog 20 [V.ptr (some (p, (0 : Nat))), V.int IntKind.u64 socket, V.agg
  [V.int IntKind.u8 b_0, V.int IntKind.u32 b_1, V.int IntKind.u16 b_2, V.bool b_3]] h K :=
  XCalls.ofX tok fok mixed (JL := jl20) (JJ := jj20) Try.func20 ((y20 h K p socket b_0 b_1 b_2 b_3) ▸ hx)
/-! 21: (*stevedore/stevedoreref22.Ports).Lend -/
-- loop 16: stays p(0), socket(1), draw(3), b(6), n(10), i(11), x(12); turns free(13), k(14)
-- loop 9: stays p(0), socket(1), draw(3), b(6), n(10); turns i(11)
-- join 19: stays p(0), socket(1), x(12), i(11), n(10), b(6), draw(3); turns free(13)
def jl21 : Nat → Option JT := fun r => bif Nat.beq r 16 then some ⟨[0, 1, 3, 6, 10, 11, 12], [13, 14], [V.bool false, V.int IntKind.i64 (0 : Int)]⟩ else bif Nat.beq r 9 then some ⟨[0, 1, 3, 6, 10], [11], [V.int IntKind.i64 (0 : Int)]⟩ else none
def jj21 : Nat → Option JT := fun r => bif Nat.beq r 19 then some ⟨[0, 1, 12, 11, 10, 6, 3], [13], [V.bool false]⟩ else none
def X21 (h : Hp) (K : V → Hp → Prop) (p : Nat) (socket : Int) (b_0 : Int) (b_1 : Int) (b_2 : Int) (b_3 : Bool) (draw : Int) : Prop := ∀ (h'1 : Hp), h'1 = h.alloc (O.row [V.int IntKind.u8 b_0, V.int IntKind.u32 b_1, V.int IntKind.u16 b_2,
  V.bool b_3] (1 : Nat) false) → ∃ (n1 : Int), h'1.ld h.next (0 : Nat) = some (V.int IntKind.u8 n1) ∧ XCalls Try.prog (30 : Nat) [V.int IntKind.u8 n1] h'1 fun (v1 : V) (h'2 : Hp) => ∃ (b1 : Bool), v1 = V.bool b1 ∧ bif !b1 then K (V.tup
  [V.int IntKind.u16 (0 : Int), V.int IntKind.i64 (2 : Int)]) h'2 else XCalls Try.prog (13 : Nat) [V.ptr (some (p, (0 : Nat))), V.int IntKind.u64 socket] h'2 fun (v2 : V) (h'3 : Hp) => ∃ (n2 : Int), v2 = V.int IntKind.i64 n2 ∧ bif !ltI n2 (0
  : Int) then K (V.tup [V.int IntKind.u16 (0 : Int), V.int IntKind.i64 (7 : Int)]) h'3 else ∃ (a1 : Option (Nat × Nat)), ∃ (n3 : Nat), ∃ (f1 : Bool), h'3.ld p (0 : Nat) = some (V.slc a1 n3 f1) ∧ bif !ltI (↑n3 : Int) (1024 : Int) then K
  (V.tup [V.int IntKind.u16 (0 : Int), V.int IntKind.i64 (6 : Int)]) h'3 else ∃ (I1 : List V → Hp → Prop), ∃ (x1 : List V → Hp → Nat), ([V.ptr (some (p, (0 : Nat))), V.int IntKind.u64 socket, V.int IntKind.u16 draw, V.ptr (some (h.next, (0 :
  Nat))), V.int IntKind.i64 (28232 : Int)] = [V.ptr (some (p, (0 : Nat))), V.int IntKind.u64 socket, V.int IntKind.u16 draw, V.ptr (some (h.next, (0 : Nat))), V.int IntKind.i64 (28232 : Int)] ∧ I1 [V.int IntKind.i64 (0 : Int)] h'3) ∧ ∀ (bs1
  : Nat → Option V) (n4 : Int) (h1 : Hp), I1 [V.int IntKind.i64 n4] h1 → bif ltI n4 (28232 : Int) then ∃ (n5 : Int), ∃ (n6 : Int), ∃ (n7 : Int), ∃ (b2 : Bool), h1.lda h.next (0 : Nat) (4 : Nat) = some (V.agg [V.int IntKind.u8 n5, V.int
  IntKind.u32 n6, V.int IntKind.u16 n7, V.bool b2]) ∧ ∀ (h'4 : Hp), h'4 = h1.alloc (O.row [V.int IntKind.u8 (0 : Int), V.int IntKind.u32 (0 : Int), V.int IntKind.u16 (0 : Int), V.bool false] (1 : Nat) false) → ∃ (h'5 : Hp), h'4.st h1.next (0
  : Nat) [V.int IntKind.u8 n5, V.int IntKind.u32 n6, V.int IntKind.u16 n7, V.bool b2] = some h'5 ∧ ∃ (h'6 : Hp), h'5.st h1.next (3 : Nat) [V.bool false] = some h'6 ∧ ¬(28232 : Int) = (0 : Int) ∧ ¬(28232 : Int) = (0 : Int) ∧ ∃ (h'7 : Hp),
  h'6.st h1.next (2 : Nat) [V.int IntKind.u16 (IntKind.u16.wrap (IntKind.i64.wrap ((32768 : Int) + (IntKind.i64.wrap ((IntKind.i64.wrap draw).tmod (28232 : Int) + n4)).tmod (28232 : Int))))] = some h'7 ∧ ∃ (Q1 : List V → Hp → Prop), (∃ (I2 :
  List V → Hp → Prop), ∃ (x2 : List V → Hp → Nat), ([V.ptr (some (p, (0 : Nat))), V.int IntKind.u64 socket, V.int IntKind.u16 draw, V.ptr (some (h.next, (0 : Nat))), V.int IntKind.i64 (28232 : Int), V.int IntKind.i64 n4, V.ptr (some
  (h1.next, (0 : Nat)))] = [V.ptr (some (p, (0 : Nat))), V.int IntKind.u64 socket, V.int IntKind.u16 draw, V.ptr (some (h.next, (0 : Nat))), V.int IntKind.i64 (28232 : Int), V.int IntKind.i64 n4, V.ptr (some (h1.next, (0 : Nat)))] ∧ I2
  [V.bool true, V.int IntKind.i64 (0 : Int)] h'7) ∧ ∀ (bs2 : Nat → Option V) (b3 : Bool) (n8 : Int) (h2 : Hp), I2 [V.bool b3, V.int IntKind.i64 n8] h2 → ∃ (a2 : Option (Nat × Nat)), ∃ (n9 : Nat), ∃ (f2 : Bool), h2.ld p (0 : Nat) = some
  (V.slc a2 n9 f2) ∧ bif ltI n8 (↑n9 : Int) then bif b3 then ∃ (a3 : Option (Nat × Nat)), ∃ (n10 : Nat), ∃ (f3 : Bool), h2.ld p (0 : Nat) = some (V.slc a3 n10 f3) ∧ ((0 : Int) ≤ n8 ∧ n8 < (↑n10 : Int)) ∧ onS a3 fun (i1 o1 : Nat) => ∃ (n11 :
  Int), ∃ (n12 : Int), ∃ (n13 : Int), ∃ (b4 : Bool), h2.lda i1 (o1 + n8.toNat * (5 : Nat) + (1 : Nat)) (4 : Nat) = some (V.agg [V.int IntKind.u8 n11, V.int IntKind.u32 n12, V.int IntKind.u16 n13, V.bool b4]) ∧ ∃ (n14 : Int), ∃ (n15 : Int), ∃
  (n16 : Int), ∃ (b5 : Bool), h2.lda h1.next (0 : Nat) (4 : Nat) = some (V.agg [V.int IntKind.u8 n14, V.int IntKind.u32 n15, V.int IntKind.u16 n16, V.bool b5]) ∧ XCalls Try.prog (33 : Nat) [V.agg [V.int IntKind.u8 n11, V.int IntKind.u32 n12,
  V.int IntKind.u16 n13, V.bool b4], V.agg [V.int IntKind.u8 n14, V.int IntKind.u32 n15, V.int IntKind.u16 n16, V.bool b5]] h2 fun (v3 : V) (h'8 : Hp) => ∃ (b6 : Bool), v3 = V.bool b6 ∧ [V.ptr (some (p, (0 : Nat))), V.int IntKind.u64 socket,
  V.int IntKind.u16 draw, V.ptr (some (h.next, (0 : Nat))), V.int IntKind.i64 (28232 : Int), V.int IntKind.i64 n4, V.ptr (some (h1.next, (0 : Nat)))] = [V.ptr (some (p, (0 : Nat))), V.int IntKind.u64 socket, V.int IntKind.u16 draw, V.ptr
  (some (h.next, (0 : Nat))), V.int IntKind.i64 (28232 : Int), V.int IntKind.i64 n4, V.ptr (some (h1.next, (0 : Nat)))] ∧ I2 [V.bool !b6, V.int IntKind.i64 (IntKind.i64.wrap (n8 + (1 : Int)))] h'8 ∧ x2 [V.bool !b6, V.int IntKind.i64
  (IntKind.i64.wrap (n8 + (1 : Int)))] h'8 < x2 [V.bool b3, V.int IntKind.i64 n8] h2 else [V.ptr (some (p, (0 : Nat))), V.int IntKind.u64 socket, V.ptr (some (h1.next, (0 : Nat))), V.int IntKind.i64 n4, V.int IntKind.i64 (28232 : Int), V.ptr
  (some (h.next, (0 : Nat))), V.int IntKind.u16 draw] = [V.ptr (some (p, (0 : Nat))), V.int IntKind.u64 socket, V.ptr (some (h1.next, (0 : Nat))), V.int IntKind.i64 n4, V.int IntKind.i64 (28232 : Int), V.ptr (some (h.next, (0 : Nat))), V.int
  IntKind.u16 draw] ∧ Q1 [V.bool b3] h2 else [V.ptr (some (p, (0 : Nat))), V.int IntKind.u64 socket, V.ptr (some (h1.next, (0 : Nat))), V.int IntKind.i64 n4, V.int IntKind.i64 (28232 : Int), V.ptr (some (h.next, (0 : Nat))), V.int
  IntKind.u16 draw] = [V.ptr (some (p, (0 : Nat))), V.int IntKind.u64 socket, V.ptr (some (h1.next, (0 : Nat))), V.int IntKind.i64 n4, V.int IntKind.i64 (28232 : Int), V.ptr (some (h.next, (0 : Nat))), V.int IntKind.u16 draw] ∧ Q1 [V.bool
  b3] h2) ∧ ∀ (bs3 : Nat → Option V) (b7 : Bool) (h3 : Hp), Q1 [V.bool b7] h3 → bif b7 then ∃ (n17 : Int), ∃ (n18 : Int), ∃ (n19 : Int), ∃ (b8 : Bool), h3.lda h1.next (0 : Nat) (4 : Nat) = some (V.agg [V.int IntKind.u8 n17, V.int IntKind.u32
  n18, V.int IntKind.u16 n19, V.bool b8]) ∧ XCalls Try.prog (32 : Nat) [V.ptr (some (p, (0 : Nat))), V.agg [V.int IntKind.u64 socket, V.int IntKind.u8 n17, V.int IntKind.u32 n18, V.int IntKind.u16 n19, V.bool b8]] h3 fun (v4 : V) (h'9 : Hp)
  => ∃ (n20 : Int), h'9.ld h1.next (2 : Nat) = some (V.int IntKind.u16 n20) ∧ K (V.tup [V.int IntKind.u16 n20, V.int IntKind.i64 (0 : Int)]) h'9 else [V.ptr (some (p, (0 : Nat))), V.int IntKind.u64 socket, V.int IntKind.u16 draw, V.ptr (some
  (h.next, (0 : Nat))), V.int IntKind.i64 (28232 : Int)] = [V.ptr (some (p, (0 : Nat))), V.int IntKind.u64 socket, V.int IntKind.u16 draw, V.ptr (some (h.next, (0 : Nat))), V.int IntKind.i64 (28232 : Int)] ∧ I1 [V.int IntKind.i64
  (IntKind.i64.wrap (n4 + (1 : Int)))] h3 ∧ x1 [V.int IntKind.i64 (IntKind.i64.wrap (n4 + (1 : Int)))] h3 < x1 [V.int IntKind.i64 n4] h1 else K (V.tup [V.int IntKind.u16 (0 : Int), V.int IntKind.i64 (220 : Int)]) h1
theorem y21 (h : Hp) (K : V → Hp → Prop) (p : Nat) (socket : Int) (b_0 : Int) (b_1 : Int) (b_2 : Int) (b_3 : Bool) (draw : Int) : X21 h K p socket b_0 b_1 b_2 b_3 draw = fnX Try.prog T F jl21 jj21 Try.f21 [V.ptr (some (p, (0 : Nat))), V.int
  IntKind.u64 socket, V.agg [V.int IntKind.u8 b_0, V.int IntKind.u32 b_1, V.int IntKind.u16 b_2, V.bool b_3], V.int IntKind.u16 draw] h K := by kernel_rfl
theorem x21 {h : Hp} {K : V → Hp → Prop} (p : Nat) (socket : Int) (b_0 : Int) (b_1 : Int) (b_2 : Int) (b_3 : Bool) (draw : Int) (hx : X21 h K p socket b_0 b_1 b_2 b_3 draw) : XCalls Try.prog 21 [V.ptr (some (p, (0 : Nat))), V.int IntKind.u64
  socket, V.agg [V.int IntKind.u8 b_0, V.int IntKind.u32 b_1, V.int IntKind.u16 b_2, V.bool b_3], V.int IntKind.u16 draw] h K :=
  XCalls.ofX tok fok mixed (JL := jl21) (JJ := jj21) Try.func21 ((y21 h K p socket b_0 b_1 b_2 b_3 draw) ▸ hx)
/-! 22: (*stevedore/stevedoreref22.Ports).Give -/
def jl22 : Nat → Option JT := fun r => none
def jj22 : Nat → Option JT := fun r => none
def X22 (h : Hp) (K : V → Hp → Prop) (p : Nat) (socket : Int) : Prop := XCalls Try.prog (13 : Nat) [V.ptr (some (p, (0 : Nat))), V.int IntKind.u64 socket] h fun (v1 : V) (h'1 : Hp) => ∃ (n1 : Int), v1 = V.int IntKind.i64 n1 ∧ bif ltI n1 (0 :
  Int) then K (V.int IntKind.i64 (0 : Int)) h'1 else ∃ (a1 : Option (Nat × Nat)), ∃ (n2 : Nat), ∃ (f1 : Bool), h'1.ld p (0 : Nat) = some (V.slc a1 n2 f1) ∧ ∃ (a2 : Option (Nat × Nat)), ∃ (n3 : Nat), ∃ (f2 : Bool), xslice T h'1 (31 : Nat)
  (V.slc a1 n2 f1) none (some (V.int IntKind.i64 n1)) none = some (V.slc a2 n3 f2) ∧ ∃ (p1 : Option (Nat × Nat)), ∃ (n4 : Nat), ∃ (f3 : Bool), ∃ (h'2 : Hp), xapp T h'1 (31 : Nat) (31 : Nat) (V.slc none (0 : Nat) true) (V.slc a2 n3 f2) = some
  (V.slc p1 n4 f3, h'2) ∧ ∃ (a3 : Option (Nat × Nat)), ∃ (n5 : Nat), ∃ (f4 : Bool), h'2.ld p (0 : Nat) = some (V.slc a3 n5 f4) ∧ ∃ (a4 : Option (Nat × Nat)), ∃ (n6 : Nat), ∃ (f5 : Bool), xslice T h'2 (31 : Nat) (V.slc a3 n5 f4) (some (V.int
  IntKind.i64 (IntKind.i64.wrap (n1 + (1 : Int))))) none none = some (V.slc a4 n6 f5) ∧ ∃ (p2 : Option (Nat × Nat)), ∃ (n7 : Nat), ∃ (f6 : Bool), ∃ (h'3 : Hp), xapp T h'2 (31 : Nat) (31 : Nat) (V.slc p1 n4 f3) (V.slc a4 n6 f5) = some (V.slc
  p2 n7 f6, h'3) ∧ ∃ (h'4 : Hp), h'3.st p (0 : Nat) [V.slc p2 n7 f6] = some h'4 ∧ K (V.int IntKind.i64 (1 : Int)) h'4
theorem y22 (h : Hp) (K : V → Hp → Prop) (p : Nat) (socket : Int) : X22 h K p socket = fnX Try.prog T F jl22 jj22 Try.f22 [V.ptr (some (p, (0 : Nat))), V.int IntKind.u64 socket] h K := by kernel_rfl
theorem x22 {h : Hp} {K : V → Hp → Prop} (p : Nat) (socket : Int) (hx : X22 h K p socket) : XCalls Try.prog 22 [V.ptr (some (p, (0 : Nat))), V.int IntKind.u64 socket] h K :=
  XCalls.ofX tok fok mixed (JL := jl22) (JJ := jj22) Try.func22 ((y22 h K p socket) ▸ hx)
/-! 15: (*stevedore/stevedoreref22.Ports).Who -/
-- loop 3: stays p(0), k(1), a(5); turns one(7), any(8), i(9)
-- join 9: stays b(10), any(8), p(0), i(9), k(1), a(5); turns one(7)
def jl15 : Nat → Option JT := fun r => bif Nat.beq r 3 then some ⟨[0, 1, 5], [7, 8, 9], [V.slc none (0 : Nat) true, V.slc none (0 : Nat) true, V.int IntKind.i64 (0 : Int)]⟩ else none
def jj15 : Nat → Option JT := fun r => bif Nat.beq r 9 then some ⟨[10, 8, 0, 9, 1, 5], [7], [V.slc none (0 : Nat) true]⟩ else none
def X15 (h : Hp) (K : V → Hp → Prop) (p : Nat) (k : Int) (a_0 : Int) (a_1 : Int) : Prop := ∀ (h'1 : Hp), h'1 = h.alloc (O.row [V.int IntKind.u32 a_0, V.int IntKind.u16 a_1] (1 : Nat) false) → ∃ (I1 : List V → Hp → Prop), ∃ (x1 : List V → Hp
  → Nat), ([V.ptr (some (p, (0 : Nat))), V.int IntKind.u8 k, V.ptr (some (h.next, (0 : Nat)))] = [V.ptr (some (p, (0 : Nat))), V.int IntKind.u8 k, V.ptr (some (h.next, (0 : Nat)))] ∧ I1 [V.slc none (0 : Nat) true, V.slc none (0 : Nat) true,
  V.int IntKind.i64 (0 : Int)] h'1) ∧ ∀ (bs1 : Nat → Option V) (a1 : Option (Nat × Nat)) (n1 : Nat) (f1 : Bool) (a2 : Option (Nat × Nat)) (n2 : Nat) (f2 : Bool) (n3 : Int) (h1 : Hp), I1 [V.slc a1 n1 f1, V.slc a2 n2 f2, V.int IntKind.i64 n3]
  h1 → ∃ (a3 : Option (Nat × Nat)), ∃ (n4 : Nat), ∃ (f3 : Bool), h1.ld p (0 : Nat) = some (V.slc a3 n4 f3) ∧ bif ltI n3 (↑n4 : Int) then ∃ (a4 : Option (Nat × Nat)), ∃ (n5 : Nat), ∃ (f4 : Bool), h1.ld p (0 : Nat) = some (V.slc a4 n5 f4) ∧
  ((0 : Int) ≤ n3 ∧ n3 < (↑n5 : Int)) ∧ onS a4 fun (i1 o1 : Nat) => ∃ (n6 : Int), ∃ (n7 : Int), ∃ (n8 : Int), ∃ (b1 : Bool), h1.lda i1 (o1 + n3.toNat * (5 : Nat) + (1 : Nat)) (4 : Nat) = some (V.agg [V.int IntKind.u8 n6, V.int IntKind.u32
  n7, V.int IntKind.u16 n8, V.bool b1]) ∧ ∀ (h'2 : Hp), h'2 = h1.alloc (O.row [V.int IntKind.u8 (0 : Int), V.int IntKind.u32 (0 : Int), V.int IntKind.u16 (0 : Int), V.bool false] (1 : Nat) false) → ∃ (h'3 : Hp), h'2.st h1.next (0 : Nat)
  [V.int IntKind.u8 n6, V.int IntKind.u32 n7, V.int IntKind.u16 n8, V.bool b1] = some h'3 ∧ ∃ (n9 : Int), h'3.ld h1.next (0 : Nat) = some (V.int IntKind.u8 n9) ∧ bif n9 != k then [V.ptr (some (p, (0 : Nat))), V.int IntKind.u8 k, V.ptr (some
  (h.next, (0 : Nat)))] = [V.ptr (some (p, (0 : Nat))), V.int IntKind.u8 k, V.ptr (some (h.next, (0 : Nat)))] ∧ I1 [V.slc a1 n1 f1, V.slc a2 n2 f2, V.int IntKind.i64 (IntKind.i64.wrap (n3 + (1 : Int)))] h'3 ∧ x1 [V.slc a1 n1 f1, V.slc a2 n2
  f2, V.int IntKind.i64 (IntKind.i64.wrap (n3 + (1 : Int)))] h'3 < x1 [V.slc a1 n1 f1, V.slc a2 n2 f2, V.int IntKind.i64 n3] h1 else ∃ (n10 : Int), h'3.ld h1.next (2 : Nat) = some (V.int IntKind.u16 n10) ∧ ∃ (n11 : Int), h'3.ld h.next (1 :
  Nat) = some (V.int IntKind.u16 n11) ∧ bif n10 != n11 then [V.ptr (some (p, (0 : Nat))), V.int IntKind.u8 k, V.ptr (some (h.next, (0 : Nat)))] = [V.ptr (some (p, (0 : Nat))), V.int IntKind.u8 k, V.ptr (some (h.next, (0 : Nat)))] ∧ I1 [V.slc
  a1 n1 f1, V.slc a2 n2 f2, V.int IntKind.i64 (IntKind.i64.wrap (n3 + (1 : Int)))] h'3 ∧ x1 [V.slc a1 n1 f1, V.slc a2 n2 f2, V.int IntKind.i64 (IntKind.i64.wrap (n3 + (1 : Int)))] h'3 < x1 [V.slc a1 n1 f1, V.slc a2 n2 f2, V.int IntKind.i64
  n3] h1 else ∃ (Q1 : List V → Hp → Prop), (∃ (n12 : Int), h'3.ld h1.next (1 : Nat) = some (V.int IntKind.u32 n12) ∧ ∃ (n13 : Int), h'3.ld h.next (0 : Nat) = some (V.int IntKind.u32 n13) ∧ bif n12 == n13 then ∃ (a5 : Option (Nat × Nat)), ∃
  (n14 : Nat), ∃ (f5 : Bool), h'3.ld p (0 : Nat) = some (V.slc a5 n14 f5) ∧ ((0 : Int) ≤ n3 ∧ n3 < (↑n14 : Int)) ∧ onS a5 fun (i2 o2 : Nat) => ∃ (n15 : Int), h'3.ld i2 (o2 + n3.toNat * (5 : Nat) + (0 : Nat)) = some (V.int IntKind.u64 n15) ∧
  ∀ (h'4 : Hp), h'4 = h'3.alloc (O.row [V.int IntKind.u64 n15] (1 : Nat) false) → ∃ (p1 : Option (Nat × Nat)), ∃ (n16 : Nat), ∃ (f6 : Bool), ∃ (h'5 : Hp), xapp T h'4 (46 : Nat) (46 : Nat) (V.slc a1 n1 f1) (V.slc (some (h'3.next, (0 : Nat)))
  (1 : Nat) true) = some (V.slc p1 n16 f6, h'5) ∧ [V.ptr (some (h1.next, (0 : Nat))), V.slc a2 n2 f2, V.ptr (some (p, (0 : Nat))), V.int IntKind.i64 n3, V.int IntKind.u8 k, V.ptr (some (h.next, (0 : Nat)))] = [V.ptr (some (h1.next, (0 :
  Nat))), V.slc a2 n2 f2, V.ptr (some (p, (0 : Nat))), V.int IntKind.i64 n3, V.int IntKind.u8 k, V.ptr (some (h.next, (0 : Nat)))] ∧ Q1 [V.slc p1 n16 f6] h'5 else [V.ptr (some (h1.next, (0 : Nat))), V.slc a2 n2 f2, V.ptr (some (p, (0 :
  Nat))), V.int IntKind.i64 n3, V.int IntKind.u8 k, V.ptr (some (h.next, (0 : Nat)))] = [V.ptr (some (h1.next, (0 : Nat))), V.slc a2 n2 f2, V.ptr (some (p, (0 : Nat))), V.int IntKind.i64 n3, V.int IntKind.u8 k, V.ptr (some (h.next, (0 :
  Nat)))] ∧ Q1 [V.slc a1 n1 f1] h'3) ∧ ∀ (bs2 : Nat → Option V) (a6 : Option (Nat × Nat)) (n17 : Nat) (f7 : Bool) (h2 : Hp), Q1 [V.slc a6 n17 f7] h2 → ∃ (n18 : Int), h2.ld h1.next (1 : Nat) = some (V.int IntKind.u32 n18) ∧ bif n18 == (0 :
  Int) then ∃ (a7 : Option (Nat × Nat)), ∃ (n19 : Nat), ∃ (f8 : Bool), h2.ld p (0 : Nat) = some (V.slc a7 n19 f8) ∧ ((0 : Int) ≤ n3 ∧ n3 < (↑n19 : Int)) ∧ onS a7 fun (i3 o3 : Nat) => ∃ (n20 : Int), h2.ld i3 (o3 + n3.toNat * (5 : Nat) + (0 :
  Nat)) = some (V.int IntKind.u64 n20) ∧ ∀ (h'6 : Hp), h'6 = h2.alloc (O.row [V.int IntKind.u64 n20] (1 : Nat) false) → ∃ (p2 : Option (Nat × Nat)), ∃ (n21 : Nat), ∃ (f9 : Bool), ∃ (h'7 : Hp), xapp T h'6 (46 : Nat) (46 : Nat) (V.slc a2 n2
  f2) (V.slc (some (h2.next, (0 : Nat))) (1 : Nat) true) = some (V.slc p2 n21 f9, h'7) ∧ [V.ptr (some (p, (0 : Nat))), V.int IntKind.u8 k, V.ptr (some (h.next, (0 : Nat)))] = [V.ptr (some (p, (0 : Nat))), V.int IntKind.u8 k, V.ptr (some
  (h.next, (0 : Nat)))] ∧ I1 [V.slc a6 n17 f7, V.slc p2 n21 f9, V.int IntKind.i64 (IntKind.i64.wrap (n3 + (1 : Int)))] h'7 ∧ x1 [V.slc a6 n17 f7, V.slc p2 n21 f9, V.int IntKind.i64 (IntKind.i64.wrap (n3 + (1 : Int)))] h'7 < x1 [V.slc a1 n1
  f1, V.slc a2 n2 f2, V.int IntKind.i64 n3] h1 else [V.ptr (some (p, (0 : Nat))), V.int IntKind.u8 k, V.ptr (some (h.next, (0 : Nat)))] = [V.ptr (some (p, (0 : Nat))), V.int IntKind.u8 k, V.ptr (some (h.next, (0 : Nat)))] ∧ I1 [V.slc a6 n17
  f7, V.slc a2 n2 f2, V.int IntKind.i64 (IntKind.i64.wrap (n3 + (1 : Int)))] h2 ∧ x1 [V.slc a6 n17 f7, V.slc a2 n2 f2, V.int IntKind.i64 (IntKind.i64.wrap (n3 + (1 : Int)))] h2 < x1 [V.slc a1 n1 f1, V.slc a2 n2 f2, V.int IntKind.i64 n3] h1
  else bif ltI (0 : Int) (↑n1 : Int) then K (V.slc a1 n1 f1) h1 else K (V.slc a2 n2 f2) h1
theorem y15 (h : Hp) (K : V → Hp → Prop) (p : Nat) (k : Int) (a_0 : Int) (a_1 : Int) : X15 h K p k a_0 a_1 = fnX Try.prog T F jl15 jj15 Try.f15 [V.ptr (some (p, (0 : Nat))), V.int IntKind.u8 k, V.agg [V.int IntKind.u32 a_0, V.int IntKind.u16 a_1]] h K := by kernel_rfl
theorem x15 {h : Hp} {K : V → Hp → Prop} (p : Nat) (k : Int) (a_0 : Int) (a_1 : Int) (hx : X15 h K p k a_0 a_1) : XCalls Try.prog 15 [V.ptr (some (p, (0 : Nat))), V.int IntKind.u8 k, V.agg [V.int IntKind.u32 a_0, V.int IntKind.u16 a_1]] h K :=
  XCalls.ofX tok fok mixed (JL := jl15) (JJ := jj15) Try.func15 ((y15 h K p k a_0 a_1) ▸ hx)
/-! 10: stevedore/stevedorelaw22.does -/
def jl10 : Nat → Option JT := fun r => none
def jj10 : Nat → Option JT := fun r => none
def X10 (h : Hp) (K : V → Hp → Prop) (p : Nat) (r : Nat) (s_0 : Int) (s_1 : Int) (s_2 : Int) (s_3 : Int) (s_4 : Int) (s_5 : Int) (s_6 : Bool) (s_7 : Int) : Prop := ∀ (h'1 : Hp), h'1 = h.alloc (O.row [V.int IntKind.i64 s_0, V.int IntKind.u64
  s_1, V.int IntKind.u64 s_2, V.int IntKind.u8 s_3, V.int IntKind.u32 s_4, V.int IntKind.u16 s_5, V.bool s_6, V.int IntKind.u16 s_7] (1 : Nat) false) → ∃ (n1 : Int), h'1.ld h.next (0 : Nat) = some (V.int IntKind.i64 n1) ∧ bif n1 == (0 : Int)
  then ∃ (n2 : Int), h'1.ld h.next (1 : Nat) = some (V.int IntKind.u64 n2) ∧ ∃ (n3 : Int), ∃ (n4 : Int), ∃ (n5 : Int), ∃ (b1 : Bool), h'1.lda h.next (3 : Nat) (4 : Nat) = some (V.agg [V.int IntKind.u8 n3, V.int IntKind.u32 n4, V.int
  IntKind.u16 n5, V.bool b1]) ∧ ∃ (n6 : Int), h'1.ld h.next (1 : Nat) = some (V.int IntKind.u64 n6) ∧ ∃ (n7 : Int), ∃ (n8 : Int), ∃ (n9 : Int), ∃ (b2 : Bool), h'1.lda h.next (3 : Nat) (4 : Nat) = some (V.agg [V.int IntKind.u8 n7, V.int
  IntKind.u32 n8, V.int IntKind.u16 n9, V.bool b2]) ∧ XCalls Try.prog (16 : Nat) [V.ptr (some (p, (0 : Nat))), V.int IntKind.u64 n2, V.agg [V.int IntKind.u8 n3, V.int IntKind.u32 n4, V.int IntKind.u16 n5, V.bool b1]] h'1 fun (v1 : V) (h'2 :
  Hp) => ∃ (n10 : Int), v1 = V.int IntKind.i64 n10 ∧ (∃ (n11 : Int), ∃ (n12 : Int), ∃ (n13 : Int), ∃ (b3 : Bool), h'2.lda h.next (3 : Nat) (4 : Nat) = some (V.agg [V.int IntKind.u8 n11, V.int IntKind.u32 n12, V.int IntKind.u16 n13, V.bool
  b3]) ∧ V.agg [V.int IntKind.u8 n11, V.int IntKind.u32 n12, V.int IntKind.u16 n13, V.bool b3] = V.agg [V.int IntKind.u8 n7, V.int IntKind.u32 n8, V.int IntKind.u16 n9, V.bool b2]) ∧ V.ptr (some (h.next, (3 : Nat))) = V.ptr (some (h.next, (3
  : Nat))) ∧ (∃ (n14 : Int), h'2.ld h.next (1 : Nat) = some (V.int IntKind.u64 n14) ∧ V.int IntKind.u64 n14 = V.int IntKind.u64 n6) ∧ V.ptr (some (h.next, (1 : Nat))) = V.ptr (some (h.next, (1 : Nat))) ∧ V.ptr (some (r, (0 : Nat))) = V.ptr
  (some (r, (0 : Nat))) ∧ XCalls Try.prog (20 : Nat) [V.ptr (some (r, (0 : Nat))), V.int IntKind.u64 n6, V.agg [V.int IntKind.u8 n7, V.int IntKind.u32 n8, V.int IntKind.u16 n9, V.bool b2]] h'2 fun (v2 : V) (h'3 : Hp) => ∃ (n15 : Int), v2 =
  V.int IntKind.i64 n15 ∧ K (V.bool (n10 == n15)) h'3 else bif n1 == (1 : Int) then ∃ (n16 : Int), h'1.ld h.next (1 : Nat) = some (V.int IntKind.u64 n16) ∧ ∃ (n17 : Int), ∃ (n18 : Int), ∃ (n19 : Int), ∃ (b4 : Bool), h'1.lda h.next (3 : Nat)
  (4 : Nat) = some (V.agg [V.int IntKind.u8 n17, V.int IntKind.u32 n18, V.int IntKind.u16 n19, V.bool b4]) ∧ ∃ (n20 : Int), h'1.ld h.next (7 : Nat) = some (V.int IntKind.u16 n20) ∧ XCalls Try.prog (17 : Nat) [V.ptr (some (p, (0 : Nat))),
  V.int IntKind.u64 n16, V.agg [V.int IntKind.u8 n17, V.int IntKind.u32 n18, V.int IntKind.u16 n19, V.bool b4], V.int IntKind.u16 n20] h'1 fun (v3 : V) (h'4 : Hp) => ∃ (n21 : Int), ∃ (n22 : Int), v3 = V.tup [V.int IntKind.u16 n21, V.int
  IntKind.i64 n22] ∧ ∃ (n23 : Int), h'4.ld h.next (1 : Nat) = some (V.int IntKind.u64 n23) ∧ ∃ (n24 : Int), ∃ (n25 : Int), ∃ (n26 : Int), ∃ (b5 : Bool), h'4.lda h.next (3 : Nat) (4 : Nat) = some (V.agg [V.int IntKind.u8 n24, V.int
  IntKind.u32 n25, V.int IntKind.u16 n26, V.bool b5]) ∧ ∃ (n27 : Int), h'4.ld h.next (7 : Nat) = some (V.int IntKind.u16 n27) ∧ XCalls Try.prog (21 : Nat) [V.ptr (some (r, (0 : Nat))), V.int IntKind.u64 n23, V.agg [V.int IntKind.u8 n24,
  V.int IntKind.u32 n25, V.int IntKind.u16 n26, V.bool b5], V.int IntKind.u16 n27] h'4 fun (v4 : V) (h'5 : Hp) => ∃ (n28 : Int), ∃ (n29 : Int), v4 = V.tup [V.int IntKind.u16 n28, V.int IntKind.i64 n29] ∧ bif n21 == n28 then K (V.bool (n22 ==
  n29)) h'5 else K (V.bool false) h'5 else ∃ (n30 : Int), h'1.ld h.next (1 : Nat) = some (V.int IntKind.u64 n30) ∧ ∃ (n31 : Int), h'1.ld h.next (2 : Nat) = some (V.int IntKind.u64 n31) ∧ ∀ (h'6 : Hp), h'6 = h'1.alloc (O.row [V.int
  IntKind.u64 n30, V.int IntKind.u64 n31] (1 : Nat) false) → XCalls Try.prog (18 : Nat) [V.ptr (some (p, (0 : Nat))), V.slc (some (h'1.next, (0 : Nat))) (2 : Nat) true] h'6 fun (v5 : V) (h'7 : Hp) => ∃ (n32 : Int), v5 = V.int IntKind.i64 n32
  ∧ ∃ (n33 : Int), h'7.ld h.next (1 : Nat) = some (V.int IntKind.u64 n33) ∧ XCalls Try.prog (22 : Nat) [V.ptr (some (r, (0 : Nat))), V.int IntKind.u64 n33] h'7 fun (v6 : V) (h'8 : Hp) => ∃ (n34 : Int), v6 = V.int IntKind.i64 n34 ∧ ∃ (n35 :
  Int), h'8.ld h.next (2 : Nat) = some (V.int IntKind.u64 n35) ∧ XCalls Try.prog (22 : Nat) [V.ptr (some (r, (0 : Nat))), V.int IntKind.u64 n35] h'8 fun (v7 : V) (h'9 : Hp) => ∃ (n36 : Int), v7 = V.int IntKind.i64 n36 ∧ K (V.bool (n32 ==
  IntKind.i64.wrap (n34 + n36))) h'9
theorem x10 {h : Hp} {K : V → Hp → Prop} (p : Nat) (r : Nat) (s_0 : Int) (s_1 : Int) (s_2 : Int) (s_3 : Int) (s_4 : Int) (s_5 : Int) (s_6 : Bool) (s_7 : Int) (hx : X10 h K p r s_0 s_1 s_2 s_3 s_4 s_5 s_6 s_7) : XCalls Try.prog 10 [V.ptr
  (some (p, (0 : Nat))), V.ptr (some (r, (0 : Nat))), V.agg [V.int IntKind.i64 s_0, V.int IntKind.u64 s_1, V.int IntKind.u64 s_2, V.int IntKind.u8 s_3, V.int IntKind.u32 s_4, V.int IntKind.u16 s_5, V.bool s_6, V.int IntKind.u16 s_7]] h K :=
  XCalls.ofX tok fok mixed (JL := jl10) (JJ := jj10) Try.func10 (cast (by kernel_rfl) hx)
/-! 3: stevedore/stevedorelaw22.PortsPlay -/
-- loop 18: stays script(0), k(1), a(5), p(7), r(8), i(9), l(13), m(14); turns n(15)
-- loop 6: stays script(0), k(1), a(5), p(7), r(8); turns i(9)
-- join 14: stays p(7), k(1), a(5), r(8), i(9), script(0); turns 
def jl3 : Nat → Option JT := fun r => bif Nat.beq r 18 then some ⟨[0, 1, 5, 7, 8, 9, 13, 14], [15], [V.int IntKind.i64 (0 : Int)]⟩ else bif Nat.beq r 6 then some ⟨[0, 1, 5, 7, 8], [9], [V.int IntKind.i64 (0 : Int)]⟩ else none
def jj3 : Nat → Option JT := fun r => bif Nat.beq r 14 then some ⟨[7, 1, 5, 8, 9, 0], [], []⟩ else none
def X3 (h : Hp) (K : V → Hp → Prop) (script : Option (Nat × Nat)) (script_n : Nat) (script_f : Bool) (k : Int) (a_0 : Int) (a_1 : Int) : Prop := ∀ (h'1 : Hp), h'1 = h.alloc (O.row [V.int IntKind.u32 a_0, V.int IntKind.u16 a_1] (1 : Nat)
  false) → bif ltI (200 : Int) (↑script_n : Int) then XCalls Try.prog (8 : Nat) [] h'1 fun (v1 : V) (h'2 : Hp) => ∃ (b1 : Bool), v1 = V.bool b1 ∧ K (V.bool b1) h'2 else XCalls Try.prog (9 : Nat) [] h'1 fun (v2 : V) (h'3 : Hp) => ∃ (a1 :
  Option (Nat × Nat)), v2 = V.ptr a1 ∧ ∀ (h'4 : Hp), h'4 = h'3.alloc (O.row [V.slc none (0 : Nat) true] (1 : Nat) false) → ∃ (I1 : List V → Hp → Prop), ∃ (x1 : List V → Hp → Nat), ([V.slc script script_n script_f, V.int IntKind.u8 k, V.ptr
  (some (h.next, (0 : Nat))), V.ptr a1, V.ptr (some (h'3.next, (0 : Nat)))] = [V.slc script script_n script_f, V.int IntKind.u8 k, V.ptr (some (h.next, (0 : Nat))), V.ptr a1, V.ptr (some (h'3.next, (0 : Nat)))] ∧ I1 [V.int IntKind.i64 (0 :
  Int)] h'4) ∧ ∀ (bs1 : Nat → Option V) (n1 : Int) (h1 : Hp), I1 [V.int IntKind.i64 n1] h1 → bif ltI n1 (↑script_n : Int) then ((0 : Int) ≤ n1 ∧ n1 < (↑script_n : Int)) ∧ onS script fun (i1 o1 : Nat) => ∃ (n2 : Int), ∃ (n3 : Int), ∃ (n4 :
  Int), ∃ (n5 : Int), ∃ (n6 : Int), ∃ (n7 : Int), ∃ (b2 : Bool), ∃ (n8 : Int), h1.lda i1 (o1 + n1.toNat * (8 : Nat)) (8 : Nat) = some (V.agg [V.int IntKind.i64 n2, V.int IntKind.u64 n3, V.int IntKind.u64 n4, V.int IntKind.u8 n5, V.int
  IntKind.u32 n6, V.int IntKind.u16 n7, V.bool b2, V.int IntKind.u16 n8]) ∧ XCalls Try.prog (10 : Nat) [V.ptr a1, V.ptr (some (h'3.next, (0 : Nat))), V.agg [V.int IntKind.i64 n2, V.int IntKind.u64 n3, V.int IntKind.u64 n4, V.int IntKind.u8
  n5, V.int IntKind.u32 n6, V.int IntKind.u16 n7, V.bool b2, V.int IntKind.u16 n8]] h1 fun (v3 : V) (h'5 : Hp) => ∃ (b3 : Bool), v3 = V.bool b3 ∧ bif !b3 then K (V.bool false) h'5 else ∃ (a2 : Option (Nat × Nat)), ∃ (n9 : Nat), ∃ (f1 :
  Bool), h'5.ld h'3.next (0 : Nat) = some (V.slc a2 n9 f1) ∧ XCalls Try.prog (11 : Nat) [V.ptr a1] h'5 fun (v4 : V) (h'6 : Hp) => ∃ (n10 : Int), v4 = V.int IntKind.i64 n10 ∧ V.int IntKind.i64 (↑n9 : Int) = V.int IntKind.i64 (↑n9 : Int) ∧ (∃
  (a3 : Option (Nat × Nat)), ∃ (n11 : Nat), ∃ (f2 : Bool), h'6.ld h'3.next (0 : Nat) = some (V.slc a3 n11 f2) ∧ V.slc a3 n11 f2 = V.slc a2 n9 f1) ∧ V.ptr (some (h'3.next, (0 : Nat))) = V.ptr (some (h'3.next, (0 : Nat))) ∧ V.ptr (some
  (h'3.next, (0 : Nat))) = V.ptr (some (h'3.next, (0 : Nat))) ∧ V.ptr (some (h'3.next, (0 : Nat))) = V.ptr (some (h'3.next, (0 : Nat))) ∧ bif n10 != (↑n9 : Int) then K (V.bool false) h'6 else ((0 : Int) ≤ n1 ∧ n1 < (↑script_n : Int)) ∧ onS
  script fun (i2 o2 : Nat) => ∃ (n12 : Int), h'6.ld i2 (o2 + n1.toNat * (8 : Nat) + (1 : Nat)) = some (V.int IntKind.u64 n12) ∧ XCalls Try.prog (12 : Nat) [V.ptr a1, V.int IntKind.u64 n12] h'6 fun (v5 : V) (h'7 : Hp) => ∃ (n13 : Int), ∃ (n14
  : Int), ∃ (n15 : Int), ∃ (b4 : Bool), ∃ (b5 : Bool), v5 = V.tup [V.agg [V.int IntKind.u8 n13, V.int IntKind.u32 n14, V.int IntKind.u16 n15, V.bool b4], V.bool b5] ∧ ∀ (h'8 : Hp), h'8 = h'7.alloc (O.row [V.int IntKind.u8 (0 : Int), V.int
  IntKind.u32 (0 : Int), V.int IntKind.u16 (0 : Int), V.bool false] (1 : Nat) false) → ∃ (h'9 : Hp), h'8.st h'7.next (0 : Nat) [V.int IntKind.u8 n13, V.int IntKind.u32 n14, V.int IntKind.u16 n15, V.bool b4] = some h'9 ∧ ((0 : Int) ≤ n1 ∧ n1
  < (↑script_n : Int)) ∧ onS script fun (i3 o3 : Nat) => ∃ (n16 : Int), h'9.ld i3 (o3 + n1.toNat * (8 : Nat) + (1 : Nat)) = some (V.int IntKind.u64 n16) ∧ XCalls Try.prog (13 : Nat) [V.ptr (some (h'3.next, (0 : Nat))), V.int IntKind.u64 n16]
  h'9 fun (v6 : V) (h'10 : Hp) => ∃ (n17 : Int), v6 = V.int IntKind.i64 n17 ∧ ∃ (Q1 : List V → Hp → Prop), (bif !b5 == !ltI n17 (0 : Int) then K (V.bool false) h'10 else bif b5 then ∃ (n18 : Int), ∃ (n19 : Int), ∃ (n20 : Int), ∃ (b6 : Bool),
  h'10.lda h'7.next (0 : Nat) (4 : Nat) = some (V.agg [V.int IntKind.u8 n18, V.int IntKind.u32 n19, V.int IntKind.u16 n20, V.bool b6]) ∧ ∃ (a4 : Option (Nat × Nat)), ∃ (n21 : Nat), ∃ (f3 : Bool), h'10.ld h'3.next (0 : Nat) = some (V.slc a4
  n21 f3) ∧ ((0 : Int) ≤ n17 ∧ n17 < (↑n21 : Int)) ∧ onS a4 fun (i4 o4 : Nat) => ∃ (n22 : Int), ∃ (n23 : Int), ∃ (n24 : Int), ∃ (b7 : Bool), h'10.lda i4 (o4 + n17.toNat * (5 : Nat) + (1 : Nat)) (4 : Nat) = some (V.agg [V.int IntKind.u8 n22,
  V.int IntKind.u32 n23, V.int IntKind.u16 n24, V.bool b7]) ∧ bif !(n18 == n22 && (n19 == n23 && (n20 == n24 && (b6 == b7 && true)))) then K (V.bool false) h'10 else bif !b5 then ∃ (n25 : Int), ∃ (n26 : Int), ∃ (n27 : Int), ∃ (b8 : Bool),
  h'10.lda h'7.next (0 : Nat) (4 : Nat) = some (V.agg [V.int IntKind.u8 n25, V.int IntKind.u32 n26, V.int IntKind.u16 n27, V.bool b8]) ∧ bif !(n25 == (0 : Int) && (n26 == (0 : Int) && (n27 == (0 : Int) && (b8 == false && true)))) then K
  (V.bool false) h'10 else [V.ptr a1, V.int IntKind.u8 k, V.ptr (some (h.next, (0 : Nat))), V.ptr (some (h'3.next, (0 : Nat))), V.int IntKind.i64 n1, V.slc script script_n script_f] = [V.ptr a1, V.int IntKind.u8 k, V.ptr (some (h.next, (0 :
  Nat))), V.ptr (some (h'3.next, (0 : Nat))), V.int IntKind.i64 n1, V.slc script script_n script_f] ∧ Q1 [] h'10 else [V.ptr a1, V.int IntKind.u8 k, V.ptr (some (h.next, (0 : Nat))), V.ptr (some (h'3.next, (0 : Nat))), V.int IntKind.i64 n1,
  V.slc script script_n script_f] = [V.ptr a1, V.int IntKind.u8 k, V.ptr (some (h.next, (0 : Nat))), V.ptr (some (h'3.next, (0 : Nat))), V.int IntKind.i64 n1, V.slc script script_n script_f] ∧ Q1 [] h'10 else bif !b5 then ∃ (n28 : Int), ∃
  (n29 : Int), ∃ (n30 : Int), ∃ (b9 : Bool), h'10.lda h'7.next (0 : Nat) (4 : Nat) = some (V.agg [V.int IntKind.u8 n28, V.int IntKind.u32 n29, V.int IntKind.u16 n30, V.bool b9]) ∧ bif !(n28 == (0 : Int) && (n29 == (0 : Int) && (n30 == (0 :
  Int) && (b9 == false && true)))) then K (V.bool false) h'10 else [V.ptr a1, V.int IntKind.u8 k, V.ptr (some (h.next, (0 : Nat))), V.ptr (some (h'3.next, (0 : Nat))), V.int IntKind.i64 n1, V.slc script script_n script_f] = [V.ptr a1, V.int
  IntKind.u8 k, V.ptr (some (h.next, (0 : Nat))), V.ptr (some (h'3.next, (0 : Nat))), V.int IntKind.i64 n1, V.slc script script_n script_f] ∧ Q1 [] h'10 else [V.ptr a1, V.int IntKind.u8 k, V.ptr (some (h.next, (0 : Nat))), V.ptr (some
  (h'3.next, (0 : Nat))), V.int IntKind.i64 n1, V.slc script script_n script_f] = [V.ptr a1, V.int IntKind.u8 k, V.ptr (some (h.next, (0 : Nat))), V.ptr (some (h'3.next, (0 : Nat))), V.int IntKind.i64 n1, V.slc script script_n script_f] ∧ Q1
  [] h'10) ∧ ∀ (bs2 : Nat → Option V) (h2 : Hp), Q1 [] h2 → ∃ (n31 : Int), ∃ (n32 : Int), h2.lda h.next (0 : Nat) (2 : Nat) = some (V.agg [V.int IntKind.u32 n31, V.int IntKind.u16 n32]) ∧ ∃ (n33 : Int), ∃ (n34 : Int), h2.lda h.next (0 : Nat)
  (2 : Nat) = some (V.agg [V.int IntKind.u32 n33, V.int IntKind.u16 n34]) ∧ XCalls Try.prog (14 : Nat) [V.ptr a1, V.int IntKind.u8 k, V.agg [V.int IntKind.u32 n31, V.int IntKind.u16 n32]] h2 fun (v7 : V) (h'11 : Hp) => ∃ (a5 : Option (Nat ×
  Nat)), ∃ (n35 : Nat), ∃ (f4 : Bool), v7 = V.slc a5 n35 f4 ∧ (∃ (n36 : Int), ∃ (n37 : Int), h'11.lda h.next (0 : Nat) (2 : Nat) = some (V.agg [V.int IntKind.u32 n36, V.int IntKind.u16 n37]) ∧ V.agg [V.int IntKind.u32 n36, V.int IntKind.u16
  n37] = V.agg [V.int IntKind.u32 n33, V.int IntKind.u16 n34]) ∧ V.int IntKind.u8 k = V.int IntKind.u8 k ∧ V.ptr (some (h'3.next, (0 : Nat))) = V.ptr (some (h'3.next, (0 : Nat))) ∧ XCalls Try.prog (15 : Nat) [V.ptr (some (h'3.next, (0 :
  Nat))), V.int IntKind.u8 k, V.agg [V.int IntKind.u32 n33, V.int IntKind.u16 n34]] h'11 fun (v8 : V) (h'12 : Hp) => ∃ (a6 : Option (Nat × Nat)), ∃ (n38 : Nat), ∃ (f5 : Bool), v8 = V.slc a6 n38 f5 ∧ bif (↑n35 : Int) != (↑n38 : Int) then K
  (V.bool false) h'12 else ∃ (I2 : List V → Hp → Prop), ∃ (x2 : List V → Hp → Nat), ([V.slc script script_n script_f, V.int IntKind.u8 k, V.ptr (some (h.next, (0 : Nat))), V.ptr a1, V.ptr (some (h'3.next, (0 : Nat))), V.int IntKind.i64 n1,
  V.slc a5 n35 f4, V.slc a6 n38 f5] = [V.slc script script_n script_f, V.int IntKind.u8 k, V.ptr (some (h.next, (0 : Nat))), V.ptr a1, V.ptr (some (h'3.next, (0 : Nat))), V.int IntKind.i64 n1, V.slc a5 n35 f4, V.slc a6 n38 f5] ∧ I2 [V.int
  IntKind.i64 (0 : Int)] h'12) ∧ ∀ (bs3 : Nat → Option V) (n39 : Int) (h3 : Hp), I2 [V.int IntKind.i64 n39] h3 → bif ltI n39 (↑n35 : Int) then ((0 : Int) ≤ n39 ∧ n39 < (↑n35 : Int)) ∧ onS a5 fun (i5 o5 : Nat) => ∃ (n40 : Int), h3.ld i5 (o5 +
  n39.toNat * (1 : Nat)) = some (V.int IntKind.u64 n40) ∧ ((0 : Int) ≤ n39 ∧ n39 < (↑n38 : Int)) ∧ onS a6 fun (i6 o6 : Nat) => ∃ (n41 : Int), h3.ld i6 (o6 + n39.toNat * (1 : Nat)) = some (V.int IntKind.u64 n41) ∧ bif n40 != n41 then K
  (V.bool false) h3 else [V.slc script script_n script_f, V.int IntKind.u8 k, V.ptr (some (h.next, (0 : Nat))), V.ptr a1, V.ptr (some (h'3.next, (0 : Nat))), V.int IntKind.i64 n1, V.slc a5 n35 f4, V.slc a6 n38 f5] = [V.slc script script_n
  script_f, V.int IntKind.u8 k, V.ptr (some (h.next, (0 : Nat))), V.ptr a1, V.ptr (some (h'3.next, (0 : Nat))), V.int IntKind.i64 n1, V.slc a5 n35 f4, V.slc a6 n38 f5] ∧ I2 [V.int IntKind.i64 (IntKind.i64.wrap (n39 + (1 : Int)))] h3 ∧ x2
  [V.int IntKind.i64 (IntKind.i64.wrap (n39 + (1 : Int)))] h3 < x2 [V.int IntKind.i64 n39] h3 else [V.slc script script_n script_f, V.int IntKind.u8 k, V.ptr (some (h.next, (0 : Nat))), V.ptr a1, V.ptr (some (h'3.next, (0 : Nat)))] = [V.slc
  script script_n script_f, V.int IntKind.u8 k, V.ptr (some (h.next, (0 : Nat))), V.ptr a1, V.ptr (some (h'3.next, (0 : Nat)))] ∧ I1 [V.int IntKind.i64 (IntKind.i64.wrap (n1 + (1 : Int)))] h3 ∧ x1 [V.int IntKind.i64 (IntKind.i64.wrap (n1 +
  (1 : Int)))] h3 < x1 [V.int IntKind.i64 n1] h1 else XCalls Try.prog (8 : Nat) [] h1 fun (v9 : V) (h'13 : Hp) => ∃ (b10 : Bool), v9 = V.bool b10 ∧ K (V.bool b10) h'13
theorem y3 (h : Hp) (K : V → Hp → Prop) (script : Option (Nat × Nat)) (script_n : Nat) (script_f : Bool) (k : Int) (a_0 : Int) (a_1 : Int) : X3 h K script script_n script_f k a_0 a_1 = fnX Try.prog T F jl3 jj3 Try.f3 [V.slc script script_n
  script_f, V.int IntKind.u8 k, V.agg [V.int IntKind.u32 a_0, V.int IntKind.u16 a_1]] h K := by kernel_rfl
theorem x3 {h : Hp} {K : V → Hp → Prop} (script : Option (Nat × Nat)) (script_n : Nat) (script_f : Bool) (k : Int) (a_0 : Int) (a_1 : Int) (hx : X3 h K script script_n script_f k a_0 a_1) : XCalls Try.prog 3 [V.slc script script_n script_f,
  V.int IntKind.u8 k, V.agg [V.int IntKind.u32 a_0, V.int IntKind.u16 a_1]] h K :=
  XCalls.ofX tok fok mixed (JL := jl3) (JJ := jj3) Try.func3 ((y3 h K script script_n script_f k a_0 a_1) ▸ hx) 
end Go.Vex
