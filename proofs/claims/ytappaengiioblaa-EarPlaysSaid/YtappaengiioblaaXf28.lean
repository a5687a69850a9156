/- the reference of Ear, EarPlays (printed by VexPrint).
-/
import Derived.Test.YtappaengiioblaaVexX
import Derived.Test.YtappaengiioblaaTab28
set_option linter.unusedVariables false
set_option maxRecDepth 100000
namespace Go.Vex
open Go.Proofs
/-! 34: (*stevedore/inet.Ear).Of -/
def jl34 : Nat → Option JT := fun r => none
def jj34 : Nat → Option JT := fun r => none
def X34 (h : Hp) (K : V → Hp → Prop) (r : Nat) (p_0 : Int) (p_1 : Int) (p_2 : Int) (p_3 : Int) : Prop := ∀ (h'1 : Hp), h'1 = h.alloc (O.row [V.int IntKind.u32 p_0, V.int IntKind.u16 p_1, V.int IntKind.u32 p_2, V.int IntKind.u16 p_3] (1 :
  Nat) false) → ∃ (r1 : Option Nat), h'1.ld r (2 : Nat) = some (V.map r1) ∧ ∃ (n1 : Int), ∃ (n2 : Int), ∃ (n3 : Int), ∃ (n4 : Int), h'1.lda h.next (0 : Nat) (4 : Nat) = some (V.agg [V.int IntKind.u32 n1, V.int IntKind.u16 n2, V.int
  IntKind.u32 n3, V.int IntKind.u16 n4]) ∧ ∃ (n5 : Int), ∃ (b'1 : Bool), xlook T h'1 (88 : Nat) (V.map r1) (V.agg [V.int IntKind.u32 n1, V.int IntKind.u16 n2, V.int IntKind.u32 n3, V.int IntKind.u16 n4]) true = some (V.tup [V.int IntKind.u64
  n5, V.bool b'1]) ∧ K (V.tup [V.int IntKind.u64 n5, V.bool b'1]) h'1
theorem y34 (h : Hp) (K : V → Hp → Prop) (r : Nat) (p_0 : Int) (p_1 : Int) (p_2 : Int) (p_3 : Int) : X34 h K r p_0 p_1 p_2 p_3 = fnX Try.prog T F jl34 jj34 Try.f34 [V.ptr (some (r, (0 : Nat))), V.agg [V.int IntKind.u32 p_0, V.int IntKind.u16
  p_1, V.int IntKind.u32 p_2, V.int IntKind.u16 p_3]] h K := by kernel_rfl
theorem x34 {h : Hp} {K : V → Hp → Prop} (r : Nat) (p_0 : Int) (p_1 : Int) (p_2 : Int) (p_3 : Int) (hx : X34 h K r p_0 p_1 p_2 p_3) : XCalls Try.prog 34 [V.ptr (some (r, (0 : Nat))), V.agg [V.int IntKind.u32 p_0, V.int IntKind.u16 p_1, V.int IntKind.u32 p_2, V.int IntKind.u16 p_3]] h K :=
  XCalls.ofX tok fok mixed (JL := jl34) (JJ := jj34) Try.func34 ((y34 h K r p_0 p_1 p_2 p_3) ▸ hx)
/-! 36: (*stevedore/inet.Ear).All -/
def jl36 : Nat → Option JT := fun r => none
def jj36 : Nat → Option JT := fun r => none
def X36 (h : Hp) (K : V → Hp → Prop) (r : Nat) : Prop := ∃ (r1 : Option Nat), h.ld r (1 : Nat) = some (V.map r1) ∧ XCalls Try.prog (43 : Nat) [V.map r1] h fun (v1 : V) (h'1 : Hp) => ∃ (c1 : Nat), v1 = V.fn (Fn.func (47 : Nat)) [] [V.ptr
  (some (c1, (0 : Nat)))] ∧ XCalls Try.prog (42 : Nat) [V.fn (Fn.func (47 : Nat)) [] [V.ptr (some (c1, (0 : Nat)))]] h'1 fun (v2 : V) (h'2 : Hp) => ∃ (a1 : Option (Nat × Nat)), ∃ (n1 : Nat), ∃ (f1 : Bool), v2 = V.slc a1 n1 f1 ∧ K (V.slc a1
  n1 f1) h'2
theorem y36 (h : Hp) (K : V → Hp → Prop) (r : Nat) : X36 h K r = fnX Try.prog T F jl36 jj36 Try.f36 [V.ptr (some (r, (0 : Nat)))] h K := by kernel_rfl
theorem x36 {h : Hp} {K : V → Hp → Prop} (r : Nat) (hx : X36 h K r) : XCalls Try.prog 36 [V.ptr (some (r, (0 : Nat)))] h K :=
  XCalls.ofX tok fok mixed (JL := jl36) (JJ := jj36) Try.func36 ((y36 h K r) ▸ hx)
/-! 38: (*stevedore/stevedoreref28.Ear).At -/
-- loop 2: stays r(0), socket(1); turns i(5)
def jl38 : Nat → Option JT := fun r => bif Nat.beq r 2 then some ⟨[0, 1], [5], [V.int IntKind.i64 (0 : Int)]⟩ else none
def jj38 : Nat → Option JT := fun r => none
def X38 (h : Hp) (K : V → Hp → Prop) (r : Nat) (socket : Int) : Prop := ∃ (I1 : List V → Hp → Prop), ∃ (x1 : List V → Hp → Nat), ([V.ptr (some (r, (0 : Nat))), V.int IntKind.u64 socket] = [V.ptr (some (r, (0 : Nat))), V.int IntKind.u64
  socket] ∧ I1 [V.int IntKind.i64 (0 : Int)] h) ∧ ∀ (bs1 : Nat → Option V) (n1 : Int) (h1 : Hp), I1 [V.int IntKind.i64 n1] h1 → ∃ (a1 : Option (Nat × Nat)), ∃ (n2 : Nat), ∃ (f1 : Bool), h1.ld r (1 : Nat) = some (V.slc a1 n2 f1) ∧ bif ltI n1
  (↑n2 : Int) then ∃ (a2 : Option (Nat × Nat)), ∃ (n3 : Nat), ∃ (f2 : Bool), h1.ld r (1 : Nat) = some (V.slc a2 n3 f2) ∧ ((0 : Int) ≤ n1 ∧ n1 < (↑n3 : Int)) ∧ onS a2 fun (i1 o1 : Nat) => ∃ (n4 : Int), h1.ld i1 (o1 + n1.toNat * (6 : Nat) + (4
  : Nat)) = some (V.int IntKind.u64 n4) ∧ bif n4 == socket then K (V.int IntKind.i64 n1) h1 else [V.ptr (some (r, (0 : Nat))), V.int IntKind.u64 socket] = [V.ptr (some (r, (0 : Nat))), V.int IntKind.u64 socket] ∧ I1 [V.int IntKind.i64
  (IntKind.i64.wrap (n1 + (1 : Int)))] h1 ∧ x1 [V.int IntKind.i64 (IntKind.i64.wrap (n1 + (1 : Int)))] h1 < x1 [V.int IntKind.i64 n1] h1 else K (V.int IntKind.i64 (-1 : Int)) h1
theorem y38 (h : Hp) (K : V → Hp → Prop) (r : Nat) (socket : Int) : X38 h K r socket = fnX Try.prog T F jl38 jj38 Try.f38 [V.ptr (some (r, (0 : Nat))), V.int IntKind.u64 socket] h K := by kernel_rfl
theorem x38 {h : Hp} {K : V → Hp → Prop} (r : Nat) (socket : Int) (hx : X38 h K r socket) : XCalls Try.prog 38 [V.ptr (some (r, (0 : Nat))), V.int IntKind.u64 socket] h K :=
  XCalls.ofX tok fok mixed (JL := jl38) (JJ := jj38) Try.func38 ((y38 h K r socket) ▸ hx)
/-! 37: (*stevedore/stevedoreref28.Ear).Pair -/
-- loop 2: stays r(0), p(3); turns i(5)
def jl37 : Nat → Option JT := fun r => bif Nat.beq r 2 then some ⟨[0, 3], [5], [V.int IntKind.i64 (0 : Int)]⟩ else none
def jj37 : Nat → Option JT := fun r => none
def X37 (h : Hp) (K : V → Hp → Prop) (r : Nat) (p_0 : Int) (p_1 : Int) (p_2 : Int) (p_3 : Int) : Prop := ∀ (h'1 : Hp), h'1 = h.alloc (O.row [V.int IntKind.u32 p_0, V.int IntKind.u16 p_1, V.int IntKind.u32 p_2, V.int IntKind.u16 p_3] (1 :
  Nat) false) → ∃ (I1 : List V → Hp → Prop), ∃ (x1 : List V → Hp → Nat), ([V.ptr (some (r, (0 : Nat))), V.ptr (some (h.next, (0 : Nat)))] = [V.ptr (some (r, (0 : Nat))), V.ptr (some (h.next, (0 : Nat)))] ∧ I1 [V.int IntKind.i64 (0 : Int)]
  h'1) ∧ ∀ (bs1 : Nat → Option V) (n1 : Int) (h1 : Hp), I1 [V.int IntKind.i64 n1] h1 → ∃ (a1 : Option (Nat × Nat)), ∃ (n2 : Nat), ∃ (f1 : Bool), h1.ld r (1 : Nat) = some (V.slc a1 n2 f1) ∧ bif ltI n1 (↑n2 : Int) then ∃ (a2 : Option (Nat ×
  Nat)), ∃ (n3 : Nat), ∃ (f2 : Bool), h1.ld r (1 : Nat) = some (V.slc a2 n3 f2) ∧ ((0 : Int) ≤ n1 ∧ n1 < (↑n3 : Int)) ∧ onS a2 fun (i1 o1 : Nat) => ∃ (n4 : Int), ∃ (n5 : Int), ∃ (n6 : Int), ∃ (n7 : Int), h1.lda i1 (o1 + n1.toNat * (6 : Nat)
  + (0 : Nat)) (4 : Nat) = some (V.agg [V.int IntKind.u32 n4, V.int IntKind.u16 n5, V.int IntKind.u32 n6, V.int IntKind.u16 n7]) ∧ ∃ (n8 : Int), ∃ (n9 : Int), ∃ (n10 : Int), ∃ (n11 : Int), h1.lda h.next (0 : Nat) (4 : Nat) = some (V.agg
  [V.int IntKind.u32 n8, V.int IntKind.u16 n9, V.int IntKind.u32 n10, V.int IntKind.u16 n11]) ∧ bif n4 == n8 && (n5 == n9 && true) && (n6 == n10 && (n7 == n11 && true) && true) then ∃ (a3 : Option (Nat × Nat)), ∃ (n12 : Nat), ∃ (f3 : Bool),
  h1.ld r (1 : Nat) = some (V.slc a3 n12 f3) ∧ ((0 : Int) ≤ n1 ∧ n1 < (↑n12 : Int)) ∧ onS a3 fun (i2 o2 : Nat) => ∃ (n13 : Int), h1.ld i2 (o2 + n1.toNat * (6 : Nat) + (4 : Nat)) = some (V.int IntKind.u64 n13) ∧ K (V.int IntKind.u64 n13) h1
  else [V.ptr (some (r, (0 : Nat))), V.ptr (some (h.next, (0 : Nat)))] = [V.ptr (some (r, (0 : Nat))), V.ptr (some (h.next, (0 : Nat)))] ∧ I1 [V.int IntKind.i64 (IntKind.i64.wrap (n1 + (1 : Int)))] h1 ∧ x1 [V.int IntKind.i64
  (IntKind.i64.wrap (n1 + (1 : Int)))] h1 < x1 [V.int IntKind.i64 n1] h1 else K (V.int IntKind.u64 (0 : Int)) h1
theorem y37 (h : Hp) (K : V → Hp → Prop) (r : Nat) (p_0 : Int) (p_1 : Int) (p_2 : Int) (p_3 : Int) : X37 h K r p_0 p_1 p_2 p_3 = fnX Try.prog T F jl37 jj37 Try.f37 [V.ptr (some (r, (0 : Nat))), V.agg [V.int IntKind.u32 p_0, V.int IntKind.u16
  p_1, V.int IntKind.u32 p_2, V.int IntKind.u16 p_3]] h K := by kernel_rfl
theorem x37 {h : Hp} {K : V → Hp → Prop} (r : Nat) (p_0 : Int) (p_1 : Int) (p_2 : Int) (p_3 : Int) (hx : X37 h K r p_0 p_1 p_2 p_3) : XCalls Try.prog 37 [V.ptr (some (r, (0 : Nat))), V.agg [V.int IntKind.u32 p_0, V.int IntKind.u16 p_1, V.int IntKind.u32 p_2, V.int IntKind.u16 p_3]] h K :=
  XCalls.ofX tok fok mixed (JL := jl37) (JJ := jj37) Try.func37 ((y37 h K r p_0 p_1 p_2 p_3) ▸ hx)
/-! 35: (*stevedore/stevedoreref28.Ear).Len -/
-- loop 3: stays r(0); turns n(4), i(5)
def jl35 : Nat → Option JT := fun r => bif Nat.beq r 3 then some ⟨[0], [4, 5], [V.int IntKind.i64 (0 : Int), V.int IntKind.i64 (0 : Int)]⟩ else none
def jj35 : Nat → Option JT := fun r => none
def X35 (h : Hp) (K : V → Hp → Prop) (r : Nat) : Prop := ∃ (I1 : List V → Hp → Prop), ∃ (x1 : List V → Hp → Nat), ([V.ptr (some (r, (0 : Nat)))] = [V.ptr (some (r, (0 : Nat)))] ∧ I1 [V.int IntKind.i64 (0 : Int), V.int IntKind.i64 (0 : Int)]
  h) ∧ ∀ (bs1 : Nat → Option V) (n1 n2 : Int) (h1 : Hp), I1 [V.int IntKind.i64 n1, V.int IntKind.i64 n2] h1 → ∃ (a1 : Option (Nat × Nat)), ∃ (n3 : Nat), ∃ (f1 : Bool), h1.ld r (1 : Nat) = some (V.slc a1 n3 f1) ∧ bif ltI n2 (↑n3 : Int) then ∃
  (a2 : Option (Nat × Nat)), ∃ (n4 : Nat), ∃ (f2 : Bool), h1.ld r (1 : Nat) = some (V.slc a2 n4 f2) ∧ ((0 : Int) ≤ n2 ∧ n2 < (↑n4 : Int)) ∧ onS a2 fun (i1 o1 : Nat) => ∃ (n5 : Int), h1.ld i1 (o1 + n2.toNat * (6 : Nat) + (5 : Nat)) = some
  (V.int IntKind.i64 n5) ∧ bif ltI (0 : Int) n5 then [V.ptr (some (r, (0 : Nat)))] = [V.ptr (some (r, (0 : Nat)))] ∧ I1 [V.int IntKind.i64 (IntKind.i64.wrap (n1 + (1 : Int))), V.int IntKind.i64 (IntKind.i64.wrap (n2 + (1 : Int)))] h1 ∧ x1
  [V.int IntKind.i64 (IntKind.i64.wrap (n1 + (1 : Int))), V.int IntKind.i64 (IntKind.i64.wrap (n2 + (1 : Int)))] h1 < x1 [V.int IntKind.i64 n1, V.int IntKind.i64 n2] h1 else [V.ptr (some (r, (0 : Nat)))] = [V.ptr (some (r, (0 : Nat)))] ∧ I1
  [V.int IntKind.i64 n1, V.int IntKind.i64 (IntKind.i64.wrap (n2 + (1 : Int)))] h1 ∧ x1 [V.int IntKind.i64 n1, V.int IntKind.i64 (IntKind.i64.wrap (n2 + (1 : Int)))] h1 < x1 [V.int IntKind.i64 n1, V.int IntKind.i64 n2] h1 else ∃ (a3 : Option
  (Nat × Nat)), ∃ (n6 : Nat), ∃ (f3 : Bool), h1.ld r (1 : Nat) = some (V.slc a3 n6 f3) ∧ K (V.tup [V.int IntKind.i64 (IntKind.i64.wrap ((↑n6 : Int) - n1)), V.int IntKind.i64 n1]) h1
theorem y35 (h : Hp) (K : V → Hp → Prop) (r : Nat) : X35 h K r = fnX Try.prog T F jl35 jj35 Try.f35 [V.ptr (some (r, (0 : Nat)))] h K := by kernel_rfl
theorem x35 {h : Hp} {K : V → Hp → Prop} (r : Nat) (hx : X35 h K r) : XCalls Try.prog 35 [V.ptr (some (r, (0 : Nat)))] h K :=
  XCalls.ofX tok fok mixed (JL := jl35) (JJ := jj35) Try.func35 ((y35 h K r) ▸ hx)
/-! 31: (*stevedore/stevedoreref28.Ear).Gone -/
def jl31 : Nat → Option JT := fun r => none
def jj31 : Nat → Option JT := fun r => none
def X31 (h : Hp) (K : V → Hp → Prop) (r : Nat) (socket : Int) : Prop := XCalls Try.prog (38 : Nat) [V.ptr (some (r, (0 : Nat))), V.int IntKind.u64 socket] h fun (v1 : V) (h'1 : Hp) => ∃ (n1 : Int), v1 = V.int IntKind.i64 n1 ∧ bif ltI n1 (0 :
  Int) then K (V.bool false) h'1 else ∃ (a1 : Option (Nat × Nat)), ∃ (n2 : Nat), ∃ (f1 : Bool), h'1.ld r (1 : Nat) = some (V.slc a1 n2 f1) ∧ ∃ (a2 : Option (Nat × Nat)), ∃ (n3 : Nat), ∃ (f2 : Bool), xslice T h'1 (77 : Nat) (V.slc a1 n2 f1)
  none (some (V.int IntKind.i64 n1)) none = some (V.slc a2 n3 f2) ∧ ∃ (p1 : Option (Nat × Nat)), ∃ (n4 : Nat), ∃ (f3 : Bool), ∃ (h'2 : Hp), xapp T h'1 (77 : Nat) (77 : Nat) (V.slc none (0 : Nat) true) (V.slc a2 n3 f2) = some (V.slc p1 n4 f3,
  h'2) ∧ ∃ (a3 : Option (Nat × Nat)), ∃ (n5 : Nat), ∃ (f4 : Bool), h'2.ld r (1 : Nat) = some (V.slc a3 n5 f4) ∧ ∃ (a4 : Option (Nat × Nat)), ∃ (n6 : Nat), ∃ (f5 : Bool), xslice T h'2 (77 : Nat) (V.slc a3 n5 f4) (some (V.int IntKind.i64
  (IntKind.i64.wrap (n1 + (1 : Int))))) none none = some (V.slc a4 n6 f5) ∧ ∃ (p2 : Option (Nat × Nat)), ∃ (n7 : Nat), ∃ (f6 : Bool), ∃ (h'3 : Hp), xapp T h'2 (77 : Nat) (77 : Nat) (V.slc p1 n4 f3) (V.slc a4 n6 f5) = some (V.slc p2 n7 f6,
  h'3) ∧ ∃ (h'4 : Hp), h'3.st r (1 : Nat) [V.slc p2 n7 f6] = some h'4 ∧ K (V.bool true) h'4
theorem y31 (h : Hp) (K : V → Hp → Prop) (r : Nat) (socket : Int) : X31 h K r socket = fnX Try.prog T F jl31 jj31 Try.f31 [V.ptr (some (r, (0 : Nat))), V.int IntKind.u64 socket] h K := by kernel_rfl
theorem x31 {h : Hp} {K : V → Hp → Prop} (r : Nat) (socket : Int) (hx : X31 h K r socket) : XCalls Try.prog 31 [V.ptr (some (r, (0 : Nat))), V.int IntKind.u64 socket] h K :=
  XCalls.ofX tok fok mixed (JL := jl31) (JJ := jj31) Try.func31 ((y31 h K r socket) ▸ hx)
/-! 30: (*stevedore/stevedoreref28.Ear).Done -/
def jl30 : Nat → Option JT := fun r => none
def jj30 : Nat → Option JT := fun r => none
def X30 (h : Hp) (K : V → Hp → Prop) (r : Nat) (socket : Int) : Prop := XCalls Try.prog (38 : Nat) [V.ptr (some (r, (0 : Nat))), V.int IntKind.u64 socket] h fun (v1 : V) (h'1 : Hp) => ∃ (n1 : Int), v1 = V.int IntKind.i64 n1 ∧ bif ltI n1 (0 :
  Int) then K (V.int IntKind.i64 (5 : Int)) h'1 else ∃ (a1 : Option (Nat × Nat)), ∃ (n2 : Nat), ∃ (f1 : Bool), h'1.ld r (1 : Nat) = some (V.slc a1 n2 f1) ∧ ((0 : Int) ≤ n1 ∧ n1 < (↑n2 : Int)) ∧ onS a1 fun (i1 o1 : Nat) => ∃ (n3 : Int),
  h'1.ld i1 (o1 + n1.toNat * (6 : Nat) + (5 : Nat)) = some (V.int IntKind.i64 n3) ∧ bif ltI (0 : Int) n3 then K (V.int IntKind.i64 (5 : Int)) h'1 else XCalls Try.prog (35 : Nat) [V.ptr (some (r, (0 : Nat)))] h'1 fun (v2 : V) (h'2 : Hp) => ∃
  (n4 : Int), ∃ (n5 : Int), v2 = V.tup [V.int IntKind.i64 n4, V.int IntKind.i64 n5] ∧ ∃ (n6 : Int), h'2.ld r (0 : Nat) = some (V.int IntKind.i64 n6) ∧ bif !ltI n5 n6 then K (V.int IntKind.i64 (6 : Int)) h'2 else ∃ (n7 : Int), h'2.ld r (2 :
  Nat) = some (V.int IntKind.i64 n7) ∧ ∃ (h'3 : Hp), h'2.st r (2 : Nat) [V.int IntKind.i64 (IntKind.i64.wrap (n7 + (1 : Int)))] = some h'3 ∧ ∃ (a2 : Option (Nat × Nat)), ∃ (n8 : Nat), ∃ (f2 : Bool), h'3.ld r (1 : Nat) = some (V.slc a2 n8 f2)
  ∧ ((0 : Int) ≤ n1 ∧ n1 < (↑n8 : Int)) ∧ onS a2 fun (i2 o2 : Nat) => ∃ (n9 : Int), ∃ (n10 : Int), ∃ (n11 : Int), ∃ (n12 : Int), ∃ (n13 : Int), ∃ (n14 : Int), h'3.lda i2 (o2 + n1.toNat * (6 : Nat)) (6 : Nat) = some (V.agg [V.int IntKind.u32
  n9, V.int IntKind.u16 n10, V.int IntKind.u32 n11, V.int IntKind.u16 n12, V.int IntKind.u64 n13, V.int IntKind.i64 n14]) ∧ ∀ (h'4 : Hp), h'4 = h'3.alloc (O.row [V.int IntKind.u32 (0 : Int), V.int IntKind.u16 (0 : Int), V.int IntKind.u32 (0
  : Int), V.int IntKind.u16 (0 : Int), V.int IntKind.u64 (0 : Int), V.int IntKind.i64 (0 : Int)] (1 : Nat) false) → ∃ (h'5 : Hp), h'4.st h'3.next (0 : Nat) [V.int IntKind.u32 n9, V.int IntKind.u16 n10, V.int IntKind.u32 n11, V.int
  IntKind.u16 n12, V.int IntKind.u64 n13, V.int IntKind.i64 n14] = some h'5 ∧ ∃ (n15 : Int), h'5.ld r (2 : Nat) = some (V.int IntKind.i64 n15) ∧ ∃ (h'6 : Hp), h'5.st h'3.next (5 : Nat) [V.int IntKind.i64 n15] = some h'6 ∧ ∃ (a3 : Option (Nat
  × Nat)), ∃ (n16 : Nat), ∃ (f3 : Bool), h'6.ld r (1 : Nat) = some (V.slc a3 n16 f3) ∧ ∃ (n17 : Int), ∃ (n18 : Int), ∃ (n19 : Int), ∃ (n20 : Int), ∃ (n21 : Int), ∃ (n22 : Int), h'6.lda h'3.next (0 : Nat) (6 : Nat) = some (V.agg [V.int
  IntKind.u32 n17, V.int IntKind.u16 n18, V.int IntKind.u32 n19, V.int IntKind.u16 n20, V.int IntKind.u64 n21, V.int IntKind.i64 n22]) ∧ ((0 : Int) ≤ n1 ∧ n1 < (↑n16 : Int)) ∧ onS a3 fun (i3 o3 : Nat) => ∃ (h'7 : Hp), h'6.st i3 (o3 +
  n1.toNat * (6 : Nat)) [V.int IntKind.u32 n17, V.int IntKind.u16 n18, V.int IntKind.u32 n19, V.int IntKind.u16 n20, V.int IntKind.u64 n21, V.int IntKind.i64 n22] = some h'7 ∧ K (V.int IntKind.i64 (0 : Int)) h'7
theorem y30 (h : Hp) (K : V → Hp → Prop) (r : Nat) (socket : Int) : X30 h K r socket = fnX Try.prog T F jl30 jj30 Try.f30 [V.ptr (some (r, (0 : Nat))), V.int IntKind.u64 socket] h K := by kernel_rfl
theorem x30 {h : Hp} {K : V → Hp → Prop} (r : Nat) (socket : Int) (hx : X30 h K r socket) : XCalls Try.prog 30 [V.ptr (some (r, (0 : Nat))), V.int IntKind.u64 socket] h K :=
  XCalls.ofX tok fok mixed (JL := jl30) (JJ := jj30) Try.func30 ((y30 h K r socket) ▸ hx)
/-! 32: (*stevedore/stevedoreref28.Ear).Accept -/
-- loop 3: stays r(0), (2); turns best(5), i(6)
def jl32 : Nat → Option JT := fun r => bif Nat.beq r 3 then some ⟨[0, 2], [5, 6], [V.int IntKind.i64 (0 : Int), V.int IntKind.i64 (0 : Int)]⟩ else none
def jj32 : Nat → Option JT := fun r => none
def X32 (h : Hp) (K : V → Hp → Prop) (r : Nat) : Prop := ∀ (h'1 : Hp), h'1 = h.alloc (O.row [V.int IntKind.u32 (0 : Int), V.int IntKind.u16 (0 : Int), V.int IntKind.u32 (0 : Int), V.int IntKind.u16 (0 : Int)] (1 : Nat) false) → ∃ (I1 : List
  V → Hp → Prop), ∃ (x1 : List V → Hp → Nat), ([V.ptr (some (r, (0 : Nat))), V.ptr (some (h.next, (0 : Nat)))] = [V.ptr (some (r, (0 : Nat))), V.ptr (some (h.next, (0 : Nat)))] ∧ I1 [V.int IntKind.i64 (-1 : Int), V.int IntKind.i64 (0 : Int)]
  h'1) ∧ ∀ (bs1 : Nat → Option V) (n1 n2 : Int) (h1 : Hp), I1 [V.int IntKind.i64 n1, V.int IntKind.i64 n2] h1 → ∃ (a1 : Option (Nat × Nat)), ∃ (n3 : Nat), ∃ (f1 : Bool), h1.ld r (1 : Nat) = some (V.slc a1 n3 f1) ∧ bif ltI n2 (↑n3 : Int) then
  ∃ (a2 : Option (Nat × Nat)), ∃ (n4 : Nat), ∃ (f2 : Bool), h1.ld r (1 : Nat) = some (V.slc a2 n4 f2) ∧ ((0 : Int) ≤ n2 ∧ n2 < (↑n4 : Int)) ∧ onS a2 fun (i1 o1 : Nat) => ∃ (n5 : Int), h1.ld i1 (o1 + n2.toNat * (6 : Nat) + (5 : Nat)) = some
  (V.int IntKind.i64 n5) ∧ bif ltI (0 : Int) n5 then bif ltI n1 (0 : Int) then [V.ptr (some (r, (0 : Nat))), V.ptr (some (h.next, (0 : Nat)))] = [V.ptr (some (r, (0 : Nat))), V.ptr (some (h.next, (0 : Nat)))] ∧ I1 [V.int IntKind.i64 n2,
  V.int IntKind.i64 (IntKind.i64.wrap (n2 + (1 : Int)))] h1 ∧ x1 [V.int IntKind.i64 n2, V.int IntKind.i64 (IntKind.i64.wrap (n2 + (1 : Int)))] h1 < x1 [V.int IntKind.i64 n1, V.int IntKind.i64 n2] h1 else ∃ (a3 : Option (Nat × Nat)), ∃ (n6 :
  Nat), ∃ (f3 : Bool), h1.ld r (1 : Nat) = some (V.slc a3 n6 f3) ∧ ((0 : Int) ≤ n2 ∧ n2 < (↑n6 : Int)) ∧ onS a3 fun (i2 o2 : Nat) => ∃ (n7 : Int), h1.ld i2 (o2 + n2.toNat * (6 : Nat) + (5 : Nat)) = some (V.int IntKind.i64 n7) ∧ ∃ (a4 :
  Option (Nat × Nat)), ∃ (n8 : Nat), ∃ (f4 : Bool), h1.ld r (1 : Nat) = some (V.slc a4 n8 f4) ∧ ((0 : Int) ≤ n1 ∧ n1 < (↑n8 : Int)) ∧ onS a4 fun (i3 o3 : Nat) => ∃ (n9 : Int), h1.ld i3 (o3 + n1.toNat * (6 : Nat) + (5 : Nat)) = some (V.int
  IntKind.i64 n9) ∧ bif ltI n7 n9 then [V.ptr (some (r, (0 : Nat))), V.ptr (some (h.next, (0 : Nat)))] = [V.ptr (some (r, (0 : Nat))), V.ptr (some (h.next, (0 : Nat)))] ∧ I1 [V.int IntKind.i64 n2, V.int IntKind.i64 (IntKind.i64.wrap (n2 + (1
  : Int)))] h1 ∧ x1 [V.int IntKind.i64 n2, V.int IntKind.i64 (IntKind.i64.wrap (n2 + (1 : Int)))] h1 < x1 [V.int IntKind.i64 n1, V.int IntKind.i64 n2] h1 else [V.ptr (some (r, (0 : Nat))), V.ptr (some (h.next, (0 : Nat)))] = [V.ptr (some (r,
  (0 : Nat))), V.ptr (some (h.next, (0 : Nat)))] ∧ I1 [V.int IntKind.i64 n1, V.int IntKind.i64 (IntKind.i64.wrap (n2 + (1 : Int)))] h1 ∧ x1 [V.int IntKind.i64 n1, V.int IntKind.i64 (IntKind.i64.wrap (n2 + (1 : Int)))] h1 < x1 [V.int
  IntKind.i64 n1, V.int IntKind.i64 n2] h1 else [V.ptr (some (r, (0 : Nat))), V.ptr (some (h.next, (0 : Nat)))] = [V.ptr (some (r, (0 : Nat))), V.ptr (some (h.next, (0 : Nat)))] ∧ I1 [V.int IntKind.i64 n1, V.int IntKind.i64 (IntKind.i64.wrap
  (n2 + (1 : Int)))] h1 ∧ x1 [V.int IntKind.i64 n1, V.int IntKind.i64 (IntKind.i64.wrap (n2 + (1 : Int)))] h1 < x1 [V.int IntKind.i64 n1, V.int IntKind.i64 n2] h1 else bif ltI n1 (0 : Int) then ∃ (h'2 : Hp), h1.st h.next (0 : Nat) [V.int
  IntKind.u32 (0 : Int), V.int IntKind.u16 (0 : Int), V.int IntKind.u32 (0 : Int), V.int IntKind.u16 (0 : Int)] = some h'2 ∧ ∃ (n10 : Int), ∃ (n11 : Int), ∃ (n12 : Int), ∃ (n13 : Int), h'2.lda h.next (0 : Nat) (4 : Nat) = some (V.agg [V.int
  IntKind.u32 n10, V.int IntKind.u16 n11, V.int IntKind.u32 n12, V.int IntKind.u16 n13]) ∧ K (V.tup [V.agg [V.int IntKind.u32 n10, V.int IntKind.u16 n11, V.int IntKind.u32 n12, V.int IntKind.u16 n13], V.int IntKind.u64 (0 : Int), V.bool
  false]) h'2 else ∃ (a5 : Option (Nat × Nat)), ∃ (n14 : Nat), ∃ (f5 : Bool), h1.ld r (1 : Nat) = some (V.slc a5 n14 f5) ∧ ((0 : Int) ≤ n1 ∧ n1 < (↑n14 : Int)) ∧ onS a5 fun (i4 o4 : Nat) => ∃ (n15 : Int), ∃ (n16 : Int), ∃ (n17 : Int), ∃ (n18
  : Int), ∃ (n19 : Int), ∃ (n20 : Int), h1.lda i4 (o4 + n1.toNat * (6 : Nat)) (6 : Nat) = some (V.agg [V.int IntKind.u32 n15, V.int IntKind.u16 n16, V.int IntKind.u32 n17, V.int IntKind.u16 n18, V.int IntKind.u64 n19, V.int IntKind.i64 n20])
  ∧ ∀ (h'3 : Hp), h'3 = h1.alloc (O.row [V.int IntKind.u32 (0 : Int), V.int IntKind.u16 (0 : Int), V.int IntKind.u32 (0 : Int), V.int IntKind.u16 (0 : Int), V.int IntKind.u64 (0 : Int), V.int IntKind.i64 (0 : Int)] (1 : Nat) false) → ∃ (h'4
  : Hp), h'3.st h1.next (0 : Nat) [V.int IntKind.u32 n15, V.int IntKind.u16 n16, V.int IntKind.u32 n17, V.int IntKind.u16 n18, V.int IntKind.u64 n19, V.int IntKind.i64 n20] = some h'4 ∧ ∃ (n21 : Int), h'4.ld h1.next (4 : Nat) = some (V.int
  IntKind.u64 n21) ∧ XCalls Try.prog (31 : Nat) [V.ptr (some (r, (0 : Nat))), V.int IntKind.u64 n21] h'4 fun (v1 : V) (h'5 : Hp) => ∃ (b1 : Bool), v1 = V.bool b1 ∧ ∃ (n22 : Int), ∃ (n23 : Int), ∃ (n24 : Int), ∃ (n25 : Int), h'5.lda h1.next
  (0 : Nat) (4 : Nat) = some (V.agg [V.int IntKind.u32 n22, V.int IntKind.u16 n23, V.int IntKind.u32 n24, V.int IntKind.u16 n25]) ∧ ∃ (n26 : Int), h'5.ld h1.next (4 : Nat) = some (V.int IntKind.u64 n26) ∧ ∃ (h'6 : Hp), h'5.st h.next (0 :
  Nat) [V.int IntKind.u32 n22, V.int IntKind.u16 n23, V.int IntKind.u32 n24, V.int IntKind.u16 n25] = some h'6 ∧ (∃ (n27 : Int), h'6.ld h1.next (4 : Nat) = some (V.int IntKind.u64 n27) ∧ V.int IntKind.u64 n27 = V.int IntKind.u64 n26) ∧ V.ptr
  (some (h1.next, (4 : Nat))) = V.ptr (some (h1.next, (4 : Nat))) ∧ ∃ (n28 : Int), ∃ (n29 : Int), ∃ (n30 : Int), ∃ (n31 : Int), h'6.lda h.next (0 : Nat) (4 : Nat) = some (V.agg [V.int IntKind.u32 n28, V.int IntKind.u16 n29, V.int IntKind.u32
  n30, V.int IntKind.u16 n31]) ∧ K (V.tup [V.agg [V.int IntKind.u32 n28, V.int IntKind.u16 n29, V.int IntKind.u32 n30, V.int IntKind.u16 n31], V.int IntKind.u64 n26, V.bool true]) h'6
theorem y32 (h : Hp) (K : V → Hp → Prop) (r : Nat) : X32 h K r = fnX Try.prog T F jl32 jj32 Try.f32 [V.ptr (some (r, (0 : Nat)))] h K := by kernel_rfl
theorem x32 {h : Hp} {K : V → Hp → Prop} (r : Nat) (hx : X32 h K r) : XCalls Try.prog 32 [V.ptr (some (r, (0 : Nat)))] h K :=
  XCalls.ofX tok fok mixed (JL := jl32) (JJ := jj32) Try.func32 ((y32 h K r) ▸ hx)
/-! 33: (*stevedore/stevedoreref28.Ear).Child -/
def jl33 : Nat → Option JT := fun r => none
def jj33 : Nat → Option JT := fun r => none
def X33 (h : Hp) (K : V → Hp → Prop) (r : Nat) (p_0 : Int) (p_1 : Int) (p_2 : Int) (p_3 : Int) (socket : Int) : Prop := ∀ (h'1 : Hp), h'1 = h.alloc (O.row [V.int IntKind.u32 p_0, V.int IntKind.u16 p_1, V.int IntKind.u32 p_2, V.int
  IntKind.u16 p_3] (1 : Nat) false) → bif socket == (0 : Int) then K (V.int IntKind.i64 (2 : Int)) h'1 else XCalls Try.prog (38 : Nat) [V.ptr (some (r, (0 : Nat))), V.int IntKind.u64 socket] h'1 fun (v1 : V) (h'2 : Hp) => ∃ (n1 : Int), v1 =
  V.int IntKind.i64 n1 ∧ bif !ltI n1 (0 : Int) then K (V.int IntKind.i64 (7 : Int)) h'2 else ∃ (n2 : Int), ∃ (n3 : Int), ∃ (n4 : Int), ∃ (n5 : Int), h'2.lda h.next (0 : Nat) (4 : Nat) = some (V.agg [V.int IntKind.u32 n2, V.int IntKind.u16
  n3, V.int IntKind.u32 n4, V.int IntKind.u16 n5]) ∧ XCalls Try.prog (37 : Nat) [V.ptr (some (r, (0 : Nat))), V.agg [V.int IntKind.u32 n2, V.int IntKind.u16 n3, V.int IntKind.u32 n4, V.int IntKind.u16 n5]] h'2 fun (v2 : V) (h'3 : Hp) => ∃
  (n6 : Int), v2 = V.int IntKind.u64 n6 ∧ bif n6 != (0 : Int) then K (V.int IntKind.i64 (7 : Int)) h'3 else XCalls Try.prog (35 : Nat) [V.ptr (some (r, (0 : Nat)))] h'3 fun (v3 : V) (h'4 : Hp) => ∃ (n7 : Int), ∃ (n8 : Int), v3 = V.tup [V.int
  IntKind.i64 n7, V.int IntKind.i64 n8] ∧ ∃ (n9 : Int), h'4.ld r (0 : Nat) = some (V.int IntKind.i64 n9) ∧ bif !ltI n7 n9 then K (V.int IntKind.i64 (6 : Int)) h'4 else ∃ (n10 : Int), h'4.ld r (0 : Nat) = some (V.int IntKind.i64 n10) ∧ bif
  !ltI n8 n10 then K (V.int IntKind.i64 (6 : Int)) h'4 else ∃ (a1 : Option (Nat × Nat)), ∃ (n11 : Nat), ∃ (f1 : Bool), h'4.ld r (1 : Nat) = some (V.slc a1 n11 f1) ∧ ∃ (n12 : Int), ∃ (n13 : Int), ∃ (n14 : Int), ∃ (n15 : Int), h'4.lda h.next
  (0 : Nat) (4 : Nat) = some (V.agg [V.int IntKind.u32 n12, V.int IntKind.u16 n13, V.int IntKind.u32 n14, V.int IntKind.u16 n15]) ∧ ∀ (h'5 : Hp), h'5 = h'4.alloc (O.row [V.int IntKind.u32 n12, V.int IntKind.u16 n13, V.int IntKind.u32 n14,
  V.int IntKind.u16 n15, V.int IntKind.u64 socket, V.int IntKind.i64 (0 : Int)] (6 : Nat) false) → (∃ (a2 : Option (Nat × Nat)), ∃ (n16 : Nat), ∃ (f2 : Bool), h'5.ld r (1 : Nat) = some (V.slc a2 n16 f2) ∧ V.slc a2 n16 f2 = V.slc a1 n11 f1) ∧
  V.ptr (some (r, (1 : Nat))) = V.ptr (some (r, (1 : Nat))) ∧ V.ptr (some (r, (0 : Nat))) = V.ptr (some (r, (0 : Nat))) ∧ V.ptr (some (r, (0 : Nat))) = V.ptr (some (r, (0 : Nat))) ∧ V.ptr (some (r, (0 : Nat))) = V.ptr (some (r, (0 : Nat))) ∧
  ∃ (p1 : Option (Nat × Nat)), ∃ (n17 : Nat), ∃ (f3 : Bool), ∃ (h'6 : Hp), xapp T h'5 (77 : Nat) (77 : Nat) (V.slc a1 n11 f1) (V.slc (some (h'4.next, (0 : Nat))) (1 : Nat) true) = some (V.slc p1 n17 f3, h'6) ∧ V.ptr (some (r, (0 : Nat))) =
  V.ptr (some (r, (0 : Nat))) ∧ ∃ (h'7 : Hp), h'6.st r (1 : Nat) [V.slc p1 n17 f3] = some h'7 ∧ K (V.int IntKind.i64 (0 : Int)) h'7
theorem y33 (h : Hp) (K : V → Hp → Prop) (r : Nat) (p_0 : Int) (p_1 : Int) (p_2 : Int) (p_3 : Int) (socket : Int) : X33 h K r p_0 p_1 p_2 p_3 socket = fnX Try.prog T F jl33 jj33 Try.f33 [V.ptr (some (r, (0 : Nat))), V.agg [V.int IntKind.u32
  p_0, V.int IntKind.u16 p_1, V.int IntKind.u32 p_2, V.int IntKind.u16 p_3], V.int IntKind.u64 socket] h K := by kernel_rfl
theorem x33 {h : Hp} {K : V → Hp → Prop} (r : Nat) (p_0 : Int) (p_1 : Int) (p_2 : Int) (p_3 : Int) (socket : Int) (hx : X33 h K r p_0 p_1 p_2 p_3 socket) : XCalls Try.prog 33 [V.ptr (some (r, (0 : Nat))), V.agg [V.int IntKind.u32 p_0, V.int
  IntKind.u16 p_1, V.int IntKind.u32 p_2, V.int IntKind.u16 p_3], V.int IntKind.u64 socket] h K :=
  XCalls.ofX tok fok mixed (JL := jl33) (JJ := jj33) Try.func33 ((y33 h K r p_0 p_1 p_2 p_3 socket) ▸ hx)
/-! 7: stevedore/stevedorelaw28.EarPlays -/
-- loop 30: stays script(1), r(5), x(7), i(8), l(23); turns n(24)
-- loop 10: stays script(1), r(5), x(7); turns i(8)
-- join 23: stays r(5), k(9), x(7), i(8), script(1); turns fine(10)
def jl7 : Nat → Option JT := fun r => bif Nat.beq r 30 then some ⟨[1, 5, 7, 8, 23], [24], [V.int IntKind.i64 (0 : Int)]⟩ else bif Nat.beq r 10 then some ⟨[1, 5, 7], [8], [V.int IntKind.i64 (0 : Int)]⟩ else none
def jj7 : Nat → Option JT := fun r => bif Nat.beq r 23 then some ⟨[5, 9, 7, 8, 1], [10], [V.bool false]⟩ else none
def X7 (h : Hp) (K : V → Hp → Prop) (backlog : Int) (script : Option (Nat × Nat)) (script_n : Nat) (script_f : Bool) : Prop := bif ltI (300 : Int) (↑script_n : Int) then XCalls Try.prog (9 : Nat) [] h fun (v1 : V) (h'1 : Hp) => ∃ (b1 :
  Bool), v1 = V.bool b1 ∧ K (V.bool b1) h'1 else XCalls Try.prog (10 : Nat) [V.int IntKind.i64 backlog] h fun (v2 : V) (h'2 : Hp) => ∃ (a1 : Option (Nat × Nat)), ∃ (n1 : Int), v2 = V.tup [V.ptr a1, V.int IntKind.i64 n1] ∧ bif ltI backlog (1
  : Int) then bif a1.isNone then bif n1 == (2 : Int) then XCalls Try.prog (9 : Nat) [] h'2 fun (v3 : V) (h'3 : Hp) => ∃ (b2 : Bool), v3 = V.bool b2 ∧ K (V.bool b2) h'3 else K (V.bool false) h'2 else K (V.bool false) h'2 else bif ltI (128 :
  Int) backlog then bif a1.isNone then bif n1 == (2 : Int) then XCalls Try.prog (9 : Nat) [] h'2 fun (v4 : V) (h'4 : Hp) => ∃ (b3 : Bool), v4 = V.bool b3 ∧ K (V.bool b3) h'4 else K (V.bool false) h'2 else K (V.bool false) h'2 else bif
  a1.isNone then K (V.bool false) h'2 else bif n1 != (0 : Int) then K (V.bool false) h'2 else ∀ (h'5 : Hp), h'5 = h'2.alloc (O.row [V.int IntKind.i64 backlog, V.slc none (0 : Nat) true, V.int IntKind.i64 (0 : Int)] (1 : Nat) false) → ∃ (I1 :
  List V → Hp → Prop), ∃ (x1 : List V → Hp → Nat), ([V.slc script script_n script_f, V.ptr a1, V.ptr (some (h'2.next, (0 : Nat)))] = [V.slc script script_n script_f, V.ptr a1, V.ptr (some (h'2.next, (0 : Nat)))] ∧ I1 [V.int IntKind.i64 (0 :
  Int)] h'5) ∧ ∀ (bs1 : Nat → Option V) (n2 : Int) (h1 : Hp), I1 [V.int IntKind.i64 n2] h1 → bif ltI n2 (↑script_n : Int) then ((0 : Int) ≤ n2 ∧ n2 < (↑script_n : Int)) ∧ onS script fun (i1 o1 : Nat) => ∃ (b4 : Bool), ∃ (b5 : Bool), ∃ (b6 :
  Bool), ∃ (n3 : Int), ∃ (n4 : Int), h1.lda i1 (o1 + n2.toNat * (5 : Nat)) (5 : Nat) = some (V.agg [V.bool b4, V.bool b5, V.bool b6, V.int IntKind.u8 n3, V.int IntKind.u64 n4]) ∧ ∀ (h'6 : Hp), h'6 = h1.alloc (O.row [V.bool false, V.bool
  false, V.bool false, V.int IntKind.u8 (0 : Int), V.int IntKind.u64 (0 : Int)] (1 : Nat) false) → ∃ (h'7 : Hp), h'6.st h1.next (0 : Nat) [V.bool b4, V.bool b5, V.bool b6, V.int IntKind.u8 n3, V.int IntKind.u64 n4] = some h'7 ∧ ∃ (Q1 : List
  V → Hp → Prop), (∃ (b7 : Bool), h'7.ld h1.next (0 : Nat) = some (V.bool b7) ∧ bif b7 then ∃ (n5 : Int), h'7.ld h1.next (4 : Nat) = some (V.int IntKind.u64 n5) ∧ ∃ (n6 : Int), h'7.ld h1.next (4 : Nat) = some (V.int IntKind.u64 n6) ∧ XCalls
  Try.prog (11 : Nat) [V.ptr a1, V.int IntKind.u64 n5] h'7 fun (v5 : V) (h'8 : Hp) => ∃ (n7 : Int), v5 = V.int IntKind.i64 n7 ∧ (∃ (n8 : Int), h'8.ld h1.next (4 : Nat) = some (V.int IntKind.u64 n8) ∧ V.int IntKind.u64 n8 = V.int IntKind.u64
  n6) ∧ V.ptr (some (h1.next, (4 : Nat))) = V.ptr (some (h1.next, (4 : Nat))) ∧ V.ptr (some (h'2.next, (0 : Nat))) = V.ptr (some (h'2.next, (0 : Nat))) ∧ XCalls Try.prog (30 : Nat) [V.ptr (some (h'2.next, (0 : Nat))), V.int IntKind.u64 n6]
  h'8 fun (v6 : V) (h'9 : Hp) => ∃ (n9 : Int), v6 = V.int IntKind.i64 n9 ∧ [V.ptr a1, V.ptr (some (h1.next, (0 : Nat))), V.ptr (some (h'2.next, (0 : Nat))), V.int IntKind.i64 n2, V.slc script script_n script_f] = [V.ptr a1, V.ptr (some
  (h1.next, (0 : Nat))), V.ptr (some (h'2.next, (0 : Nat))), V.int IntKind.i64 n2, V.slc script script_n script_f] ∧ Q1 [V.bool (n7 == n9)] h'9 else ∃ (b8 : Bool), h'7.ld h1.next (1 : Nat) = some (V.bool b8) ∧ bif b8 then ∃ (n10 : Int),
  h'7.ld h1.next (4 : Nat) = some (V.int IntKind.u64 n10) ∧ ∃ (n11 : Int), h'7.ld h1.next (4 : Nat) = some (V.int IntKind.u64 n11) ∧ XCalls Try.prog (12 : Nat) [V.ptr a1, V.int IntKind.u64 n10] h'7 fun (v7 : V) (h'10 : Hp) => ∃ (b9 : Bool),
  v7 = V.bool b9 ∧ (∃ (n12 : Int), h'10.ld h1.next (4 : Nat) = some (V.int IntKind.u64 n12) ∧ V.int IntKind.u64 n12 = V.int IntKind.u64 n11) ∧ V.ptr (some (h1.next, (4 : Nat))) = V.ptr (some (h1.next, (4 : Nat))) ∧ V.ptr (some (h'2.next, (0
  : Nat))) = V.ptr (some (h'2.next, (0 : Nat))) ∧ XCalls Try.prog (31 : Nat) [V.ptr (some (h'2.next, (0 : Nat))), V.int IntKind.u64 n11] h'10 fun (v8 : V) (h'11 : Hp) => ∃ (b10 : Bool), v8 = V.bool b10 ∧ [V.ptr a1, V.ptr (some (h1.next, (0 :
  Nat))), V.ptr (some (h'2.next, (0 : Nat))), V.int IntKind.i64 n2, V.slc script script_n script_f] = [V.ptr a1, V.ptr (some (h1.next, (0 : Nat))), V.ptr (some (h'2.next, (0 : Nat))), V.int IntKind.i64 n2, V.slc script script_n script_f] ∧
  Q1 [V.bool (b9 == b10)] h'11 else ∃ (b11 : Bool), h'7.ld h1.next (2 : Nat) = some (V.bool b11) ∧ bif b11 then XCalls Try.prog (13 : Nat) [V.ptr a1] h'7 fun (v9 : V) (h'12 : Hp) => ∃ (n13 : Int), ∃ (n14 : Int), ∃ (n15 : Int), ∃ (n16 : Int),
  ∃ (n17 : Int), ∃ (b12 : Bool), v9 = V.tup [V.agg [V.int IntKind.u32 n13, V.int IntKind.u16 n14, V.int IntKind.u32 n15, V.int IntKind.u16 n16], V.int IntKind.u64 n17, V.bool b12] ∧ ∀ (h'13 : Hp), h'13 = h'12.alloc (O.row [V.int IntKind.u32
  (0 : Int), V.int IntKind.u16 (0 : Int), V.int IntKind.u32 (0 : Int), V.int IntKind.u16 (0 : Int)] (1 : Nat) false) → ∃ (h'14 : Hp), h'13.st h'12.next (0 : Nat) [V.int IntKind.u32 n13, V.int IntKind.u16 n14, V.int IntKind.u32 n15, V.int
  IntKind.u16 n16] = some h'14 ∧ XCalls Try.prog (32 : Nat) [V.ptr (some (h'2.next, (0 : Nat)))] h'14 fun (v10 : V) (h'15 : Hp) => ∃ (n18 : Int), ∃ (n19 : Int), ∃ (n20 : Int), ∃ (n21 : Int), ∃ (n22 : Int), ∃ (b13 : Bool), v10 = V.tup [V.agg
  [V.int IntKind.u32 n18, V.int IntKind.u16 n19, V.int IntKind.u32 n20, V.int IntKind.u16 n21], V.int IntKind.u64 n22, V.bool b13] ∧ ∀ (h'16 : Hp), h'16 = h'15.alloc (O.row [V.int IntKind.u32 (0 : Int), V.int IntKind.u16 (0 : Int), V.int
  IntKind.u32 (0 : Int), V.int IntKind.u16 (0 : Int)] (1 : Nat) false) → ∃ (h'17 : Hp), h'16.st h'15.next (0 : Nat) [V.int IntKind.u32 n18, V.int IntKind.u16 n19, V.int IntKind.u32 n20, V.int IntKind.u16 n21] = some h'17 ∧ ∃ (n23 : Int), ∃
  (n24 : Int), ∃ (n25 : Int), ∃ (n26 : Int), h'17.lda h'12.next (0 : Nat) (4 : Nat) = some (V.agg [V.int IntKind.u32 n23, V.int IntKind.u16 n24, V.int IntKind.u32 n25, V.int IntKind.u16 n26]) ∧ ∃ (n27 : Int), ∃ (n28 : Int), ∃ (n29 : Int), ∃
  (n30 : Int), h'17.lda h'15.next (0 : Nat) (4 : Nat) = some (V.agg [V.int IntKind.u32 n27, V.int IntKind.u16 n28, V.int IntKind.u32 n29, V.int IntKind.u16 n30]) ∧ bif n23 == n27 && (n24 == n28 && true) && (n25 == n29 && (n26 == n30 && true)
  && true) then bif n17 == n22 then [V.ptr a1, V.ptr (some (h1.next, (0 : Nat))), V.ptr (some (h'2.next, (0 : Nat))), V.int IntKind.i64 n2, V.slc script script_n script_f] = [V.ptr a1, V.ptr (some (h1.next, (0 : Nat))), V.ptr (some
  (h'2.next, (0 : Nat))), V.int IntKind.i64 n2, V.slc script script_n script_f] ∧ Q1 [V.bool (b12 == b13)] h'17 else [V.ptr a1, V.ptr (some (h1.next, (0 : Nat))), V.ptr (some (h'2.next, (0 : Nat))), V.int IntKind.i64 n2, V.slc script
  script_n script_f] = [V.ptr a1, V.ptr (some (h1.next, (0 : Nat))), V.ptr (some (h'2.next, (0 : Nat))), V.int IntKind.i64 n2, V.slc script script_n script_f] ∧ Q1 [V.bool false] h'17 else [V.ptr a1, V.ptr (some (h1.next, (0 : Nat))), V.ptr
  (some (h'2.next, (0 : Nat))), V.int IntKind.i64 n2, V.slc script script_n script_f] = [V.ptr a1, V.ptr (some (h1.next, (0 : Nat))), V.ptr (some (h'2.next, (0 : Nat))), V.int IntKind.i64 n2, V.slc script script_n script_f] ∧ Q1 [V.bool
  false] h'17 else ∃ (n31 : Int), h'7.ld h1.next (3 : Nat) = some (V.int IntKind.u8 n31) ∧ ∃ (n32 : Int), h'7.ld h1.next (4 : Nat) = some (V.int IntKind.u64 n32) ∧ ∃ (n33 : Int), h'7.ld h1.next (3 : Nat) = some (V.int IntKind.u8 n33) ∧ ∃
  (n34 : Int), h'7.ld h1.next (4 : Nat) = some (V.int IntKind.u64 n34) ∧ XCalls Try.prog (15 : Nat) [V.int IntKind.u8 n31] h'7 fun (v11 : V) (h'18 : Hp) => ∃ (n35 : Int), ∃ (n36 : Int), ∃ (n37 : Int), ∃ (n38 : Int), v11 = V.agg [V.int
  IntKind.u32 n35, V.int IntKind.u16 n36, V.int IntKind.u32 n37, V.int IntKind.u16 n38] ∧ (∃ (n39 : Int), h'18.ld h1.next (4 : Nat) = some (V.int IntKind.u64 n39) ∧ V.int IntKind.u64 n39 = V.int IntKind.u64 n34) ∧ V.ptr (some (h1.next, (4 :
  Nat))) = V.ptr (some (h1.next, (4 : Nat))) ∧ (∃ (n40 : Int), h'18.ld h1.next (3 : Nat) = some (V.int IntKind.u8 n40) ∧ V.int IntKind.u8 n40 = V.int IntKind.u8 n33) ∧ V.ptr (some (h1.next, (3 : Nat))) = V.ptr (some (h1.next, (3 : Nat))) ∧
  V.ptr (some (h'2.next, (0 : Nat))) = V.ptr (some (h'2.next, (0 : Nat))) ∧ (∃ (n41 : Int), h'18.ld h1.next (4 : Nat) = some (V.int IntKind.u64 n41) ∧ V.int IntKind.u64 n41 = V.int IntKind.u64 n32) ∧ V.ptr (some (h1.next, (4 : Nat))) = V.ptr
  (some (h1.next, (4 : Nat))) ∧ V.ptr a1 = V.ptr a1 ∧ XCalls Try.prog (14 : Nat) [V.ptr a1, V.agg [V.int IntKind.u32 n35, V.int IntKind.u16 n36, V.int IntKind.u32 n37, V.int IntKind.u16 n38], V.int IntKind.u64 n32] h'18 fun (v12 : V) (h'19 :
  Hp) => ∃ (n42 : Int), v12 = V.int IntKind.i64 n42 ∧ (∃ (n43 : Int), h'19.ld h1.next (4 : Nat) = some (V.int IntKind.u64 n43) ∧ V.int IntKind.u64 n43 = V.int IntKind.u64 n34) ∧ V.ptr (some (h1.next, (4 : Nat))) = V.ptr (some (h1.next, (4 :
  Nat))) ∧ (∃ (n44 : Int), h'19.ld h1.next (3 : Nat) = some (V.int IntKind.u8 n44) ∧ V.int IntKind.u8 n44 = V.int IntKind.u8 n33) ∧ V.ptr (some (h1.next, (3 : Nat))) = V.ptr (some (h1.next, (3 : Nat))) ∧ V.ptr (some (h'2.next, (0 : Nat))) =
  V.ptr (some (h'2.next, (0 : Nat))) ∧ XCalls Try.prog (15 : Nat) [V.int IntKind.u8 n33] h'19 fun (v13 : V) (h'20 : Hp) => ∃ (n45 : Int), ∃ (n46 : Int), ∃ (n47 : Int), ∃ (n48 : Int), v13 = V.agg [V.int IntKind.u32 n45, V.int IntKind.u16 n46,
  V.int IntKind.u32 n47, V.int IntKind.u16 n48] ∧ (∃ (n49 : Int), h'20.ld h1.next (4 : Nat) = some (V.int IntKind.u64 n49) ∧ V.int IntKind.u64 n49 = V.int IntKind.u64 n34) ∧ V.ptr (some (h1.next, (4 : Nat))) = V.ptr (some (h1.next, (4 :
  Nat))) ∧ V.ptr (some (h'2.next, (0 : Nat))) = V.ptr (some (h'2.next, (0 : Nat))) ∧ XCalls Try.prog (33 : Nat) [V.ptr (some (h'2.next, (0 : Nat))), V.agg [V.int IntKind.u32 n45, V.int IntKind.u16 n46, V.int IntKind.u32 n47, V.int
  IntKind.u16 n48], V.int IntKind.u64 n34] h'20 fun (v14 : V) (h'21 : Hp) => ∃ (n50 : Int), v14 = V.int IntKind.i64 n50 ∧ [V.ptr a1, V.ptr (some (h1.next, (0 : Nat))), V.ptr (some (h'2.next, (0 : Nat))), V.int IntKind.i64 n2, V.slc script
  script_n script_f] = [V.ptr a1, V.ptr (some (h1.next, (0 : Nat))), V.ptr (some (h'2.next, (0 : Nat))), V.int IntKind.i64 n2, V.slc script script_n script_f] ∧ Q1 [V.bool (n42 == n50)] h'21) ∧ ∀ (bs2 : Nat → Option V) (b14 : Bool) (h2 :
  Hp), Q1 [V.bool b14] h2 → ∃ (n51 : Int), h2.ld h1.next (3 : Nat) = some (V.int IntKind.u8 n51) ∧ XCalls Try.prog (15 : Nat) [V.int IntKind.u8 n51] h2 fun (v15 : V) (h'22 : Hp) => ∃ (n52 : Int), ∃ (n53 : Int), ∃ (n54 : Int), ∃ (n55 : Int),
  v15 = V.agg [V.int IntKind.u32 n52, V.int IntKind.u16 n53, V.int IntKind.u32 n54, V.int IntKind.u16 n55] ∧ XCalls Try.prog (34 : Nat) [V.ptr a1, V.agg [V.int IntKind.u32 n52, V.int IntKind.u16 n53, V.int IntKind.u32 n54, V.int IntKind.u16
  n55]] h'22 fun (v16 : V) (h'23 : Hp) => ∃ (n56 : Int), ∃ (b15 : Bool), v16 = V.tup [V.int IntKind.u64 n56, V.bool b15] ∧ XCalls Try.prog (16 : Nat) [V.ptr a1] h'23 fun (v17 : V) (h'24 : Hp) => ∃ (n57 : Int), ∃ (n58 : Int), v17 = V.tup
  [V.int IntKind.i64 n57, V.int IntKind.i64 n58] ∧ XCalls Try.prog (35 : Nat) [V.ptr (some (h'2.next, (0 : Nat)))] h'24 fun (v18 : V) (h'25 : Hp) => ∃ (n59 : Int), ∃ (n60 : Int), v18 = V.tup [V.int IntKind.i64 n59, V.int IntKind.i64 n60] ∧
  XCalls Try.prog (36 : Nat) [V.ptr a1] h'25 fun (v19 : V) (h'26 : Hp) => ∃ (a2 : Option (Nat × Nat)), ∃ (n61 : Nat), ∃ (f1 : Bool), v19 = V.slc a2 n61 f1 ∧ bif !b14 then K (V.bool false) h'26 else ∃ (n62 : Int), h'26.ld h1.next (3 : Nat) =
  some (V.int IntKind.u8 n62) ∧ XCalls Try.prog (15 : Nat) [V.int IntKind.u8 n62] h'26 fun (v20 : V) (h'27 : Hp) => ∃ (n63 : Int), ∃ (n64 : Int), ∃ (n65 : Int), ∃ (n66 : Int), v20 = V.agg [V.int IntKind.u32 n63, V.int IntKind.u16 n64, V.int
  IntKind.u32 n65, V.int IntKind.u16 n66] ∧ XCalls Try.prog (37 : Nat) [V.ptr (some (h'2.next, (0 : Nat))), V.agg [V.int IntKind.u32 n63, V.int IntKind.u16 n64, V.int IntKind.u32 n65, V.int IntKind.u16 n66]] h'27 fun (v21 : V) (h'28 : Hp) =>
  ∃ (n67 : Int), v21 = V.int IntKind.u64 n67 ∧ bif n56 != n67 then K (V.bool false) h'28 else bif !b15 == (n56 != (0 : Int)) then K (V.bool false) h'28 else bif n57 != n59 then K (V.bool false) h'28 else bif n58 != n60 then K (V.bool false)
  h'28 else bif (↑n61 : Int) != IntKind.i64.wrap (n57 + n58) then K (V.bool false) h'28 else ∃ (I2 : List V → Hp → Prop), ∃ (x2 : List V → Hp → Nat), ([V.slc script script_n script_f, V.ptr a1, V.ptr (some (h'2.next, (0 : Nat))), V.int
  IntKind.i64 n2, V.slc a2 n61 f1] = [V.slc script script_n script_f, V.ptr a1, V.ptr (some (h'2.next, (0 : Nat))), V.int IntKind.i64 n2, V.slc a2 n61 f1] ∧ I2 [V.int IntKind.i64 (0 : Int)] h'28) ∧ ∀ (bs3 : Nat → Option V) (n68 : Int) (h3 :
  Hp), I2 [V.int IntKind.i64 n68] h3 → bif ltI n68 (↑n61 : Int) then ((0 : Int) ≤ n68 ∧ n68 < (↑n61 : Int)) ∧ onS a2 fun (i2 o2 : Nat) => ∃ (n69 : Int), h3.ld i2 (o2 + n68.toNat * (1 : Nat)) = some (V.int IntKind.u64 n69) ∧ XCalls Try.prog
  (38 : Nat) [V.ptr (some (h'2.next, (0 : Nat))), V.int IntKind.u64 n69] h3 fun (v22 : V) (h'29 : Hp) => ∃ (n70 : Int), v22 = V.int IntKind.i64 n70 ∧ bif ltI n70 (0 : Int) then K (V.bool false) h'29 else bif ltI (0 : Int) n68 then ((0 : Int)
  ≤ IntKind.i64.wrap (n68 - (1 : Int)) ∧ IntKind.i64.wrap (n68 - (1 : Int)) < (↑n61 : Int)) ∧ onS a2 fun (i3 o3 : Nat) => ∃ (n71 : Int), h'29.ld i3 (o3 + (IntKind.i64.wrap (n68 - (1 : Int))).toNat * (1 : Nat)) = some (V.int IntKind.u64 n71)
  ∧ ((0 : Int) ≤ n68 ∧ n68 < (↑n61 : Int)) ∧ onS a2 fun (i4 o4 : Nat) => ∃ (n72 : Int), h'29.ld i4 (o4 + n68.toNat * (1 : Nat)) = some (V.int IntKind.u64 n72) ∧ bif !ltI n71 n72 then K (V.bool false) h'29 else [V.slc script script_n
  script_f, V.ptr a1, V.ptr (some (h'2.next, (0 : Nat))), V.int IntKind.i64 n2, V.slc a2 n61 f1] = [V.slc script script_n script_f, V.ptr a1, V.ptr (some (h'2.next, (0 : Nat))), V.int IntKind.i64 n2, V.slc a2 n61 f1] ∧ I2 [V.int IntKind.i64
  (IntKind.i64.wrap (n68 + (1 : Int)))] h'29 ∧ x2 [V.int IntKind.i64 (IntKind.i64.wrap (n68 + (1 : Int)))] h'29 < x2 [V.int IntKind.i64 n68] h3 else [V.slc script script_n script_f, V.ptr a1, V.ptr (some (h'2.next, (0 : Nat))), V.int
  IntKind.i64 n2, V.slc a2 n61 f1] = [V.slc script script_n script_f, V.ptr a1, V.ptr (some (h'2.next, (0 : Nat))), V.int IntKind.i64 n2, V.slc a2 n61 f1] ∧ I2 [V.int IntKind.i64 (IntKind.i64.wrap (n68 + (1 : Int)))] h'29 ∧ x2 [V.int
  IntKind.i64 (IntKind.i64.wrap (n68 + (1 : Int)))] h'29 < x2 [V.int IntKind.i64 n68] h3 else [V.slc script script_n script_f, V.ptr a1, V.ptr (some (h'2.next, (0 : Nat)))] = [V.slc script script_n script_f, V.ptr a1, V.ptr (some (h'2.next,
  (0 : Nat)))] ∧ I1 [V.int IntKind.i64 (IntKind.i64.wrap (n2 + (1 : Int)))] h3 ∧ x1 [V.int IntKind.i64 (IntKind.i64.wrap (n2 + (1 : Int)))] h3 < x1 [V.int IntKind.i64 n2] h1 else XCalls Try.prog (9 : Nat) [] h1 fun (v23 : V) (h'30 : Hp) => ∃
  (b16 : Bool), v23 = V.bool b16 ∧ K (V.bool b16) h'30
theorem y7 (h : Hp) (K : V → Hp → Prop) (backlog : Int) (script : Option (Nat × Nat)) (script_n : Nat) (script_f : Bool) : X7 h K backlog script script_n script_f = fnX Try.prog T F jl7 jj7 Try.f7 [V.int IntKind.i64 backlog, V.slc script script_n script_f] h K := by kernel_rfl
theorem x7 {h : Hp} {K : V → Hp → Prop} (backlog : Int) (script : Option (Nat × Nat)) (script_n : Nat) (script_f : Bool) (hx : X7 h K backlog script script_n script_f) : XCalls Try.prog 7 [V.int IntKind.i64 backlog, V.slc script script_n script_f] h K :=
  XCalls.ofX tok fok mixed (JL := jl7) (JJ := jj7) Try.func7 ((y7 h K backlog script script_n script_f) ▸ hx) 
end Go.Vex
