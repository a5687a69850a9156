/- more of call.Table, and the reference, as statements about data (printed by VexPrint).
-/
import Derived.Test.YtibmhpkmmcgncaaVexX
import Derived.Test.YtibmhpkmmcgncaaTab29
set_option linter.unusedVariables false
set_option maxRecDepth 100000
namespace Go.Vex
open Go.Proofs
/-! 19: stevedore/stevedorelaw29.opened -/
def jl19 : Nat → Option JT := fun r => none
def jj19 : Nat → Option JT := fun r => none
def X19 (h : Hp) (K : V → Hp → Prop) (t : Nat) (proto : Int) : Prop := bif proto == (0 : Int) then XCalls Try.prog (26 : Nat) [V.ptr (some (t, (0 : Nat)))] h fun (v1 : V) (h'1 : Hp) => ∃ (n1 : Int), ∃ (n2 : Int), ∃ (n3 : Int), v1 = V.tup
  [V.int IntKind.i64 n1, V.int IntKind.u64 n2, V.int IntKind.i64 n3] ∧ K (V.tup [V.int IntKind.i64 n1, V.int IntKind.u64 n2, V.int IntKind.i64 n3]) h'1 else XCalls Try.prog (9 : Nat) [V.ptr (some (t, (0 : Nat))), V.int IntKind.u8 proto] h
  fun (v2 : V) (h'2 : Hp) => ∃ (n4 : Int), ∃ (n5 : Int), ∃ (n6 : Int), v2 = V.tup [V.int IntKind.i64 n4, V.int IntKind.u64 n5, V.int IntKind.i64 n6] ∧ K (V.tup [V.int IntKind.i64 n4, V.int IntKind.u64 n5, V.int IntKind.i64 n6]) h'2
theorem y19 (h : Hp) (K : V → Hp → Prop) (t : Nat) (proto : Int) : X19 h K t proto = fnX Try.prog T F jl19 jj19 Try.f19 [V.ptr (some (t, (0 : Nat))), V.int IntKind.u8 proto] h K := by kernel_rfl
theorem x19 {h : Hp} {K : V → Hp → Prop} (t : Nat) (proto : Int) (hx : X19 h K t proto) : XCalls Try.prog 19 [V.ptr (some (t, (0 : Nat))), V.int IntKind.u8 proto] h K :=
  XCalls.ofX tok fok mixed (JL := jl19) (JJ := jj19) Try.func19 ((y19 h K t proto) ▸ hx)
/-! 26: (*stevedore/call.Table).Look -/
def jl26 : Nat → Option JT := fun r => none
def jj26 : Nat → Option JT := fun r => none
def X26 (h : Hp) (K : V → Hp → Prop) (t : Nat) : Prop := ∃ (r1 : Option Nat), h.ld t (2 : Nat) = some (V.map r1) ∧ bif r1.isNone then K (V.tup [V.int IntKind.i64 (0 : Int), V.int IntKind.u64 (0 : Int), V.int IntKind.i64 (1 : Int)]) h else
  XCalls Try.prog (34 : Nat) [V.ptr (some (t, (0 : Nat))), V.agg [V.int IntKind.u8 (2 : Int), V.int IntKind.u8 (0 : Int), V.int IntKind.u64 (0 : Int), V.bool false]] h fun (v1 : V) (h'1 : Hp) => ∃ (n1 : Int), ∃ (n2 : Int), ∃ (n3 : Int), v1 =
  V.tup [V.int IntKind.i64 n1, V.int IntKind.u64 n2, V.int IntKind.i64 n3] ∧ K (V.tup [V.int IntKind.i64 n1, V.int IntKind.u64 n2, V.int IntKind.i64 n3]) h'1
theorem y26 (h : Hp) (K : V → Hp → Prop) (t : Nat) : X26 h K t = fnX Try.prog T F jl26 jj26 Try.f26 [V.ptr (some (t, (0 : Nat)))] h K := by kernel_rfl
theorem x26 {h : Hp} {K : V → Hp → Prop} (t : Nat) (hx : X26 h K t) : XCalls Try.prog 26 [V.ptr (some (t, (0 : Nat)))] h K :=
  XCalls.ofX tok fok mixed (JL := jl26) (JJ := jj26) Try.func26 ((y26 h K t) ▸ hx)
/-! 28: (*stevedore/call.Table).Calm -/
def jl28 : Nat → Option JT := fun r => none
def jj28 : Nat → Option JT := fun r => none
def X28 (h : Hp) (K : V → Hp → Prop) (t : Nat) (fd : Int) (is : Bool) : Prop := ∃ (r1 : Option Nat), h.ld t (2 : Nat) = some (V.map r1) ∧ bif r1.isNone then K (V.int IntKind.i64 (1 : Int)) h else ∃ (r2 : Option Nat), h.ld t (2 : Nat) = some
  (V.map r2) ∧ ∃ (n1 : Int), ∃ (n2 : Int), ∃ (n3 : Int), ∃ (b1 : Bool), ∃ (b'1 : Bool), xlook T h (80 : Nat) (V.map r2) (V.int IntKind.i64 fd) true = some (V.tup [V.agg [V.int IntKind.u8 n1, V.int IntKind.u8 n2, V.int IntKind.u64 n3, V.bool
  b1], V.bool b'1]) ∧ ∀ (h'1 : Hp), h'1 = h.alloc (O.row [V.int IntKind.u8 (0 : Int), V.int IntKind.u8 (0 : Int), V.int IntKind.u64 (0 : Int), V.bool false] (1 : Nat) false) → ∃ (h'2 : Hp), h'1.st h.next (0 : Nat) [V.int IntKind.u8 n1, V.int
  IntKind.u8 n2, V.int IntKind.u64 n3, V.bool b1] = some h'2 ∧ bif !b'1 then K (V.int IntKind.i64 (290 : Int)) h'2 else ∃ (h'3 : Hp), h'2.st h.next (3 : Nat) [V.bool is] = some h'3 ∧ ∃ (r3 : Option Nat), h'3.ld t (2 : Nat) = some (V.map r3)
  ∧ ∃ (n4 : Int), ∃ (n5 : Int), ∃ (n6 : Int), ∃ (b2 : Bool), h'3.lda h.next (0 : Nat) (4 : Nat) = some (V.agg [V.int IntKind.u8 n4, V.int IntKind.u8 n5, V.int IntKind.u64 n6, V.bool b2]) ∧ ∃ (h'4 : Hp), xput T h'3 (80 : Nat) (V.map r3)
  (V.int IntKind.i64 fd) (V.agg [V.int IntKind.u8 n4, V.int IntKind.u8 n5, V.int IntKind.u64 n6, V.bool b2]) = some h'4 ∧ K (V.int IntKind.i64 (0 : Int)) h'4
theorem y28 (h : Hp) (K : V → Hp → Prop) (t : Nat) (fd : Int) (is : Bool) : X28 h K t fd is = fnX Try.prog T F jl28 jj28 Try.f28 [V.ptr (some (t, (0 : Nat))), V.int IntKind.i64 fd, V.bool is] h K := by kernel_rfl
theorem x28 {h : Hp} {K : V → Hp → Prop} (t : Nat) (fd : Int) (is : Bool) (hx : X28 h K t fd is) : XCalls Try.prog 28 [V.ptr (some (t, (0 : Nat))), V.int IntKind.i64 fd, V.bool is] h K :=
  XCalls.ofX tok fok mixed (JL := jl28) (JJ := jj28) Try.func28 ((y28 h K t fd is) ▸ hx)
/-! 29: (*stevedore/call.Table).Place -/
def jl29 : Nat → Option JT := fun r => none
def jj29 : Nat → Option JT := fun r => none
def X29 (h : Hp) (K : V → Hp → Prop) (t : Nat) (fd : Int) (own : Int) (draw : Int) : Prop := ∀ (h'1 : Hp), h'1 = h.alloc (O.row [V.ptr (some (t, (0 : Nat)))] (1 : Nat) false) → ∀ (h'2 : Hp), h'2 = h'1.alloc (O.row [V.int IntKind.u32 own] (1
  : Nat) false) → ∃ (a1 : Option (Nat × Nat)), h'2.ld h.next (0 : Nat) = some (V.ptr a1) ∧ ∀ (h'3 : Hp), h'3 = h'2.alloc (O.row [V.fn (Fn.func (64 : Nat)) [] [V.ptr (some (h.next, (0 : Nat))), V.ptr (some (h'1.next, (0 : Nat)))], V.fn
  (Fn.func (41 : Nat)) [] []] (1 : Nat) false) → XCalls Try.prog (35 : Nat) [V.ptr a1, V.int IntKind.i64 fd, V.slc (some (h'2.next, (0 : Nat))) (2 : Nat) true] h'3 fun (v1 : V) (h'4 : Hp) => ∃ (n1 : Int), ∃ (a2 : Option (Nat × Nat)), ∃ (n2 :
  Int), v1 = V.tup [V.int IntKind.u64 n1, V.ptr a2, V.int IntKind.i64 n2] ∧ bif n2 != (0 : Int) then K (V.int IntKind.i64 n2) h'4 else ∃ (a3 : Option (Nat × Nat)), h'4.ld h.next (0 : Nat) = some (V.ptr a3) ∧ onS a3 fun (i1 o1 : Nat) => ∃ (a4
  : Option (Nat × Nat)), h'4.ld i1 (o1 + (4 : Nat)) = some (V.ptr a4) ∧ onS a2 fun (i2 o2 : Nat) => ∃ (n3 : Int), h'4.ld i2 (o2 + (0 : Nat) + (0 : Nat)) = some (V.int IntKind.u8 n3) ∧ ∃ (n4 : Int), h'4.ld h'1.next (0 : Nat) = some (V.int
  IntKind.u32 n4) ∧ XCalls Try.prog (50 : Nat) [V.ptr a4, V.int IntKind.u64 n1, V.agg [V.int IntKind.u8 n3, V.int IntKind.u32 n4, V.int IntKind.u16 (0 : Int), V.bool false], V.int IntKind.u16 draw] h'4 fun (v2 : V) (h'5 : Hp) => ∃ (n5 :
  Int), ∃ (n6 : Int), v2 = V.tup [V.int IntKind.u16 n5, V.int IntKind.i64 n6] ∧ bif n6 == (0 : Int) then onS a2 fun (i3 o3 : Nat) => ∃ (n7 : Int), h'5.ld i3 (o3 + (0 : Nat) + (0 : Nat)) = some (V.int IntKind.u8 n7) ∧ ∃ (n8 : Int), h'5.ld
  h'1.next (0 : Nat) = some (V.int IntKind.u32 n8) ∧ onS a2 fun (i4 o4 : Nat) => ∃ (h'6 : Hp), h'5.st i4 (o4 + (0 : Nat) + (1 : Nat)) [V.int IntKind.u8 (1 : Int)] = some h'6 ∧ V.agg [V.int IntKind.u8 n7, V.int IntKind.u32 n8, V.int
  IntKind.u16 n5, V.bool false] = V.agg [V.int IntKind.u8 n7, V.int IntKind.u32 n8, V.int IntKind.u16 n5, V.bool false] ∧ V.int IntKind.u16 n5 = V.int IntKind.u16 n5 ∧ (∃ (n9 : Int), h'6.ld h'1.next (0 : Nat) = some (V.int IntKind.u32 n9) ∧
  V.int IntKind.u32 n9 = V.int IntKind.u32 n8) ∧ V.ptr a2 = V.ptr a2 ∧ onS a2 fun (i5 o5 : Nat) => ∃ (h'7 : Hp), h'6.st i5 (o5 + (0 : Nat) + (2 : Nat)) [V.int IntKind.u8 n7, V.int IntKind.u32 n8, V.int IntKind.u16 n5, V.bool false] = some
  h'7 ∧ K (V.int IntKind.i64 n6) h'7 else K (V.int IntKind.i64 n6) h'5
theorem y29 (h : Hp) (K : V → Hp → Prop) (t : Nat) (fd : Int) (own : Int) (draw : Int) : X29 h K t fd own draw = fnX Try.prog T F jl29 jj29 Try.f29 [V.ptr (some (t, (0 : Nat))), V.int IntKind.i64 fd, V.int IntKind.u32 own, V.int IntKind.u16 draw] h K := by kernel_rfl
theorem x29 {h : Hp} {K : V → Hp → Prop} (t : Nat) (fd : Int) (own : Int) (draw : Int) (hx : X29 h K t fd own draw) : XCalls Try.prog 29 [V.ptr (some (t, (0 : Nat))), V.int IntKind.i64 fd, V.int IntKind.u32 own, V.int IntKind.u16 draw] h K :=
  XCalls.ofX tok fok mixed (JL := jl29) (JJ := jj29) Try.func29 ((y29 h K t fd own draw) ▸ hx)
/-! 30: (*stevedore/call.Table).Back -/
def jl30 : Nat → Option JT := fun r => none
def jj30 : Nat → Option JT := fun r => none
def X30 (h : Hp) (K : V → Hp → Prop) (t : Nat) (id : Int) : Prop := ∃ (r1 : Option Nat), h.ld t (3 : Nat) = some (V.map r1) ∧ ∃ (a1 : Option (Nat × Nat)), xlook T h (81 : Nat) (V.map r1) (V.int IntKind.u64 id) false = some (V.ptr a1) ∧ bif
  a1.isNone then K (V.bool false) h else ∃ (r2 : Option Nat), h.ld t (3 : Nat) = some (V.map r2) ∧ ∃ (a2 : Option (Nat × Nat)), xlook T h (81 : Nat) (V.map r2) (V.int IntKind.u64 id) false = some (V.ptr a2) ∧ onS a2 fun (i1 o1 : Nat) => ∃
  (n1 : Int), h.ld i1 (o1 + (0 : Nat) + (1 : Nat)) = some (V.int IntKind.u8 n1) ∧ bif n1 != (3 : Int) then K (V.bool false) h else ∃ (r3 : Option Nat), h.ld t (3 : Nat) = some (V.map r3) ∧ ∃ (a3 : Option (Nat × Nat)), xlook T h (81 : Nat)
  (V.map r3) (V.int IntKind.u64 id) false = some (V.ptr a3) ∧ onS a3 fun (i2 o2 : Nat) => ∃ (n2 : Int), h.ld i2 (o2 + (0 : Nat) + (2 : Nat) + (0 : Nat)) = some (V.int IntKind.u8 n2) ∧ bif n2 == (0 : Int) then K (V.bool false) h else ∃ (r4 :
  Option Nat), h.ld t (3 : Nat) = some (V.map r4) ∧ ∃ (a4 : Option (Nat × Nat)), xlook T h (81 : Nat) (V.map r4) (V.int IntKind.u64 id) false = some (V.ptr a4) ∧ onS a4 fun (i3 o3 : Nat) => ∃ (n3 : Int), h.ld i3 (o3 + (11 : Nat)) = some
  (V.int IntKind.u8 n3) ∧ onS a4 fun (i4 o4 : Nat) => ∃ (h'1 : Hp), h.st i4 (o4 + (0 : Nat) + (1 : Nat)) [V.int IntKind.u8 n3] = some h'1 ∧ onS a4 fun (i5 o5 : Nat) => ∃ (h'2 : Hp), h'1.st i5 (o5 + (0 : Nat) + (6 : Nat)) [V.int IntKind.u32
  (0 : Int), V.int IntKind.u16 (0 : Int), V.int IntKind.u32 (0 : Int), V.int IntKind.u16 (0 : Int)] = some h'2 ∧ onS a4 fun (i6 o6 : Nat) => ∃ (n4 : Int), h'2.ld i6 (o6 + (0 : Nat) + (1 : Nat)) = some (V.int IntKind.u8 n4) ∧ bif n4 == (0 :
  Int) then onS a4 fun (i7 o7 : Nat) => ∃ (h'3 : Hp), h'2.st i7 (o7 + (0 : Nat) + (2 : Nat)) [V.int IntKind.u8 (0 : Int), V.int IntKind.u32 (0 : Int), V.int IntKind.u16 (0 : Int), V.bool false] = some h'3 ∧ ∃ (a5 : Option (Nat × Nat)),
  h'3.ld t (4 : Nat) = some (V.ptr a5) ∧ ∀ (h'4 : Hp), h'4 = h'3.alloc (O.row [V.int IntKind.u64 id] (1 : Nat) false) → XCalls Try.prog (51 : Nat) [V.ptr a5, V.slc (some (h'3.next, (0 : Nat))) (1 : Nat) true] h'4 fun (v1 : V) (h'5 : Hp) => ∃
  (n5 : Int), v1 = V.int IntKind.i64 n5 ∧ K (V.bool true) h'5 else K (V.bool true) h'2
theorem y30 (h : Hp) (K : V → Hp → Prop) (t : Nat) (id : Int) : X30 h K t id = fnX Try.prog T F jl30 jj30 Try.f30 [V.ptr (some (t, (0 : Nat))), V.int IntKind.u64 id] h K := by kernel_rfl
theorem x30 {h : Hp} {K : V → Hp → Prop} (t : Nat) (id : Int) (hx : X30 h K t id) : XCalls Try.prog 30 [V.ptr (some (t, (0 : Nat))), V.int IntKind.u64 id] h K :=
  XCalls.ofX tok fok mixed (JL := jl30) (JJ := jj30) Try.func30 ((y30 h K t id) ▸ hx)
/-! 64: (*stevedore/call.Table).Place$1 -/
def jl64 : Nat → Option JT := fun r => none
def jj64 : Nat → Option JT := fun r => none
def X64 (h : Hp) (K : V → Hp → Prop) (a0 : Nat) (c1 : Nat) (c2 : Nat) : Prop := ∃ (a1 : Option (Nat × Nat)), h.ld c1 (0 : Nat) = some (V.ptr a1) ∧ onS a1 fun (i1 o1 : Nat) => ∃ (a2 : Option (Nat × Nat)), ∃ (n1 : Nat), ∃ (f1 : Bool), h.ld i1
  (o1 + (1 : Nat)) = some (V.slc a2 n1 f1) ∧ ∃ (n2 : Int), h.ld c2 (0 : Nat) = some (V.int IntKind.u32 n2) ∧ XCalls Try.prog (31 : Nat) [V.slc a2 n1 f1, V.int IntKind.u32 n2] h fun (v1 : V) (h'1 : Hp) => ∃ (b1 : Bool), v1 = V.bool b1 ∧
  XCalls Try.prog (37 : Nat) [V.bool b1, V.int IntKind.i64 (2 : Int)] h'1 fun (v2 : V) (h'2 : Hp) => ∃ (n3 : Int), v2 = V.int IntKind.i64 n3 ∧ K (V.int IntKind.i64 n3) h'2
theorem y64 (h : Hp) (K : V → Hp → Prop) (a0 : Nat) (c1 : Nat) (c2 : Nat) : X64 h K a0 c1 c2 = fnX Try.prog T F jl64 jj64 Try.f64 [V.ptr (some (a0, (0 : Nat))), V.ptr (some (c1, (0 : Nat))), V.ptr (some (c2, (0 : Nat)))] h K := by kernel_rfl
theorem x64 {h : Hp} {K : V → Hp → Prop} (a0 : Nat) (c1 : Nat) (c2 : Nat) (hx : X64 h K a0 c1 c2) : XCalls Try.prog 64 [V.ptr (some (a0, (0 : Nat))), V.ptr (some (c1, (0 : Nat))), V.ptr (some (c2, (0 : Nat)))] h K :=
  XCalls.ofX tok fok mixed (JL := jl64) (JJ := jj64) Try.func64 ((y64 h K a0 c1 c2) ▸ hx)
/-! 23: stevedore/stevedoreref29.New -/
def jl23 : Nat → Option JT := fun r => none
def jj23 : Nat → Option JT := fun r => none
def X23 (h : Hp) (K : V → Hp → Prop) (most : Int) (own : Option (Nat × Nat)) (own_n : Nat) (own_f : Bool) : Prop := ∀ (h'1 : Hp), h'1 = h.alloc (O.row [V.slc none (0 : Nat) true] (1 : Nat) false) → ∀ (h'2 : Hp), h'2 = h'1.alloc (O.row [V.int
  IntKind.i64 most, V.slc own own_n own_f, V.slc none (0 : Nat) true, V.slc none (0 : Nat) true, V.ptr (some (h.next, (0 : Nat))), V.int IntKind.u64 (0 : Int)] (1 : Nat) false) → K (V.ptr (some (h'1.next, (0 : Nat)))) h'2
theorem y23 (h : Hp) (K : V → Hp → Prop) (most : Int) (own : Option (Nat × Nat)) (own_n : Nat) (own_f : Bool) : X23 h K most own own_n own_f = fnX Try.prog T F jl23 jj23 Try.f23 [V.int IntKind.i64 most, V.slc own own_n own_f] h K := by kernel_rfl
theorem x23 {h : Hp} {K : V → Hp → Prop} (most : Int) (own : Option (Nat × Nat)) (own_n : Nat) (own_f : Bool) (hx : X23 h K most own own_n own_f) : XCalls Try.prog 23 [V.int IntKind.i64 most, V.slc own own_n own_f] h K :=
  XCalls.ofX tok fok mixed (JL := jl23) (JJ := jj23) Try.func23 ((y23 h K most own own_n own_f) ▸ hx)
/-! 53: (*stevedore/stevedoreref29.Table).At -/
-- loop 2: stays t(0), fd(1); turns i(5)
def jl53 : Nat → Option JT := fun r => bif Nat.beq r 2 then some ⟨[0, 1], [5], [V.int IntKind.i64 (0 : Int)]⟩ else none
def jj53 : Nat → Option JT := fun r => none
def X53 (h : Hp) (K : V → Hp → Prop) (t : Nat) (fd : Int) : Prop := ∃ (I1 : List V → Hp → Prop), ∃ (x1 : List V → Hp → Nat), ([V.ptr (some (t, (0 : Nat))), V.int IntKind.i64 fd] = [V.ptr (some (t, (0 : Nat))), V.int IntKind.i64 fd] ∧ I1
  [V.int IntKind.i64 (0 : Int)] h) ∧ ∀ (bs1 : Nat → Option V) (n1 : Int) (h1 : Hp), I1 [V.int IntKind.i64 n1] h1 → ∃ (a1 : Option (Nat × Nat)), ∃ (n2 : Nat), ∃ (f1 : Bool), h1.ld t (2 : Nat) = some (V.slc a1 n2 f1) ∧ bif ltI n1 (↑n2 : Int)
  then ∃ (a2 : Option (Nat × Nat)), ∃ (n3 : Nat), ∃ (f2 : Bool), h1.ld t (2 : Nat) = some (V.slc a2 n3 f2) ∧ ((0 : Int) ≤ n1 ∧ n1 < (↑n3 : Int)) ∧ onS a2 fun (i1 o1 : Nat) => ∃ (n4 : Int), h1.ld i1 (o1 + n1.toNat * (5 : Nat) + (0 : Nat)) =
  some (V.int IntKind.i64 n4) ∧ bif n4 == fd then K (V.int IntKind.i64 n1) h1 else [V.ptr (some (t, (0 : Nat))), V.int IntKind.i64 fd] = [V.ptr (some (t, (0 : Nat))), V.int IntKind.i64 fd] ∧ I1 [V.int IntKind.i64 (IntKind.i64.wrap (n1 + (1 :
  Int)))] h1 ∧ x1 [V.int IntKind.i64 (IntKind.i64.wrap (n1 + (1 : Int)))] h1 < x1 [V.int IntKind.i64 n1] h1 else K (V.int IntKind.i64 (-1 : Int)) h1
theorem y53 (h : Hp) (K : V → Hp → Prop) (t : Nat) (fd : Int) : X53 h K t fd = fnX Try.prog T F jl53 jj53 Try.f53 [V.ptr (some (t, (0 : Nat))), V.int IntKind.i64 fd] h K := by kernel_rfl
theorem x53 {h : Hp} {K : V → Hp → Prop} (t : Nat) (fd : Int) (hx : X53 h K t fd) : XCalls Try.prog 53 [V.ptr (some (t, (0 : Nat))), V.int IntKind.i64 fd] h K :=
  XCalls.ofX tok fok mixed (JL := jl53) (JJ := jj53) Try.func53 ((y53 h K t fd) ▸ hx)
/-! 54: (*stevedore/stevedoreref29.Table).Share -/
def jl54 : Nat → Option JT := fun r => none
def jj54 : Nat → Option JT := fun r => none
def X54 (h : Hp) (K : V → Hp → Prop) (t : Nat) (fd : Int) (is : Bool) : Prop := XCalls Try.prog (73 : Nat) [V.ptr (some (t, (0 : Nat))), V.int IntKind.i64 fd] h fun (v1 : V) (h'1 : Hp) => ∃ (n1 : Int), v1 = V.int IntKind.i64 n1 ∧ bif ltI n1
  (0 : Int) then K (V.int IntKind.i64 (290 : Int)) h'1 else ∃ (a1 : Option (Nat × Nat)), ∃ (n2 : Nat), ∃ (f1 : Bool), h'1.ld t (3 : Nat) = some (V.slc a1 n2 f1) ∧ ((0 : Int) ≤ n1 ∧ n1 < (↑n2 : Int)) ∧ onS a1 fun (i1 o1 : Nat) => ∃ (n3 :
  Int), ∃ (n4 : Int), ∃ (n5 : Int), ∃ (n6 : Int), ∃ (n7 : Int), ∃ (n8 : Int), ∃ (b1 : Bool), ∃ (n9 : Int), ∃ (n10 : Int), ∃ (n11 : Int), ∃ (n12 : Int), ∃ (b2 : Bool), ∃ (n13 : Int), h'1.lda i1 (o1 + n1.toNat * (13 : Nat)) (13 : Nat) = some
  (V.agg [V.int IntKind.u64 n3, V.int IntKind.u8 n4, V.int IntKind.u8 n5, V.int IntKind.u8 n6, V.int IntKind.u32 n7, V.int IntKind.u16 n8, V.bool b1, V.int IntKind.u32 n9, V.int IntKind.u16 n10, V.int IntKind.u32 n11, V.int IntKind.u16 n12,
  V.bool b2, V.int IntKind.u8 n13]) ∧ ∀ (h'2 : Hp), h'2 = h'1.alloc (O.row [V.int IntKind.u64 (0 : Int), V.int IntKind.u8 (0 : Int), V.int IntKind.u8 (0 : Int), V.int IntKind.u8 (0 : Int), V.int IntKind.u32 (0 : Int), V.int IntKind.u16 (0 :
  Int), V.bool false, V.int IntKind.u32 (0 : Int), V.int IntKind.u16 (0 : Int), V.int IntKind.u32 (0 : Int), V.int IntKind.u16 (0 : Int), V.bool false, V.int IntKind.u8 (0 : Int)] (1 : Nat) false) → ∃ (h'3 : Hp), h'2.st h'1.next (0 : Nat)
  [V.int IntKind.u64 n3, V.int IntKind.u8 n4, V.int IntKind.u8 n5, V.int IntKind.u8 n6, V.int IntKind.u32 n7, V.int IntKind.u16 n8, V.bool b1, V.int IntKind.u32 n9, V.int IntKind.u16 n10, V.int IntKind.u32 n11, V.int IntKind.u16 n12, V.bool
  b2, V.int IntKind.u8 n13] = some h'3 ∧ ∃ (n14 : Int), h'3.ld h'1.next (2 : Nat) = some (V.int IntKind.u8 n14) ∧ bif n14 != (0 : Int) then K (V.int IntKind.i64 (3 : Int)) h'3 else ∃ (h'4 : Hp), h'3.st h'1.next (11 : Nat) [V.bool is] = some
  h'4 ∧ ∃ (a2 : Option (Nat × Nat)), ∃ (n15 : Nat), ∃ (f2 : Bool), h'4.ld t (3 : Nat) = some (V.slc a2 n15 f2) ∧ ∃ (n16 : Int), ∃ (n17 : Int), ∃ (n18 : Int), ∃ (n19 : Int), ∃ (n20 : Int), ∃ (n21 : Int), ∃ (b3 : Bool), ∃ (n22 : Int), ∃ (n23 :
  Int), ∃ (n24 : Int), ∃ (n25 : Int), ∃ (b4 : Bool), ∃ (n26 : Int), h'4.lda h'1.next (0 : Nat) (13 : Nat) = some (V.agg [V.int IntKind.u64 n16, V.int IntKind.u8 n17, V.int IntKind.u8 n18, V.int IntKind.u8 n19, V.int IntKind.u32 n20, V.int
  IntKind.u16 n21, V.bool b3, V.int IntKind.u32 n22, V.int IntKind.u16 n23, V.int IntKind.u32 n24, V.int IntKind.u16 n25, V.bool b4, V.int IntKind.u8 n26]) ∧ ((0 : Int) ≤ n1 ∧ n1 < (↑n15 : Int)) ∧ onS a2 fun (i2 o2 : Nat) => ∃ (h'5 : Hp),
  h'4.st i2 (o2 + n1.toNat * (13 : Nat)) [V.int IntKind.u64 n16, V.int IntKind.u8 n17, V.int IntKind.u8 n18, V.int IntKind.u8 n19, V.int IntKind.u32 n20, V.int IntKind.u16 n21, V.bool b3, V.int IntKind.u32 n22, V.int IntKind.u16 n23, V.int
  IntKind.u32 n24, V.int IntKind.u16 n25, V.bool b4, V.int IntKind.u8 n26] = some h'5 ∧ K (V.int IntKind.i64 (0 : Int)) h'5
theorem y54 (h : Hp) (K : V → Hp → Prop) (t : Nat) (fd : Int) (is : Bool) : X54 h K t fd is = fnX Try.prog T F jl54 jj54 Try.f54 [V.ptr (some (t, (0 : Nat))), V.int IntKind.i64 fd, V.bool is] h K := by kernel_rfl
theorem x54 {h : Hp} {K : V → Hp → Prop} (t : Nat) (fd : Int) (is : Bool) (hx : X54 h K t fd is) : XCalls Try.prog 54 [V.ptr (some (t, (0 : Nat))), V.int IntKind.i64 fd, V.bool is] h K :=
  XCalls.ofX tok fok mixed (JL := jl54) (JJ := jj54) Try.func54 ((y54 h K t fd is) ▸ hx)
/-! 55: (*stevedore/stevedoreref29.Table).Bind -/
-- join 9: stays s(8), a(5), t(0), at(7); turns 
def jl55 : Nat → Option JT := fun r => none
def jj55 : Nat → Option JT := fun r => bif Nat.beq r 9 then some ⟨[8, 5, 0, 7], [], []⟩ else none
def X55 (h : Hp) (K : V → Hp → Prop) (t : Nat) (fd : Int) (a_0 : Int) (a_1 : Int) : Prop := ∀ (h'1 : Hp), h'1 = h.alloc (O.row [V.int IntKind.u32 a_0, V.int IntKind.u16 a_1] (1 : Nat) false) → XCalls Try.prog (73 : Nat) [V.ptr (some (t, (0 :
  Nat))), V.int IntKind.i64 fd] h'1 fun (v1 : V) (h'2 : Hp) => ∃ (n1 : Int), v1 = V.int IntKind.i64 n1 ∧ bif ltI n1 (0 : Int) then K (V.int IntKind.i64 (290 : Int)) h'2 else ∃ (a1 : Option (Nat × Nat)), ∃ (n2 : Nat), ∃ (f1 : Bool), h'2.ld t
  (3 : Nat) = some (V.slc a1 n2 f1) ∧ ((0 : Int) ≤ n1 ∧ n1 < (↑n2 : Int)) ∧ onS a1 fun (i1 o1 : Nat) => ∃ (n3 : Int), ∃ (n4 : Int), ∃ (n5 : Int), ∃ (n6 : Int), ∃ (n7 : Int), ∃ (n8 : Int), ∃ (b1 : Bool), ∃ (n9 : Int), ∃ (n10 : Int), ∃ (n11 :
  Int), ∃ (n12 : Int), ∃ (b2 : Bool), ∃ (n13 : Int), h'2.lda i1 (o1 + n1.toNat * (13 : Nat)) (13 : Nat) = some (V.agg [V.int IntKind.u64 n3, V.int IntKind.u8 n4, V.int IntKind.u8 n5, V.int IntKind.u8 n6, V.int IntKind.u32 n7, V.int
  IntKind.u16 n8, V.bool b1, V.int IntKind.u32 n9, V.int IntKind.u16 n10, V.int IntKind.u32 n11, V.int IntKind.u16 n12, V.bool b2, V.int IntKind.u8 n13]) ∧ ∀ (h'3 : Hp), h'3 = h'2.alloc (O.row [V.int IntKind.u64 (0 : Int), V.int IntKind.u8
  (0 : Int), V.int IntKind.u8 (0 : Int), V.int IntKind.u8 (0 : Int), V.int IntKind.u32 (0 : Int), V.int IntKind.u16 (0 : Int), V.bool false, V.int IntKind.u32 (0 : Int), V.int IntKind.u16 (0 : Int), V.int IntKind.u32 (0 : Int), V.int
  IntKind.u16 (0 : Int), V.bool false, V.int IntKind.u8 (0 : Int)] (1 : Nat) false) → ∃ (h'4 : Hp), h'3.st h'2.next (0 : Nat) [V.int IntKind.u64 n3, V.int IntKind.u8 n4, V.int IntKind.u8 n5, V.int IntKind.u8 n6, V.int IntKind.u32 n7, V.int
  IntKind.u16 n8, V.bool b1, V.int IntKind.u32 n9, V.int IntKind.u16 n10, V.int IntKind.u32 n11, V.int IntKind.u16 n12, V.bool b2, V.int IntKind.u8 n13] = some h'4 ∧ ∃ (n14 : Int), h'4.ld h'2.next (2 : Nat) = some (V.int IntKind.u8 n14) ∧
  bif n14 != (0 : Int) then K (V.int IntKind.i64 (3 : Int)) h'4 else ∃ (Q1 : List V → Hp → Prop), (∃ (n15 : Int), h'4.ld h.next (0 : Nat) = some (V.int IntKind.u32 n15) ∧ bif n15 != (0 : Int) then ∃ (n16 : Int), h'4.ld h.next (0 : Nat) =
  some (V.int IntKind.u32 n16) ∧ XCalls Try.prog (74 : Nat) [V.ptr (some (t, (0 : Nat))), V.int IntKind.u32 n16] h'4 fun (v2 : V) (h'5 : Hp) => ∃ (b3 : Bool), v2 = V.bool b3 ∧ bif !b3 then K (V.int IntKind.i64 (2 : Int)) h'5 else ∃ (n17 :
  Int), h'5.ld h.next (1 : Nat) = some (V.int IntKind.u16 n17) ∧ bif n17 == (0 : Int) then K (V.int IntKind.i64 (2 : Int)) h'5 else [V.ptr (some (h'2.next, (0 : Nat))), V.ptr (some (h.next, (0 : Nat))), V.ptr (some (t, (0 : Nat))), V.int
  IntKind.i64 n1] = [V.ptr (some (h'2.next, (0 : Nat))), V.ptr (some (h.next, (0 : Nat))), V.ptr (some (t, (0 : Nat))), V.int IntKind.i64 n1] ∧ Q1 [] h'5 else ∃ (n18 : Int), h'4.ld h.next (1 : Nat) = some (V.int IntKind.u16 n18) ∧ bif n18 ==
  (0 : Int) then K (V.int IntKind.i64 (2 : Int)) h'4 else [V.ptr (some (h'2.next, (0 : Nat))), V.ptr (some (h.next, (0 : Nat))), V.ptr (some (t, (0 : Nat))), V.int IntKind.i64 n1] = [V.ptr (some (h'2.next, (0 : Nat))), V.ptr (some (h.next,
  (0 : Nat))), V.ptr (some (t, (0 : Nat))), V.int IntKind.i64 n1] ∧ Q1 [] h'4) ∧ ∀ (bs1 : Nat → Option V) (h1 : Hp), Q1 [] h1 → ∃ (n19 : Int), h1.ld h'2.next (1 : Nat) = some (V.int IntKind.u8 n19) ∧ ∃ (n20 : Int), h1.ld h.next (0 : Nat) =
  some (V.int IntKind.u32 n20) ∧ ∃ (n21 : Int), h1.ld h.next (1 : Nat) = some (V.int IntKind.u16 n21) ∧ ∃ (b4 : Bool), h1.ld h'2.next (11 : Nat) = some (V.bool b4) ∧ ∀ (h'6 : Hp), h'6 = h1.alloc (O.row [V.int IntKind.u8 (0 : Int), V.int
  IntKind.u32 (0 : Int), V.int IntKind.u16 (0 : Int), V.bool false] (1 : Nat) false) → ∃ (h'7 : Hp), h'6.st h1.next (0 : Nat) [V.int IntKind.u8 n19, V.int IntKind.u32 n20, V.int IntKind.u16 n21, V.bool b4] = some h'7 ∧ ∃ (a2 : Option (Nat ×
  Nat)), h'7.ld t (4 : Nat) = some (V.ptr a2) ∧ ∃ (n22 : Int), h'7.ld h'2.next (0 : Nat) = some (V.int IntKind.u64 n22) ∧ ∃ (n23 : Int), ∃ (n24 : Int), ∃ (n25 : Int), ∃ (b5 : Bool), h'7.lda h1.next (0 : Nat) (4 : Nat) = some (V.agg [V.int
  IntKind.u8 n23, V.int IntKind.u32 n24, V.int IntKind.u16 n25, V.bool b5]) ∧ XCalls Try.prog (75 : Nat) [V.ptr a2, V.int IntKind.u64 n22, V.agg [V.int IntKind.u8 n23, V.int IntKind.u32 n24, V.int IntKind.u16 n25, V.bool b5]] h'7 fun (v3 :
  V) (h'8 : Hp) => ∃ (n26 : Int), v3 = V.int IntKind.i64 n26 ∧ bif n26 == (0 : Int) then ∃ (h'9 : Hp), h'8.st h'2.next (2 : Nat) [V.int IntKind.u8 (1 : Int)] = some h'9 ∧ ∃ (n27 : Int), ∃ (n28 : Int), ∃ (n29 : Int), ∃ (b6 : Bool), h'9.lda
  h1.next (0 : Nat) (4 : Nat) = some (V.agg [V.int IntKind.u8 n27, V.int IntKind.u32 n28, V.int IntKind.u16 n29, V.bool b6]) ∧ ∃ (h'10 : Hp), h'9.st h'2.next (3 : Nat) [V.int IntKind.u8 n27, V.int IntKind.u32 n28, V.int IntKind.u16 n29,
  V.bool b6] = some h'10 ∧ ∃ (a3 : Option (Nat × Nat)), ∃ (n30 : Nat), ∃ (f2 : Bool), h'10.ld t (3 : Nat) = some (V.slc a3 n30 f2) ∧ ∃ (n31 : Int), ∃ (n32 : Int), ∃ (n33 : Int), ∃ (n34 : Int), ∃ (n35 : Int), ∃ (n36 : Int), ∃ (b7 : Bool), ∃
  (n37 : Int), ∃ (n38 : Int), ∃ (n39 : Int), ∃ (n40 : Int), ∃ (b8 : Bool), ∃ (n41 : Int), h'10.lda h'2.next (0 : Nat) (13 : Nat) = some (V.agg [V.int IntKind.u64 n31, V.int IntKind.u8 n32, V.int IntKind.u8 n33, V.int IntKind.u8 n34, V.int
  IntKind.u32 n35, V.int IntKind.u16 n36, V.bool b7, V.int IntKind.u32 n37, V.int IntKind.u16 n38, V.int IntKind.u32 n39, V.int IntKind.u16 n40, V.bool b8, V.int IntKind.u8 n41]) ∧ ((0 : Int) ≤ n1 ∧ n1 < (↑n30 : Int)) ∧ onS a3 fun (i2 o2 :
  Nat) => ∃ (h'11 : Hp), h'10.st i2 (o2 + n1.toNat * (13 : Nat)) [V.int IntKind.u64 n31, V.int IntKind.u8 n32, V.int IntKind.u8 n33, V.int IntKind.u8 n34, V.int IntKind.u32 n35, V.int IntKind.u16 n36, V.bool b7, V.int IntKind.u32 n37, V.int
  IntKind.u16 n38, V.int IntKind.u32 n39, V.int IntKind.u16 n40, V.bool b8, V.int IntKind.u8 n41] = some h'11 ∧ K (V.int IntKind.i64 n26) h'11 else K (V.int IntKind.i64 n26) h'8
theorem y55 (h : Hp) (K : V → Hp → Prop) (t : Nat) (fd : Int) (a_0 : Int) (a_1 : Int) : X55 h K t fd a_0 a_1 = fnX Try.prog T F jl55 jj55 Try.f55 [V.ptr (some (t, (0 : Nat))), V.int IntKind.i64 fd, V.agg [V.int IntKind.u32 a_0, V.int IntKind.u16 a_1]] h K := by kernel_rfl
theorem x55 {h : Hp} {K : V → Hp → Prop} (t : Nat) (fd : Int) (a_0 : Int) (a_1 : Int) (hx : X55 h K t fd a_0 a_1) : XCalls Try.prog 55 [V.ptr (some (t, (0 : Nat))), V.int IntKind.i64 fd, V.agg [V.int IntKind.u32 a_0, V.int IntKind.u16 a_1]] h K :=
  XCalls.ofX tok fok mixed (JL := jl55) (JJ := jj55) Try.func55 ((y55 h K t fd a_0 a_1) ▸ hx)
/-! 56: (*stevedore/stevedoreref29.Table).Listen -/
def jl56 : Nat → Option JT := fun r => none
def jj56 : Nat → Option JT := fun r => none
def X56 (h : Hp) (K : V → Hp → Prop) (t : Nat) (fd : Int) : Prop := XCalls Try.prog (73 : Nat) [V.ptr (some (t, (0 : Nat))), V.int IntKind.i64 fd] h fun (v1 : V) (h'1 : Hp) => ∃ (n1 : Int), v1 = V.int IntKind.i64 n1 ∧ bif ltI n1 (0 : Int)
  then K (V.int IntKind.i64 (290 : Int)) h'1 else ∃ (a1 : Option (Nat × Nat)), ∃ (n2 : Nat), ∃ (f1 : Bool), h'1.ld t (3 : Nat) = some (V.slc a1 n2 f1) ∧ ((0 : Int) ≤ n1 ∧ n1 < (↑n2 : Int)) ∧ onS a1 fun (i1 o1 : Nat) => ∃ (n3 : Int), ∃ (n4 :
  Int), ∃ (n5 : Int), ∃ (n6 : Int), ∃ (n7 : Int), ∃ (n8 : Int), ∃ (b1 : Bool), ∃ (n9 : Int), ∃ (n10 : Int), ∃ (n11 : Int), ∃ (n12 : Int), ∃ (b2 : Bool), ∃ (n13 : Int), h'1.lda i1 (o1 + n1.toNat * (13 : Nat)) (13 : Nat) = some (V.agg [V.int
  IntKind.u64 n3, V.int IntKind.u8 n4, V.int IntKind.u8 n5, V.int IntKind.u8 n6, V.int IntKind.u32 n7, V.int IntKind.u16 n8, V.bool b1, V.int IntKind.u32 n9, V.int IntKind.u16 n10, V.int IntKind.u32 n11, V.int IntKind.u16 n12, V.bool b2,
  V.int IntKind.u8 n13]) ∧ ∀ (h'2 : Hp), h'2 = h'1.alloc (O.row [V.int IntKind.u64 (0 : Int), V.int IntKind.u8 (0 : Int), V.int IntKind.u8 (0 : Int), V.int IntKind.u8 (0 : Int), V.int IntKind.u32 (0 : Int), V.int IntKind.u16 (0 : Int),
  V.bool false, V.int IntKind.u32 (0 : Int), V.int IntKind.u16 (0 : Int), V.int IntKind.u32 (0 : Int), V.int IntKind.u16 (0 : Int), V.bool false, V.int IntKind.u8 (0 : Int)] (1 : Nat) false) → ∃ (h'3 : Hp), h'2.st h'1.next (0 : Nat) [V.int
  IntKind.u64 n3, V.int IntKind.u8 n4, V.int IntKind.u8 n5, V.int IntKind.u8 n6, V.int IntKind.u32 n7, V.int IntKind.u16 n8, V.bool b1, V.int IntKind.u32 n9, V.int IntKind.u16 n10, V.int IntKind.u32 n11, V.int IntKind.u16 n12, V.bool b2,
  V.int IntKind.u8 n13] = some h'3 ∧ ∃ (n14 : Int), h'3.ld h'1.next (1 : Nat) = some (V.int IntKind.u8 n14) ∧ bif n14 != (2 : Int) then K (V.int IntKind.i64 (2 : Int)) h'3 else ∃ (n15 : Int), h'3.ld h'1.next (2 : Nat) = some (V.int
  IntKind.u8 n15) ∧ bif n15 == (3 : Int) then K (V.int IntKind.i64 (292 : Int)) h'3 else ∃ (n16 : Int), h'3.ld h'1.next (2 : Nat) = some (V.int IntKind.u8 n16) ∧ bif n16 == (0 : Int) then K (V.int IntKind.i64 (294 : Int)) h'3 else ∃ (h'4 :
  Hp), h'3.st h'1.next (2 : Nat) [V.int IntKind.u8 (2 : Int)] = some h'4 ∧ ∃ (a2 : Option (Nat × Nat)), ∃ (n17 : Nat), ∃ (f2 : Bool), h'4.ld t (3 : Nat) = some (V.slc a2 n17 f2) ∧ ∃ (n18 : Int), ∃ (n19 : Int), ∃ (n20 : Int), ∃ (n21 : Int), ∃
  (n22 : Int), ∃ (n23 : Int), ∃ (b3 : Bool), ∃ (n24 : Int), ∃ (n25 : Int), ∃ (n26 : Int), ∃ (n27 : Int), ∃ (b4 : Bool), ∃ (n28 : Int), h'4.lda h'1.next (0 : Nat) (13 : Nat) = some (V.agg [V.int IntKind.u64 n18, V.int IntKind.u8 n19, V.int
  IntKind.u8 n20, V.int IntKind.u8 n21, V.int IntKind.u32 n22, V.int IntKind.u16 n23, V.bool b3, V.int IntKind.u32 n24, V.int IntKind.u16 n25, V.int IntKind.u32 n26, V.int IntKind.u16 n27, V.bool b4, V.int IntKind.u8 n28]) ∧ ((0 : Int) ≤ n1
  ∧ n1 < (↑n17 : Int)) ∧ onS a2 fun (i2 o2 : Nat) => ∃ (h'5 : Hp), h'4.st i2 (o2 + n1.toNat * (13 : Nat)) [V.int IntKind.u64 n18, V.int IntKind.u8 n19, V.int IntKind.u8 n20, V.int IntKind.u8 n21, V.int IntKind.u32 n22, V.int IntKind.u16 n23,
  V.bool b3, V.int IntKind.u32 n24, V.int IntKind.u16 n25, V.int IntKind.u32 n26, V.int IntKind.u16 n27, V.bool b4, V.int IntKind.u8 n28] = some h'5 ∧ K (V.int IntKind.i64 (0 : Int)) h'5
theorem y56 (h : Hp) (K : V → Hp → Prop) (t : Nat) (fd : Int) : X56 h K t fd = fnX Try.prog T F jl56 jj56 Try.f56 [V.ptr (some (t, (0 : Nat))), V.int IntKind.i64 fd] h K := by kernel_rfl
theorem x56 {h : Hp} {K : V → Hp → Prop} (t : Nat) (fd : Int) (hx : X56 h K t fd) : XCalls Try.prog 56 [V.ptr (some (t, (0 : Nat))), V.int IntKind.i64 fd] h K :=
  XCalls.ofX tok fok mixed (JL := jl56) (JJ := jj56) Try.func56 ((y56 h K t fd) ▸ hx)
/-! 57: (*stevedore/stevedoreref29.Table).Connect -/
-- join 21: stays s(13), from(16), to(8), t(0), at(12), (10); turns 
-- join 19: stays s(13), from(16), to(8), t(0), at(12), (10); turns 
-- join 16: stays s(13), own(2), to(8), t(0), at(12), (10); turns 
-- join 11: stays s(13), t(0), own(2), draw(4), (10), to(8), at(12); turns 
def jl57 : Nat → Option JT := fun r => none
def jj57 : Nat → Option JT := fun r => bif Nat.beq r 21 then some ⟨[13, 16, 8, 0, 12, 10], [], []⟩ else bif Nat.beq r 19 then some ⟨[13, 16, 8, 0, 12, 10], [], []⟩ else bif Nat.beq r 16 then some ⟨[13, 2, 8, 0, 12, 10], [], []⟩ else bif
  Nat.beq r 11 then some ⟨[13, 0, 2, 4, 10, 8, 12], [], []⟩ else none
def X57 (h : Hp) (K : V → Hp → Prop) (t : Nat) (fd : Int) (own : Int) (to_0 : Int) (to_1 : Int) (draw : Int) : Prop := ∀ (h'1 : Hp), h'1 = h.alloc (O.row [V.int IntKind.u32 to_0, V.int IntKind.u16 to_1] (1 : Nat) false) → ∀ (h'2 : Hp), h'2 =
  h'1.alloc (O.row [V.int IntKind.u32 (0 : Int), V.int IntKind.u16 (0 : Int), V.int IntKind.u32 (0 : Int), V.int IntKind.u16 (0 : Int)] (1 : Nat) false) → XCalls Try.prog (73 : Nat) [V.ptr (some (t, (0 : Nat))), V.int IntKind.i64 fd] h'2 fun
  (v1 : V) (h'3 : Hp) => ∃ (n1 : Int), v1 = V.int IntKind.i64 n1 ∧ bif ltI n1 (0 : Int) then ∃ (h'4 : Hp), h'3.st h'1.next (0 : Nat) [V.int IntKind.u32 (0 : Int), V.int IntKind.u16 (0 : Int), V.int IntKind.u32 (0 : Int), V.int IntKind.u16 (0
  : Int)] = some h'4 ∧ ∃ (n2 : Int), ∃ (n3 : Int), ∃ (n4 : Int), ∃ (n5 : Int), h'4.lda h'1.next (0 : Nat) (4 : Nat) = some (V.agg [V.int IntKind.u32 n2, V.int IntKind.u16 n3, V.int IntKind.u32 n4, V.int IntKind.u16 n5]) ∧ K (V.tup [V.agg
  [V.int IntKind.u32 n2, V.int IntKind.u16 n3, V.int IntKind.u32 n4, V.int IntKind.u16 n5], V.int IntKind.i64 (290 : Int)]) h'4 else ∃ (a1 : Option (Nat × Nat)), ∃ (n6 : Nat), ∃ (f1 : Bool), h'3.ld t (3 : Nat) = some (V.slc a1 n6 f1) ∧ ((0 :
  Int) ≤ n1 ∧ n1 < (↑n6 : Int)) ∧ onS a1 fun (i1 o1 : Nat) => ∃ (n7 : Int), ∃ (n8 : Int), ∃ (n9 : Int), ∃ (n10 : Int), ∃ (n11 : Int), ∃ (n12 : Int), ∃ (b1 : Bool), ∃ (n13 : Int), ∃ (n14 : Int), ∃ (n15 : Int), ∃ (n16 : Int), ∃ (b2 : Bool), ∃
  (n17 : Int), h'3.lda i1 (o1 + n1.toNat * (13 : Nat)) (13 : Nat) = some (V.agg [V.int IntKind.u64 n7, V.int IntKind.u8 n8, V.int IntKind.u8 n9, V.int IntKind.u8 n10, V.int IntKind.u32 n11, V.int IntKind.u16 n12, V.bool b1, V.int IntKind.u32
  n13, V.int IntKind.u16 n14, V.int IntKind.u32 n15, V.int IntKind.u16 n16, V.bool b2, V.int IntKind.u8 n17]) ∧ ∀ (h'5 : Hp), h'5 = h'3.alloc (O.row [V.int IntKind.u64 (0 : Int), V.int IntKind.u8 (0 : Int), V.int IntKind.u8 (0 : Int), V.int
  IntKind.u8 (0 : Int), V.int IntKind.u32 (0 : Int), V.int IntKind.u16 (0 : Int), V.bool false, V.int IntKind.u32 (0 : Int), V.int IntKind.u16 (0 : Int), V.int IntKind.u32 (0 : Int), V.int IntKind.u16 (0 : Int), V.bool false, V.int
  IntKind.u8 (0 : Int)] (1 : Nat) false) → ∃ (h'6 : Hp), h'5.st h'3.next (0 : Nat) [V.int IntKind.u64 n7, V.int IntKind.u8 n8, V.int IntKind.u8 n9, V.int IntKind.u8 n10, V.int IntKind.u32 n11, V.int IntKind.u16 n12, V.bool b1, V.int
  IntKind.u32 n13, V.int IntKind.u16 n14, V.int IntKind.u32 n15, V.int IntKind.u16 n16, V.bool b2, V.int IntKind.u8 n17] = some h'6 ∧ XCalls Try.prog (74 : Nat) [V.ptr (some (t, (0 : Nat))), V.int IntKind.u32 own] h'6 fun (v2 : V) (h'7 : Hp)
  => ∃ (b3 : Bool), v2 = V.bool b3 ∧ bif !b3 then ∃ (h'8 : Hp), h'7.st h'1.next (0 : Nat) [V.int IntKind.u32 (0 : Int), V.int IntKind.u16 (0 : Int), V.int IntKind.u32 (0 : Int), V.int IntKind.u16 (0 : Int)] = some h'8 ∧ ∃ (n18 : Int), ∃ (n19
  : Int), ∃ (n20 : Int), ∃ (n21 : Int), h'8.lda h'1.next (0 : Nat) (4 : Nat) = some (V.agg [V.int IntKind.u32 n18, V.int IntKind.u16 n19, V.int IntKind.u32 n20, V.int IntKind.u16 n21]) ∧ K (V.tup [V.agg [V.int IntKind.u32 n18, V.int
  IntKind.u16 n19, V.int IntKind.u32 n20, V.int IntKind.u16 n21], V.int IntKind.i64 (2 : Int)]) h'8 else ∃ (n22 : Int), h'7.ld h.next (0 : Nat) = some (V.int IntKind.u32 n22) ∧ bif n22 == (0 : Int) then ∃ (h'9 : Hp), h'7.st h'1.next (0 :
  Nat) [V.int IntKind.u32 (0 : Int), V.int IntKind.u16 (0 : Int), V.int IntKind.u32 (0 : Int), V.int IntKind.u16 (0 : Int)] = some h'9 ∧ ∃ (n23 : Int), ∃ (n24 : Int), ∃ (n25 : Int), ∃ (n26 : Int), h'9.lda h'1.next (0 : Nat) (4 : Nat) = some
  (V.agg [V.int IntKind.u32 n23, V.int IntKind.u16 n24, V.int IntKind.u32 n25, V.int IntKind.u16 n26]) ∧ K (V.tup [V.agg [V.int IntKind.u32 n23, V.int IntKind.u16 n24, V.int IntKind.u32 n25, V.int IntKind.u16 n26], V.int IntKind.i64 (2 :
  Int)]) h'9 else ∃ (n27 : Int), h'7.ld h.next (1 : Nat) = some (V.int IntKind.u16 n27) ∧ bif n27 == (0 : Int) then ∃ (h'10 : Hp), h'7.st h'1.next (0 : Nat) [V.int IntKind.u32 (0 : Int), V.int IntKind.u16 (0 : Int), V.int IntKind.u32 (0 :
  Int), V.int IntKind.u16 (0 : Int)] = some h'10 ∧ ∃ (n28 : Int), ∃ (n29 : Int), ∃ (n30 : Int), ∃ (n31 : Int), h'10.lda h'1.next (0 : Nat) (4 : Nat) = some (V.agg [V.int IntKind.u32 n28, V.int IntKind.u16 n29, V.int IntKind.u32 n30, V.int
  IntKind.u16 n31]) ∧ K (V.tup [V.agg [V.int IntKind.u32 n28, V.int IntKind.u16 n29, V.int IntKind.u32 n30, V.int IntKind.u16 n31], V.int IntKind.i64 (2 : Int)]) h'10 else ∃ (n32 : Int), h'7.ld h'3.next (2 : Nat) = some (V.int IntKind.u8
  n32) ∧ bif n32 == (2 : Int) then ∃ (h'11 : Hp), h'7.st h'1.next (0 : Nat) [V.int IntKind.u32 (0 : Int), V.int IntKind.u16 (0 : Int), V.int IntKind.u32 (0 : Int), V.int IntKind.u16 (0 : Int)] = some h'11 ∧ ∃ (n33 : Int), ∃ (n34 : Int), ∃
  (n35 : Int), ∃ (n36 : Int), h'11.lda h'1.next (0 : Nat) (4 : Nat) = some (V.agg [V.int IntKind.u32 n33, V.int IntKind.u16 n34, V.int IntKind.u32 n35, V.int IntKind.u16 n36]) ∧ K (V.tup [V.agg [V.int IntKind.u32 n33, V.int IntKind.u16 n34,
  V.int IntKind.u32 n35, V.int IntKind.u16 n36], V.int IntKind.i64 (3 : Int)]) h'11 else ∃ (Q1 : List V → Hp → Prop), (∃ (n37 : Int), h'7.ld h'3.next (2 : Nat) = some (V.int IntKind.u8 n37) ∧ bif n37 == (3 : Int) then ∃ (n38 : Int), h'7.ld
  h'3.next (1 : Nat) = some (V.int IntKind.u8 n38) ∧ bif n38 == (2 : Int) then ∃ (h'12 : Hp), h'7.st h'1.next (0 : Nat) [V.int IntKind.u32 (0 : Int), V.int IntKind.u16 (0 : Int), V.int IntKind.u32 (0 : Int), V.int IntKind.u16 (0 : Int)] =
  some h'12 ∧ ∃ (n39 : Int), ∃ (n40 : Int), ∃ (n41 : Int), ∃ (n42 : Int), h'12.lda h'1.next (0 : Nat) (4 : Nat) = some (V.agg [V.int IntKind.u32 n39, V.int IntKind.u16 n40, V.int IntKind.u32 n41, V.int IntKind.u16 n42]) ∧ K (V.tup [V.agg
  [V.int IntKind.u32 n39, V.int IntKind.u16 n40, V.int IntKind.u32 n41, V.int IntKind.u16 n42], V.int IntKind.i64 (292 : Int)]) h'12 else [V.ptr (some (h'3.next, (0 : Nat))), V.ptr (some (t, (0 : Nat))), V.int IntKind.u32 own, V.int
  IntKind.u16 draw, V.ptr (some (h'1.next, (0 : Nat))), V.ptr (some (h.next, (0 : Nat))), V.int IntKind.i64 n1] = [V.ptr (some (h'3.next, (0 : Nat))), V.ptr (some (t, (0 : Nat))), V.int IntKind.u32 own, V.int IntKind.u16 draw, V.ptr (some
  (h'1.next, (0 : Nat))), V.ptr (some (h.next, (0 : Nat))), V.int IntKind.i64 n1] ∧ Q1 [] h'7 else [V.ptr (some (h'3.next, (0 : Nat))), V.ptr (some (t, (0 : Nat))), V.int IntKind.u32 own, V.int IntKind.u16 draw, V.ptr (some (h'1.next, (0 :
  Nat))), V.ptr (some (h.next, (0 : Nat))), V.int IntKind.i64 n1] = [V.ptr (some (h'3.next, (0 : Nat))), V.ptr (some (t, (0 : Nat))), V.int IntKind.u32 own, V.int IntKind.u16 draw, V.ptr (some (h'1.next, (0 : Nat))), V.ptr (some (h.next, (0
  : Nat))), V.int IntKind.i64 n1] ∧ Q1 [] h'7) ∧ ∀ (bs1 : Nat → Option V) (h1 : Hp), Q1 [] h1 → ∃ (Q2 : List V → Hp → Prop), (∃ (n43 : Int), h1.ld h'3.next (2 : Nat) = some (V.int IntKind.u8 n43) ∧ bif n43 == (0 : Int) then ∃ (a2 : Option
  (Nat × Nat)), h1.ld t (4 : Nat) = some (V.ptr a2) ∧ ∃ (n44 : Int), h1.ld h'3.next (0 : Nat) = some (V.int IntKind.u64 n44) ∧ ∃ (n45 : Int), h1.ld h'3.next (1 : Nat) = some (V.int IntKind.u8 n45) ∧ XCalls Try.prog (76 : Nat) [V.ptr a2,
  V.int IntKind.u64 n44, V.agg [V.int IntKind.u8 n45, V.int IntKind.u32 own, V.int IntKind.u16 (0 : Int), V.bool false], V.int IntKind.u16 draw] h1 fun (v3 : V) (h'13 : Hp) => ∃ (n46 : Int), ∃ (n47 : Int), v3 = V.tup [V.int IntKind.u16 n46,
  V.int IntKind.i64 n47] ∧ bif n47 != (0 : Int) then ∃ (h'14 : Hp), h'13.st h'1.next (0 : Nat) [V.int IntKind.u32 (0 : Int), V.int IntKind.u16 (0 : Int), V.int IntKind.u32 (0 : Int), V.int IntKind.u16 (0 : Int)] = some h'14 ∧ ∃ (n48 : Int),
  ∃ (n49 : Int), ∃ (n50 : Int), ∃ (n51 : Int), h'14.lda h'1.next (0 : Nat) (4 : Nat) = some (V.agg [V.int IntKind.u32 n48, V.int IntKind.u16 n49, V.int IntKind.u32 n50, V.int IntKind.u16 n51]) ∧ K (V.tup [V.agg [V.int IntKind.u32 n48, V.int
  IntKind.u16 n49, V.int IntKind.u32 n50, V.int IntKind.u16 n51], V.int IntKind.i64 n47]) h'14 else ∃ (n52 : Int), h'13.ld h'3.next (1 : Nat) = some (V.int IntKind.u8 n52) ∧ ∃ (h'15 : Hp), h'13.st h'3.next (3 : Nat) [V.int IntKind.u8 n52,
  V.int IntKind.u32 own, V.int IntKind.u16 n46, V.bool false] = some h'15 ∧ [V.ptr (some (h'3.next, (0 : Nat))), V.int IntKind.u32 own, V.ptr (some (h.next, (0 : Nat))), V.ptr (some (t, (0 : Nat))), V.int IntKind.i64 n1, V.ptr (some
  (h'1.next, (0 : Nat)))] = [V.ptr (some (h'3.next, (0 : Nat))), V.int IntKind.u32 own, V.ptr (some (h.next, (0 : Nat))), V.ptr (some (t, (0 : Nat))), V.int IntKind.i64 n1, V.ptr (some (h'1.next, (0 : Nat)))] ∧ Q2 [] h'15 else [V.ptr (some
  (h'3.next, (0 : Nat))), V.int IntKind.u32 own, V.ptr (some (h.next, (0 : Nat))), V.ptr (some (t, (0 : Nat))), V.int IntKind.i64 n1, V.ptr (some (h'1.next, (0 : Nat)))] = [V.ptr (some (h'3.next, (0 : Nat))), V.int IntKind.u32 own, V.ptr
  (some (h.next, (0 : Nat))), V.ptr (some (t, (0 : Nat))), V.int IntKind.i64 n1, V.ptr (some (h'1.next, (0 : Nat)))] ∧ Q2 [] h1) ∧ ∀ (bs2 : Nat → Option V) (h2 : Hp), Q2 [] h2 → ∃ (n53 : Int), h2.ld h'3.next (4 : Nat) = some (V.int
  IntKind.u32 n53) ∧ ∃ (n54 : Int), h2.ld h'3.next (5 : Nat) = some (V.int IntKind.u16 n54) ∧ ∀ (h'16 : Hp), h'16 = h2.alloc (O.row [V.int IntKind.u32 (0 : Int), V.int IntKind.u16 (0 : Int)] (1 : Nat) false) → ∃ (h'17 : Hp), h'16.st h2.next
  (0 : Nat) [V.int IntKind.u32 n53, V.int IntKind.u16 n54] = some h'17 ∧ ∃ (Q3 : List V → Hp → Prop), (∃ (n55 : Int), h'17.ld h2.next (0 : Nat) = some (V.int IntKind.u32 n55) ∧ bif n55 == (0 : Int) then ∃ (h'18 : Hp), h'17.st h2.next (0 :
  Nat) [V.int IntKind.u32 own] = some h'18 ∧ [V.ptr (some (h'3.next, (0 : Nat))), V.ptr (some (h2.next, (0 : Nat))), V.ptr (some (h.next, (0 : Nat))), V.ptr (some (t, (0 : Nat))), V.int IntKind.i64 n1, V.ptr (some (h'1.next, (0 : Nat)))] =
  [V.ptr (some (h'3.next, (0 : Nat))), V.ptr (some (h2.next, (0 : Nat))), V.ptr (some (h.next, (0 : Nat))), V.ptr (some (t, (0 : Nat))), V.int IntKind.i64 n1, V.ptr (some (h'1.next, (0 : Nat)))] ∧ Q3 [] h'18 else [V.ptr (some (h'3.next, (0 :
  Nat))), V.ptr (some (h2.next, (0 : Nat))), V.ptr (some (h.next, (0 : Nat))), V.ptr (some (t, (0 : Nat))), V.int IntKind.i64 n1, V.ptr (some (h'1.next, (0 : Nat)))] = [V.ptr (some (h'3.next, (0 : Nat))), V.ptr (some (h2.next, (0 : Nat))),
  V.ptr (some (h.next, (0 : Nat))), V.ptr (some (t, (0 : Nat))), V.int IntKind.i64 n1, V.ptr (some (h'1.next, (0 : Nat)))] ∧ Q3 [] h'17) ∧ ∀ (bs3 : Nat → Option V) (h3 : Hp), Q3 [] h3 → ∃ (Q4 : List V → Hp → Prop), (∃ (n56 : Int), h3.ld
  h'3.next (2 : Nat) = some (V.int IntKind.u8 n56) ∧ bif n56 != (3 : Int) then ∃ (n57 : Int), h3.ld h'3.next (2 : Nat) = some (V.int IntKind.u8 n57) ∧ ∃ (h'19 : Hp), h3.st h'3.next (12 : Nat) [V.int IntKind.u8 n57] = some h'19 ∧ [V.ptr (some
  (h'3.next, (0 : Nat))), V.ptr (some (h2.next, (0 : Nat))), V.ptr (some (h.next, (0 : Nat))), V.ptr (some (t, (0 : Nat))), V.int IntKind.i64 n1, V.ptr (some (h'1.next, (0 : Nat)))] = [V.ptr (some (h'3.next, (0 : Nat))), V.ptr (some
  (h2.next, (0 : Nat))), V.ptr (some (h.next, (0 : Nat))), V.ptr (some (t, (0 : Nat))), V.int IntKind.i64 n1, V.ptr (some (h'1.next, (0 : Nat)))] ∧ Q4 [] h'19 else [V.ptr (some (h'3.next, (0 : Nat))), V.ptr (some (h2.next, (0 : Nat))), V.ptr
  (some (h.next, (0 : Nat))), V.ptr (some (t, (0 : Nat))), V.int IntKind.i64 n1, V.ptr (some (h'1.next, (0 : Nat)))] = [V.ptr (some (h'3.next, (0 : Nat))), V.ptr (some (h2.next, (0 : Nat))), V.ptr (some (h.next, (0 : Nat))), V.ptr (some (t,
  (0 : Nat))), V.int IntKind.i64 n1, V.ptr (some (h'1.next, (0 : Nat)))] ∧ Q4 [] h3) ∧ ∀ (bs4 : Nat → Option V) (h4 : Hp), Q4 [] h4 → ∃ (h'20 : Hp), h4.st h'3.next (2 : Nat) [V.int IntKind.u8 (3 : Int)] = some h'20 ∧ ∃ (n58 : Int), ∃ (n59 :
  Int), h'20.lda h2.next (0 : Nat) (2 : Nat) = some (V.agg [V.int IntKind.u32 n58, V.int IntKind.u16 n59]) ∧ ∃ (n60 : Int), ∃ (n61 : Int), h'20.lda h.next (0 : Nat) (2 : Nat) = some (V.agg [V.int IntKind.u32 n60, V.int IntKind.u16 n61]) ∧ ∃
  (h'21 : Hp), h'20.st h'3.next (7 : Nat) [V.int IntKind.u32 n58, V.int IntKind.u16 n59, V.int IntKind.u32 n60, V.int IntKind.u16 n61] = some h'21 ∧ ∃ (a3 : Option (Nat × Nat)), ∃ (n62 : Nat), ∃ (f2 : Bool), h'21.ld t (3 : Nat) = some (V.slc
  a3 n62 f2) ∧ ∃ (n63 : Int), ∃ (n64 : Int), ∃ (n65 : Int), ∃ (n66 : Int), ∃ (n67 : Int), ∃ (n68 : Int), ∃ (b4 : Bool), ∃ (n69 : Int), ∃ (n70 : Int), ∃ (n71 : Int), ∃ (n72 : Int), ∃ (b5 : Bool), ∃ (n73 : Int), h'21.lda h'3.next (0 : Nat) (13
  : Nat) = some (V.agg [V.int IntKind.u64 n63, V.int IntKind.u8 n64, V.int IntKind.u8 n65, V.int IntKind.u8 n66, V.int IntKind.u32 n67, V.int IntKind.u16 n68, V.bool b4, V.int IntKind.u32 n69, V.int IntKind.u16 n70, V.int IntKind.u32 n71,
  V.int IntKind.u16 n72, V.bool b5, V.int IntKind.u8 n73]) ∧ ((0 : Int) ≤ n1 ∧ n1 < (↑n62 : Int)) ∧ onS a3 fun (i2 o2 : Nat) => ∃ (h'22 : Hp), h'21.st i2 (o2 + n1.toNat * (13 : Nat)) [V.int IntKind.u64 n63, V.int IntKind.u8 n64, V.int
  IntKind.u8 n65, V.int IntKind.u8 n66, V.int IntKind.u32 n67, V.int IntKind.u16 n68, V.bool b4, V.int IntKind.u32 n69, V.int IntKind.u16 n70, V.int IntKind.u32 n71, V.int IntKind.u16 n72, V.bool b5, V.int IntKind.u8 n73] = some h'22 ∧ ∃
  (n74 : Int), ∃ (n75 : Int), ∃ (n76 : Int), ∃ (n77 : Int), h'22.lda h'3.next (7 : Nat) (4 : Nat) = some (V.agg [V.int IntKind.u32 n74, V.int IntKind.u16 n75, V.int IntKind.u32 n76, V.int IntKind.u16 n77]) ∧ ∃ (h'23 : Hp), h'22.st h'1.next
  (0 : Nat) [V.int IntKind.u32 n74, V.int IntKind.u16 n75, V.int IntKind.u32 n76, V.int IntKind.u16 n77] = some h'23 ∧ ∃ (n78 : Int), ∃ (n79 : Int), ∃ (n80 : Int), ∃ (n81 : Int), h'23.lda h'1.next (0 : Nat) (4 : Nat) = some (V.agg [V.int
  IntKind.u32 n78, V.int IntKind.u16 n79, V.int IntKind.u32 n80, V.int IntKind.u16 n81]) ∧ K (V.tup [V.agg [V.int IntKind.u32 n78, V.int IntKind.u16 n79, V.int IntKind.u32 n80, V.int IntKind.u16 n81], V.int IntKind.i64 (0 : Int)]) h'23
theorem y57 (h : Hp) (K : V → Hp → Prop) (t : Nat) (fd : Int) (own : Int) (to_0 : Int) (to_1 : Int) (draw : Int) : X57 h K t fd own to_0 to_1 draw = fnX Try.prog T F jl57 jj57 Try.f57 [V.ptr (some (t, (0 : Nat))), V.int IntKind.i64 fd, V.int
  IntKind.u32 own, V.agg [V.int IntKind.u32 to_0, V.int IntKind.u16 to_1], V.int IntKind.u16 draw] h K := by kernel_rfl
theorem x57 {h : Hp} {K : V → Hp → Prop} (t : Nat) (fd : Int) (own : Int) (to_0 : Int) (to_1 : Int) (draw : Int) (hx : X57 h K t fd own to_0 to_1 draw) : XCalls Try.prog 57 [V.ptr (some (t, (0 : Nat))), V.int IntKind.i64 fd, V.int
  IntKind.u32 own, V.agg [V.int IntKind.u32 to_0, V.int IntKind.u16 to_1], V.int IntKind.u16 draw] h K :=
  XCalls.ofX tok fok mixed (JL := jl57) (JJ := jj57) Try.func57 ((y57 h K t fd own to_0 to_1 draw) ▸ hx)
/-! 61: (*stevedore/stevedoreref29.Table).Back -/
-- join 10: stays t(0), at(5), s(6); turns 
def jl61 : Nat → Option JT := fun r => none
def jj61 : Nat → Option JT := fun r => bif Nat.beq r 10 then some ⟨[0, 5, 6], [], []⟩ else none
def X61 (h : Hp) (K : V → Hp → Prop) (t : Nat) (id : Int) : Prop := XCalls Try.prog (77 : Nat) [V.ptr (some (t, (0 : Nat))), V.int IntKind.u64 id] h fun (v1 : V) (h'1 : Hp) => ∃ (n1 : Int), v1 = V.int IntKind.i64 n1 ∧ bif ltI n1 (0 : Int)
  then K (V.bool false) h'1 else ∃ (a1 : Option (Nat × Nat)), ∃ (n2 : Nat), ∃ (f1 : Bool), h'1.ld t (3 : Nat) = some (V.slc a1 n2 f1) ∧ ((0 : Int) ≤ n1 ∧ n1 < (↑n2 : Int)) ∧ onS a1 fun (i1 o1 : Nat) => ∃ (n3 : Int), h'1.ld i1 (o1 + n1.toNat
  * (13 : Nat) + (1 : Nat) + (1 : Nat)) = some (V.int IntKind.u8 n3) ∧ bif n3 != (3 : Int) then K (V.bool false) h'1 else ∃ (a2 : Option (Nat × Nat)), ∃ (n4 : Nat), ∃ (f2 : Bool), h'1.ld t (3 : Nat) = some (V.slc a2 n4 f2) ∧ ((0 : Int) ≤ n1
  ∧ n1 < (↑n4 : Int)) ∧ onS a2 fun (i2 o2 : Nat) => ∃ (n5 : Int), h'1.ld i2 (o2 + n1.toNat * (13 : Nat) + (1 : Nat) + (2 : Nat) + (0 : Nat)) = some (V.int IntKind.u8 n5) ∧ bif n5 == (0 : Int) then K (V.bool false) h'1 else ∃ (a3 : Option
  (Nat × Nat)), ∃ (n6 : Nat), ∃ (f3 : Bool), h'1.ld t (3 : Nat) = some (V.slc a3 n6 f3) ∧ ((0 : Int) ≤ n1 ∧ n1 < (↑n6 : Int)) ∧ onS a3 fun (i3 o3 : Nat) => ∃ (n7 : Int), ∃ (n8 : Int), ∃ (n9 : Int), ∃ (n10 : Int), ∃ (n11 : Int), ∃ (n12 :
  Int), ∃ (b1 : Bool), ∃ (n13 : Int), ∃ (n14 : Int), ∃ (n15 : Int), ∃ (n16 : Int), ∃ (b2 : Bool), ∃ (n17 : Int), h'1.lda i3 (o3 + n1.toNat * (13 : Nat)) (13 : Nat) = some (V.agg [V.int IntKind.u64 n7, V.int IntKind.u8 n8, V.int IntKind.u8
  n9, V.int IntKind.u8 n10, V.int IntKind.u32 n11, V.int IntKind.u16 n12, V.bool b1, V.int IntKind.u32 n13, V.int IntKind.u16 n14, V.int IntKind.u32 n15, V.int IntKind.u16 n16, V.bool b2, V.int IntKind.u8 n17]) ∧ ∀ (h'2 : Hp), h'2 =
  h'1.alloc (O.row [V.int IntKind.u64 (0 : Int), V.int IntKind.u8 (0 : Int), V.int IntKind.u8 (0 : Int), V.int IntKind.u8 (0 : Int), V.int IntKind.u32 (0 : Int), V.int IntKind.u16 (0 : Int), V.bool false, V.int IntKind.u32 (0 : Int), V.int
  IntKind.u16 (0 : Int), V.int IntKind.u32 (0 : Int), V.int IntKind.u16 (0 : Int), V.bool false, V.int IntKind.u8 (0 : Int)] (1 : Nat) false) → ∃ (h'3 : Hp), h'2.st h'1.next (0 : Nat) [V.int IntKind.u64 n7, V.int IntKind.u8 n8, V.int
  IntKind.u8 n9, V.int IntKind.u8 n10, V.int IntKind.u32 n11, V.int IntKind.u16 n12, V.bool b1, V.int IntKind.u32 n13, V.int IntKind.u16 n14, V.int IntKind.u32 n15, V.int IntKind.u16 n16, V.bool b2, V.int IntKind.u8 n17] = some h'3 ∧ ∃ (n18
  : Int), h'3.ld h'1.next (12 : Nat) = some (V.int IntKind.u8 n18) ∧ ∃ (h'4 : Hp), h'3.st h'1.next (2 : Nat) [V.int IntKind.u8 n18] = some h'4 ∧ ∃ (h'5 : Hp), h'4.st h'1.next (7 : Nat) [V.int IntKind.u32 (0 : Int), V.int IntKind.u16 (0 :
  Int), V.int IntKind.u32 (0 : Int), V.int IntKind.u16 (0 : Int)] = some h'5 ∧ ∃ (Q1 : List V → Hp → Prop), (∃ (n19 : Int), h'5.ld h'1.next (12 : Nat) = some (V.int IntKind.u8 n19) ∧ bif n19 == (0 : Int) then ∃ (h'6 : Hp), h'5.st h'1.next (3
  : Nat) [V.int IntKind.u8 (0 : Int), V.int IntKind.u32 (0 : Int), V.int IntKind.u16 (0 : Int), V.bool false] = some h'6 ∧ ∃ (a4 : Option (Nat × Nat)), h'6.ld t (4 : Nat) = some (V.ptr a4) ∧ XCalls Try.prog (79 : Nat) [V.ptr a4, V.int
  IntKind.u64 id] h'6 fun (v2 : V) (h'7 : Hp) => ∃ (n20 : Int), v2 = V.int IntKind.i64 n20 ∧ [V.ptr (some (t, (0 : Nat))), V.int IntKind.i64 n1, V.ptr (some (h'1.next, (0 : Nat)))] = [V.ptr (some (t, (0 : Nat))), V.int IntKind.i64 n1, V.ptr
  (some (h'1.next, (0 : Nat)))] ∧ Q1 [] h'7 else [V.ptr (some (t, (0 : Nat))), V.int IntKind.i64 n1, V.ptr (some (h'1.next, (0 : Nat)))] = [V.ptr (some (t, (0 : Nat))), V.int IntKind.i64 n1, V.ptr (some (h'1.next, (0 : Nat)))] ∧ Q1 [] h'5) ∧
  ∀ (bs1 : Nat → Option V) (h1 : Hp), Q1 [] h1 → ∃ (a5 : Option (Nat × Nat)), ∃ (n21 : Nat), ∃ (f4 : Bool), h1.ld t (3 : Nat) = some (V.slc a5 n21 f4) ∧ ∃ (n22 : Int), ∃ (n23 : Int), ∃ (n24 : Int), ∃ (n25 : Int), ∃ (n26 : Int), ∃ (n27 :
  Int), ∃ (b3 : Bool), ∃ (n28 : Int), ∃ (n29 : Int), ∃ (n30 : Int), ∃ (n31 : Int), ∃ (b4 : Bool), ∃ (n32 : Int), h1.lda h'1.next (0 : Nat) (13 : Nat) = some (V.agg [V.int IntKind.u64 n22, V.int IntKind.u8 n23, V.int IntKind.u8 n24, V.int
  IntKind.u8 n25, V.int IntKind.u32 n26, V.int IntKind.u16 n27, V.bool b3, V.int IntKind.u32 n28, V.int IntKind.u16 n29, V.int IntKind.u32 n30, V.int IntKind.u16 n31, V.bool b4, V.int IntKind.u8 n32]) ∧ ((0 : Int) ≤ n1 ∧ n1 < (↑n21 : Int)) ∧
  onS a5 fun (i4 o4 : Nat) => ∃ (h'8 : Hp), h1.st i4 (o4 + n1.toNat * (13 : Nat)) [V.int IntKind.u64 n22, V.int IntKind.u8 n23, V.int IntKind.u8 n24, V.int IntKind.u8 n25, V.int IntKind.u32 n26, V.int IntKind.u16 n27, V.bool b3, V.int
  IntKind.u32 n28, V.int IntKind.u16 n29, V.int IntKind.u32 n30, V.int IntKind.u16 n31, V.bool b4, V.int IntKind.u8 n32] = some h'8 ∧ K (V.bool true) h'8
theorem y61 (h : Hp) (K : V → Hp → Prop) (t : Nat) (id : Int) : X61 h K t id = fnX Try.prog T F jl61 jj61 Try.f61 [V.ptr (some (t, (0 : Nat))), V.int IntKind.u64 id] h K := by kernel_rfl
theorem x61 {h : Hp} {K : V → Hp → Prop} (t : Nat) (id : Int) (hx : X61 h K t id) : XCalls Try.prog 61 [V.ptr (some (t, (0 : Nat))), V.int IntKind.u64 id] h K :=
  XCalls.ofX tok fok mixed (JL := jl61) (JJ := jj61) Try.func61 ((y61 h K t id) ▸ hx)
/-! 62: (*stevedore/stevedoreref29.Table).Place -/
def jl62 : Nat → Option JT := fun r => none
def jj62 : Nat → Option JT := fun r => none
def X62 (h : Hp) (K : V → Hp → Prop) (t : Nat) (fd : Int) (own : Int) (draw : Int) : Prop := XCalls Try.prog (73 : Nat) [V.ptr (some (t, (0 : Nat))), V.int IntKind.i64 fd] h fun (v1 : V) (h'1 : Hp) => ∃ (n1 : Int), v1 = V.int IntKind.i64 n1
  ∧ bif ltI n1 (0 : Int) then K (V.int IntKind.i64 (290 : Int)) h'1 else ∃ (a1 : Option (Nat × Nat)), ∃ (n2 : Nat), ∃ (f1 : Bool), h'1.ld t (3 : Nat) = some (V.slc a1 n2 f1) ∧ ((0 : Int) ≤ n1 ∧ n1 < (↑n2 : Int)) ∧ onS a1 fun (i1 o1 : Nat) =>
  ∃ (n3 : Int), ∃ (n4 : Int), ∃ (n5 : Int), ∃ (n6 : Int), ∃ (n7 : Int), ∃ (n8 : Int), ∃ (b1 : Bool), ∃ (n9 : Int), ∃ (n10 : Int), ∃ (n11 : Int), ∃ (n12 : Int), ∃ (b2 : Bool), ∃ (n13 : Int), h'1.lda i1 (o1 + n1.toNat * (13 : Nat)) (13 : Nat)
  = some (V.agg [V.int IntKind.u64 n3, V.int IntKind.u8 n4, V.int IntKind.u8 n5, V.int IntKind.u8 n6, V.int IntKind.u32 n7, V.int IntKind.u16 n8, V.bool b1, V.int IntKind.u32 n9, V.int IntKind.u16 n10, V.int IntKind.u32 n11, V.int
  IntKind.u16 n12, V.bool b2, V.int IntKind.u8 n13]) ∧ ∀ (h'2 : Hp), h'2 = h'1.alloc (O.row [V.int IntKind.u64 (0 : Int), V.int IntKind.u8 (0 : Int), V.int IntKind.u8 (0 : Int), V.int IntKind.u8 (0 : Int), V.int IntKind.u32 (0 : Int), V.int
  IntKind.u16 (0 : Int), V.bool false, V.int IntKind.u32 (0 : Int), V.int IntKind.u16 (0 : Int), V.int IntKind.u32 (0 : Int), V.int IntKind.u16 (0 : Int), V.bool false, V.int IntKind.u8 (0 : Int)] (1 : Nat) false) → ∃ (h'3 : Hp), h'2.st
  h'1.next (0 : Nat) [V.int IntKind.u64 n3, V.int IntKind.u8 n4, V.int IntKind.u8 n5, V.int IntKind.u8 n6, V.int IntKind.u32 n7, V.int IntKind.u16 n8, V.bool b1, V.int IntKind.u32 n9, V.int IntKind.u16 n10, V.int IntKind.u32 n11, V.int
  IntKind.u16 n12, V.bool b2, V.int IntKind.u8 n13] = some h'3 ∧ XCalls Try.prog (74 : Nat) [V.ptr (some (t, (0 : Nat))), V.int IntKind.u32 own] h'3 fun (v2 : V) (h'4 : Hp) => ∃ (b3 : Bool), v2 = V.bool b3 ∧ bif !b3 then K (V.int IntKind.i64
  (2 : Int)) h'4 else ∃ (n14 : Int), h'4.ld h'1.next (2 : Nat) = some (V.int IntKind.u8 n14) ∧ bif n14 != (0 : Int) then K (V.int IntKind.i64 (3 : Int)) h'4 else ∃ (a2 : Option (Nat × Nat)), h'4.ld t (4 : Nat) = some (V.ptr a2) ∧ ∃ (n15 :
  Int), h'4.ld h'1.next (0 : Nat) = some (V.int IntKind.u64 n15) ∧ ∃ (n16 : Int), h'4.ld h'1.next (1 : Nat) = some (V.int IntKind.u8 n16) ∧ XCalls Try.prog (76 : Nat) [V.ptr a2, V.int IntKind.u64 n15, V.agg [V.int IntKind.u8 n16, V.int
  IntKind.u32 own, V.int IntKind.u16 (0 : Int), V.bool false], V.int IntKind.u16 draw] h'4 fun (v3 : V) (h'5 : Hp) => ∃ (n17 : Int), ∃ (n18 : Int), v3 = V.tup [V.int IntKind.u16 n17, V.int IntKind.i64 n18] ∧ bif n18 != (0 : Int) then K
  (V.int IntKind.i64 n18) h'5 else ∃ (h'6 : Hp), h'5.st h'1.next (2 : Nat) [V.int IntKind.u8 (1 : Int)] = some h'6 ∧ ∃ (n19 : Int), h'6.ld h'1.next (1 : Nat) = some (V.int IntKind.u8 n19) ∧ ∃ (h'7 : Hp), h'6.st h'1.next (3 : Nat) [V.int
  IntKind.u8 n19, V.int IntKind.u32 own, V.int IntKind.u16 n17, V.bool false] = some h'7 ∧ ∃ (a3 : Option (Nat × Nat)), ∃ (n20 : Nat), ∃ (f2 : Bool), h'7.ld t (3 : Nat) = some (V.slc a3 n20 f2) ∧ ∃ (n21 : Int), ∃ (n22 : Int), ∃ (n23 : Int),
  ∃ (n24 : Int), ∃ (n25 : Int), ∃ (n26 : Int), ∃ (b4 : Bool), ∃ (n27 : Int), ∃ (n28 : Int), ∃ (n29 : Int), ∃ (n30 : Int), ∃ (b5 : Bool), ∃ (n31 : Int), h'7.lda h'1.next (0 : Nat) (13 : Nat) = some (V.agg [V.int IntKind.u64 n21, V.int
  IntKind.u8 n22, V.int IntKind.u8 n23, V.int IntKind.u8 n24, V.int IntKind.u32 n25, V.int IntKind.u16 n26, V.bool b4, V.int IntKind.u32 n27, V.int IntKind.u16 n28, V.int IntKind.u32 n29, V.int IntKind.u16 n30, V.bool b5, V.int IntKind.u8
  n31]) ∧ ((0 : Int) ≤ n1 ∧ n1 < (↑n20 : Int)) ∧ onS a3 fun (i2 o2 : Nat) => ∃ (h'8 : Hp), h'7.st i2 (o2 + n1.toNat * (13 : Nat)) [V.int IntKind.u64 n21, V.int IntKind.u8 n22, V.int IntKind.u8 n23, V.int IntKind.u8 n24, V.int IntKind.u32
  n25, V.int IntKind.u16 n26, V.bool b4, V.int IntKind.u32 n27, V.int IntKind.u16 n28, V.int IntKind.u32 n29, V.int IntKind.u16 n30, V.bool b5, V.int IntKind.u8 n31] = some h'8 ∧ K (V.int IntKind.i64 (0 : Int)) h'8
theorem y62 (h : Hp) (K : V → Hp → Prop) (t : Nat) (fd : Int) (own : Int) (draw : Int) : X62 h K t fd own draw = fnX Try.prog T F jl62 jj62 Try.f62 [V.ptr (some (t, (0 : Nat))), V.int IntKind.i64 fd, V.int IntKind.u32 own, V.int IntKind.u16 draw] h K := by kernel_rfl
theorem x62 {h : Hp} {K : V → Hp → Prop} (t : Nat) (fd : Int) (own : Int) (draw : Int) (hx : X62 h K t fd own draw) : XCalls Try.prog 62 [V.ptr (some (t, (0 : Nat))), V.int IntKind.i64 fd, V.int IntKind.u32 own, V.int IntKind.u16 draw] h K :=
  XCalls.ofX tok fok mixed (JL := jl62) (JJ := jj62) Try.func62 ((y62 h K t fd own draw) ▸ hx)
/-! 73: (*stevedore/stevedoreref29.Table).socket -/
def jl73 : Nat → Option JT := fun r => none
def jj73 : Nat → Option JT := fun r => none
def X73 (h : Hp) (K : V → Hp → Prop) (t : Nat) (fd : Int) : Prop := XCalls Try.prog (53 : Nat) [V.ptr (some (t, (0 : Nat))), V.int IntKind.i64 fd] h fun (v1 : V) (h'1 : Hp) => ∃ (n1 : Int), v1 = V.int IntKind.i64 n1 ∧ bif ltI n1 (0 : Int)
  then K (V.int IntKind.i64 (-1 : Int)) h'1 else ∃ (a1 : Option (Nat × Nat)), ∃ (n2 : Nat), ∃ (f1 : Bool), h'1.ld t (2 : Nat) = some (V.slc a1 n2 f1) ∧ ((0 : Int) ≤ n1 ∧ n1 < (↑n2 : Int)) ∧ onS a1 fun (i1 o1 : Nat) => ∃ (n3 : Int), h'1.ld i1
  (o1 + n1.toNat * (5 : Nat) + (1 : Nat) + (0 : Nat)) = some (V.int IntKind.u8 n3) ∧ bif n3 != (1 : Int) then K (V.int IntKind.i64 (-1 : Int)) h'1 else ∃ (a2 : Option (Nat × Nat)), ∃ (n4 : Nat), ∃ (f2 : Bool), h'1.ld t (2 : Nat) = some
  (V.slc a2 n4 f2) ∧ ((0 : Int) ≤ n1 ∧ n1 < (↑n4 : Int)) ∧ onS a2 fun (i2 o2 : Nat) => ∃ (n5 : Int), h'1.ld i2 (o2 + n1.toNat * (5 : Nat) + (1 : Nat) + (2 : Nat)) = some (V.int IntKind.u64 n5) ∧ XCalls Try.prog (77 : Nat) [V.ptr (some (t, (0
  : Nat))), V.int IntKind.u64 n5] h'1 fun (v2 : V) (h'2 : Hp) => ∃ (n6 : Int), v2 = V.int IntKind.i64 n6 ∧ K (V.int IntKind.i64 n6) h'2
theorem y73 (h : Hp) (K : V → Hp → Prop) (t : Nat) (fd : Int) : X73 h K t fd = fnX Try.prog T F jl73 jj73 Try.f73 [V.ptr (some (t, (0 : Nat))), V.int IntKind.i64 fd] h K := by kernel_rfl
theorem x73 {h : Hp} {K : V → Hp → Prop} (t : Nat) (fd : Int) (hx : X73 h K t fd) : XCalls Try.prog 73 [V.ptr (some (t, (0 : Nat))), V.int IntKind.i64 fd] h K :=
  XCalls.ofX tok fok mixed (JL := jl73) (JJ := jj73) Try.func73 ((y73 h K t fd) ▸ hx)
/-! 77: (*stevedore/stevedoreref29.Table).Of -/
-- loop 2: stays t(0), id(1); turns i(5)
def jl77 : Nat → Option JT := fun r => bif Nat.beq r 2 then some ⟨[0, 1], [5], [V.int IntKind.i64 (0 : Int)]⟩ else none
def jj77 : Nat → Option JT := fun r => none
def X77 (h : Hp) (K : V → Hp → Prop) (t : Nat) (id : Int) : Prop := ∃ (I1 : List V → Hp → Prop), ∃ (x1 : List V → Hp → Nat), ([V.ptr (some (t, (0 : Nat))), V.int IntKind.u64 id] = [V.ptr (some (t, (0 : Nat))), V.int IntKind.u64 id] ∧ I1
  [V.int IntKind.i64 (0 : Int)] h) ∧ ∀ (bs1 : Nat → Option V) (n1 : Int) (h1 : Hp), I1 [V.int IntKind.i64 n1] h1 → ∃ (a1 : Option (Nat × Nat)), ∃ (n2 : Nat), ∃ (f1 : Bool), h1.ld t (3 : Nat) = some (V.slc a1 n2 f1) ∧ bif ltI n1 (↑n2 : Int)
  then ∃ (a2 : Option (Nat × Nat)), ∃ (n3 : Nat), ∃ (f2 : Bool), h1.ld t (3 : Nat) = some (V.slc a2 n3 f2) ∧ ((0 : Int) ≤ n1 ∧ n1 < (↑n3 : Int)) ∧ onS a2 fun (i1 o1 : Nat) => ∃ (n4 : Int), h1.ld i1 (o1 + n1.toNat * (13 : Nat) + (0 : Nat)) =
  some (V.int IntKind.u64 n4) ∧ bif n4 == id then K (V.int IntKind.i64 n1) h1 else [V.ptr (some (t, (0 : Nat))), V.int IntKind.u64 id] = [V.ptr (some (t, (0 : Nat))), V.int IntKind.u64 id] ∧ I1 [V.int IntKind.i64 (IntKind.i64.wrap (n1 + (1 :
  Int)))] h1 ∧ x1 [V.int IntKind.i64 (IntKind.i64.wrap (n1 + (1 : Int)))] h1 < x1 [V.int IntKind.i64 n1] h1 else K (V.int IntKind.i64 (-1 : Int)) h1
theorem y77 (h : Hp) (K : V → Hp → Prop) (t : Nat) (id : Int) : X77 h K t id = fnX Try.prog T F jl77 jj77 Try.f77 [V.ptr (some (t, (0 : Nat))), V.int IntKind.u64 id] h K := by kernel_rfl
theorem x77 {h : Hp} {K : V → Hp → Prop} (t : Nat) (id : Int) (hx : X77 h K t id) : XCalls Try.prog 77 [V.ptr (some (t, (0 : Nat))), V.int IntKind.u64 id] h K :=
  XCalls.ofX tok fok mixed (JL := jl77) (JJ := jj77) Try.func77 ((y77 h K t id) ▸ hx)
/-! 22: stevedore/stevedorelaw29.does -/
-- join 30: stays t(0), s(5), r(1); turns id(14)
def jl22 : Nat → Option JT := fun r => none
def jj22 : Nat → Option JT := fun r => bif Nat.beq r 30 then some ⟨[0, 5, 1], [14], [V.int IntKind.u64 (0 : Int)]⟩ else none
def X22 (h : Hp) (K : V → Hp → Prop) (t : Nat) (r : Nat) (s_0 : Int) (s_1 : Int) (s_2 : Int) (s_3 : Bool) (s_4 : Int) (s_5 : Int) (s_6 : Int) (s_7 : Int) (s_8 : Int) : Prop := ∀ (h'1 : Hp), h'1 = h.alloc (O.row [V.int IntKind.i64 s_0, V.int
  IntKind.u8 s_1, V.int IntKind.i64 s_2, V.bool s_3, V.int IntKind.u32 s_4, V.int IntKind.u16 s_5, V.int IntKind.u32 s_6, V.int IntKind.u16 s_7, V.int IntKind.u64 s_8] (1 : Nat) false) → ∃ (n1 : Int), h'1.ld h.next (0 : Nat) = some (V.int
  IntKind.i64 n1) ∧ bif n1 == (0 : Int) then ∃ (n2 : Int), h'1.ld h.next (1 : Nat) = some (V.int IntKind.u8 n2) ∧ XCalls Try.prog (52 : Nat) [V.ptr (some (t, (0 : Nat))), V.ptr (some (r, (0 : Nat))), V.int IntKind.u8 n2] h'1 fun (v1 : V)
  (h'2 : Hp) => ∃ (b1 : Bool), v1 = V.bool b1 ∧ K (V.bool b1) h'2 else bif n1 == (1 : Int) then ∃ (n3 : Int), h'1.ld h.next (2 : Nat) = some (V.int IntKind.i64 n3) ∧ ∃ (b2 : Bool), h'1.ld h.next (3 : Nat) = some (V.bool b2) ∧ XCalls Try.prog
  (28 : Nat) [V.ptr (some (t, (0 : Nat))), V.int IntKind.i64 n3, V.bool b2] h'1 fun (v2 : V) (h'3 : Hp) => ∃ (n4 : Int), v2 = V.int IntKind.i64 n4 ∧ ∃ (n5 : Int), h'3.ld h.next (2 : Nat) = some (V.int IntKind.i64 n5) ∧ XCalls Try.prog (53 :
  Nat) [V.ptr (some (r, (0 : Nat))), V.int IntKind.i64 n5] h'3 fun (v3 : V) (h'4 : Hp) => ∃ (n6 : Int), v3 = V.int IntKind.i64 n6 ∧ bif ltI n6 (0 : Int) then K (V.bool (n4 == (290 : Int))) h'4 else ∃ (a1 : Option (Nat × Nat)), ∃ (n7 : Nat),
  ∃ (f1 : Bool), h'4.ld r (2 : Nat) = some (V.slc a1 n7 f1) ∧ ((0 : Int) ≤ n6 ∧ n6 < (↑n7 : Int)) ∧ onS a1 fun (i1 o1 : Nat) => ∃ (n8 : Int), ∃ (n9 : Int), ∃ (n10 : Int), ∃ (n11 : Int), ∃ (b3 : Bool), h'4.lda i1 (o1 + n6.toNat * (5 : Nat))
  (5 : Nat) = some (V.agg [V.int IntKind.i64 n8, V.int IntKind.u8 n9, V.int IntKind.u8 n10, V.int IntKind.u64 n11, V.bool b3]) ∧ ∀ (h'5 : Hp), h'5 = h'4.alloc (O.row [V.int IntKind.i64 (0 : Int), V.int IntKind.u8 (0 : Int), V.int IntKind.u8
  (0 : Int), V.int IntKind.u64 (0 : Int), V.bool false] (1 : Nat) false) → ∃ (h'6 : Hp), h'5.st h'4.next (0 : Nat) [V.int IntKind.i64 n8, V.int IntKind.u8 n9, V.int IntKind.u8 n10, V.int IntKind.u64 n11, V.bool b3] = some h'6 ∧ ∃ (b4 :
  Bool), h'6.ld h.next (3 : Nat) = some (V.bool b4) ∧ ∃ (h'7 : Hp), h'6.st h'4.next (4 : Nat) [V.bool b4] = some h'7 ∧ ∃ (a2 : Option (Nat × Nat)), ∃ (n12 : Nat), ∃ (f2 : Bool), h'7.ld r (2 : Nat) = some (V.slc a2 n12 f2) ∧ ∃ (n13 : Int), ∃
  (n14 : Int), ∃ (n15 : Int), ∃ (n16 : Int), ∃ (b5 : Bool), h'7.lda h'4.next (0 : Nat) (5 : Nat) = some (V.agg [V.int IntKind.i64 n13, V.int IntKind.u8 n14, V.int IntKind.u8 n15, V.int IntKind.u64 n16, V.bool b5]) ∧ ((0 : Int) ≤ n6 ∧ n6 <
  (↑n12 : Int)) ∧ onS a2 fun (i2 o2 : Nat) => ∃ (h'8 : Hp), h'7.st i2 (o2 + n6.toNat * (5 : Nat)) [V.int IntKind.i64 n13, V.int IntKind.u8 n14, V.int IntKind.u8 n15, V.int IntKind.u64 n16, V.bool b5] = some h'8 ∧ K (V.bool (n4 == (0 : Int)))
  h'8 else bif n1 == (2 : Int) then ∃ (n17 : Int), h'1.ld h.next (2 : Nat) = some (V.int IntKind.i64 n17) ∧ ∃ (b6 : Bool), h'1.ld h.next (3 : Nat) = some (V.bool b6) ∧ ∃ (n18 : Int), h'1.ld h.next (2 : Nat) = some (V.int IntKind.i64 n18) ∧ ∃
  (b7 : Bool), h'1.ld h.next (3 : Nat) = some (V.bool b7) ∧ XCalls Try.prog (24 : Nat) [V.ptr (some (t, (0 : Nat))), V.int IntKind.i64 n17, V.bool b6] h'1 fun (v4 : V) (h'9 : Hp) => ∃ (n19 : Int), v4 = V.int IntKind.i64 n19 ∧ (∃ (b8 : Bool),
  h'9.ld h.next (3 : Nat) = some (V.bool b8) ∧ V.bool b8 = V.bool b7) ∧ V.ptr (some (h.next, (3 : Nat))) = V.ptr (some (h.next, (3 : Nat))) ∧ (∃ (n20 : Int), h'9.ld h.next (2 : Nat) = some (V.int IntKind.i64 n20) ∧ V.int IntKind.i64 n20 =
  V.int IntKind.i64 n18) ∧ V.ptr (some (h.next, (2 : Nat))) = V.ptr (some (h.next, (2 : Nat))) ∧ V.ptr (some (r, (0 : Nat))) = V.ptr (some (r, (0 : Nat))) ∧ XCalls Try.prog (54 : Nat) [V.ptr (some (r, (0 : Nat))), V.int IntKind.i64 n18,
  V.bool b7] h'9 fun (v5 : V) (h'10 : Hp) => ∃ (n21 : Int), v5 = V.int IntKind.i64 n21 ∧ K (V.bool (n19 == n21)) h'10 else bif n1 == (3 : Int) then ∃ (n22 : Int), h'1.ld h.next (2 : Nat) = some (V.int IntKind.i64 n22) ∧ ∃ (n23 : Int), ∃ (n24
  : Int), h'1.lda h.next (4 : Nat) (2 : Nat) = some (V.agg [V.int IntKind.u32 n23, V.int IntKind.u16 n24]) ∧ ∃ (n25 : Int), h'1.ld h.next (2 : Nat) = some (V.int IntKind.i64 n25) ∧ ∃ (n26 : Int), ∃ (n27 : Int), h'1.lda h.next (4 : Nat) (2 :
  Nat) = some (V.agg [V.int IntKind.u32 n26, V.int IntKind.u16 n27]) ∧ XCalls Try.prog (13 : Nat) [V.ptr (some (t, (0 : Nat))), V.int IntKind.i64 n22, V.agg [V.int IntKind.u32 n23, V.int IntKind.u16 n24]] h'1 fun (v6 : V) (h'11 : Hp) => ∃
  (n28 : Int), v6 = V.int IntKind.i64 n28 ∧ (∃ (n29 : Int), ∃ (n30 : Int), h'11.lda h.next (4 : Nat) (2 : Nat) = some (V.agg [V.int IntKind.u32 n29, V.int IntKind.u16 n30]) ∧ V.agg [V.int IntKind.u32 n29, V.int IntKind.u16 n30] = V.agg
  [V.int IntKind.u32 n26, V.int IntKind.u16 n27]) ∧ V.ptr (some (h.next, (4 : Nat))) = V.ptr (some (h.next, (4 : Nat))) ∧ (∃ (n31 : Int), h'11.ld h.next (2 : Nat) = some (V.int IntKind.i64 n31) ∧ V.int IntKind.i64 n31 = V.int IntKind.i64
  n25) ∧ V.ptr (some (h.next, (2 : Nat))) = V.ptr (some (h.next, (2 : Nat))) ∧ V.ptr (some (r, (0 : Nat))) = V.ptr (some (r, (0 : Nat))) ∧ XCalls Try.prog (55 : Nat) [V.ptr (some (r, (0 : Nat))), V.int IntKind.i64 n25, V.agg [V.int
  IntKind.u32 n26, V.int IntKind.u16 n27]] h'11 fun (v7 : V) (h'12 : Hp) => ∃ (n32 : Int), v7 = V.int IntKind.i64 n32 ∧ K (V.bool (n28 == n32)) h'12 else bif n1 == (4 : Int) then ∃ (n33 : Int), h'1.ld h.next (2 : Nat) = some (V.int
  IntKind.i64 n33) ∧ ∃ (n34 : Int), h'1.ld h.next (2 : Nat) = some (V.int IntKind.i64 n34) ∧ XCalls Try.prog (14 : Nat) [V.ptr (some (t, (0 : Nat))), V.int IntKind.i64 n33] h'1 fun (v8 : V) (h'13 : Hp) => ∃ (n35 : Int), v8 = V.int
  IntKind.i64 n35 ∧ (∃ (n36 : Int), h'13.ld h.next (2 : Nat) = some (V.int IntKind.i64 n36) ∧ V.int IntKind.i64 n36 = V.int IntKind.i64 n34) ∧ V.ptr (some (h.next, (2 : Nat))) = V.ptr (some (h.next, (2 : Nat))) ∧ V.ptr (some (r, (0 : Nat)))
  = V.ptr (some (r, (0 : Nat))) ∧ XCalls Try.prog (56 : Nat) [V.ptr (some (r, (0 : Nat))), V.int IntKind.i64 n34] h'13 fun (v9 : V) (h'14 : Hp) => ∃ (n37 : Int), v9 = V.int IntKind.i64 n37 ∧ K (V.bool (n35 == n37)) h'14 else bif n1 == (5 :
  Int) then ∃ (n38 : Int), h'1.ld h.next (2 : Nat) = some (V.int IntKind.i64 n38) ∧ ∃ (n39 : Int), h'1.ld h.next (6 : Nat) = some (V.int IntKind.u32 n39) ∧ ∃ (n40 : Int), ∃ (n41 : Int), h'1.lda h.next (4 : Nat) (2 : Nat) = some (V.agg [V.int
  IntKind.u32 n40, V.int IntKind.u16 n41]) ∧ ∃ (n42 : Int), h'1.ld h.next (7 : Nat) = some (V.int IntKind.u16 n42) ∧ XCalls Try.prog (18 : Nat) [V.ptr (some (t, (0 : Nat))), V.int IntKind.i64 n38, V.int IntKind.u32 n39, V.agg [V.int
  IntKind.u32 n40, V.int IntKind.u16 n41], V.int IntKind.u16 n42] h'1 fun (v10 : V) (h'15 : Hp) => ∃ (n43 : Int), ∃ (n44 : Int), ∃ (n45 : Int), ∃ (n46 : Int), ∃ (n47 : Int), v10 = V.tup [V.agg [V.int IntKind.u32 n43, V.int IntKind.u16 n44,
  V.int IntKind.u32 n45, V.int IntKind.u16 n46], V.int IntKind.i64 n47] ∧ ∀ (h'16 : Hp), h'16 = h'15.alloc (O.row [V.int IntKind.u32 (0 : Int), V.int IntKind.u16 (0 : Int), V.int IntKind.u32 (0 : Int), V.int IntKind.u16 (0 : Int)] (1 : Nat)
  false) → ∃ (h'17 : Hp), h'16.st h'15.next (0 : Nat) [V.int IntKind.u32 n43, V.int IntKind.u16 n44, V.int IntKind.u32 n45, V.int IntKind.u16 n46] = some h'17 ∧ ∃ (n48 : Int), h'17.ld h.next (2 : Nat) = some (V.int IntKind.i64 n48) ∧ ∃ (n49
  : Int), h'17.ld h.next (6 : Nat) = some (V.int IntKind.u32 n49) ∧ ∃ (n50 : Int), ∃ (n51 : Int), h'17.lda h.next (4 : Nat) (2 : Nat) = some (V.agg [V.int IntKind.u32 n50, V.int IntKind.u16 n51]) ∧ ∃ (n52 : Int), h'17.ld h.next (7 : Nat) =
  some (V.int IntKind.u16 n52) ∧ XCalls Try.prog (57 : Nat) [V.ptr (some (r, (0 : Nat))), V.int IntKind.i64 n48, V.int IntKind.u32 n49, V.agg [V.int IntKind.u32 n50, V.int IntKind.u16 n51], V.int IntKind.u16 n52] h'17 fun (v11 : V) (h'18 :
  Hp) => ∃ (n53 : Int), ∃ (n54 : Int), ∃ (n55 : Int), ∃ (n56 : Int), ∃ (n57 : Int), v11 = V.tup [V.agg [V.int IntKind.u32 n53, V.int IntKind.u16 n54, V.int IntKind.u32 n55, V.int IntKind.u16 n56], V.int IntKind.i64 n57] ∧ ∀ (h'19 : Hp), h'19
  = h'18.alloc (O.row [V.int IntKind.u32 (0 : Int), V.int IntKind.u16 (0 : Int), V.int IntKind.u32 (0 : Int), V.int IntKind.u16 (0 : Int)] (1 : Nat) false) → ∃ (h'20 : Hp), h'19.st h'18.next (0 : Nat) [V.int IntKind.u32 n53, V.int
  IntKind.u16 n54, V.int IntKind.u32 n55, V.int IntKind.u16 n56] = some h'20 ∧ ∃ (n58 : Int), ∃ (n59 : Int), ∃ (n60 : Int), ∃ (n61 : Int), h'20.lda h'15.next (0 : Nat) (4 : Nat) = some (V.agg [V.int IntKind.u32 n58, V.int IntKind.u16 n59,
  V.int IntKind.u32 n60, V.int IntKind.u16 n61]) ∧ ∃ (n62 : Int), ∃ (n63 : Int), ∃ (n64 : Int), ∃ (n65 : Int), h'20.lda h'18.next (0 : Nat) (4 : Nat) = some (V.agg [V.int IntKind.u32 n62, V.int IntKind.u16 n63, V.int IntKind.u32 n64, V.int
  IntKind.u16 n65]) ∧ bif n58 == n62 && (n59 == n63 && true) && (n60 == n64 && (n61 == n65 && true) && true) then K (V.bool (n47 == n57)) h'20 else K (V.bool false) h'20 else bif n1 == (6 : Int) then ∃ (n66 : Int), h'1.ld h.next (8 : Nat) =
  some (V.int IntKind.u64 n66) ∧ ∃ (Q1 : List V → Hp → Prop), (bif n66 == (0 : Int) then XCalls Try.prog (12 : Nat) [V.ptr (some (t, (0 : Nat)))] h'1 fun (v12 : V) (h'21 : Hp) => ∃ (n67 : Int), v12 = V.int IntKind.u64 n67 ∧ ∃ (n68 : Int),
  h'21.ld r (5 : Nat) = some (V.int IntKind.u64 n68) ∧ ∃ (h'22 : Hp), h'21.st r (5 : Nat) [V.int IntKind.u64 (IntKind.u64.wrap (n68 + (1 : Int)))] = some h'22 ∧ ∃ (n69 : Int), h'22.ld r (5 : Nat) = some (V.int IntKind.u64 n69) ∧ bif n67 !=
  n69 then K (V.bool false) h'22 else [V.ptr (some (t, (0 : Nat))), V.ptr (some (h.next, (0 : Nat))), V.ptr (some (r, (0 : Nat)))] = [V.ptr (some (t, (0 : Nat))), V.ptr (some (h.next, (0 : Nat))), V.ptr (some (r, (0 : Nat)))] ∧ Q1 [V.int
  IntKind.u64 n67] h'22 else [V.ptr (some (t, (0 : Nat))), V.ptr (some (h.next, (0 : Nat))), V.ptr (some (r, (0 : Nat)))] = [V.ptr (some (t, (0 : Nat))), V.ptr (some (h.next, (0 : Nat))), V.ptr (some (r, (0 : Nat)))] ∧ Q1 [V.int IntKind.u64
  n66] h'1) ∧ ∀ (bs1 : Nat → Option V) (n70 : Int) (h1 : Hp), Q1 [V.int IntKind.u64 n70] h1 → ∃ (n71 : Int), h1.ld h.next (2 : Nat) = some (V.int IntKind.i64 n71) ∧ ∃ (n72 : Int), ∃ (n73 : Int), h1.lda h.next (4 : Nat) (2 : Nat) = some
  (V.agg [V.int IntKind.u32 n72, V.int IntKind.u16 n73]) ∧ XCalls Try.prog (11 : Nat) [V.agg [V.int IntKind.u32 n72, V.int IntKind.u16 n73]] h1 fun (v13 : V) (h'23 : Hp) => ∃ (n74 : Int), ∃ (n75 : Int), ∃ (n76 : Int), ∃ (n77 : Int), v13 =
  V.agg [V.int IntKind.u32 n74, V.int IntKind.u16 n75, V.int IntKind.u32 n76, V.int IntKind.u16 n77] ∧ V.int IntKind.u64 n70 = V.int IntKind.u64 n70 ∧ (∃ (n78 : Int), h'23.ld h.next (2 : Nat) = some (V.int IntKind.i64 n78) ∧ V.int
  IntKind.i64 n78 = V.int IntKind.i64 n71) ∧ V.ptr (some (h.next, (2 : Nat))) = V.ptr (some (h.next, (2 : Nat))) ∧ V.ptr (some (t, (0 : Nat))) = V.ptr (some (t, (0 : Nat))) ∧ XCalls Try.prog (10 : Nat) [V.ptr (some (t, (0 : Nat))), V.int
  IntKind.i64 n71, V.agg [V.int IntKind.u32 n74, V.int IntKind.u16 n75, V.int IntKind.u32 n76, V.int IntKind.u16 n77], V.int IntKind.u64 n70] h'23 fun (v14 : V) (h'24 : Hp) => ∃ (n79 : Int), ∃ (n80 : Int), v14 = V.tup [V.int IntKind.i64 n79,
  V.int IntKind.i64 n80] ∧ ∃ (n81 : Int), h'24.ld h.next (2 : Nat) = some (V.int IntKind.i64 n81) ∧ ∃ (n82 : Int), ∃ (n83 : Int), h'24.lda h.next (4 : Nat) (2 : Nat) = some (V.agg [V.int IntKind.u32 n82, V.int IntKind.u16 n83]) ∧ XCalls
  Try.prog (11 : Nat) [V.agg [V.int IntKind.u32 n82, V.int IntKind.u16 n83]] h'24 fun (v15 : V) (h'25 : Hp) => ∃ (n84 : Int), ∃ (n85 : Int), ∃ (n86 : Int), ∃ (n87 : Int), v15 = V.agg [V.int IntKind.u32 n84, V.int IntKind.u16 n85, V.int
  IntKind.u32 n86, V.int IntKind.u16 n87] ∧ V.int IntKind.u64 n70 = V.int IntKind.u64 n70 ∧ (∃ (n88 : Int), h'25.ld h.next (2 : Nat) = some (V.int IntKind.i64 n88) ∧ V.int IntKind.i64 n88 = V.int IntKind.i64 n81) ∧ V.ptr (some (h.next, (2 :
  Nat))) = V.ptr (some (h.next, (2 : Nat))) ∧ V.ptr (some (r, (0 : Nat))) = V.ptr (some (r, (0 : Nat))) ∧ XCalls Try.prog (58 : Nat) [V.ptr (some (r, (0 : Nat))), V.int IntKind.i64 n81, V.agg [V.int IntKind.u32 n84, V.int IntKind.u16 n85,
  V.int IntKind.u32 n86, V.int IntKind.u16 n87], V.int IntKind.u64 n70] h'25 fun (v16 : V) (h'26 : Hp) => ∃ (n89 : Int), ∃ (n90 : Int), v16 = V.tup [V.int IntKind.i64 n89, V.int IntKind.i64 n90] ∧ bif n79 == n89 then K (V.bool (n80 == n90))
  h'26 else K (V.bool false) h'26 else bif n1 == (7 : Int) then ∃ (n91 : Int), h'1.ld h.next (2 : Nat) = some (V.int IntKind.i64 n91) ∧ XCalls Try.prog (20 : Nat) [V.ptr (some (t, (0 : Nat))), V.int IntKind.i64 n91] h'1 fun (v17 : V) (h'27 :
  Hp) => ∃ (n92 : Int), ∃ (n93 : Int), ∃ (n94 : Int), ∃ (b9 : Bool), ∃ (n95 : Int), v17 = V.tup [V.agg [V.int IntKind.u8 n92, V.int IntKind.u8 n93, V.int IntKind.u64 n94, V.bool b9], V.int IntKind.i64 n95] ∧ ∀ (h'28 : Hp), h'28 = h'27.alloc
  (O.row [V.int IntKind.u8 (0 : Int), V.int IntKind.u8 (0 : Int), V.int IntKind.u64 (0 : Int), V.bool false] (1 : Nat) false) → ∃ (h'29 : Hp), h'28.st h'27.next (0 : Nat) [V.int IntKind.u8 n92, V.int IntKind.u8 n93, V.int IntKind.u64 n94,
  V.bool b9] = some h'29 ∧ ∃ (n96 : Int), h'29.ld h.next (2 : Nat) = some (V.int IntKind.i64 n96) ∧ XCalls Try.prog (59 : Nat) [V.ptr (some (r, (0 : Nat))), V.int IntKind.i64 n96] h'29 fun (v18 : V) (h'30 : Hp) => ∃ (n97 : Int), ∃ (n98 :
  Int), ∃ (n99 : Int), ∃ (b10 : Bool), ∃ (n100 : Int), v18 = V.tup [V.agg [V.int IntKind.u8 n97, V.int IntKind.u8 n98, V.int IntKind.u64 n99, V.bool b10], V.int IntKind.i64 n100] ∧ ∀ (h'31 : Hp), h'31 = h'30.alloc (O.row [V.int IntKind.u8 (0
  : Int), V.int IntKind.u8 (0 : Int), V.int IntKind.u64 (0 : Int), V.bool false] (1 : Nat) false) → ∃ (h'32 : Hp), h'31.st h'30.next (0 : Nat) [V.int IntKind.u8 n97, V.int IntKind.u8 n98, V.int IntKind.u64 n99, V.bool b10] = some h'32 ∧ ∃
  (n101 : Int), ∃ (n102 : Int), ∃ (n103 : Int), ∃ (b11 : Bool), h'32.lda h'27.next (0 : Nat) (4 : Nat) = some (V.agg [V.int IntKind.u8 n101, V.int IntKind.u8 n102, V.int IntKind.u64 n103, V.bool b11]) ∧ ∃ (n104 : Int), ∃ (n105 : Int), ∃
  (n106 : Int), ∃ (b12 : Bool), h'32.lda h'30.next (0 : Nat) (4 : Nat) = some (V.agg [V.int IntKind.u8 n104, V.int IntKind.u8 n105, V.int IntKind.u64 n106, V.bool b12]) ∧ bif n101 == n104 && (n102 == n105 && (n103 == n106 && (b11 == b12 &&
  true))) then K (V.bool (n95 == n100)) h'32 else K (V.bool false) h'32 else bif n1 == (8 : Int) then ∃ (n107 : Int), h'1.ld h.next (8 : Nat) = some (V.int IntKind.u64 n107) ∧ ∃ (n108 : Int), h'1.ld h.next (8 : Nat) = some (V.int IntKind.u64
  n108) ∧ XCalls Try.prog (21 : Nat) [V.ptr (some (t, (0 : Nat))), V.int IntKind.u64 n107] h'1 fun (v19 : V) (h'33 : Hp) => ∃ (b13 : Bool), v19 = V.bool b13 ∧ (∃ (n109 : Int), h'33.ld h.next (8 : Nat) = some (V.int IntKind.u64 n109) ∧ V.int
  IntKind.u64 n109 = V.int IntKind.u64 n108) ∧ V.ptr (some (h.next, (8 : Nat))) = V.ptr (some (h.next, (8 : Nat))) ∧ V.ptr (some (r, (0 : Nat))) = V.ptr (some (r, (0 : Nat))) ∧ XCalls Try.prog (60 : Nat) [V.ptr (some (r, (0 : Nat))), V.int
  IntKind.u64 n108] h'33 fun (v20 : V) (h'34 : Hp) => ∃ (b14 : Bool), v20 = V.bool b14 ∧ K (V.bool (b13 == b14)) h'34 else bif n1 == (10 : Int) then ∃ (n110 : Int), h'1.ld h.next (8 : Nat) = some (V.int IntKind.u64 n110) ∧ ∃ (n111 : Int),
  h'1.ld h.next (8 : Nat) = some (V.int IntKind.u64 n111) ∧ XCalls Try.prog (30 : Nat) [V.ptr (some (t, (0 : Nat))), V.int IntKind.u64 n110] h'1 fun (v21 : V) (h'35 : Hp) => ∃ (b15 : Bool), v21 = V.bool b15 ∧ (∃ (n112 : Int), h'35.ld h.next
  (8 : Nat) = some (V.int IntKind.u64 n112) ∧ V.int IntKind.u64 n112 = V.int IntKind.u64 n111) ∧ V.ptr (some (h.next, (8 : Nat))) = V.ptr (some (h.next, (8 : Nat))) ∧ V.ptr (some (r, (0 : Nat))) = V.ptr (some (r, (0 : Nat))) ∧ XCalls
  Try.prog (61 : Nat) [V.ptr (some (r, (0 : Nat))), V.int IntKind.u64 n111] h'35 fun (v22 : V) (h'36 : Hp) => ∃ (b16 : Bool), v22 = V.bool b16 ∧ K (V.bool (b15 == b16)) h'36 else bif n1 == (9 : Int) then ∃ (n113 : Int), h'1.ld h.next (2 :
  Nat) = some (V.int IntKind.i64 n113) ∧ ∃ (n114 : Int), h'1.ld h.next (6 : Nat) = some (V.int IntKind.u32 n114) ∧ ∃ (n115 : Int), h'1.ld h.next (7 : Nat) = some (V.int IntKind.u16 n115) ∧ ∃ (n116 : Int), h'1.ld h.next (2 : Nat) = some
  (V.int IntKind.i64 n116) ∧ ∃ (n117 : Int), h'1.ld h.next (6 : Nat) = some (V.int IntKind.u32 n117) ∧ ∃ (n118 : Int), h'1.ld h.next (7 : Nat) = some (V.int IntKind.u16 n118) ∧ XCalls Try.prog (29 : Nat) [V.ptr (some (t, (0 : Nat))), V.int
  IntKind.i64 n113, V.int IntKind.u32 n114, V.int IntKind.u16 n115] h'1 fun (v23 : V) (h'37 : Hp) => ∃ (n119 : Int), v23 = V.int IntKind.i64 n119 ∧ (∃ (n120 : Int), h'37.ld h.next (7 : Nat) = some (V.int IntKind.u16 n120) ∧ V.int IntKind.u16
  n120 = V.int IntKind.u16 n118) ∧ V.ptr (some (h.next, (7 : Nat))) = V.ptr (some (h.next, (7 : Nat))) ∧ (∃ (n121 : Int), h'37.ld h.next (6 : Nat) = some (V.int IntKind.u32 n121) ∧ V.int IntKind.u32 n121 = V.int IntKind.u32 n117) ∧ V.ptr
  (some (h.next, (6 : Nat))) = V.ptr (some (h.next, (6 : Nat))) ∧ (∃ (n122 : Int), h'37.ld h.next (2 : Nat) = some (V.int IntKind.i64 n122) ∧ V.int IntKind.i64 n122 = V.int IntKind.i64 n116) ∧ V.ptr (some (h.next, (2 : Nat))) = V.ptr (some
  (h.next, (2 : Nat))) ∧ V.ptr (some (r, (0 : Nat))) = V.ptr (some (r, (0 : Nat))) ∧ XCalls Try.prog (62 : Nat) [V.ptr (some (r, (0 : Nat))), V.int IntKind.i64 n116, V.int IntKind.u32 n117, V.int IntKind.u16 n118] h'37 fun (v24 : V) (h'38 :
  Hp) => ∃ (n123 : Int), v24 = V.int IntKind.i64 n123 ∧ K (V.bool (n119 == n123)) h'38 else K (V.bool true) h'1
theorem x22 {h : Hp} {K : V → Hp → Prop} (t : Nat) (r : Nat) (s_0 : Int) (s_1 : Int) (s_2 : Int) (s_3 : Bool) (s_4 : Int) (s_5 : Int) (s_6 : Int) (s_7 : Int) (s_8 : Int) (hx : X22 h K t r s_0 s_1 s_2 s_3 s_4 s_5 s_6 s_7 s_8) : XCalls
  Try.prog 22 [V.ptr (some (t, (0 : Nat))), V.ptr (some (r, (0 : Nat))), V.agg [V.int IntKind.i64 s_0, V.int IntKind.u8 s_1, V.int IntKind.i64 s_2, V.bool s_3, V.int IntKind.u32 s_4, V.int IntKind.u16 s_5, V.int IntKind.u32 s_6, V.int
  IntKind.u16 s_7, V.int IntKind.u64 s_8]] h K :=
  XCalls.ofX tok fok mixed (JL := jl22) (JJ := jj22) Try.func22 (cast (by kernel_rfl) hx) 
end Go.Vex
