/- Ear and EarOnce (printed by VexPrint).
-/
import Derived.Test.YtappaengiioblaaVexX
import Derived.Test.YtappaengiioblaaTab28
set_option linter.unusedVariables false
set_option maxRecDepth 100000
namespace Go.Vex
open Go.Proofs
/-! 10: stevedore/inet.NewEar -/
def jl10 : Nat → Option JT := fun r => none
def jj10 : Nat → Option JT := fun r => none
def X10 (h : Hp) (K : V → Hp → Prop) (backlog : Int) : Prop := bif ltI backlog (1 : Int) then K (V.tup [V.ptr none, V.int IntKind.i64 (2 : Int)]) h else bif ltI (128 : Int) backlog then K (V.tup [V.ptr none, V.int IntKind.i64 (2 : Int)]) h
  else ∀ (h'1 : Hp), h'1 = h.alloc (O.map [] (0 : Nat)) → ∀ (h'2 : Hp), h'2 = h'1.alloc (O.map [] (0 : Nat)) → ∀ (h'3 : Hp), h'3 = h'2.alloc (O.row [V.int IntKind.i64 backlog, V.map (some h.next), V.map (some h'1.next), V.slc none (0 : Nat)
  true] (1 : Nat) false) → K (V.tup [V.ptr (some (h'2.next, (0 : Nat))), V.int IntKind.i64 (0 : Int)]) h'3
theorem y10 (h : Hp) (K : V → Hp → Prop) (backlog : Int) : X10 h K backlog = fnX Try.prog T F jl10 jj10 Try.f10 [V.int IntKind.i64 backlog] h K := by kernel_rfl
theorem x10 {h : Hp} {K : V → Hp → Prop} (backlog : Int) (hx : X10 h K backlog) : XCalls Try.prog 10 [V.int IntKind.i64 backlog] h K :=
  XCalls.ofX tok fok mixed (JL := jl10) (JJ := jj10) Try.func10 ((y10 h K backlog) ▸ hx)
/-! 16: (*stevedore/inet.Ear).Len -/
def jl16 : Nat → Option JT := fun r => none
def jj16 : Nat → Option JT := fun r => none
def X16 (h : Hp) (K : V → Hp → Prop) (r : Nat) : Prop := ∃ (r1 : Option Nat), h.ld r (1 : Nat) = some (V.map r1) ∧ ∃ (n1 : Int), xlen T h (87 : Nat) (V.map r1) = some (V.int IntKind.i64 n1) ∧ ∃ (a1 : Option (Nat × Nat)), ∃ (n2 : Nat), ∃ (f1
  : Bool), h.ld r (3 : Nat) = some (V.slc a1 n2 f1) ∧ ∃ (a2 : Option (Nat × Nat)), ∃ (n3 : Nat), ∃ (f2 : Bool), h.ld r (3 : Nat) = some (V.slc a2 n3 f2) ∧ K (V.tup [V.int IntKind.i64 (IntKind.i64.wrap (n1 - (↑n2 : Int))), V.int IntKind.i64
  (↑n3 : Int)]) h
theorem y16 (h : Hp) (K : V → Hp → Prop) (r : Nat) : X16 h K r = fnX Try.prog T F jl16 jj16 Try.f16 [V.ptr (some (r, (0 : Nat)))] h K := by kernel_rfl
theorem x16 {h : Hp} {K : V → Hp → Prop} (r : Nat) (hx : X16 h K r) : XCalls Try.prog 16 [V.ptr (some (r, (0 : Nat)))] h K :=
  XCalls.ofX tok fok mixed (JL := jl16) (JJ := jj16) Try.func16 ((y16 h K r) ▸ hx)
/-! 40: (*stevedore/inet.Ear).Gone$1 -/
def jl40 : Nat → Option JT := fun r => none
def jj40 : Nat → Option JT := fun r => none
def X40 (h : Hp) (K : V → Hp → Prop) (s : Int) (c1 : Nat) : Prop := ∃ (n1 : Int), h.ld c1 (0 : Nat) = some (V.int IntKind.u64 n1) ∧ K (V.bool (s == n1)) h
theorem y40 (h : Hp) (K : V → Hp → Prop) (s : Int) (c1 : Nat) : X40 h K s c1 = fnX Try.prog T F jl40 jj40 Try.f40 [V.int IntKind.u64 s, V.ptr (some (c1, (0 : Nat)))] h K := by kernel_rfl
theorem x40 {h : Hp} {K : V → Hp → Prop} (s : Int) (c1 : Nat) (hx : X40 h K s c1) : XCalls Try.prog 40 [V.int IntKind.u64 s, V.ptr (some (c1, (0 : Nat)))] h K :=
  XCalls.ofX tok fok mixed (JL := jl40) (JJ := jj40) Try.func40 ((y40 h K s c1) ▸ hx)
/-! 44: slices.IndexFunc[[]uint64,uint64] -/
-- loop 2: stays s(0), f(1), (7); turns (8)
def jl44 : Nat → Option JT := fun r => bif Nat.beq r 2 then some ⟨[0, 1, 7], [8], [V.int IntKind.i64 (0 : Int)]⟩ else none
def jj44 : Nat → Option JT := fun r => none
def X44 (h : Hp) (K : V → Hp → Prop) (s : Option (Nat × Nat)) (s_n : Nat) (s_f : Bool) (f_0 : Nat) : Prop := ∃ (I1 : List V → Hp → Prop), ∃ (x1 : List V → Hp → Nat), ([V.slc s s_n s_f, V.fn (Fn.func (40 : Nat)) [] [V.ptr (some (f_0, (0 :
  Nat)))], V.int IntKind.i64 (↑s_n : Int)] = [V.slc s s_n s_f, V.fn (Fn.func (40 : Nat)) [] [V.ptr (some (f_0, (0 : Nat)))], V.int IntKind.i64 (↑s_n : Int)] ∧ I1 [V.int IntKind.i64 (0 : Int)] h) ∧ ∀ (bs1 : Nat → Option V) (n1 : Int) (h1 :
  Hp), I1 [V.int IntKind.i64 n1] h1 → bif ltI n1 (↑s_n : Int) then ((0 : Int) ≤ n1 ∧ n1 < (↑s_n : Int)) ∧ onS s fun (i1 o1 : Nat) => ∃ (n2 : Int), h1.ld i1 (o1 + n1.toNat * (1 : Nat)) = some (V.int IntKind.u64 n2) ∧ XCalls Try.prog (40 :
  Nat) [V.int IntKind.u64 n2, V.ptr (some (f_0, (0 : Nat)))] h1 fun (v1 : V) (h'1 : Hp) => ∃ (b1 : Bool), v1 = V.bool b1 ∧ bif b1 then K (V.int IntKind.i64 n1) h'1 else [V.slc s s_n s_f, V.fn (Fn.func (40 : Nat)) [] [V.ptr (some (f_0, (0 :
  Nat)))], V.int IntKind.i64 (↑s_n : Int)] = [V.slc s s_n s_f, V.fn (Fn.func (40 : Nat)) [] [V.ptr (some (f_0, (0 : Nat)))], V.int IntKind.i64 (↑s_n : Int)] ∧ I1 [V.int IntKind.i64 (IntKind.i64.wrap (n1 + (1 : Int)))] h'1 ∧ x1 [V.int
  IntKind.i64 (IntKind.i64.wrap (n1 + (1 : Int)))] h'1 < x1 [V.int IntKind.i64 n1] h1 else K (V.int IntKind.i64 (-1 : Int)) h1
theorem y44 (h : Hp) (K : V → Hp → Prop) (s : Option (Nat × Nat)) (s_n : Nat) (s_f : Bool) (f_0 : Nat) : X44 h K s s_n s_f f_0 = fnX Try.prog T F jl44 jj44 Try.f44 [V.slc s s_n s_f, V.fn (Fn.func (40 : Nat)) [] [V.ptr (some (f_0, (0 : Nat)))]] h K := by kernel_rfl
theorem x44 {h : Hp} {K : V → Hp → Prop} (s : Option (Nat × Nat)) (s_n : Nat) (s_f : Bool) (f_0 : Nat) (hx : X44 h K s s_n s_f f_0) : XCalls Try.prog 44 [V.slc s s_n s_f, V.fn (Fn.func (40 : Nat)) [] [V.ptr (some (f_0, (0 : Nat)))]] h K :=
  XCalls.ofX tok fok mixed (JL := jl44) (JJ := jj44) Try.func44 ((y44 h K s s_n s_f f_0) ▸ hx)
/-! 39: slices.DeleteFunc[[]uint64,uint64] -/
-- loop 5: stays s(0), del(1); turns i(5), j(6)
def jl39 : Nat → Option JT := fun r => bif Nat.beq r 5 then some ⟨[0, 1], [5, 6], [V.int IntKind.i64 (0 : Int), V.int IntKind.i64 (0 : Int)]⟩ else none
def jj39 : Nat → Option JT := fun r => none
def X39 (h : Hp) (K : V → Hp → Prop) (s : Option (Nat × Nat)) (s_n : Nat) (s_f : Bool) (del_0 : Nat) : Prop := XCalls Try.prog (44 : Nat) [V.slc s s_n s_f, V.fn (Fn.func (40 : Nat)) [] [V.ptr (some (del_0, (0 : Nat)))]] h fun (v1 : V) (h'1 :
  Hp) => ∃ (n1 : Int), v1 = V.int IntKind.i64 n1 ∧ bif n1 == (-1 : Int) then K (V.slc s s_n s_f) h'1 else ∃ (I1 : List V → Hp → Prop), ∃ (x1 : List V → Hp → Nat), ([V.slc s s_n s_f, V.fn (Fn.func (40 : Nat)) [] [V.ptr (some (del_0, (0 :
  Nat)))]] = [V.slc s s_n s_f, V.fn (Fn.func (40 : Nat)) [] [V.ptr (some (del_0, (0 : Nat)))]] ∧ I1 [V.int IntKind.i64 n1, V.int IntKind.i64 (IntKind.i64.wrap (n1 + (1 : Int)))] h'1) ∧ ∀ (bs1 : Nat → Option V) (n2 n3 : Int) (h1 : Hp), I1
  [V.int IntKind.i64 n2, V.int IntKind.i64 n3] h1 → bif ltI n3 (↑s_n : Int) then ((0 : Int) ≤ n3 ∧ n3 < (↑s_n : Int)) ∧ onS s fun (i1 o1 : Nat) => ∃ (n4 : Int), h1.ld i1 (o1 + n3.toNat * (1 : Nat)) = some (V.int IntKind.u64 n4) ∧ XCalls
  Try.prog (40 : Nat) [V.int IntKind.u64 n4, V.ptr (some (del_0, (0 : Nat)))] h1 fun (v2 : V) (h'2 : Hp) => ∃ (b1 : Bool), v2 = V.bool b1 ∧ bif !b1 then ((0 : Int) ≤ n2 ∧ n2 < (↑s_n : Int)) ∧ onS s fun (i2 o2 : Nat) => ∃ (h'3 : Hp), h'2.st
  i2 (o2 + n2.toNat * (1 : Nat)) [V.int IntKind.u64 n4] = some h'3 ∧ [V.slc s s_n s_f, V.fn (Fn.func (40 : Nat)) [] [V.ptr (some (del_0, (0 : Nat)))]] = [V.slc s s_n s_f, V.fn (Fn.func (40 : Nat)) [] [V.ptr (some (del_0, (0 : Nat)))]] ∧ I1
  [V.int IntKind.i64 (IntKind.i64.wrap (n2 + (1 : Int))), V.int IntKind.i64 (IntKind.i64.wrap (n3 + (1 : Int)))] h'3 ∧ x1 [V.int IntKind.i64 (IntKind.i64.wrap (n2 + (1 : Int))), V.int IntKind.i64 (IntKind.i64.wrap (n3 + (1 : Int)))] h'3 < x1
  [V.int IntKind.i64 n2, V.int IntKind.i64 n3] h1 else [V.slc s s_n s_f, V.fn (Fn.func (40 : Nat)) [] [V.ptr (some (del_0, (0 : Nat)))]] = [V.slc s s_n s_f, V.fn (Fn.func (40 : Nat)) [] [V.ptr (some (del_0, (0 : Nat)))]] ∧ I1 [V.int
  IntKind.i64 n2, V.int IntKind.i64 (IntKind.i64.wrap (n3 + (1 : Int)))] h'2 ∧ x1 [V.int IntKind.i64 n2, V.int IntKind.i64 (IntKind.i64.wrap (n3 + (1 : Int)))] h'2 < x1 [V.int IntKind.i64 n2, V.int IntKind.i64 n3] h1 else ∃ (a1 : Option (Nat
  × Nat)), ∃ (n5 : Nat), ∃ (f1 : Bool), xslice T h1 (28 : Nat) (V.slc s s_n s_f) (some (V.int IntKind.i64 n2)) none none = some (V.slc a1 n5 f1) ∧ ∃ (h'4 : Hp), xclear T h1 (28 : Nat) (V.slc a1 n5 f1) = some h'4 ∧ ∃ (a2 : Option (Nat ×
  Nat)), ∃ (n6 : Nat), ∃ (f2 : Bool), xslice T h'4 (28 : Nat) (V.slc s s_n s_f) none (some (V.int IntKind.i64 n2)) none = some (V.slc a2 n6 f2) ∧ K (V.slc a2 n6 f2) h'4
theorem y39 (h : Hp) (K : V → Hp → Prop) (s : Option (Nat × Nat)) (s_n : Nat) (s_f : Bool) (del_0 : Nat) : X39 h K s s_n s_f del_0 = fnX Try.prog T F jl39 jj39 Try.f39 [V.slc s s_n s_f, V.fn (Fn.func (40 : Nat)) [] [V.ptr (some (del_0, (0 : Nat)))]] h K := by kernel_rfl
theorem x39 {h : Hp} {K : V → Hp → Prop} (s : Option (Nat × Nat)) (s_n : Nat) (s_f : Bool) (del_0 : Nat) (hx : X39 h K s s_n s_f del_0) : XCalls Try.prog 39 [V.slc s s_n s_f, V.fn (Fn.func (40 : Nat)) [] [V.ptr (some (del_0, (0 : Nat)))]] h K :=
  XCalls.ofX tok fok mixed (JL := jl39) (JJ := jj39) Try.func39 ((y39 h K s s_n s_f del_0) ▸ hx)
/-! 11: (*stevedore/inet.Ear).Done -/
def jl11 : Nat → Option JT := fun r => none
def jj11 : Nat → Option JT := fun r => none
def X11 (h : Hp) (K : V → Hp → Prop) (r : Nat) (socket : Int) : Prop := ∃ (r1 : Option Nat), h.ld r (1 : Nat) = some (V.map r1) ∧ bif r1.isNone then K (V.int IntKind.i64 (1 : Int)) h else ∃ (r2 : Option Nat), h.ld r (1 : Nat) = some (V.map
  r2) ∧ ∃ (n1 : Int), ∃ (n2 : Int), ∃ (n3 : Int), ∃ (n4 : Int), ∃ (b1 : Bool), ∃ (b'1 : Bool), xlook T h (87 : Nat) (V.map r2) (V.int IntKind.u64 socket) true = some (V.tup [V.agg [V.int IntKind.u32 n1, V.int IntKind.u16 n2, V.int
  IntKind.u32 n3, V.int IntKind.u16 n4, V.bool b1], V.bool b'1]) ∧ ∀ (h'1 : Hp), h'1 = h.alloc (O.row [V.int IntKind.u32 (0 : Int), V.int IntKind.u16 (0 : Int), V.int IntKind.u32 (0 : Int), V.int IntKind.u16 (0 : Int), V.bool false] (1 :
  Nat) false) → ∃ (h'2 : Hp), h'1.st h.next (0 : Nat) [V.int IntKind.u32 n1, V.int IntKind.u16 n2, V.int IntKind.u32 n3, V.int IntKind.u16 n4, V.bool b1] = some h'2 ∧ bif !b'1 then K (V.int IntKind.i64 (5 : Int)) h'2 else ∃ (b2 : Bool),
  h'2.ld h.next (4 : Nat) = some (V.bool b2) ∧ bif b2 then K (V.int IntKind.i64 (5 : Int)) h'2 else ∃ (a1 : Option (Nat × Nat)), ∃ (n5 : Nat), ∃ (f1 : Bool), h'2.ld r (3 : Nat) = some (V.slc a1 n5 f1) ∧ ∃ (n6 : Int), h'2.ld r (0 : Nat) =
  some (V.int IntKind.i64 n6) ∧ bif !ltI (↑n5 : Int) n6 then K (V.int IntKind.i64 (6 : Int)) h'2 else ∃ (r3 : Option Nat), h'2.ld r (1 : Nat) = some (V.map r3) ∧ ∃ (n7 : Int), ∃ (n8 : Int), ∃ (n9 : Int), ∃ (n10 : Int), h'2.lda h.next (0 :
  Nat) (4 : Nat) = some (V.agg [V.int IntKind.u32 n7, V.int IntKind.u16 n8, V.int IntKind.u32 n9, V.int IntKind.u16 n10]) ∧ ∃ (h'3 : Hp), xput T h'2 (87 : Nat) (V.map r3) (V.int IntKind.u64 socket) (V.agg [V.int IntKind.u32 n7, V.int
  IntKind.u16 n8, V.int IntKind.u32 n9, V.int IntKind.u16 n10, V.bool true]) = some h'3 ∧ ∃ (a2 : Option (Nat × Nat)), ∃ (n11 : Nat), ∃ (f2 : Bool), h'3.ld r (3 : Nat) = some (V.slc a2 n11 f2) ∧ ∀ (h'4 : Hp), h'4 = h'3.alloc (O.row [V.int
  IntKind.u64 socket] (1 : Nat) false) → ∃ (p1 : Option (Nat × Nat)), ∃ (n12 : Nat), ∃ (f3 : Bool), ∃ (h'5 : Hp), xapp T h'4 (28 : Nat) (28 : Nat) (V.slc a2 n11 f2) (V.slc (some (h'3.next, (0 : Nat))) (1 : Nat) true) = some (V.slc p1 n12 f3,
  h'5) ∧ ∃ (h'6 : Hp), h'5.st r (3 : Nat) [V.slc p1 n12 f3] = some h'6 ∧ K (V.int IntKind.i64 (0 : Int)) h'6
theorem y11 (h : Hp) (K : V → Hp → Prop) (r : Nat) (socket : Int) : X11 h K r socket = fnX Try.prog T F jl11 jj11 Try.f11 [V.ptr (some (r, (0 : Nat))), V.int IntKind.u64 socket] h K := by kernel_rfl
theorem x11 {h : Hp} {K : V → Hp → Prop} (r : Nat) (socket : Int) (hx : X11 h K r socket) : XCalls Try.prog 11 [V.ptr (some (r, (0 : Nat))), V.int IntKind.u64 socket] h K :=
  XCalls.ofX tok fok mixed (JL := jl11) (JJ := jj11) Try.func11 ((y11 h K r socket) ▸ hx)
/-! 12: (*stevedore/inet.Ear).Gone -/
def jl12 : Nat → Option JT := fun r => none
def jj12 : Nat → Option JT := fun r => none
def X12 (h : Hp) (K : V → Hp → Prop) (r : Nat) (socket : Int) : Prop := ∀ (h'1 : Hp), h'1 = h.alloc (O.row [V.int IntKind.u64 socket] (1 : Nat) false) → ∃ (r1 : Option Nat), h'1.ld r (1 : Nat) = some (V.map r1) ∧ ∃ (n1 : Int), h'1.ld h.next
  (0 : Nat) = some (V.int IntKind.u64 n1) ∧ ∃ (n2 : Int), ∃ (n3 : Int), ∃ (n4 : Int), ∃ (n5 : Int), ∃ (b1 : Bool), ∃ (b'1 : Bool), xlook T h'1 (87 : Nat) (V.map r1) (V.int IntKind.u64 n1) true = some (V.tup [V.agg [V.int IntKind.u32 n2,
  V.int IntKind.u16 n3, V.int IntKind.u32 n4, V.int IntKind.u16 n5, V.bool b1], V.bool b'1]) ∧ ∀ (h'2 : Hp), h'2 = h'1.alloc (O.row [V.int IntKind.u32 (0 : Int), V.int IntKind.u16 (0 : Int), V.int IntKind.u32 (0 : Int), V.int IntKind.u16 (0
  : Int), V.bool false] (1 : Nat) false) → V.bool b'1 = V.bool b'1 ∧ V.agg [V.int IntKind.u32 n2, V.int IntKind.u16 n3, V.int IntKind.u32 n4, V.int IntKind.u16 n5, V.bool b1] = V.agg [V.int IntKind.u32 n2, V.int IntKind.u16 n3, V.int
  IntKind.u32 n4, V.int IntKind.u16 n5, V.bool b1] ∧ V.tup [V.agg [V.int IntKind.u32 n2, V.int IntKind.u16 n3, V.int IntKind.u32 n4, V.int IntKind.u16 n5, V.bool b1], V.bool b'1] = V.tup [V.agg [V.int IntKind.u32 n2, V.int IntKind.u16 n3,
  V.int IntKind.u32 n4, V.int IntKind.u16 n5, V.bool b1], V.bool b'1] ∧ (∃ (n6 : Int), ∃ (n7 : Int), ∃ (n8 : Int), ∃ (n9 : Int), ∃ (b2 : Bool), ∃ (b'2 : Bool), xlook T h'2 (87 : Nat) (V.map r1) (V.int IntKind.u64 n1) true = some (V.tup
  [V.agg [V.int IntKind.u32 n6, V.int IntKind.u16 n7, V.int IntKind.u32 n8, V.int IntKind.u16 n9, V.bool b2], V.bool b'2]) ∧ V.tup [V.agg [V.int IntKind.u32 n6, V.int IntKind.u16 n7, V.int IntKind.u32 n8, V.int IntKind.u16 n9, V.bool b2],
  V.bool b'2] = V.tup [V.agg [V.int IntKind.u32 n2, V.int IntKind.u16 n3, V.int IntKind.u32 n4, V.int IntKind.u16 n5, V.bool b1], V.bool b'1]) ∧ (∃ (n10 : Int), h'2.ld h.next (0 : Nat) = some (V.int IntKind.u64 n10) ∧ V.int IntKind.u64 n10 =
  V.int IntKind.u64 n1) ∧ (∃ (r2 : Option Nat), h'2.ld r (1 : Nat) = some (V.map r2) ∧ V.map r2 = V.map r1) ∧ V.ptr (some (r, (1 : Nat))) = V.ptr (some (r, (1 : Nat))) ∧ V.ptr (some (r, (0 : Nat))) = V.ptr (some (r, (0 : Nat))) ∧ V.ptr (some
  (r, (0 : Nat))) = V.ptr (some (r, (0 : Nat))) ∧ ∃ (h'3 : Hp), h'2.st h'1.next (0 : Nat) [V.int IntKind.u32 n2, V.int IntKind.u16 n3, V.int IntKind.u32 n4, V.int IntKind.u16 n5, V.bool b1] = some h'3 ∧ V.bool b'1 = V.bool b'1 ∧ bif b'1 then
  ∃ (r3 : Option Nat), h'3.ld r (1 : Nat) = some (V.map r3) ∧ ∃ (n11 : Int), h'3.ld h.next (0 : Nat) = some (V.int IntKind.u64 n11) ∧ ∃ (h'4 : Hp), xdel T h'3 (87 : Nat) (V.map r3) (V.int IntKind.u64 n11) = some h'4 ∧ ∃ (r4 : Option Nat),
  h'4.ld r (2 : Nat) = some (V.map r4) ∧ ∃ (n12 : Int), ∃ (n13 : Int), ∃ (n14 : Int), ∃ (n15 : Int), h'4.lda h'1.next (0 : Nat) (4 : Nat) = some (V.agg [V.int IntKind.u32 n12, V.int IntKind.u16 n13, V.int IntKind.u32 n14, V.int IntKind.u16
  n15]) ∧ ∃ (h'5 : Hp), xdel T h'4 (88 : Nat) (V.map r4) (V.agg [V.int IntKind.u32 n12, V.int IntKind.u16 n13, V.int IntKind.u32 n14, V.int IntKind.u16 n15]) = some h'5 ∧ ∃ (a1 : Option (Nat × Nat)), ∃ (n16 : Nat), ∃ (f1 : Bool), h'5.ld r (3
  : Nat) = some (V.slc a1 n16 f1) ∧ XCalls Try.prog (39 : Nat) [V.slc a1 n16 f1, V.fn (Fn.func (40 : Nat)) [] [V.ptr (some (h.next, (0 : Nat)))]] h'5 fun (v1 : V) (h'6 : Hp) => ∃ (a2 : Option (Nat × Nat)), ∃ (n17 : Nat), ∃ (f2 : Bool), v1 =
  V.slc a2 n17 f2 ∧ ∃ (h'7 : Hp), h'6.st r (3 : Nat) [V.slc a2 n17 f2] = some h'7 ∧ K (V.bool b'1) h'7 else K (V.bool b'1) h'3
theorem y12 (h : Hp) (K : V → Hp → Prop) (r : Nat) (socket : Int) : X12 h K r socket = fnX Try.prog T F jl12 jj12 Try.f12 [V.ptr (some (r, (0 : Nat))), V.int IntKind.u64 socket] h K := by kernel_rfl
theorem x12 {h : Hp} {K : V → Hp → Prop} (r : Nat) (socket : Int) (hx : X12 h K r socket) : XCalls Try.prog 12 [V.ptr (some (r, (0 : Nat))), V.int IntKind.u64 socket] h K :=
  XCalls.ofX tok fok mixed (JL := jl12) (JJ := jj12) Try.func12 ((y12 h K r socket) ▸ hx)
/-! 13: (*stevedore/inet.Ear).Accept -/
def jl13 : Nat → Option JT := fun r => none
def jj13 : Nat → Option JT := fun r => none
def X13 (h : Hp) (K : V → Hp → Prop) (r : Nat) : Prop := ∀ (h'1 : Hp), h'1 = h.alloc (O.row [V.int IntKind.u32 (0 : Int), V.int IntKind.u16 (0 : Int), V.int IntKind.u32 (0 : Int), V.int IntKind.u16 (0 : Int)] (1 : Nat) false) → ∃ (a1 :
  Option (Nat × Nat)), ∃ (n1 : Nat), ∃ (f1 : Bool), h'1.ld r (3 : Nat) = some (V.slc a1 n1 f1) ∧ bif (↑n1 : Int) == (0 : Int) then ∃ (h'2 : Hp), h'1.st h.next (0 : Nat) [V.int IntKind.u32 (0 : Int), V.int IntKind.u16 (0 : Int), V.int
  IntKind.u32 (0 : Int), V.int IntKind.u16 (0 : Int)] = some h'2 ∧ ∃ (n2 : Int), ∃ (n3 : Int), ∃ (n4 : Int), ∃ (n5 : Int), h'2.lda h.next (0 : Nat) (4 : Nat) = some (V.agg [V.int IntKind.u32 n2, V.int IntKind.u16 n3, V.int IntKind.u32 n4,
  V.int IntKind.u16 n5]) ∧ K (V.tup [V.agg [V.int IntKind.u32 n2, V.int IntKind.u16 n3, V.int IntKind.u32 n4, V.int IntKind.u16 n5], V.int IntKind.u64 (0 : Int), V.bool false]) h'2 else ∃ (a2 : Option (Nat × Nat)), ∃ (n6 : Nat), ∃ (f2 :
  Bool), h'1.ld r (3 : Nat) = some (V.slc a2 n6 f2) ∧ ((0 : Int) ≤ (0 : Int) ∧ (0 : Int) < (↑n6 : Int)) ∧ onS a2 fun (i1 o1 : Nat) => ∃ (n7 : Int), h'1.ld i1 (o1 + Int.toNat (0 : Int) * (1 : Nat)) = some (V.int IntKind.u64 n7) ∧ ∃ (r1 :
  Option Nat), h'1.ld r (1 : Nat) = some (V.map r1) ∧ ∃ (n8 : Int), ∃ (n9 : Int), ∃ (n10 : Int), ∃ (n11 : Int), ∃ (b1 : Bool), xlook T h'1 (87 : Nat) (V.map r1) (V.int IntKind.u64 n7) false = some (V.agg [V.int IntKind.u32 n8, V.int
  IntKind.u16 n9, V.int IntKind.u32 n10, V.int IntKind.u16 n11, V.bool b1]) ∧ ∃ (h'3 : Hp), h'1.st h.next (0 : Nat) [V.int IntKind.u32 n8, V.int IntKind.u16 n9, V.int IntKind.u32 n10, V.int IntKind.u16 n11] = some h'3 ∧ XCalls Try.prog (12 :
  Nat) [V.ptr (some (r, (0 : Nat))), V.int IntKind.u64 n7] h'3 fun (v1 : V) (h'4 : Hp) => ∃ (b2 : Bool), v1 = V.bool b2 ∧ ∃ (n12 : Int), ∃ (n13 : Int), ∃ (n14 : Int), ∃ (n15 : Int), h'4.lda h.next (0 : Nat) (4 : Nat) = some (V.agg [V.int
  IntKind.u32 n12, V.int IntKind.u16 n13, V.int IntKind.u32 n14, V.int IntKind.u16 n15]) ∧ ∃ (h'5 : Hp), h'4.st h.next (0 : Nat) [V.int IntKind.u32 n12, V.int IntKind.u16 n13, V.int IntKind.u32 n14, V.int IntKind.u16 n15] = some h'5 ∧ ∃ (n16
  : Int), ∃ (n17 : Int), ∃ (n18 : Int), ∃ (n19 : Int), h'5.lda h.next (0 : Nat) (4 : Nat) = some (V.agg [V.int IntKind.u32 n16, V.int IntKind.u16 n17, V.int IntKind.u32 n18, V.int IntKind.u16 n19]) ∧ K (V.tup [V.agg [V.int IntKind.u32 n16,
  V.int IntKind.u16 n17, V.int IntKind.u32 n18, V.int IntKind.u16 n19], V.int IntKind.u64 n7, V.bool true]) h'5
theorem y13 (h : Hp) (K : V → Hp → Prop) (r : Nat) : X13 h K r = fnX Try.prog T F jl13 jj13 Try.f13 [V.ptr (some (r, (0 : Nat)))] h K := by kernel_rfl
theorem x13 {h : Hp} {K : V → Hp → Prop} (r : Nat) (hx : X13 h K r) : XCalls Try.prog 13 [V.ptr (some (r, (0 : Nat)))] h K :=
  XCalls.ofX tok fok mixed (JL := jl13) (JJ := jj13) Try.func13 ((y13 h K r) ▸ hx)
/-! 14: (*stevedore/inet.Ear).Child -/
-- join 14: stays r(0), socket(2), p(4); turns 
def jl14 : Nat → Option JT := fun r => none
def jj14 : Nat → Option JT := fun r => bif Nat.beq r 14 then some ⟨[0, 2, 4], [], []⟩ else none
def X14 (h : Hp) (K : V → Hp → Prop) (r : Nat) (p_0 : Int) (p_1 : Int) (p_2 : Int) (p_3 : Int) (socket : Int) : Prop := ∀ (h'1 : Hp), h'1 = h.alloc (O.row [V.int IntKind.u32 p_0, V.int IntKind.u16 p_1, V.int IntKind.u32 p_2, V.int
  IntKind.u16 p_3] (1 : Nat) false) → ∃ (r1 : Option Nat), h'1.ld r (1 : Nat) = some (V.map r1) ∧ bif r1.isNone then K (V.int IntKind.i64 (1 : Int)) h'1 else ∃ (r2 : Option Nat), h'1.ld r (1 : Nat) = some (V.map r2) ∧ ∃ (n1 : Int), ∃ (n2 :
  Int), ∃ (n3 : Int), ∃ (n4 : Int), ∃ (b1 : Bool), ∃ (b'1 : Bool), xlook T h'1 (87 : Nat) (V.map r2) (V.int IntKind.u64 socket) true = some (V.tup [V.agg [V.int IntKind.u32 n1, V.int IntKind.u16 n2, V.int IntKind.u32 n3, V.int IntKind.u16
  n4, V.bool b1], V.bool b'1]) ∧ ∀ (h'2 : Hp), h'2 = h'1.alloc (O.row [V.int IntKind.u32 (0 : Int), V.int IntKind.u16 (0 : Int), V.int IntKind.u32 (0 : Int), V.int IntKind.u16 (0 : Int), V.bool false] (1 : Nat) false) → ∃ (h'3 : Hp), h'2.st
  h'1.next (0 : Nat) [V.int IntKind.u32 n1, V.int IntKind.u16 n2, V.int IntKind.u32 n3, V.int IntKind.u16 n4, V.bool b1] = some h'3 ∧ ∃ (r3 : Option Nat), h'3.ld r (2 : Nat) = some (V.map r3) ∧ ∃ (n5 : Int), ∃ (n6 : Int), ∃ (n7 : Int), ∃ (n8
  : Int), h'3.lda h.next (0 : Nat) (4 : Nat) = some (V.agg [V.int IntKind.u32 n5, V.int IntKind.u16 n6, V.int IntKind.u32 n7, V.int IntKind.u16 n8]) ∧ ∃ (n9 : Int), ∃ (b'2 : Bool), xlook T h'3 (88 : Nat) (V.map r3) (V.agg [V.int IntKind.u32
  n5, V.int IntKind.u16 n6, V.int IntKind.u32 n7, V.int IntKind.u16 n8]) true = some (V.tup [V.int IntKind.u64 n9, V.bool b'2]) ∧ XCalls Try.prog (16 : Nat) [V.ptr (some (r, (0 : Nat)))] h'3 fun (v1 : V) (h'4 : Hp) => ∃ (n10 : Int), ∃ (n11 :
  Int), v1 = V.tup [V.int IntKind.i64 n10, V.int IntKind.i64 n11] ∧ ∃ (Q1 : List V → Hp → Prop), (bif socket == (0 : Int) then K (V.int IntKind.i64 (2 : Int)) h'4 else bif b'1 then bif b'1 then K (V.int IntKind.i64 (7 : Int)) h'4 else ∃ (n12
  : Int), h'4.ld r (0 : Nat) = some (V.int IntKind.i64 n12) ∧ bif !ltI n10 n12 then bif !ltI n10 n12 then K (V.int IntKind.i64 (6 : Int)) h'4 else [V.ptr (some (r, (0 : Nat))), V.int IntKind.u64 socket, V.ptr (some (h.next, (0 : Nat)))] =
  [V.ptr (some (r, (0 : Nat))), V.int IntKind.u64 socket, V.ptr (some (h.next, (0 : Nat)))] ∧ Q1 [] h'4 else ∃ (n13 : Int), h'4.ld r (0 : Nat) = some (V.int IntKind.i64 n13) ∧ bif !ltI n11 n13 then K (V.int IntKind.i64 (6 : Int)) h'4 else
  [V.ptr (some (r, (0 : Nat))), V.int IntKind.u64 socket, V.ptr (some (h.next, (0 : Nat)))] = [V.ptr (some (r, (0 : Nat))), V.int IntKind.u64 socket, V.ptr (some (h.next, (0 : Nat)))] ∧ Q1 [] h'4 else bif b'2 then K (V.int IntKind.i64 (7 :
  Int)) h'4 else ∃ (n14 : Int), h'4.ld r (0 : Nat) = some (V.int IntKind.i64 n14) ∧ bif !ltI n10 n14 then bif !ltI n10 n14 then K (V.int IntKind.i64 (6 : Int)) h'4 else [V.ptr (some (r, (0 : Nat))), V.int IntKind.u64 socket, V.ptr (some
  (h.next, (0 : Nat)))] = [V.ptr (some (r, (0 : Nat))), V.int IntKind.u64 socket, V.ptr (some (h.next, (0 : Nat)))] ∧ Q1 [] h'4 else ∃ (n15 : Int), h'4.ld r (0 : Nat) = some (V.int IntKind.i64 n15) ∧ bif !ltI n11 n15 then K (V.int
  IntKind.i64 (6 : Int)) h'4 else [V.ptr (some (r, (0 : Nat))), V.int IntKind.u64 socket, V.ptr (some (h.next, (0 : Nat)))] = [V.ptr (some (r, (0 : Nat))), V.int IntKind.u64 socket, V.ptr (some (h.next, (0 : Nat)))] ∧ Q1 [] h'4) ∧ ∀ (bs1 :
  Nat → Option V) (h1 : Hp), Q1 [] h1 → ∃ (r4 : Option Nat), h1.ld r (1 : Nat) = some (V.map r4) ∧ ∃ (r5 : Option Nat), h1.ld r (2 : Nat) = some (V.map r5) ∧ ∃ (n16 : Int), ∃ (n17 : Int), ∃ (n18 : Int), ∃ (n19 : Int), h1.lda h.next (0 : Nat)
  (4 : Nat) = some (V.agg [V.int IntKind.u32 n16, V.int IntKind.u16 n17, V.int IntKind.u32 n18, V.int IntKind.u16 n19]) ∧ ∃ (n20 : Int), ∃ (n21 : Int), ∃ (n22 : Int), ∃ (n23 : Int), h1.lda h.next (0 : Nat) (4 : Nat) = some (V.agg [V.int
  IntKind.u32 n20, V.int IntKind.u16 n21, V.int IntKind.u32 n22, V.int IntKind.u16 n23]) ∧ ∃ (n24 : Int), ∃ (n25 : Int), ∃ (n26 : Int), ∃ (n27 : Int), ∃ (b2 : Bool), ∃ (n28 : Int), ∃ (h'5 : Hp), xmapEntry T h1 (87 : Nat) (V.map r4) (V.int
  IntKind.u64 socket) = some (V.tup [V.agg [V.int IntKind.u32 n24, V.int IntKind.u16 n25, V.int IntKind.u32 n26, V.int IntKind.u16 n27, V.bool b2], V.int IntKind.i64 n28], h'5) ∧ V.int IntKind.u64 socket = V.int IntKind.u64 socket ∧ V.agg
  [V.int IntKind.u32 n20, V.int IntKind.u16 n21, V.int IntKind.u32 n22, V.int IntKind.u16 n23, V.bool false] = V.agg [V.int IntKind.u32 n20, V.int IntKind.u16 n21, V.int IntKind.u32 n22, V.int IntKind.u16 n23, V.bool false] ∧ (∃ (n29 : Int),
  ∃ (n30 : Int), ∃ (n31 : Int), ∃ (n32 : Int), h'5.lda h.next (0 : Nat) (4 : Nat) = some (V.agg [V.int IntKind.u32 n29, V.int IntKind.u16 n30, V.int IntKind.u32 n31, V.int IntKind.u16 n32]) ∧ V.agg [V.int IntKind.u32 n29, V.int IntKind.u16
  n30, V.int IntKind.u32 n31, V.int IntKind.u16 n32] = V.agg [V.int IntKind.u32 n20, V.int IntKind.u16 n21, V.int IntKind.u32 n22, V.int IntKind.u16 n23]) ∧ (∃ (n33 : Int), ∃ (n34 : Int), ∃ (n35 : Int), ∃ (n36 : Int), h'5.lda h.next (0 :
  Nat) (4 : Nat) = some (V.agg [V.int IntKind.u32 n33, V.int IntKind.u16 n34, V.int IntKind.u32 n35, V.int IntKind.u16 n36]) ∧ V.agg [V.int IntKind.u32 n33, V.int IntKind.u16 n34, V.int IntKind.u32 n35, V.int IntKind.u16 n36] = V.agg [V.int
  IntKind.u32 n16, V.int IntKind.u16 n17, V.int IntKind.u32 n18, V.int IntKind.u16 n19]) ∧ ∃ (h'6 : Hp), xentryStore h'5 (V.map r4) (V.int IntKind.i64 n28) (V.agg [V.int IntKind.u32 n20, V.int IntKind.u16 n21, V.int IntKind.u32 n22, V.int
  IntKind.u16 n23, V.bool false]) = some h'6 ∧ V.int IntKind.u64 socket = V.int IntKind.u64 socket ∧ (∃ (n37 : Int), ∃ (n38 : Int), ∃ (n39 : Int), ∃ (n40 : Int), h'6.lda h.next (0 : Nat) (4 : Nat) = some (V.agg [V.int IntKind.u32 n37, V.int
  IntKind.u16 n38, V.int IntKind.u32 n39, V.int IntKind.u16 n40]) ∧ V.agg [V.int IntKind.u32 n37, V.int IntKind.u16 n38, V.int IntKind.u32 n39, V.int IntKind.u16 n40] = V.agg [V.int IntKind.u32 n16, V.int IntKind.u16 n17, V.int IntKind.u32
  n18, V.int IntKind.u16 n19]) ∧ ∃ (n41 : Int), ∃ (n42 : Int), ∃ (h'7 : Hp), xmapEntry T h'6 (88 : Nat) (V.map r5) (V.agg [V.int IntKind.u32 n16, V.int IntKind.u16 n17, V.int IntKind.u32 n18, V.int IntKind.u16 n19]) = some (V.tup [V.int
  IntKind.u64 n41, V.int IntKind.i64 n42], h'7) ∧ V.int IntKind.u64 socket = V.int IntKind.u64 socket ∧ ∃ (h'8 : Hp), xentryStore h'7 (V.map r5) (V.int IntKind.i64 n42) (V.int IntKind.u64 socket) = some h'8 ∧ K (V.int IntKind.i64 (0 : Int))
  h'8
theorem y14 (h : Hp) (K : V → Hp → Prop) (r : Nat) (p_0 : Int) (p_1 : Int) (p_2 : Int) (p_3 : Int) (socket : Int) : X14 h K r p_0 p_1 p_2 p_3 socket = fnX Try.prog T F jl14 jj14 Try.f14 [V.ptr (some (r, (0 : Nat))), V.agg [V.int IntKind.u32
  p_0, V.int IntKind.u16 p_1, V.int IntKind.u32 p_2, V.int IntKind.u16 p_3], V.int IntKind.u64 socket] h K := by kernel_rfl
theorem x14 {h : Hp} {K : V → Hp → Prop} (r : Nat) (p_0 : Int) (p_1 : Int) (p_2 : Int) (p_3 : Int) (socket : Int) (hx : X14 h K r p_0 p_1 p_2 p_3 socket) : XCalls Try.prog 14 [V.ptr (some (r, (0 : Nat))), V.agg [V.int IntKind.u32 p_0, V.int
  IntKind.u16 p_1, V.int IntKind.u32 p_2, V.int IntKind.u16 p_3], V.int IntKind.u64 socket] h K :=
  XCalls.ofX tok fok mixed (JL := jl14) (JJ := jj14) Try.func14 ((y14 h K r p_0 p_1 p_2 p_3 socket) ▸ hx)
/-! 15: stevedore/stevedorelaw28.pair -/
def jl15 : Nat → Option JT := fun r => none
def jj15 : Nat → Option JT := fun r => none
def X15 (h : Hp) (K : V → Hp → Prop) (n : Int) : Prop := ∀ (h'1 : Hp), h'1 = h.alloc (O.row [V.int IntKind.u32 (0 : Int), V.int IntKind.u16 (0 : Int), V.int IntKind.u32 (0 : Int), V.int IntKind.u16 (0 : Int)] (1 : Nat) false) → ∃ (h'2 : Hp),
  h'1.st h.next (0 : Nat) [V.int IntKind.u32 (1 : Int), V.int IntKind.u16 (80 : Int), V.int IntKind.u32 (2 : Int), V.int IntKind.u16 (IntKind.u16.wrap n)] = some h'2 ∧ ∃ (n1 : Int), ∃ (n2 : Int), ∃ (n3 : Int), ∃ (n4 : Int), h'2.lda h.next (0
  : Nat) (4 : Nat) = some (V.agg [V.int IntKind.u32 n1, V.int IntKind.u16 n2, V.int IntKind.u32 n3, V.int IntKind.u16 n4]) ∧ K (V.agg [V.int IntKind.u32 n1, V.int IntKind.u16 n2, V.int IntKind.u32 n3, V.int IntKind.u16 n4]) h'2
theorem y15 (h : Hp) (K : V → Hp → Prop) (n : Int) : X15 h K n = fnX Try.prog T F jl15 jj15 Try.f15 [V.int IntKind.u8 n] h K := by kernel_rfl
theorem x15 {h : Hp} {K : V → Hp → Prop} (n : Int) (hx : X15 h K n) : XCalls Try.prog 15 [V.int IntKind.u8 n] h K :=
  XCalls.ofX tok fok mixed (JL := jl15) (JJ := jj15) Try.func15 ((y15 h K n) ▸ hx)
/-! 3: stevedore/stevedorelaw28.EarOnce -/
-- loop 20: stays script(1), n(5), r(6), row(8), i(9), k(10); turns l(11), j(12)
-- loop 9: stays script(1), n(5), r(6); turns row(8), i(9)
-- join 31: stays r(6), n(5), i(9), script(1); turns row(8)
def jl3 : Nat → Option JT := fun r => bif Nat.beq r 20 then some ⟨[1, 5, 6, 8, 9, 10], [11, 12], [V.slc none (0 : Nat) true, V.int IntKind.i64 (0 : Int)]⟩ else bif Nat.beq r 9 then some ⟨[1, 5, 6], [8, 9], [V.slc none (0 : Nat) true, V.int IntKind.i64 (0 : Int)]⟩ else none
def jj3 : Nat → Option JT := fun r => bif Nat.beq r 31 then some ⟨[6, 5, 9, 1], [8], [V.slc none (0 : Nat) true]⟩ else none
def X3 (h : Hp) (K : V → Hp → Prop) (backlog : Int) (script : Option (Nat × Nat)) (script_n : Nat) (script_f : Bool) : Prop := bif ltI (300 : Int) (↑script_n : Int) then XCalls Try.prog (9 : Nat) [] h fun (v1 : V) (h'1 : Hp) => ∃ (b1 :
  Bool), v1 = V.bool b1 ∧ K (V.bool b1) h'1 else ¬(128 : Int) = (0 : Int) ∧ XCalls Try.prog (10 : Nat) [V.int IntKind.i64 (IntKind.i64.wrap ((IntKind.i64.wrap backlog).tmod (128 : Int) + (1 : Int)))] h fun (v2 : V) (h'2 : Hp) => ∃ (a1 :
  Option (Nat × Nat)), ∃ (n1 : Int), v2 = V.tup [V.ptr a1, V.int IntKind.i64 n1] ∧ bif n1 != (0 : Int) then K (V.bool false) h'2 else bif a1.isNone then K (V.bool false) h'2 else ∃ (I1 : List V → Hp → Prop), ∃ (x1 : List V → Hp → Nat),
  ([V.slc script script_n script_f, V.int IntKind.i64 (IntKind.i64.wrap ((IntKind.i64.wrap backlog).tmod (128 : Int) + (1 : Int))), V.ptr a1] = [V.slc script script_n script_f, V.int IntKind.i64 (IntKind.i64.wrap ((IntKind.i64.wrap
  backlog).tmod (128 : Int) + (1 : Int))), V.ptr a1] ∧ I1 [V.slc none (0 : Nat) true, V.int IntKind.i64 (0 : Int)] h'2) ∧ ∀ (bs1 : Nat → Option V) (a2 : Option (Nat × Nat)) (n2 : Nat) (f1 : Bool) (n3 : Int) (h1 : Hp), I1 [V.slc a2 n2 f1,
  V.int IntKind.i64 n3] h1 → bif ltI n3 (↑script_n : Int) then ((0 : Int) ≤ n3 ∧ n3 < (↑script_n : Int)) ∧ onS script fun (i1 o1 : Nat) => ∃ (b2 : Bool), ∃ (b3 : Bool), ∃ (b4 : Bool), ∃ (n4 : Int), ∃ (n5 : Int), h1.lda i1 (o1 + n3.toNat * (5
  : Nat)) (5 : Nat) = some (V.agg [V.bool b2, V.bool b3, V.bool b4, V.int IntKind.u8 n4, V.int IntKind.u64 n5]) ∧ ∀ (h'3 : Hp), h'3 = h1.alloc (O.row [V.bool false, V.bool false, V.bool false, V.int IntKind.u8 (0 : Int), V.int IntKind.u64 (0
  : Int)] (1 : Nat) false) → ∃ (h'4 : Hp), h'3.st h1.next (0 : Nat) [V.bool b2, V.bool b3, V.bool b4, V.int IntKind.u8 n4, V.int IntKind.u64 n5] = some h'4 ∧ ∃ (Q1 : List V → Hp → Prop), (∃ (b5 : Bool), h'4.ld h1.next (0 : Nat) = some
  (V.bool b5) ∧ bif b5 then ∃ (n6 : Int), h'4.ld h1.next (4 : Nat) = some (V.int IntKind.u64 n6) ∧ XCalls Try.prog (11 : Nat) [V.ptr a1, V.int IntKind.u64 n6] h'4 fun (v3 : V) (h'5 : Hp) => ∃ (n7 : Int), v3 = V.int IntKind.i64 n7 ∧ bif n7 ==
  (0 : Int) then ∃ (n8 : Int), h'5.ld h1.next (4 : Nat) = some (V.int IntKind.u64 n8) ∧ ∀ (h'6 : Hp), h'6 = h'5.alloc (O.row [V.int IntKind.u64 n8] (1 : Nat) false) → ∃ (p1 : Option (Nat × Nat)), ∃ (n9 : Nat), ∃ (f2 : Bool), ∃ (h'7 : Hp),
  xapp T h'6 (28 : Nat) (28 : Nat) (V.slc a2 n2 f1) (V.slc (some (h'5.next, (0 : Nat))) (1 : Nat) true) = some (V.slc p1 n9 f2, h'7) ∧ [V.ptr a1, V.int IntKind.i64 (IntKind.i64.wrap ((IntKind.i64.wrap backlog).tmod (128 : Int) + (1 : Int))),
  V.int IntKind.i64 n3, V.slc script script_n script_f] = [V.ptr a1, V.int IntKind.i64 (IntKind.i64.wrap ((IntKind.i64.wrap backlog).tmod (128 : Int) + (1 : Int))), V.int IntKind.i64 n3, V.slc script script_n script_f] ∧ Q1 [V.slc p1 n9 f2]
  h'7 else [V.ptr a1, V.int IntKind.i64 (IntKind.i64.wrap ((IntKind.i64.wrap backlog).tmod (128 : Int) + (1 : Int))), V.int IntKind.i64 n3, V.slc script script_n script_f] = [V.ptr a1, V.int IntKind.i64 (IntKind.i64.wrap ((IntKind.i64.wrap
  backlog).tmod (128 : Int) + (1 : Int))), V.int IntKind.i64 n3, V.slc script script_n script_f] ∧ Q1 [V.slc a2 n2 f1] h'5 else ∃ (b6 : Bool), h'4.ld h1.next (1 : Nat) = some (V.bool b6) ∧ bif b6 then ∃ (n10 : Int), h'4.ld h1.next (4 : Nat)
  = some (V.int IntKind.u64 n10) ∧ XCalls Try.prog (12 : Nat) [V.ptr a1, V.int IntKind.u64 n10] h'4 fun (v4 : V) (h'8 : Hp) => ∃ (b7 : Bool), v4 = V.bool b7 ∧ ∃ (I2 : List V → Hp → Prop), ∃ (x2 : List V → Hp → Nat), ([V.slc script script_n
  script_f, V.int IntKind.i64 (IntKind.i64.wrap ((IntKind.i64.wrap backlog).tmod (128 : Int) + (1 : Int))), V.ptr a1, V.slc a2 n2 f1, V.int IntKind.i64 n3, V.ptr (some (h1.next, (0 : Nat)))] = [V.slc script script_n script_f, V.int
  IntKind.i64 (IntKind.i64.wrap ((IntKind.i64.wrap backlog).tmod (128 : Int) + (1 : Int))), V.ptr a1, V.slc a2 n2 f1, V.int IntKind.i64 n3, V.ptr (some (h1.next, (0 : Nat)))] ∧ I2 [V.slc none (0 : Nat) true, V.int IntKind.i64 (0 : Int)] h'8)
  ∧ ∀ (bs2 : Nat → Option V) (a3 : Option (Nat × Nat)) (n11 : Nat) (f3 : Bool) (n12 : Int) (h2 : Hp), I2 [V.slc a3 n11 f3, V.int IntKind.i64 n12] h2 → bif ltI n12 (↑n2 : Int) then ((0 : Int) ≤ n12 ∧ n12 < (↑n2 : Int)) ∧ onS a2 fun (i2 o2 :
  Nat) => ∃ (n13 : Int), h2.ld i2 (o2 + n12.toNat * (1 : Nat)) = some (V.int IntKind.u64 n13) ∧ ∃ (n14 : Int), h2.ld h1.next (4 : Nat) = some (V.int IntKind.u64 n14) ∧ bif n13 != n14 then ((0 : Int) ≤ n12 ∧ n12 < (↑n2 : Int)) ∧ onS a2 fun
  (i3 o3 : Nat) => ∃ (n15 : Int), h2.ld i3 (o3 + n12.toNat * (1 : Nat)) = some (V.int IntKind.u64 n15) ∧ ∀ (h'9 : Hp), h'9 = h2.alloc (O.row [V.int IntKind.u64 n15] (1 : Nat) false) → ∃ (p2 : Option (Nat × Nat)), ∃ (n16 : Nat), ∃ (f4 :
  Bool), ∃ (h'10 : Hp), xapp T h'9 (28 : Nat) (28 : Nat) (V.slc a3 n11 f3) (V.slc (some (h2.next, (0 : Nat))) (1 : Nat) true) = some (V.slc p2 n16 f4, h'10) ∧ [V.slc script script_n script_f, V.int IntKind.i64 (IntKind.i64.wrap
  ((IntKind.i64.wrap backlog).tmod (128 : Int) + (1 : Int))), V.ptr a1, V.slc a2 n2 f1, V.int IntKind.i64 n3, V.ptr (some (h1.next, (0 : Nat)))] = [V.slc script script_n script_f, V.int IntKind.i64 (IntKind.i64.wrap ((IntKind.i64.wrap
  backlog).tmod (128 : Int) + (1 : Int))), V.ptr a1, V.slc a2 n2 f1, V.int IntKind.i64 n3, V.ptr (some (h1.next, (0 : Nat)))] ∧ I2 [V.slc p2 n16 f4, V.int IntKind.i64 (IntKind.i64.wrap (n12 + (1 : Int)))] h'10 ∧ x2 [V.slc p2 n16 f4, V.int
  IntKind.i64 (IntKind.i64.wrap (n12 + (1 : Int)))] h'10 < x2 [V.slc a3 n11 f3, V.int IntKind.i64 n12] h2 else [V.slc script script_n script_f, V.int IntKind.i64 (IntKind.i64.wrap ((IntKind.i64.wrap backlog).tmod (128 : Int) + (1 : Int))),
  V.ptr a1, V.slc a2 n2 f1, V.int IntKind.i64 n3, V.ptr (some (h1.next, (0 : Nat)))] = [V.slc script script_n script_f, V.int IntKind.i64 (IntKind.i64.wrap ((IntKind.i64.wrap backlog).tmod (128 : Int) + (1 : Int))), V.ptr a1, V.slc a2 n2 f1,
  V.int IntKind.i64 n3, V.ptr (some (h1.next, (0 : Nat)))] ∧ I2 [V.slc a3 n11 f3, V.int IntKind.i64 (IntKind.i64.wrap (n12 + (1 : Int)))] h2 ∧ x2 [V.slc a3 n11 f3, V.int IntKind.i64 (IntKind.i64.wrap (n12 + (1 : Int)))] h2 < x2 [V.slc a3 n11
  f3, V.int IntKind.i64 n12] h2 else [V.ptr a1, V.int IntKind.i64 (IntKind.i64.wrap ((IntKind.i64.wrap backlog).tmod (128 : Int) + (1 : Int))), V.int IntKind.i64 n3, V.slc script script_n script_f] = [V.ptr a1, V.int IntKind.i64
  (IntKind.i64.wrap ((IntKind.i64.wrap backlog).tmod (128 : Int) + (1 : Int))), V.int IntKind.i64 n3, V.slc script script_n script_f] ∧ Q1 [V.slc a3 n11 f3] h2 else ∃ (b8 : Bool), h'4.ld h1.next (2 : Nat) = some (V.bool b8) ∧ bif b8 then
  XCalls Try.prog (13 : Nat) [V.ptr a1] h'4 fun (v5 : V) (h'11 : Hp) => ∃ (n17 : Int), ∃ (n18 : Int), ∃ (n19 : Int), ∃ (n20 : Int), ∃ (n21 : Int), ∃ (b9 : Bool), v5 = V.tup [V.agg [V.int IntKind.u32 n17, V.int IntKind.u16 n18, V.int
  IntKind.u32 n19, V.int IntKind.u16 n20], V.int IntKind.u64 n21, V.bool b9] ∧ ∀ (h'12 : Hp), h'12 = h'11.alloc (O.row [V.int IntKind.u32 (0 : Int), V.int IntKind.u16 (0 : Int), V.int IntKind.u32 (0 : Int), V.int IntKind.u16 (0 : Int)] (1 :
  Nat) false) → ∃ (h'13 : Hp), h'12.st h'11.next (0 : Nat) [V.int IntKind.u32 n17, V.int IntKind.u16 n18, V.int IntKind.u32 n19, V.int IntKind.u16 n20] = some h'13 ∧ bif !b9 == ltI (0 : Int) (↑n2 : Int) then K (V.bool false) h'13 else bif b9
  then ((0 : Int) ≤ (0 : Int) ∧ (0 : Int) < (↑n2 : Int)) ∧ onS a2 fun (i4 o4 : Nat) => ∃ (n22 : Int), h'13.ld i4 (o4 + Int.toNat (0 : Int) * (1 : Nat)) = some (V.int IntKind.u64 n22) ∧ bif n21 != n22 then K (V.bool false) h'13 else bif b9
  then ∃ (a4 : Option (Nat × Nat)), ∃ (n23 : Nat), ∃ (f5 : Bool), xslice T h'13 (28 : Nat) (V.slc a2 n2 f1) (some (V.int IntKind.i64 (1 : Int))) none none = some (V.slc a4 n23 f5) ∧ [V.ptr a1, V.int IntKind.i64 (IntKind.i64.wrap
  ((IntKind.i64.wrap backlog).tmod (128 : Int) + (1 : Int))), V.int IntKind.i64 n3, V.slc script script_n script_f] = [V.ptr a1, V.int IntKind.i64 (IntKind.i64.wrap ((IntKind.i64.wrap backlog).tmod (128 : Int) + (1 : Int))), V.int
  IntKind.i64 n3, V.slc script script_n script_f] ∧ Q1 [V.slc a4 n23 f5] h'13 else [V.ptr a1, V.int IntKind.i64 (IntKind.i64.wrap ((IntKind.i64.wrap backlog).tmod (128 : Int) + (1 : Int))), V.int IntKind.i64 n3, V.slc script script_n
  script_f] = [V.ptr a1, V.int IntKind.i64 (IntKind.i64.wrap ((IntKind.i64.wrap backlog).tmod (128 : Int) + (1 : Int))), V.int IntKind.i64 n3, V.slc script script_n script_f] ∧ Q1 [V.slc a2 n2 f1] h'13 else bif b9 then ∃ (a5 : Option (Nat ×
  Nat)), ∃ (n24 : Nat), ∃ (f6 : Bool), xslice T h'13 (28 : Nat) (V.slc a2 n2 f1) (some (V.int IntKind.i64 (1 : Int))) none none = some (V.slc a5 n24 f6) ∧ [V.ptr a1, V.int IntKind.i64 (IntKind.i64.wrap ((IntKind.i64.wrap backlog).tmod (128 :
  Int) + (1 : Int))), V.int IntKind.i64 n3, V.slc script script_n script_f] = [V.ptr a1, V.int IntKind.i64 (IntKind.i64.wrap ((IntKind.i64.wrap backlog).tmod (128 : Int) + (1 : Int))), V.int IntKind.i64 n3, V.slc script script_n script_f] ∧
  Q1 [V.slc a5 n24 f6] h'13 else [V.ptr a1, V.int IntKind.i64 (IntKind.i64.wrap ((IntKind.i64.wrap backlog).tmod (128 : Int) + (1 : Int))), V.int IntKind.i64 n3, V.slc script script_n script_f] = [V.ptr a1, V.int IntKind.i64
  (IntKind.i64.wrap ((IntKind.i64.wrap backlog).tmod (128 : Int) + (1 : Int))), V.int IntKind.i64 n3, V.slc script script_n script_f] ∧ Q1 [V.slc a2 n2 f1] h'13 else ∃ (n25 : Int), h'4.ld h1.next (3 : Nat) = some (V.int IntKind.u8 n25) ∧ ∃
  (n26 : Int), h'4.ld h1.next (4 : Nat) = some (V.int IntKind.u64 n26) ∧ XCalls Try.prog (15 : Nat) [V.int IntKind.u8 n25] h'4 fun (v6 : V) (h'14 : Hp) => ∃ (n27 : Int), ∃ (n28 : Int), ∃ (n29 : Int), ∃ (n30 : Int), v6 = V.agg [V.int
  IntKind.u32 n27, V.int IntKind.u16 n28, V.int IntKind.u32 n29, V.int IntKind.u16 n30] ∧ (∃ (n31 : Int), h'14.ld h1.next (4 : Nat) = some (V.int IntKind.u64 n31) ∧ V.int IntKind.u64 n31 = V.int IntKind.u64 n26) ∧ V.ptr (some (h1.next, (4 :
  Nat))) = V.ptr (some (h1.next, (4 : Nat))) ∧ V.ptr a1 = V.ptr a1 ∧ XCalls Try.prog (14 : Nat) [V.ptr a1, V.agg [V.int IntKind.u32 n27, V.int IntKind.u16 n28, V.int IntKind.u32 n29, V.int IntKind.u16 n30], V.int IntKind.u64 n26] h'14 fun
  (v7 : V) (h'15 : Hp) => ∃ (n32 : Int), v7 = V.int IntKind.i64 n32 ∧ [V.ptr a1, V.int IntKind.i64 (IntKind.i64.wrap ((IntKind.i64.wrap backlog).tmod (128 : Int) + (1 : Int))), V.int IntKind.i64 n3, V.slc script script_n script_f] = [V.ptr
  a1, V.int IntKind.i64 (IntKind.i64.wrap ((IntKind.i64.wrap backlog).tmod (128 : Int) + (1 : Int))), V.int IntKind.i64 n3, V.slc script script_n script_f] ∧ Q1 [V.slc a2 n2 f1] h'15) ∧ ∀ (bs3 : Nat → Option V) (a6 : Option (Nat × Nat)) (n33
  : Nat) (f7 : Bool) (h3 : Hp), Q1 [V.slc a6 n33 f7] h3 → XCalls Try.prog (16 : Nat) [V.ptr a1] h3 fun (v8 : V) (h'16 : Hp) => ∃ (n34 : Int), ∃ (n35 : Int), v8 = V.tup [V.int IntKind.i64 n34, V.int IntKind.i64 n35] ∧ bif ltI
  (IntKind.i64.wrap ((IntKind.i64.wrap backlog).tmod (128 : Int) + (1 : Int))) n34 then K (V.bool false) h'16 else bif ltI (IntKind.i64.wrap ((IntKind.i64.wrap backlog).tmod (128 : Int) + (1 : Int))) n35 then K (V.bool false) h'16 else bif
  n35 != (↑n33 : Int) then K (V.bool false) h'16 else bif ltI n34 (0 : Int) then K (V.bool false) h'16 else [V.slc script script_n script_f, V.int IntKind.i64 (IntKind.i64.wrap ((IntKind.i64.wrap backlog).tmod (128 : Int) + (1 : Int))),
  V.ptr a1] = [V.slc script script_n script_f, V.int IntKind.i64 (IntKind.i64.wrap ((IntKind.i64.wrap backlog).tmod (128 : Int) + (1 : Int))), V.ptr a1] ∧ I1 [V.slc a6 n33 f7, V.int IntKind.i64 (IntKind.i64.wrap (n3 + (1 : Int)))] h'16 ∧ x1
  [V.slc a6 n33 f7, V.int IntKind.i64 (IntKind.i64.wrap (n3 + (1 : Int)))] h'16 < x1 [V.slc a2 n2 f1, V.int IntKind.i64 n3] h1 else XCalls Try.prog (9 : Nat) [] h1 fun (v9 : V) (h'17 : Hp) => ∃ (b10 : Bool), v9 = V.bool b10 ∧ K (V.bool b10)
  h'17
theorem y3 (h : Hp) (K : V → Hp → Prop) (backlog : Int) (script : Option (Nat × Nat)) (script_n : Nat) (script_f : Bool) : X3 h K backlog script script_n script_f = fnX Try.prog T F jl3 jj3 Try.f3 [V.int IntKind.u8 backlog, V.slc script script_n script_f] h K := by kernel_rfl
theorem x3 {h : Hp} {K : V → Hp → Prop} (backlog : Int) (script : Option (Nat × Nat)) (script_n : Nat) (script_f : Bool) (hx : X3 h K backlog script script_n script_f) : XCalls Try.prog 3 [V.int IntKind.u8 backlog, V.slc script script_n script_f] h K :=
  XCalls.ofX tok fok mixed (JL := jl3) (JJ := jj3) Try.func3 ((y3 h K backlog script script_n script_f) ▸ hx) 
end Go.Vex
