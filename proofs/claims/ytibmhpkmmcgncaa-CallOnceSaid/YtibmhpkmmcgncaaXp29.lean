/- ports as statements about data (printed by VexPrint).
-/
import Derived.Test.YtibmhpkmmcgncaaVexX
import Derived.Test.YtibmhpkmmcgncaaTab29
set_option linter.unusedVariables false
set_option maxRecDepth 100000
namespace Go.Vex
open Go.Proofs
/-! 33: stevedore/ports.New -/
def jl33 : Nat → Option JT := fun r => none
def jj33 : Nat → Option JT := fun r => none
def X33 (h : Hp) (K : V → Hp → Prop)  : Prop := ∀ (h'1 : Hp), h'1 = h.alloc (O.map [] (0 : Nat)) → ∀ (h'2 : Hp), h'2 = h'1.alloc (O.row [V.map (some h.next)] (1 : Nat) false) → K (V.ptr (some (h'1.next, (0 : Nat)))) h'2
theorem y33 (h : Hp) (K : V → Hp → Prop)  : X33 h K  = fnX Try.prog T F jl33 jj33 Try.f33 [] h K := by kernel_rfl
theorem x33 {h : Hp} {K : V → Hp → Prop}  (hx : X33 h K ) : XCalls Try.prog 33 [] h K :=
  XCalls.ofX tok fok mixed (JL := jl33) (JJ := jj33) Try.func33 ((y33 h K ) ▸ hx)
/-! 66: (*stevedore/ports.Ports).may -/
def jl66 : Nat → Option JT := fun r => none
def jj66 : Nat → Option JT := fun r => none
def X66 (h : Hp) (K : V → Hp → Prop) (p : Nat) (socket : Int) (b_0 : Int) (b_1 : Int) (b_2 : Int) (b_3 : Bool) (port : Bool) : Prop := ∀ (h'1 : Hp), h'1 = h.alloc (O.row [V.int IntKind.u8 b_0, V.int IntKind.u32 b_1, V.int IntKind.u16 b_2,
  V.bool b_3] (1 : Nat) false) → ∃ (r1 : Option Nat), h'1.ld p (0 : Nat) = some (V.map r1) ∧ bif r1.isNone then K (V.int IntKind.i64 (1 : Int)) h'1 else ∃ (r2 : Option Nat), h'1.ld p (0 : Nat) = some (V.map r2) ∧ ∃ (n1 : Int), ∃ (n2 : Int),
  ∃ (n3 : Int), ∃ (b1 : Bool), ∃ (b'1 : Bool), xlook T h'1 (112 : Nat) (V.map r2) (V.int IntKind.u64 socket) true = some (V.tup [V.agg [V.int IntKind.u8 n1, V.int IntKind.u32 n2, V.int IntKind.u16 n3, V.bool b1], V.bool b'1]) ∧ ∀ (h'2 : Hp),
  h'2 = h'1.alloc (O.row [V.int IntKind.u8 (0 : Int), V.int IntKind.u32 (0 : Int), V.int IntKind.u16 (0 : Int), V.bool false] (1 : Nat) false) → ∃ (h'3 : Hp), h'2.st h'1.next (0 : Nat) [V.int IntKind.u8 n1, V.int IntKind.u32 n2, V.int
  IntKind.u16 n3, V.bool b1] = some h'3 ∧ ∃ (n4 : Int), h'3.ld h.next (0 : Nat) = some (V.int IntKind.u8 n4) ∧ bif n4 != (1 : Int) then ∃ (n5 : Int), h'3.ld h.next (0 : Nat) = some (V.int IntKind.u8 n5) ∧ bif n5 != (2 : Int) then bif n5 !=
  (2 : Int) then K (V.int IntKind.i64 (2 : Int)) h'3 else bif b'1 then K (V.int IntKind.i64 (7 : Int)) h'3 else ∃ (r3 : Option Nat), h'3.ld p (0 : Nat) = some (V.map r3) ∧ ∃ (n6 : Int), xlen T h'3 (112 : Nat) (V.map r3) = some (V.int
  IntKind.i64 n6) ∧ bif !ltI n6 (1024 : Int) then K (V.int IntKind.i64 (6 : Int)) h'3 else K (V.int IntKind.i64 (0 : Int)) h'3 else bif port then ∃ (n7 : Int), h'3.ld h.next (2 : Nat) = some (V.int IntKind.u16 n7) ∧ bif n7 == (0 : Int) then
  K (V.int IntKind.i64 (2 : Int)) h'3 else bif b'1 then K (V.int IntKind.i64 (7 : Int)) h'3 else ∃ (r4 : Option Nat), h'3.ld p (0 : Nat) = some (V.map r4) ∧ ∃ (n8 : Int), xlen T h'3 (112 : Nat) (V.map r4) = some (V.int IntKind.i64 n8) ∧ bif
  !ltI n8 (1024 : Int) then K (V.int IntKind.i64 (6 : Int)) h'3 else K (V.int IntKind.i64 (0 : Int)) h'3 else bif b'1 then K (V.int IntKind.i64 (7 : Int)) h'3 else ∃ (r5 : Option Nat), h'3.ld p (0 : Nat) = some (V.map r5) ∧ ∃ (n9 : Int),
  xlen T h'3 (112 : Nat) (V.map r5) = some (V.int IntKind.i64 n9) ∧ bif !ltI n9 (1024 : Int) then K (V.int IntKind.i64 (6 : Int)) h'3 else K (V.int IntKind.i64 (0 : Int)) h'3 else bif port then ∃ (n10 : Int), h'3.ld h.next (2 : Nat) = some
  (V.int IntKind.u16 n10) ∧ bif n10 == (0 : Int) then K (V.int IntKind.i64 (2 : Int)) h'3 else bif b'1 then K (V.int IntKind.i64 (7 : Int)) h'3 else ∃ (r6 : Option Nat), h'3.ld p (0 : Nat) = some (V.map r6) ∧ ∃ (n11 : Int), xlen T h'3 (112 :
  Nat) (V.map r6) = some (V.int IntKind.i64 n11) ∧ bif !ltI n11 (1024 : Int) then K (V.int IntKind.i64 (6 : Int)) h'3 else K (V.int IntKind.i64 (0 : Int)) h'3 else bif b'1 then K (V.int IntKind.i64 (7 : Int)) h'3 else ∃ (r7 : Option Nat),
  h'3.ld p (0 : Nat) = some (V.map r7) ∧ ∃ (n12 : Int), xlen T h'3 (112 : Nat) (V.map r7) = some (V.int IntKind.i64 n12) ∧ bif !ltI n12 (1024 : Int) then K (V.int IntKind.i64 (6 : Int)) h'3 else K (V.int IntKind.i64 (0 : Int)) h'3
theorem y66 (h : Hp) (K : V → Hp → Prop) (p : Nat) (socket : Int) (b_0 : Int) (b_1 : Int) (b_2 : Int) (b_3 : Bool) (port : Bool) : X66 h K p socket b_0 b_1 b_2 b_3 port = fnX Try.prog T F jl66 jj66 Try.f66 [V.ptr (some (p, (0 : Nat))), V.int
  IntKind.u64 socket, V.agg [V.int IntKind.u8 b_0, V.int IntKind.u32 b_1, V.int IntKind.u16 b_2, V.bool b_3], V.bool port] h K := by kernel_rfl
theorem x66 {h : Hp} {K : V → Hp → Prop} (p : Nat) (socket : Int) (b_0 : Int) (b_1 : Int) (b_2 : Int) (b_3 : Bool) (port : Bool) (hx : X66 h K p socket b_0 b_1 b_2 b_3 port) : XCalls Try.prog 66 [V.ptr (some (p, (0 : Nat))), V.int
  IntKind.u64 socket, V.agg [V.int IntKind.u8 b_0, V.int IntKind.u32 b_1, V.int IntKind.u16 b_2, V.bool b_3], V.bool port] h K :=
  XCalls.ofX tok fok mixed (JL := jl66) (JJ := jj66) Try.func66 ((y66 h K p socket b_0 b_1 b_2 b_3 port) ▸ hx)
/-! 67: (*stevedore/ports.Ports).meets -/
def jl67 : Nat → Option JT := fun r => none
def jj67 : Nat → Option JT := fun r => none
def X67 (h : Hp) (K : V → Hp → Prop) (p : Nat) (b_0 : Int) (b_1 : Int) (b_2 : Int) (b_3 : Bool) : Prop := ∀ (h'1 : Hp), h'1 = h.alloc (O.row [V.ptr (some (p, (0 : Nat)))] (1 : Nat) false) → ∀ (h'2 : Hp), h'2 = h'1.alloc (O.row [V.int
  IntKind.u8 b_0, V.int IntKind.u32 b_1, V.int IntKind.u16 b_2, V.bool b_3] (1 : Nat) false) → K (V.fn (Fn.func (81 : Nat)) [] [V.ptr (some (h.next, (0 : Nat))), V.ptr (some (h'1.next, (0 : Nat)))]) h'2
theorem y67 (h : Hp) (K : V → Hp → Prop) (p : Nat) (b_0 : Int) (b_1 : Int) (b_2 : Int) (b_3 : Bool) : X67 h K p b_0 b_1 b_2 b_3 = fnX Try.prog T F jl67 jj67 Try.f67 [V.ptr (some (p, (0 : Nat))), V.agg [V.int IntKind.u8 b_0, V.int IntKind.u32
  b_1, V.int IntKind.u16 b_2, V.bool b_3]] h K := by kernel_rfl
theorem x67 {h : Hp} {K : V → Hp → Prop} (p : Nat) (b_0 : Int) (b_1 : Int) (b_2 : Int) (b_3 : Bool) (hx : X67 h K p b_0 b_1 b_2 b_3) : XCalls Try.prog 67 [V.ptr (some (p, (0 : Nat))), V.agg [V.int IntKind.u8 b_0, V.int IntKind.u32 b_1, V.int IntKind.u16 b_2, V.bool b_3]] h K :=
  XCalls.ofX tok fok mixed (JL := jl67) (JJ := jj67) Try.func67 ((y67 h K p b_0 b_1 b_2 b_3) ▸ hx)
/-! 81: (*stevedore/ports.Ports).meets$1 -/
-- loop 1: stays yield(0), (2), (10); turns 
def jl81 : Nat → Option JT := fun r => bif Nat.beq r 1 then some ⟨[0, 2, 10], [], []⟩ else none
def jj81 : Nat → Option JT := fun r => none
def X81 (h : Hp) (K : V → Hp → Prop) (yield : Nat) (c1 : Nat) (c2 : Nat) : Prop := ∃ (a1 : Option (Nat × Nat)), h.ld c1 (0 : Nat) = some (V.ptr a1) ∧ onS a1 fun (i1 o1 : Nat) => ∃ (r1 : Option Nat), h.ld i1 (o1 + (0 : Nat)) = some (V.map r1)
  ∧ ∃ (h'1 : Hp), xrange T h (112 : Nat) (V.map r1) = some (V.ptr (some (h.next, (0 : Nat))), h'1) ∧ ∃ (I1 : List V → Hp → Prop), ∃ (x1 : List V → Hp → Nat), ([V.yld yield, V.ptr (some (c2, (0 : Nat))), V.ptr (some (h.next, (0 : Nat)))] =
  [V.yld yield, V.ptr (some (c2, (0 : Nat))), V.ptr (some (h.next, (0 : Nat)))] ∧ I1 [] h'1) ∧ ∀ (bs1 : Nat → Option V) (h1 : Hp), I1 [] h1 → ∃ (l1 : List (V × Hp)), xnext h1 (V.ptr (some (h.next, (0 : Nat)))) = some l1 ∧ (List.Mem (V.tup
  [V.bool false], h1) l1 → K (V.tup []) h1) ∧ (∀ (r2 : V × Hp), List.Mem r2 l1 → r2 = (V.tup [V.bool false], h1) ∨ ∃ (a2 : V), ∃ (b1 : V), r2.1 = V.tup [V.bool true, a2, b1]) ∧ ∀ (a3 b2 : V) (h'2 : Hp), List.Mem (V.tup [V.bool true, a3, b2],
  h'2) l1 → ∃ (n1 : Int), ∃ (n2 : Int), ∃ (n3 : Int), ∃ (n4 : Int), ∃ (b3 : Bool), xentry h'2 (V.ptr (some (h.next, (0 : Nat)))) = some (V.tup [V.int IntKind.u64 n1, V.agg [V.int IntKind.u8 n2, V.int IntKind.u32 n3, V.int IntKind.u16 n4,
  V.bool b3]]) ∧ ∀ (h'3 : Hp), h'3 = h'2.alloc (O.row [V.int IntKind.u8 (0 : Int), V.int IntKind.u32 (0 : Int), V.int IntKind.u16 (0 : Int), V.bool false] (1 : Nat) false) → ∃ (h'4 : Hp), h'3.st h'2.next (0 : Nat) [V.int IntKind.u8 n2, V.int
  IntKind.u32 n3, V.int IntKind.u16 n4, V.bool b3] = some h'4 ∧ ∃ (n5 : Int), h'4.ld h'2.next (0 : Nat) = some (V.int IntKind.u8 n5) ∧ ∃ (n6 : Int), h'4.ld c2 (0 : Nat) = some (V.int IntKind.u8 n6) ∧ bif n5 != n6 then [V.yld yield, V.ptr
  (some (c2, (0 : Nat))), V.ptr (some (h.next, (0 : Nat)))] = [V.yld yield, V.ptr (some (c2, (0 : Nat))), V.ptr (some (h.next, (0 : Nat)))] ∧ I1 [] h'4 ∧ x1 [] h'4 < x1 [] h1 else ∃ (n7 : Int), h'4.ld h'2.next (2 : Nat) = some (V.int
  IntKind.u16 n7) ∧ ∃ (n8 : Int), h'4.ld c2 (2 : Nat) = some (V.int IntKind.u16 n8) ∧ bif n7 != n8 then [V.yld yield, V.ptr (some (c2, (0 : Nat))), V.ptr (some (h.next, (0 : Nat)))] = [V.yld yield, V.ptr (some (c2, (0 : Nat))), V.ptr (some
  (h.next, (0 : Nat)))] ∧ I1 [] h'4 ∧ x1 [] h'4 < x1 [] h1 else ∃ (n9 : Int), h'4.ld h'2.next (1 : Nat) = some (V.int IntKind.u32 n9) ∧ ∃ (n10 : Int), h'4.ld c2 (1 : Nat) = some (V.int IntKind.u32 n10) ∧ bif n9 != n10 then ∃ (n11 : Int),
  h'4.ld h'2.next (1 : Nat) = some (V.int IntKind.u32 n11) ∧ bif n11 != (0 : Int) then ∃ (n12 : Int), h'4.ld c2 (1 : Nat) = some (V.int IntKind.u32 n12) ∧ bif n12 != (0 : Int) then [V.yld yield, V.ptr (some (c2, (0 : Nat))), V.ptr (some
  (h.next, (0 : Nat)))] = [V.yld yield, V.ptr (some (c2, (0 : Nat))), V.ptr (some (h.next, (0 : Nat)))] ∧ I1 [] h'4 ∧ x1 [] h'4 < x1 [] h1 else ∃ (n13 : Int), ∃ (n14 : Int), ∃ (n15 : Int), ∃ (b4 : Bool), h'4.lda h'2.next (0 : Nat) (4 : Nat)
  = some (V.agg [V.int IntKind.u8 n13, V.int IntKind.u32 n14, V.int IntKind.u16 n15, V.bool b4]) ∧ XYield Try.prog yield [V.int IntKind.u64 n1, V.agg [V.int IntKind.u8 n13, V.int IntKind.u32 n14, V.int IntKind.u16 n15, V.bool b4]] h'4 fun
  (v1 : V) (h'5 : Hp) => ∃ (b5 : Bool), v1 = V.bool b5 ∧ bif !b5 then K (V.tup []) h'5 else [V.yld yield, V.ptr (some (c2, (0 : Nat))), V.ptr (some (h.next, (0 : Nat)))] = [V.yld yield, V.ptr (some (c2, (0 : Nat))), V.ptr (some (h.next, (0 :
  Nat)))] ∧ I1 [] h'5 ∧ x1 [] h'5 < x1 [] h1 else ∃ (n16 : Int), ∃ (n17 : Int), ∃ (n18 : Int), ∃ (b6 : Bool), h'4.lda h'2.next (0 : Nat) (4 : Nat) = some (V.agg [V.int IntKind.u8 n16, V.int IntKind.u32 n17, V.int IntKind.u16 n18, V.bool b6])
  ∧ XYield Try.prog yield [V.int IntKind.u64 n1, V.agg [V.int IntKind.u8 n16, V.int IntKind.u32 n17, V.int IntKind.u16 n18, V.bool b6]] h'4 fun (v2 : V) (h'6 : Hp) => ∃ (b7 : Bool), v2 = V.bool b7 ∧ bif !b7 then K (V.tup []) h'6 else [V.yld
  yield, V.ptr (some (c2, (0 : Nat))), V.ptr (some (h.next, (0 : Nat)))] = [V.yld yield, V.ptr (some (c2, (0 : Nat))), V.ptr (some (h.next, (0 : Nat)))] ∧ I1 [] h'6 ∧ x1 [] h'6 < x1 [] h1 else ∃ (n19 : Int), ∃ (n20 : Int), ∃ (n21 : Int), ∃
  (b8 : Bool), h'4.lda h'2.next (0 : Nat) (4 : Nat) = some (V.agg [V.int IntKind.u8 n19, V.int IntKind.u32 n20, V.int IntKind.u16 n21, V.bool b8]) ∧ XYield Try.prog yield [V.int IntKind.u64 n1, V.agg [V.int IntKind.u8 n19, V.int IntKind.u32
  n20, V.int IntKind.u16 n21, V.bool b8]] h'4 fun (v3 : V) (h'7 : Hp) => ∃ (b9 : Bool), v3 = V.bool b9 ∧ bif !b9 then K (V.tup []) h'7 else [V.yld yield, V.ptr (some (c2, (0 : Nat))), V.ptr (some (h.next, (0 : Nat)))] = [V.yld yield, V.ptr
  (some (c2, (0 : Nat))), V.ptr (some (h.next, (0 : Nat)))] ∧ I1 [] h'7 ∧ x1 [] h'7 < x1 [] h1
theorem y81 (h : Hp) (K : V → Hp → Prop) (yield : Nat) (c1 : Nat) (c2 : Nat) : X81 h K yield c1 c2 = fnX Try.prog T F jl81 jj81 Try.f81 [V.yld yield, V.ptr (some (c1, (0 : Nat))), V.ptr (some (c2, (0 : Nat)))] h K := by kernel_rfl
theorem x81 {h : Hp} {K : V → Hp → Prop} (yield : Nat) (c1 : Nat) (c2 : Nat) (hx : X81 h K yield c1 c2) : XCalls Try.prog 81 [V.yld yield, V.ptr (some (c1, (0 : Nat))), V.ptr (some (c2, (0 : Nat)))] h K :=
  XCalls.ofX tok fok mixed (JL := jl81) (JJ := jj81) Try.func81 ((y81 h K yield c1 c2) ▸ hx)
/-! 68: (*stevedore/ports.Ports).free -/
def jl68 : Nat → Option JT := fun r => none
def jj68 : Nat → Option JT := fun r => none
def X68 (h : Hp) (K : V → Hp → Prop) (p : Nat) (b_0 : Int) (b_1 : Int) (b_2 : Int) (b_3 : Bool) : Prop := ∀ (h'1 : Hp), h'1 = h.alloc (O.row [V.int IntKind.u8 b_0, V.int IntKind.u32 b_1, V.int IntKind.u16 b_2, V.bool b_3] (1 : Nat) false) →
  ∀ (h'2 : Hp), h'2 = h'1.alloc (O.row [V.bool false] (1 : Nat) false) → ∃ (n1 : Int), ∃ (n2 : Int), ∃ (n3 : Int), ∃ (b1 : Bool), h'2.lda h.next (0 : Nat) (4 : Nat) = some (V.agg [V.int IntKind.u8 n1, V.int IntKind.u32 n2, V.int IntKind.u16
  n3, V.bool b1]) ∧ XCalls Try.prog (67 : Nat) [V.ptr (some (p, (0 : Nat))), V.agg [V.int IntKind.u8 n1, V.int IntKind.u32 n2, V.int IntKind.u16 n3, V.bool b1]] h'2 fun (v1 : V) (h'3 : Hp) => ∃ (c1 : Nat), ∃ (c2 : Nat), v1 = V.fn (Fn.func
  (81 : Nat)) [] [V.ptr (some (c1, (0 : Nat))), V.ptr (some (c2, (0 : Nat)))] ∧ ∀ (rec1 : LoopState → Option Code → O), LRec rec1 → ∀ (h'4 : Hp), h'4 = (h'3.alloc (O.dfr true)).alloc (rec1 LoopState.ready none) → (∀ (v2 v3 : V) (h1 : Hp) (K1
  : V → Hp → Prop), h1.get (h'3.next + (1 : Nat)) = some (rec1 LoopState.ready none) → (h1.get (h'3.next + (1 : Nat)) = some (rec1 LoopState.ready none) ∧ ∀ (h2 : Hp), h2 = h1.set (h'3.next + (1 : Nat)) (rec1 LoopState.busy none) → ∃ (h'5 :
  Hp), h2.st h'1.next (0 : Nat) [V.bool false] = some h'5 ∧ h'5.get (h'3.next + (1 : Nat)) = some (rec1 LoopState.busy none) ∧ ∀ (h'6 : Hp), h'6 = h'5.set (h'3.next + (1 : Nat)) (rec1 LoopState.done (some Code.ret)) → K1 (V.bool false) h'6)
  → XYield Try.prog (h'3.next + (1 : Nat)) [v2, v3] h1 fun (a1 : V) (a2 : Hp) => K1 a1 a2) → XCalls Try.prog (81 : Nat) [V.yld (h'3.next + (1 : Nat)), V.ptr (some (c1, (0 : Nat))), V.ptr (some (c2, (0 : Nat)))] h'4 fun (a3 : V) (a4 : Hp) =>
  (a4.get (h'3.next + (1 : Nat)) = some (rec1 LoopState.ready none) ∧ ∀ (h'7 : Hp), h'7 = a4.set (h'3.next + (1 : Nat)) (rec1 LoopState.exhausted none) → ∃ (h'8 : Hp), h'7.st h'1.next (0 : Nat) [V.bool true] = some h'8 ∧ ∃ (h'9 : Hp), shut
  [h'3.next] h'8 = some h'9 ∧ ∃ (b2 : Bool), h'9.ld h'1.next (0 : Nat) = some (V.bool b2) ∧ K (V.bool b2) h'9) ∨ (a4.get (h'3.next + (1 : Nat)) = some (rec1 LoopState.done (some Code.ret)) ∧ ∀ (h'10 : Hp), h'10 = a4.set (h'3.next + (1 :
  Nat)) (rec1 LoopState.exhausted (some Code.ret)) → ∃ (h'11 : Hp), shut [h'3.next] h'10 = some h'11 ∧ ∃ (b3 : Bool), h'11.ld h'1.next (0 : Nat) = some (V.bool b3) ∧ K (V.bool b3) h'11) ∨ False
theorem y68 (h : Hp) (K : V → Hp → Prop) (p : Nat) (b_0 : Int) (b_1 : Int) (b_2 : Int) (b_3 : Bool) : X68 h K p b_0 b_1 b_2 b_3 = fnX Try.prog T F jl68 jj68 Try.f68 [V.ptr (some (p, (0 : Nat))), V.agg [V.int IntKind.u8 b_0, V.int IntKind.u32
  b_1, V.int IntKind.u16 b_2, V.bool b_3]] h K := by kernel_rfl
theorem x68 {h : Hp} {K : V → Hp → Prop} (p : Nat) (b_0 : Int) (b_1 : Int) (b_2 : Int) (b_3 : Bool) (hx : X68 h K p b_0 b_1 b_2 b_3) : XCalls Try.prog 68 [V.ptr (some (p, (0 : Nat))), V.agg [V.int IntKind.u8 b_0, V.int IntKind.u32 b_1, V.int IntKind.u16 b_2, V.bool b_3]] h K :=
  XCalls.ofX tok fok mixed (JL := jl68) (JJ := jj68) Try.func68 ((y68 h K p b_0 b_1 b_2 b_3) ▸ hx)
/-! 43: (*stevedore/ports.Ports).Bind -/
def jl43 : Nat → Option JT := fun r => none
def jj43 : Nat → Option JT := fun r => none
def X43 (h : Hp) (K : V → Hp → Prop) (p : Nat) (socket : Int) (b_0 : Int) (b_1 : Int) (b_2 : Int) (b_3 : Bool) : Prop := ∀ (h'1 : Hp), h'1 = h.alloc (O.row [V.int IntKind.u8 b_0, V.int IntKind.u32 b_1, V.int IntKind.u16 b_2, V.bool b_3] (1 :
  Nat) false) → ∀ (h'2 : Hp), h'2 = h'1.alloc (O.row [V.int IntKind.i64 (0 : Int)] (1 : Nat) false) → ∃ (n1 : Int), ∃ (n2 : Int), ∃ (n3 : Int), ∃ (b1 : Bool), h'2.lda h.next (0 : Nat) (4 : Nat) = some (V.agg [V.int IntKind.u8 n1, V.int
  IntKind.u32 n2, V.int IntKind.u16 n3, V.bool b1]) ∧ XCalls Try.prog (66 : Nat) [V.ptr (some (p, (0 : Nat))), V.int IntKind.u64 socket, V.agg [V.int IntKind.u8 n1, V.int IntKind.u32 n2, V.int IntKind.u16 n3, V.bool b1], V.bool true] h'2 fun
  (v1 : V) (h'3 : Hp) => ∃ (n4 : Int), v1 = V.int IntKind.i64 n4 ∧ bif n4 != (0 : Int) then ∃ (h'4 : Hp), h'3.st h'1.next (0 : Nat) [V.int IntKind.i64 n4] = some h'4 ∧ ∃ (n5 : Int), h'4.ld h'1.next (0 : Nat) = some (V.int IntKind.i64 n5) ∧ K
  (V.int IntKind.i64 n5) h'4 else ∃ (n6 : Int), ∃ (n7 : Int), ∃ (n8 : Int), ∃ (b2 : Bool), h'3.lda h.next (0 : Nat) (4 : Nat) = some (V.agg [V.int IntKind.u8 n6, V.int IntKind.u32 n7, V.int IntKind.u16 n8, V.bool b2]) ∧ XCalls Try.prog (67 :
  Nat) [V.ptr (some (p, (0 : Nat))), V.agg [V.int IntKind.u8 n6, V.int IntKind.u32 n7, V.int IntKind.u16 n8, V.bool b2]] h'3 fun (v2 : V) (h'5 : Hp) => ∃ (c1 : Nat), ∃ (c2 : Nat), v2 = V.fn (Fn.func (81 : Nat)) [] [V.ptr (some (c1, (0 :
  Nat))), V.ptr (some (c2, (0 : Nat)))] ∧ ∀ (rec1 : LoopState → Option Code → O), LRec rec1 → ∀ (h'6 : Hp), h'6 = (h'5.alloc (O.dfr true)).alloc (rec1 LoopState.ready none) → (∀ (v3 : V) (n9 n10 n11 : Int) (b3 : Bool) (h1 : Hp) (K1 : V → Hp
  → Prop), h1.get (h'5.next + (1 : Nat)) = some (rec1 LoopState.ready none) → (∀ (h'7 : Hp), h'7 = h1.alloc (O.row [V.int IntKind.u8 (0 : Int), V.int IntKind.u32 (0 : Int), V.int IntKind.u16 (0 : Int), V.bool false] (1 : Nat) false) → ∃ (h'8
  : Hp), h'7.st h1.next (0 : Nat) [V.int IntKind.u8 n9, V.int IntKind.u32 n10, V.int IntKind.u16 n11, V.bool b3] = some h'8 ∧ h'8.get (h'5.next + (1 : Nat)) = some (rec1 LoopState.ready none) ∧ ∀ (h2 : Hp), h2 = h'8.set (h'5.next + (1 :
  Nat)) (rec1 LoopState.busy none) → ∃ (b4 : Bool), h2.ld h1.next (3 : Nat) = some (V.bool b4) ∧ bif !b4 then ∃ (h'9 : Hp), h2.st h'1.next (0 : Nat) [V.int IntKind.i64 (220 : Int)] = some h'9 ∧ h'9.get (h'5.next + (1 : Nat)) = some (rec1
  LoopState.busy none) ∧ ∀ (h'10 : Hp), h'10 = h'9.set (h'5.next + (1 : Nat)) (rec1 LoopState.done (some Code.ret)) → K1 (V.bool false) h'10 else ∃ (b5 : Bool), h2.ld h.next (3 : Nat) = some (V.bool b5) ∧ bif !b5 then ∃ (h'11 : Hp), h2.st
  h'1.next (0 : Nat) [V.int IntKind.i64 (220 : Int)] = some h'11 ∧ h'11.get (h'5.next + (1 : Nat)) = some (rec1 LoopState.busy none) ∧ ∀ (h'12 : Hp), h'12 = h'11.set (h'5.next + (1 : Nat)) (rec1 LoopState.done (some Code.ret)) → K1 (V.bool
  false) h'12 else ∃ (n12 : Int), h2.ld h1.next (1 : Nat) = some (V.int IntKind.u32 n12) ∧ ∃ (n13 : Int), h2.ld h.next (1 : Nat) = some (V.int IntKind.u32 n13) ∧ bif n12 != n13 then ∃ (h'13 : Hp), h2.st h'1.next (0 : Nat) [V.int IntKind.i64
  (220 : Int)] = some h'13 ∧ h'13.get (h'5.next + (1 : Nat)) = some (rec1 LoopState.busy none) ∧ ∀ (h'14 : Hp), h'14 = h'13.set (h'5.next + (1 : Nat)) (rec1 LoopState.done (some Code.ret)) → K1 (V.bool false) h'14 else h2.get (h'5.next + (1
  : Nat)) = some (rec1 LoopState.busy none) ∧ ∀ (h'15 : Hp), h'15 = h2.set (h'5.next + (1 : Nat)) (rec1 LoopState.ready none) → K1 (V.bool true) h'15) → XYield Try.prog (h'5.next + (1 : Nat)) [v3, V.agg [V.int IntKind.u8 n9, V.int
  IntKind.u32 n10, V.int IntKind.u16 n11, V.bool b3]] h1 fun (a1 : V) (a2 : Hp) => K1 a1 a2) → XCalls Try.prog (81 : Nat) [V.yld (h'5.next + (1 : Nat)), V.ptr (some (c1, (0 : Nat))), V.ptr (some (c2, (0 : Nat)))] h'6 fun (a3 : V) (a4 : Hp)
  => (a4.get (h'5.next + (1 : Nat)) = some (rec1 LoopState.ready none) ∧ ∀ (h'16 : Hp), h'16 = a4.set (h'5.next + (1 : Nat)) (rec1 LoopState.exhausted none) → ∃ (r1 : Option Nat), h'16.ld p (0 : Nat) = some (V.map r1) ∧ ∃ (n14 : Int), ∃ (n15
  : Int), ∃ (n16 : Int), ∃ (b6 : Bool), h'16.lda h.next (0 : Nat) (4 : Nat) = some (V.agg [V.int IntKind.u8 n14, V.int IntKind.u32 n15, V.int IntKind.u16 n16, V.bool b6]) ∧ ∃ (h'17 : Hp), xput T h'16 (112 : Nat) (V.map r1) (V.int IntKind.u64
  socket) (V.agg [V.int IntKind.u8 n14, V.int IntKind.u32 n15, V.int IntKind.u16 n16, V.bool b6]) = some h'17 ∧ ∃ (h'18 : Hp), h'17.st h'1.next (0 : Nat) [V.int IntKind.i64 (0 : Int)] = some h'18 ∧ ∃ (h'19 : Hp), shut [h'5.next] h'18 = some
  h'19 ∧ ∃ (n17 : Int), h'19.ld h'1.next (0 : Nat) = some (V.int IntKind.i64 n17) ∧ K (V.int IntKind.i64 n17) h'19) ∨ (a4.get (h'5.next + (1 : Nat)) = some (rec1 LoopState.done (some Code.ret)) ∧ ∀ (h'20 : Hp), h'20 = a4.set (h'5.next + (1 :
  Nat)) (rec1 LoopState.exhausted (some Code.ret)) → ∃ (h'21 : Hp), shut [h'5.next] h'20 = some h'21 ∧ ∃ (n18 : Int), h'21.ld h'1.next (0 : Nat) = some (V.int IntKind.i64 n18) ∧ K (V.int IntKind.i64 n18) h'21) ∨ False
theorem y43 (h : Hp) (K : V → Hp → Prop) (p : Nat) (socket : Int) (b_0 : Int) (b_1 : Int) (b_2 : Int) (b_3 : Bool) : X43 h K p socket b_0 b_1 b_2 b_3 = fnX Try.prog T F jl43 jj43 Try.f43 [V.ptr (some (p, (0 : Nat))), V.int IntKind.u64
  socket, V.agg [V.int IntKind.u8 b_0, V.int IntKind.u32 b_1, V.int IntKind.u16 b_2, V.bool b_3]] h K := by kernel_rfl
theorem x43 {h : Hp} {K : V → Hp → Prop} (p : Nat) (socket : Int) (b_0 : Int) (b_1 : Int) (b_2 : Int) (b_3 : Bool) (hx : X43 h K p socket b_0 b_1 b_2 b_3) : XCalls Try.prog 43 [V.ptr (some (p, (0 : Nat))), V.int IntKind.u64 socket, V.agg
  [V.int IntKind.u8 b_0, V.int IntKind.u32 b_1, V.int IntKind.u16 b_2, V.bool b_3]] h K :=
  XCalls.ofX tok fok mixed (JL := jl43) (JJ := jj43) Try.func43 ((y43 h K p socket b_0 b_1 b_2 b_3) ▸ hx)
/-! 50: (*stevedore/ports.Ports).Lend -/
-- loop 6: stays p(0), socket(1), draw(3), b(6); turns (20)
def jl50 : Nat → Option JT := fun r => bif Nat.beq r 6 then some ⟨[0, 1, 3, 6], [20], [V.int IntKind.i64 (0 : Int)]⟩ else none
def jj50 : Nat → Option JT := fun r => none
def X50 (h : Hp) (K : V → Hp → Prop) (p : Nat) (socket : Int) (b_0 : Int) (b_1 : Int) (b_2 : Int) (b_3 : Bool) (draw : Int) : Prop := ∀ (h'1 : Hp), h'1 = h.alloc (O.row [V.int IntKind.u8 b_0, V.int IntKind.u32 b_1, V.int IntKind.u16 b_2,
  V.bool b_3] (1 : Nat) false) → ∃ (n1 : Int), ∃ (n2 : Int), ∃ (n3 : Int), ∃ (b1 : Bool), h'1.lda h.next (0 : Nat) (4 : Nat) = some (V.agg [V.int IntKind.u8 n1, V.int IntKind.u32 n2, V.int IntKind.u16 n3, V.bool b1]) ∧ XCalls Try.prog (66 :
  Nat) [V.ptr (some (p, (0 : Nat))), V.int IntKind.u64 socket, V.agg [V.int IntKind.u8 n1, V.int IntKind.u32 n2, V.int IntKind.u16 n3, V.bool b1], V.bool false] h'1 fun (v1 : V) (h'2 : Hp) => ∃ (n4 : Int), v1 = V.int IntKind.i64 n4 ∧ bif n4
  != (0 : Int) then K (V.tup [V.int IntKind.u16 (0 : Int), V.int IntKind.i64 n4]) h'2 else ∃ (h'3 : Hp), h'2.st h.next (3 : Nat) [V.bool false] = some h'3 ∧ ∃ (I1 : List V → Hp → Prop), ∃ (x1 : List V → Hp → Nat), ([V.ptr (some (p, (0 :
  Nat))), V.int IntKind.u64 socket, V.int IntKind.u16 draw, V.ptr (some (h.next, (0 : Nat)))] = [V.ptr (some (p, (0 : Nat))), V.int IntKind.u64 socket, V.int IntKind.u16 draw, V.ptr (some (h.next, (0 : Nat)))] ∧ I1 [V.int IntKind.i64 (0 :
  Int)] h'3) ∧ ∀ (bs1 : Nat → Option V) (n5 : Int) (h1 : Hp), I1 [V.int IntKind.i64 n5] h1 → bif ltI n5 (28232 : Int) then ¬(28232 : Int) = (0 : Int) ∧ ∃ (h'4 : Hp), h1.st h.next (2 : Nat) [V.int IntKind.u16 (IntKind.u16.wrap
  (IntKind.i64.wrap ((32768 : Int) + (IntKind.i64.wrap (IntKind.i64.wrap draw + n5)).tmod (28232 : Int))))] = some h'4 ∧ ∃ (n6 : Int), ∃ (n7 : Int), ∃ (n8 : Int), ∃ (b2 : Bool), h'4.lda h.next (0 : Nat) (4 : Nat) = some (V.agg [V.int
  IntKind.u8 n6, V.int IntKind.u32 n7, V.int IntKind.u16 n8, V.bool b2]) ∧ XCalls Try.prog (68 : Nat) [V.ptr (some (p, (0 : Nat))), V.agg [V.int IntKind.u8 n6, V.int IntKind.u32 n7, V.int IntKind.u16 n8, V.bool b2]] h'4 fun (v2 : V) (h'5 :
  Hp) => ∃ (b3 : Bool), v2 = V.bool b3 ∧ bif b3 then ∃ (r1 : Option Nat), h'5.ld p (0 : Nat) = some (V.map r1) ∧ ∃ (n9 : Int), ∃ (n10 : Int), ∃ (n11 : Int), ∃ (b4 : Bool), h'5.lda h.next (0 : Nat) (4 : Nat) = some (V.agg [V.int IntKind.u8
  n9, V.int IntKind.u32 n10, V.int IntKind.u16 n11, V.bool b4]) ∧ ∃ (h'6 : Hp), xput T h'5 (112 : Nat) (V.map r1) (V.int IntKind.u64 socket) (V.agg [V.int IntKind.u8 n9, V.int IntKind.u32 n10, V.int IntKind.u16 n11, V.bool b4]) = some h'6 ∧
  ∃ (n12 : Int), h'6.ld h.next (2 : Nat) = some (V.int IntKind.u16 n12) ∧ K (V.tup [V.int IntKind.u16 n12, V.int IntKind.i64 (0 : Int)]) h'6 else [V.ptr (some (p, (0 : Nat))), V.int IntKind.u64 socket, V.int IntKind.u16 draw, V.ptr (some
  (h.next, (0 : Nat)))] = [V.ptr (some (p, (0 : Nat))), V.int IntKind.u64 socket, V.int IntKind.u16 draw, V.ptr (some (h.next, (0 : Nat)))] ∧ I1 [V.int IntKind.i64 (IntKind.i64.wrap (n5 + (1 : Int)))] h'5 ∧ x1 [V.int IntKind.i64
  (IntKind.i64.wrap (n5 + (1 : Int)))] h'5 < x1 [V.int IntKind.i64 n5] h1 else K (V.tup [V.int IntKind.u16 (0 : Int), V.int IntKind.i64 (220 : Int)]) h1
theorem y50 (h : Hp) (K : V → Hp → Prop) (p : Nat) (socket : Int) (b_0 : Int) (b_1 : Int) (b_2 : Int) (b_3 : Bool) (draw : Int) : X50 h K p socket b_0 b_1 b_2 b_3 draw = fnX Try.prog T F jl50 jj50 Try.f50 [V.ptr (some (p, (0 : Nat))), V.int
  IntKind.u64 socket, V.agg [V.int IntKind.u8 b_0, V.int IntKind.u32 b_1, V.int IntKind.u16 b_2, V.bool b_3], V.int IntKind.u16 draw] h K := by kernel_rfl
theorem x50 {h : Hp} {K : V → Hp → Prop} (p : Nat) (socket : Int) (b_0 : Int) (b_1 : Int) (b_2 : Int) (b_3 : Bool) (draw : Int) (hx : X50 h K p socket b_0 b_1 b_2 b_3 draw) : XCalls Try.prog 50 [V.ptr (some (p, (0 : Nat))), V.int IntKind.u64
  socket, V.agg [V.int IntKind.u8 b_0, V.int IntKind.u32 b_1, V.int IntKind.u16 b_2, V.bool b_3], V.int IntKind.u16 draw] h K :=
  XCalls.ofX tok fok mixed (JL := jl50) (JJ := jj50) Try.func50 ((y50 h K p socket b_0 b_1 b_2 b_3 draw) ▸ hx)
/-! 80: (*stevedore/ports.Ports).at -/
-- loop 2: stays kind(1), a(5), (13); turns l(6)
def jl80 : Nat → Option JT := fun r => bif Nat.beq r 2 then some ⟨[1, 5, 13], [6], [V.slc none (0 : Nat) true]⟩ else none
def jj80 : Nat → Option JT := fun r => none
def X80 (h : Hp) (K : V → Hp → Prop) (p : Nat) (kind : Int) (a_0 : Int) (a_1 : Int) : Prop := ∀ (h'1 : Hp), h'1 = h.alloc (O.row [V.int IntKind.u32 a_0, V.int IntKind.u16 a_1] (1 : Nat) false) → ∃ (r1 : Option Nat), h'1.ld p (0 : Nat) = some
  (V.map r1) ∧ ∃ (h'2 : Hp), xrange T h'1 (112 : Nat) (V.map r1) = some (V.ptr (some (h'1.next, (0 : Nat))), h'2) ∧ ∃ (I1 : List V → Hp → Prop), ∃ (x1 : List V → Hp → Nat), ([V.int IntKind.u8 kind, V.ptr (some (h.next, (0 : Nat))), V.ptr
  (some (h'1.next, (0 : Nat)))] = [V.int IntKind.u8 kind, V.ptr (some (h.next, (0 : Nat))), V.ptr (some (h'1.next, (0 : Nat)))] ∧ I1 [V.slc none (0 : Nat) true] h'2) ∧ ∀ (bs1 : Nat → Option V) (a1 : Option (Nat × Nat)) (n1 : Nat) (f1 : Bool)
  (h1 : Hp), I1 [V.slc a1 n1 f1] h1 → ∃ (l1 : List (V × Hp)), xnext h1 (V.ptr (some (h'1.next, (0 : Nat)))) = some l1 ∧ (List.Mem (V.tup [V.bool false], h1) l1 → XCalls Try.prog (88 : Nat) [V.slc a1 n1 f1] h1 fun (v1 : V) (h'3 : Hp) => K
  (V.slc a1 n1 f1) h'3) ∧ (∀ (r2 : V × Hp), List.Mem r2 l1 → r2 = (V.tup [V.bool false], h1) ∨ ∃ (a2 : V), ∃ (b1 : V), r2.1 = V.tup [V.bool true, a2, b1]) ∧ ∀ (a3 b2 : V) (h'4 : Hp), List.Mem (V.tup [V.bool true, a3, b2], h'4) l1 → ∃ (n2 :
  Int), ∃ (n3 : Int), ∃ (n4 : Int), ∃ (n5 : Int), ∃ (b3 : Bool), xentry h'4 (V.ptr (some (h'1.next, (0 : Nat)))) = some (V.tup [V.int IntKind.u64 n2, V.agg [V.int IntKind.u8 n3, V.int IntKind.u32 n4, V.int IntKind.u16 n5, V.bool b3]]) ∧ ∀
  (h'5 : Hp), h'5 = h'4.alloc (O.row [V.int IntKind.u8 (0 : Int), V.int IntKind.u32 (0 : Int), V.int IntKind.u16 (0 : Int), V.bool false] (1 : Nat) false) → ∃ (h'6 : Hp), h'5.st h'4.next (0 : Nat) [V.int IntKind.u8 n3, V.int IntKind.u32 n4,
  V.int IntKind.u16 n5, V.bool b3] = some h'6 ∧ ∃ (n6 : Int), h'6.ld h'4.next (0 : Nat) = some (V.int IntKind.u8 n6) ∧ bif n6 == kind then ∃ (n7 : Int), h'6.ld h'4.next (2 : Nat) = some (V.int IntKind.u16 n7) ∧ ∃ (n8 : Int), h'6.ld h.next (1
  : Nat) = some (V.int IntKind.u16 n8) ∧ bif n7 == n8 then ∃ (n9 : Int), h'6.ld h'4.next (1 : Nat) = some (V.int IntKind.u32 n9) ∧ ∃ (n10 : Int), h'6.ld h.next (0 : Nat) = some (V.int IntKind.u32 n10) ∧ bif n9 == n10 then ∀ (h'7 : Hp), h'7 =
  h'6.alloc (O.row [V.int IntKind.u64 n2] (1 : Nat) false) → ∃ (p1 : Option (Nat × Nat)), ∃ (n11 : Nat), ∃ (f2 : Bool), ∃ (h'8 : Hp), xapp T h'7 (69 : Nat) (69 : Nat) (V.slc a1 n1 f1) (V.slc (some (h'6.next, (0 : Nat))) (1 : Nat) true) =
  some (V.slc p1 n11 f2, h'8) ∧ [V.int IntKind.u8 kind, V.ptr (some (h.next, (0 : Nat))), V.ptr (some (h'1.next, (0 : Nat)))] = [V.int IntKind.u8 kind, V.ptr (some (h.next, (0 : Nat))), V.ptr (some (h'1.next, (0 : Nat)))] ∧ I1 [V.slc p1 n11
  f2] h'8 ∧ x1 [V.slc p1 n11 f2] h'8 < x1 [V.slc a1 n1 f1] h1 else [V.int IntKind.u8 kind, V.ptr (some (h.next, (0 : Nat))), V.ptr (some (h'1.next, (0 : Nat)))] = [V.int IntKind.u8 kind, V.ptr (some (h.next, (0 : Nat))), V.ptr (some
  (h'1.next, (0 : Nat)))] ∧ I1 [V.slc a1 n1 f1] h'6 ∧ x1 [V.slc a1 n1 f1] h'6 < x1 [V.slc a1 n1 f1] h1 else [V.int IntKind.u8 kind, V.ptr (some (h.next, (0 : Nat))), V.ptr (some (h'1.next, (0 : Nat)))] = [V.int IntKind.u8 kind, V.ptr (some
  (h.next, (0 : Nat))), V.ptr (some (h'1.next, (0 : Nat)))] ∧ I1 [V.slc a1 n1 f1] h'6 ∧ x1 [V.slc a1 n1 f1] h'6 < x1 [V.slc a1 n1 f1] h1 else [V.int IntKind.u8 kind, V.ptr (some (h.next, (0 : Nat))), V.ptr (some (h'1.next, (0 : Nat)))] =
  [V.int IntKind.u8 kind, V.ptr (some (h.next, (0 : Nat))), V.ptr (some (h'1.next, (0 : Nat)))] ∧ I1 [V.slc a1 n1 f1] h'6 ∧ x1 [V.slc a1 n1 f1] h'6 < x1 [V.slc a1 n1 f1] h1
theorem y80 (h : Hp) (K : V → Hp → Prop) (p : Nat) (kind : Int) (a_0 : Int) (a_1 : Int) : X80 h K p kind a_0 a_1 = fnX Try.prog T F jl80 jj80 Try.f80 [V.ptr (some (p, (0 : Nat))), V.int IntKind.u8 kind, V.agg [V.int IntKind.u32 a_0, V.int IntKind.u16 a_1]] h K := by kernel_rfl
theorem x80 {h : Hp} {K : V → Hp → Prop} (p : Nat) (kind : Int) (a_0 : Int) (a_1 : Int) (hx : X80 h K p kind a_0 a_1) : XCalls Try.prog 80 [V.ptr (some (p, (0 : Nat))), V.int IntKind.u8 kind, V.agg [V.int IntKind.u32 a_0, V.int IntKind.u16 a_1]] h K :=
  XCalls.ofX tok fok mixed (JL := jl80) (JJ := jj80) Try.func80 ((y80 h K p kind a_0 a_1) ▸ hx)
/-! 63: (*stevedore/ports.Ports).At -/
def jl63 : Nat → Option JT := fun r => none
def jj63 : Nat → Option JT := fun r => none
def X63 (h : Hp) (K : V → Hp → Prop) (p : Nat) (kind : Int) (a_0 : Int) (a_1 : Int) : Prop := ∀ (h'1 : Hp), h'1 = h.alloc (O.row [V.int IntKind.u32 a_0, V.int IntKind.u16 a_1] (1 : Nat) false) → ∃ (n1 : Int), ∃ (n2 : Int), h'1.lda h.next (0
  : Nat) (2 : Nat) = some (V.agg [V.int IntKind.u32 n1, V.int IntKind.u16 n2]) ∧ XCalls Try.prog (80 : Nat) [V.ptr (some (p, (0 : Nat))), V.int IntKind.u8 kind, V.agg [V.int IntKind.u32 n1, V.int IntKind.u16 n2]] h'1 fun (v1 : V) (h'2 : Hp)
  => ∃ (a1 : Option (Nat × Nat)), ∃ (n3 : Nat), ∃ (f1 : Bool), v1 = V.slc a1 n3 f1 ∧ bif ltI (0 : Int) (↑n3 : Int) then K (V.slc a1 n3 f1) h'2 else ∃ (h'3 : Hp), h'2.st h.next (0 : Nat) [V.int IntKind.u32 (0 : Int)] = some h'3 ∧ ∃ (n4 :
  Int), ∃ (n5 : Int), h'3.lda h.next (0 : Nat) (2 : Nat) = some (V.agg [V.int IntKind.u32 n4, V.int IntKind.u16 n5]) ∧ XCalls Try.prog (80 : Nat) [V.ptr (some (p, (0 : Nat))), V.int IntKind.u8 kind, V.agg [V.int IntKind.u32 n4, V.int
  IntKind.u16 n5]] h'3 fun (v2 : V) (h'4 : Hp) => ∃ (a2 : Option (Nat × Nat)), ∃ (n6 : Nat), ∃ (f2 : Bool), v2 = V.slc a2 n6 f2 ∧ K (V.slc a2 n6 f2) h'4
theorem y63 (h : Hp) (K : V → Hp → Prop) (p : Nat) (kind : Int) (a_0 : Int) (a_1 : Int) : X63 h K p kind a_0 a_1 = fnX Try.prog T F jl63 jj63 Try.f63 [V.ptr (some (p, (0 : Nat))), V.int IntKind.u8 kind, V.agg [V.int IntKind.u32 a_0, V.int IntKind.u16 a_1]] h K := by kernel_rfl
theorem x63 {h : Hp} {K : V → Hp → Prop} (p : Nat) (kind : Int) (a_0 : Int) (a_1 : Int) (hx : X63 h K p kind a_0 a_1) : XCalls Try.prog 63 [V.ptr (some (p, (0 : Nat))), V.int IntKind.u8 kind, V.agg [V.int IntKind.u32 a_0, V.int IntKind.u16 a_1]] h K :=
  XCalls.ofX tok fok mixed (JL := jl63) (JJ := jj63) Try.func63 ((y63 h K p kind a_0 a_1) ▸ hx)
/-! 51: (*stevedore/ports.Ports).Give -/
def jl51 : Nat → Option JT := fun r => none
def jj51 : Nat → Option JT := fun r => none
def X51 (h : Hp) (K : V → Hp → Prop) (p : Nat) (sockets : Option (Nat × Nat)) (sockets_n : Nat) (sockets_f : Bool) : Prop := ∀ (h'1 : Hp), h'1 = h.alloc (O.row [V.slc sockets sockets_n sockets_f] (1 : Nat) false) → ∃ (r1 : Option Nat),
  h'1.ld p (0 : Nat) = some (V.map r1) ∧ ∃ (n1 : Int), xlen T h'1 (112 : Nat) (V.map r1) = some (V.int IntKind.i64 n1) ∧ ∃ (r2 : Option Nat), h'1.ld p (0 : Nat) = some (V.map r2) ∧ XCalls Try.prog (69 : Nat) [V.map r2, V.fn (Fn.func (70 :
  Nat)) [] [V.ptr (some (h.next, (0 : Nat)))]] h'1 fun (v1 : V) (h'2 : Hp) => ∃ (r3 : Option Nat), h'2.ld p (0 : Nat) = some (V.map r3) ∧ ∃ (n2 : Int), xlen T h'2 (112 : Nat) (V.map r3) = some (V.int IntKind.i64 n2) ∧ K (V.int IntKind.i64
  (IntKind.i64.wrap (n1 - n2))) h'2
theorem y51 (h : Hp) (K : V → Hp → Prop) (p : Nat) (sockets : Option (Nat × Nat)) (sockets_n : Nat) (sockets_f : Bool) : X51 h K p sockets sockets_n sockets_f = fnX Try.prog T F jl51 jj51 Try.f51 [V.ptr (some (p, (0 : Nat))), V.slc sockets sockets_n sockets_f] h K := by kernel_rfl
theorem x51 {h : Hp} {K : V → Hp → Prop} (p : Nat) (sockets : Option (Nat × Nat)) (sockets_n : Nat) (sockets_f : Bool) (hx : X51 h K p sockets sockets_n sockets_f) : XCalls Try.prog 51 [V.ptr (some (p, (0 : Nat))), V.slc sockets sockets_n sockets_f] h K :=
  XCalls.ofX tok fok mixed (JL := jl51) (JJ := jj51) Try.func51 ((y51 h K p sockets sockets_n sockets_f) ▸ hx)
/-! 69: maps.DeleteFunc[map[uint64]stevedore/api.Bound,uint64,stevedore/api.Bound] -/
-- loop 1: stays m(0), del(1), (7); turns 
def jl69 : Nat → Option JT := fun r => bif Nat.beq r 1 then some ⟨[0, 1, 7], [], []⟩ else none
def jj69 : Nat → Option JT := fun r => none
def X69 (h : Hp) (K : V → Hp → Prop) (m : Option Nat) (del_0 : Nat) : Prop := ∃ (h'1 : Hp), xrange T h (112 : Nat) (V.map m) = some (V.ptr (some (h.next, (0 : Nat))), h'1) ∧ ∃ (I1 : List V → Hp → Prop), ∃ (x1 : List V → Hp → Nat), ([V.map m,
  V.fn (Fn.func (70 : Nat)) [] [V.ptr (some (del_0, (0 : Nat)))], V.ptr (some (h.next, (0 : Nat)))] = [V.map m, V.fn (Fn.func (70 : Nat)) [] [V.ptr (some (del_0, (0 : Nat)))], V.ptr (some (h.next, (0 : Nat)))] ∧ I1 [] h'1) ∧ ∀ (bs1 : Nat →
  Option V) (h1 : Hp), I1 [] h1 → ∃ (l1 : List (V × Hp)), xnext h1 (V.ptr (some (h.next, (0 : Nat)))) = some l1 ∧ (List.Mem (V.tup [V.bool false], h1) l1 → K (V.tup []) h1) ∧ (∀ (r1 : V × Hp), List.Mem r1 l1 → r1 = (V.tup [V.bool false], h1)
  ∨ ∃ (a1 : V), ∃ (b1 : V), r1.1 = V.tup [V.bool true, a1, b1]) ∧ ∀ (a2 b2 : V) (h'2 : Hp), List.Mem (V.tup [V.bool true, a2, b2], h'2) l1 → ∃ (n1 : Int), ∃ (n2 : Int), ∃ (n3 : Int), ∃ (n4 : Int), ∃ (b3 : Bool), xentry h'2 (V.ptr (some
  (h.next, (0 : Nat)))) = some (V.tup [V.int IntKind.u64 n1, V.agg [V.int IntKind.u8 n2, V.int IntKind.u32 n3, V.int IntKind.u16 n4, V.bool b3]]) ∧ ∀ (h'3 : Hp), h'3 = h'2.alloc (O.row [V.int IntKind.u8 (0 : Int), V.int IntKind.u32 (0 :
  Int), V.int IntKind.u16 (0 : Int), V.bool false] (1 : Nat) false) → ∃ (h'4 : Hp), h'3.st h'2.next (0 : Nat) [V.int IntKind.u8 n2, V.int IntKind.u32 n3, V.int IntKind.u16 n4, V.bool b3] = some h'4 ∧ ∃ (n5 : Int), ∃ (n6 : Int), ∃ (n7 : Int),
  ∃ (b4 : Bool), h'4.lda h'2.next (0 : Nat) (4 : Nat) = some (V.agg [V.int IntKind.u8 n5, V.int IntKind.u32 n6, V.int IntKind.u16 n7, V.bool b4]) ∧ XCalls Try.prog (70 : Nat) [V.int IntKind.u64 n1, V.agg [V.int IntKind.u8 n5, V.int
  IntKind.u32 n6, V.int IntKind.u16 n7, V.bool b4], V.ptr (some (del_0, (0 : Nat)))] h'4 fun (v1 : V) (h'5 : Hp) => ∃ (b5 : Bool), v1 = V.bool b5 ∧ bif b5 then ∃ (h'6 : Hp), xdel T h'5 (112 : Nat) (V.map m) (V.int IntKind.u64 n1) = some h'6
  ∧ [V.map m, V.fn (Fn.func (70 : Nat)) [] [V.ptr (some (del_0, (0 : Nat)))], V.ptr (some (h.next, (0 : Nat)))] = [V.map m, V.fn (Fn.func (70 : Nat)) [] [V.ptr (some (del_0, (0 : Nat)))], V.ptr (some (h.next, (0 : Nat)))] ∧ I1 [] h'6 ∧ x1 []
  h'6 < x1 [] h1 else [V.map m, V.fn (Fn.func (70 : Nat)) [] [V.ptr (some (del_0, (0 : Nat)))], V.ptr (some (h.next, (0 : Nat)))] = [V.map m, V.fn (Fn.func (70 : Nat)) [] [V.ptr (some (del_0, (0 : Nat)))], V.ptr (some (h.next, (0 : Nat)))] ∧
  I1 [] h'5 ∧ x1 [] h'5 < x1 [] h1
theorem y69 (h : Hp) (K : V → Hp → Prop) (m : Option Nat) (del_0 : Nat) : X69 h K m del_0 = fnX Try.prog T F jl69 jj69 Try.f69 [V.map m, V.fn (Fn.func (70 : Nat)) [] [V.ptr (some (del_0, (0 : Nat)))]] h K := by kernel_rfl
theorem x69 {h : Hp} {K : V → Hp → Prop} (m : Option Nat) (del_0 : Nat) (hx : X69 h K m del_0) : XCalls Try.prog 69 [V.map m, V.fn (Fn.func (70 : Nat)) [] [V.ptr (some (del_0, (0 : Nat)))]] h K :=
  XCalls.ofX tok fok mixed (JL := jl69) (JJ := jj69) Try.func69 ((y69 h K m del_0) ▸ hx)
/-! 70: (*stevedore/ports.Ports).Give$1 -/
def jl70 : Nat → Option JT := fun r => none
def jj70 : Nat → Option JT := fun r => none
def X70 (h : Hp) (K : V → Hp → Prop) (s : Int) (a1_0 : Int) (a1_1 : Int) (a1_2 : Int) (a1_3 : Bool) (c2 : Nat) : Prop := ∀ (h'1 : Hp), h'1 = h.alloc (O.row [V.int IntKind.u8 a1_0, V.int IntKind.u32 a1_1, V.int IntKind.u16 a1_2, V.bool a1_3]
  (1 : Nat) false) → ∃ (a1 : Option (Nat × Nat)), ∃ (n1 : Nat), ∃ (f1 : Bool), h'1.ld c2 (0 : Nat) = some (V.slc a1 n1 f1) ∧ XCalls Try.prog (71 : Nat) [V.slc a1 n1 f1, V.int IntKind.u64 s] h'1 fun (v1 : V) (h'2 : Hp) => ∃ (b1 : Bool), v1 =
  V.bool b1 ∧ K (V.bool b1) h'2
theorem y70 (h : Hp) (K : V → Hp → Prop) (s : Int) (a1_0 : Int) (a1_1 : Int) (a1_2 : Int) (a1_3 : Bool) (c2 : Nat) : X70 h K s a1_0 a1_1 a1_2 a1_3 c2 = fnX Try.prog T F jl70 jj70 Try.f70 [V.int IntKind.u64 s, V.agg [V.int IntKind.u8 a1_0,
  V.int IntKind.u32 a1_1, V.int IntKind.u16 a1_2, V.bool a1_3], V.ptr (some (c2, (0 : Nat)))] h K := by kernel_rfl
theorem x70 {h : Hp} {K : V → Hp → Prop} (s : Int) (a1_0 : Int) (a1_1 : Int) (a1_2 : Int) (a1_3 : Bool) (c2 : Nat) (hx : X70 h K s a1_0 a1_1 a1_2 a1_3 c2) : XCalls Try.prog 70 [V.int IntKind.u64 s, V.agg [V.int IntKind.u8 a1_0, V.int
  IntKind.u32 a1_1, V.int IntKind.u16 a1_2, V.bool a1_3], V.ptr (some (c2, (0 : Nat)))] h K :=
  XCalls.ofX tok fok mixed (JL := jl70) (JJ := jj70) Try.func70 ((y70 h K s a1_0 a1_1 a1_2 a1_3 c2) ▸ hx)
/-! 71: slices.Contains[[]uint64,uint64] -/
def jl71 : Nat → Option JT := fun r => none
def jj71 : Nat → Option JT := fun r => none
def X71 (h : Hp) (K : V → Hp → Prop) (s : Option (Nat × Nat)) (s_n : Nat) (s_f : Bool) (v : Int) : Prop := XCalls Try.prog (82 : Nat) [V.slc s s_n s_f, V.int IntKind.u64 v] h fun (v1 : V) (h'1 : Hp) => ∃ (n1 : Int), v1 = V.int IntKind.i64 n1 ∧ K (V.bool !ltI n1 (0 : Int)) h'1
theorem y71 (h : Hp) (K : V → Hp → Prop) (s : Option (Nat × Nat)) (s_n : Nat) (s_f : Bool) (v : Int) : X71 h K s s_n s_f v = fnX Try.prog T F jl71 jj71 Try.f71 [V.slc s s_n s_f, V.int IntKind.u64 v] h K := by kernel_rfl
theorem x71 {h : Hp} {K : V → Hp → Prop} (s : Option (Nat × Nat)) (s_n : Nat) (s_f : Bool) (v : Int) (hx : X71 h K s s_n s_f v) : XCalls Try.prog 71 [V.slc s s_n s_f, V.int IntKind.u64 v] h K :=
  XCalls.ofX tok fok mixed (JL := jl71) (JJ := jj71) Try.func71 ((y71 h K s s_n s_f v) ▸ hx)
/-! 82: slices.Index[[]uint64,uint64] -/
-- loop 2: stays s(0), v(1), (7); turns (8)
def jl82 : Nat → Option JT := fun r => bif Nat.beq r 2 then some ⟨[0, 1, 7], [8], [V.int IntKind.i64 (0 : Int)]⟩ else none
def jj82 : Nat → Option JT := fun r => none
def X82 (h : Hp) (K : V → Hp → Prop) (s : Option (Nat × Nat)) (s_n : Nat) (s_f : Bool) (v : Int) : Prop := ∃ (I1 : List V → Hp → Prop), ∃ (x1 : List V → Hp → Nat), ([V.slc s s_n s_f, V.int IntKind.u64 v, V.int IntKind.i64 (↑s_n : Int)] =
  [V.slc s s_n s_f, V.int IntKind.u64 v, V.int IntKind.i64 (↑s_n : Int)] ∧ I1 [V.int IntKind.i64 (0 : Int)] h) ∧ ∀ (bs1 : Nat → Option V) (n1 : Int) (h1 : Hp), I1 [V.int IntKind.i64 n1] h1 → bif ltI n1 (↑s_n : Int) then ((0 : Int) ≤ n1 ∧ n1
  < (↑s_n : Int)) ∧ onS s fun (i1 o1 : Nat) => ∃ (n2 : Int), h1.ld i1 (o1 + n1.toNat * (1 : Nat)) = some (V.int IntKind.u64 n2) ∧ bif v == n2 then K (V.int IntKind.i64 n1) h1 else [V.slc s s_n s_f, V.int IntKind.u64 v, V.int IntKind.i64
  (↑s_n : Int)] = [V.slc s s_n s_f, V.int IntKind.u64 v, V.int IntKind.i64 (↑s_n : Int)] ∧ I1 [V.int IntKind.i64 (IntKind.i64.wrap (n1 + (1 : Int)))] h1 ∧ x1 [V.int IntKind.i64 (IntKind.i64.wrap (n1 + (1 : Int)))] h1 < x1 [V.int IntKind.i64
  n1] h1 else K (V.int IntKind.i64 (-1 : Int)) h1
theorem y82 (h : Hp) (K : V → Hp → Prop) (s : Option (Nat × Nat)) (s_n : Nat) (s_f : Bool) (v : Int) : X82 h K s s_n s_f v = fnX Try.prog T F jl82 jj82 Try.f82 [V.slc s s_n s_f, V.int IntKind.u64 v] h K := by kernel_rfl
theorem x82 {h : Hp} {K : V → Hp → Prop} (s : Option (Nat × Nat)) (s_n : Nat) (s_f : Bool) (v : Int) (hx : X82 h K s s_n s_f v) : XCalls Try.prog 82 [V.slc s s_n s_f, V.int IntKind.u64 v] h K :=
  XCalls.ofX tok fok mixed (JL := jl82) (JJ := jj82) Try.func82 ((y82 h K s s_n s_f v) ▸ hx) 
end Go.Vex
