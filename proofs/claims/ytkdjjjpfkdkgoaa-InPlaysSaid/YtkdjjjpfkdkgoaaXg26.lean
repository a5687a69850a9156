/- In (printed by VexPrint).
-/
import Derived.Test.YtkdjjjpfkdkgoaaVexX
import Derived.Test.YtkdjjjpfkdkgoaaTab26
set_option linter.unusedVariables false
set_option maxRecDepth 100000
namespace Go.Vex
open Go.Proofs
/-! 48: (*stevedore/flow.In).has -/
def jl48 : Nat → Option JT := fun r => none
def jj48 : Nat → Option JT := fun r => none
def X48 (h : Hp) (K : V → Hp → Prop) (i : Nat) (a1 : Int) : Prop := ∃ (r1 : Option Nat), h.ld i (2 : Nat) = some (V.map r1) ∧ ∃ (n1 : Int), ∃ (b'1 : Bool), xlook T h (73 : Nat) (V.map r1) (V.int IntKind.u32 a1) true = some (V.tup [V.int
  IntKind.u8 n1, V.bool b'1]) ∧ bif b'1 then K (V.int IntKind.i64 (1 : Int)) h else K (V.int IntKind.i64 (0 : Int)) h
theorem y48 (h : Hp) (K : V → Hp → Prop) (i : Nat) (a1 : Int) : X48 h K i a1 = fnX Try.prog T F jl48 jj48 Try.f48 [V.ptr (some (i, (0 : Nat))), V.int IntKind.u32 a1] h K := by kernel_rfl
theorem x48 {h : Hp} {K : V → Hp → Prop} (i : Nat) (a1 : Int) (hx : X48 h K i a1) : XCalls Try.prog 48 [V.ptr (some (i, (0 : Nat))), V.int IntKind.u32 a1] h K :=
  XCalls.ofX tok fok mixed (JL := jl48) (JJ := jj48) Try.func48 ((y48 h K i a1) ▸ hx)
/-! 30: (*stevedore/flow.In).Window -/
def jl30 : Nat → Option JT := fun r => none
def jj30 : Nat → Option JT := fun r => none
def X30 (h : Hp) (K : V → Hp → Prop) (i : Nat) : Prop := ∃ (n1 : Int), h.ld i (4 : Nat) = some (V.int IntKind.i64 n1) ∧ ∃ (a1 : Option (Nat × Nat)), ∃ (n2 : Nat), ∃ (f1 : Bool), h.ld i (1 : Nat) = some (V.slc a1 n2 f1) ∧ K (V.int IntKind.i64 (IntKind.i64.wrap (n1 - (↑n2 : Int)))) h
theorem y30 (h : Hp) (K : V → Hp → Prop) (i : Nat) : X30 h K i = fnX Try.prog T F jl30 jj30 Try.f30 [V.ptr (some (i, (0 : Nat)))] h K := by kernel_rfl
theorem x30 {h : Hp} {K : V → Hp → Prop} (i : Nat) (hx : X30 h K i) : XCalls Try.prog 30 [V.ptr (some (i, (0 : Nat)))] h K :=
  XCalls.ofX tok fok mixed (JL := jl30) (JJ := jj30) Try.func30 ((y30 h K i) ▸ hx)
/-! 31: (*stevedore/flow.In).Next -/
def jl31 : Nat → Option JT := fun r => none
def jj31 : Nat → Option JT := fun r => none
def X31 (h : Hp) (K : V → Hp → Prop) (i : Nat) : Prop := ∃ (n1 : Int), h.ld i (0 : Nat) = some (V.int IntKind.u32 n1) ∧ K (V.int IntKind.u32 n1) h
theorem y31 (h : Hp) (K : V → Hp → Prop) (i : Nat) : X31 h K i = fnX Try.prog T F jl31 jj31 Try.f31 [V.ptr (some (i, (0 : Nat)))] h K := by kernel_rfl
theorem x31 {h : Hp} {K : V → Hp → Prop} (i : Nat) (hx : X31 h K i) : XCalls Try.prog 31 [V.ptr (some (i, (0 : Nat)))] h K :=
  XCalls.ofX tok fok mixed (JL := jl31) (JJ := jj31) Try.func31 ((y31 h K i) ▸ hx)
/-! 29: (*stevedore/flow.In).Ready -/
def jl29 : Nat → Option JT := fun r => none
def jj29 : Nat → Option JT := fun r => none
def X29 (h : Hp) (K : V → Hp → Prop) (i : Nat) : Prop := ∃ (a1 : Option (Nat × Nat)), ∃ (n1 : Nat), ∃ (f1 : Bool), h.ld i (1 : Nat) = some (V.slc a1 n1 f1) ∧ K (V.int IntKind.i64 (↑n1 : Int)) h
theorem y29 (h : Hp) (K : V → Hp → Prop) (i : Nat) : X29 h K i = fnX Try.prog T F jl29 jj29 Try.f29 [V.ptr (some (i, (0 : Nat)))] h K := by kernel_rfl
theorem x29 {h : Hp} {K : V → Hp → Prop} (i : Nat) (hx : X29 h K i) : XCalls Try.prog 29 [V.ptr (some (i, (0 : Nat)))] h K :=
  XCalls.ofX tok fok mixed (JL := jl29) (JJ := jj29) Try.func29 ((y29 h K i) ▸ hx)
/-! 32: (*stevedore/flow.In).Ended -/
def jl32 : Nat → Option JT := fun r => none
def jj32 : Nat → Option JT := fun r => none
def X32 (h : Hp) (K : V → Hp → Prop) (i : Nat) : Prop := ∃ (b1 : Bool), h.ld i (5 : Nat) = some (V.bool b1) ∧ bif b1 then ∃ (n1 : Int), h.ld i (6 : Nat) = some (V.int IntKind.u32 n1) ∧ ∃ (n2 : Int), h.ld i (0 : Nat) = some (V.int IntKind.u32
  n2) ∧ bif n1 == n2 then ∃ (a1 : Option (Nat × Nat)), ∃ (n3 : Nat), ∃ (f1 : Bool), h.ld i (1 : Nat) = some (V.slc a1 n3 f1) ∧ K (V.bool ((↑n3 : Int) == (0 : Int))) h else K (V.bool false) h else K (V.bool false) h
theorem y32 (h : Hp) (K : V → Hp → Prop) (i : Nat) : X32 h K i = fnX Try.prog T F jl32 jj32 Try.f32 [V.ptr (some (i, (0 : Nat)))] h K := by kernel_rfl
theorem x32 {h : Hp} {K : V → Hp → Prop} (i : Nat) (hx : X32 h K i) : XCalls Try.prog 32 [V.ptr (some (i, (0 : Nat)))] h K :=
  XCalls.ofX tok fok mixed (JL := jl32) (JJ := jj32) Try.func32 ((y32 h K i) ▸ hx)
/-! 25: stevedore/flow.NewIn -/
def jl25 : Nat → Option JT := fun r => none
def jj25 : Nat → Option JT := fun r => none
def X25 (h : Hp) (K : V → Hp → Prop) (a0 : Int) (most : Int) : Prop := bif ltI most (1 : Int) then K (V.tup [V.ptr none, V.int IntKind.i64 (2 : Int)]) h else bif ltI (16384 : Int) most then K (V.tup [V.ptr none, V.int IntKind.i64 (2 : Int)])
  h else ∀ (h'1 : Hp), h'1 = h.alloc (O.map [] (0 : Nat)) → ∀ (h'2 : Hp), h'2 = h'1.alloc (O.row [V.int IntKind.u32 a0, V.slc none (0 : Nat) true, V.map (some h.next), V.int IntKind.i64 (0 : Int), V.int IntKind.i64 most, V.bool false, V.int
  IntKind.u32 (0 : Int)] (1 : Nat) false) → K (V.tup [V.ptr (some (h'1.next, (0 : Nat))), V.int IntKind.i64 (0 : Int)]) h'2
theorem y25 (h : Hp) (K : V → Hp → Prop) (a0 : Int) (most : Int) : X25 h K a0 most = fnX Try.prog T F jl25 jj25 Try.f25 [V.int IntKind.u32 a0, V.int IntKind.i64 most] h K := by kernel_rfl
theorem x25 {h : Hp} {K : V → Hp → Prop} (a0 : Int) (most : Int) (hx : X25 h K a0 most) : XCalls Try.prog 25 [V.int IntKind.u32 a0, V.int IntKind.i64 most] h K :=
  XCalls.ofX tok fok mixed (JL := jl25) (JJ := jj25) Try.func25 ((y25 h K a0 most) ▸ hx)
/-! 43: (*stevedore/flow.In).takes -/
-- join 4: stays d(7), i(0), c(2), at(1); turns 
def jl43 : Nat → Option JT := fun r => none
def jj43 : Nat → Option JT := fun r => bif Nat.beq r 4 then some ⟨[7, 0, 2, 1], [], []⟩ else none
def X43 (h : Hp) (K : V → Hp → Prop) (i : Nat) (a1 : Int) (c : Int) : Prop := ∃ (n1 : Int), h.ld i (0 : Nat) = some (V.int IntKind.u32 n1) ∧ ∃ (Q1 : List V → Hp → Prop), (XCalls Try.prog (30 : Nat) [V.ptr (some (i, (0 : Nat)))] h fun (v1 :
  V) (h'1 : Hp) => ∃ (n2 : Int), v1 = V.int IntKind.i64 n2 ∧ V.int IntKind.u32 (IntKind.u32.wrap (a1 - n1)) = V.int IntKind.u32 (IntKind.u32.wrap (a1 - n1)) ∧ bif !ltI (IntKind.u32.wrap (a1 - n1)) (IntKind.u32.wrap n2) then K (V.bool false)
  h'1 else bif !ltI (IntKind.u32.wrap (a1 - n1)) (2147483648 : Int) then K (V.bool false) h'1 else ∃ (b1 : Bool), h'1.ld i (5 : Nat) = some (V.bool b1) ∧ bif b1 then ∃ (n3 : Int), h'1.ld i (0 : Nat) = some (V.int IntKind.u32 n3) ∧ ∃ (n4 :
  Int), h'1.ld i (6 : Nat) = some (V.int IntKind.u32 n4) ∧ ∃ (n5 : Int), h'1.ld i (0 : Nat) = some (V.int IntKind.u32 n5) ∧ bif !ltI (IntKind.u32.wrap (a1 - n3)) (IntKind.u32.wrap (n4 - n5)) then K (V.bool false) h'1 else XCalls Try.prog (48
  : Nat) [V.ptr (some (i, (0 : Nat))), V.int IntKind.u32 a1] h'1 fun (v2 : V) (h'2 : Hp) => ∃ (n6 : Int), v2 = V.int IntKind.i64 n6 ∧ bif n6 == (1 : Int) then K (V.bool false) h'2 else [V.int IntKind.u32 (IntKind.u32.wrap (a1 - n1)), V.ptr
  (some (i, (0 : Nat))), V.int IntKind.u8 c, V.int IntKind.u32 a1] = [V.int IntKind.u32 (IntKind.u32.wrap (a1 - n1)), V.ptr (some (i, (0 : Nat))), V.int IntKind.u8 c, V.int IntKind.u32 a1] ∧ Q1 [] h'2 else XCalls Try.prog (48 : Nat) [V.ptr
  (some (i, (0 : Nat))), V.int IntKind.u32 a1] h'1 fun (v3 : V) (h'3 : Hp) => ∃ (n7 : Int), v3 = V.int IntKind.i64 n7 ∧ bif n7 == (1 : Int) then K (V.bool false) h'3 else [V.int IntKind.u32 (IntKind.u32.wrap (a1 - n1)), V.ptr (some (i, (0 :
  Nat))), V.int IntKind.u8 c, V.int IntKind.u32 a1] = [V.int IntKind.u32 (IntKind.u32.wrap (a1 - n1)), V.ptr (some (i, (0 : Nat))), V.int IntKind.u8 c, V.int IntKind.u32 a1] ∧ Q1 [] h'3) ∧ ∀ (bs1 : Nat → Option V) (h1 : Hp), Q1 [] h1 → bif
  IntKind.u32.wrap (a1 - n1) == (0 : Int) then ∃ (a1 : Option (Nat × Nat)), ∃ (n8 : Nat), ∃ (f1 : Bool), h1.ld i (1 : Nat) = some (V.slc a1 n8 f1) ∧ ∃ (n9 : Int), h1.ld i (0 : Nat) = some (V.int IntKind.u32 n9) ∧ ∀ (h'4 : Hp), h'4 = h1.alloc
  (O.row [V.int IntKind.u8 c] (1 : Nat) false) → V.int IntKind.u32 (IntKind.u32.wrap (n9 + (1 : Int))) = V.int IntKind.u32 (IntKind.u32.wrap (n9 + (1 : Int))) ∧ (∃ (n10 : Int), h'4.ld i (0 : Nat) = some (V.int IntKind.u32 n10) ∧ V.int
  IntKind.u32 n10 = V.int IntKind.u32 n9) ∧ V.ptr (some (i, (0 : Nat))) = V.ptr (some (i, (0 : Nat))) ∧ V.ptr (some (i, (0 : Nat))) = V.ptr (some (i, (0 : Nat))) ∧ V.ptr (some (i, (0 : Nat))) = V.ptr (some (i, (0 : Nat))) ∧ (∃ (a2 : Option
  (Nat × Nat)), ∃ (n11 : Nat), ∃ (f2 : Bool), h'4.ld i (1 : Nat) = some (V.slc a2 n11 f2) ∧ V.slc a2 n11 f2 = V.slc a1 n8 f1) ∧ V.ptr (some (i, (1 : Nat))) = V.ptr (some (i, (1 : Nat))) ∧ V.ptr (some (i, (0 : Nat))) = V.ptr (some (i, (0 :
  Nat))) ∧ V.ptr (some (i, (0 : Nat))) = V.ptr (some (i, (0 : Nat))) ∧ V.ptr (some (i, (0 : Nat))) = V.ptr (some (i, (0 : Nat))) ∧ V.ptr (some (i, (0 : Nat))) = V.ptr (some (i, (0 : Nat))) ∧ ∃ (p1 : Option (Nat × Nat)), ∃ (n12 : Nat), ∃ (f3
  : Bool), ∃ (h'5 : Hp), xapp T h'4 (68 : Nat) (68 : Nat) (V.slc a1 n8 f1) (V.slc (some (h1.next, (0 : Nat))) (1 : Nat) true) = some (V.slc p1 n12 f3, h'5) ∧ V.int IntKind.u32 (IntKind.u32.wrap (n9 + (1 : Int))) = V.int IntKind.u32
  (IntKind.u32.wrap (n9 + (1 : Int))) ∧ (∃ (n13 : Int), h'5.ld i (0 : Nat) = some (V.int IntKind.u32 n13) ∧ V.int IntKind.u32 n13 = V.int IntKind.u32 n9) ∧ V.ptr (some (i, (0 : Nat))) = V.ptr (some (i, (0 : Nat))) ∧ V.ptr (some (i, (0 :
  Nat))) = V.ptr (some (i, (0 : Nat))) ∧ V.ptr (some (i, (0 : Nat))) = V.ptr (some (i, (0 : Nat))) ∧ V.ptr (some (i, (0 : Nat))) = V.ptr (some (i, (0 : Nat))) ∧ V.ptr (some (i, (0 : Nat))) = V.ptr (some (i, (0 : Nat))) ∧ ∃ (h'6 : Hp), h'5.st
  i (1 : Nat) [V.slc p1 n12 f3] = some h'6 ∧ V.int IntKind.u32 (IntKind.u32.wrap (n9 + (1 : Int))) = V.int IntKind.u32 (IntKind.u32.wrap (n9 + (1 : Int))) ∧ V.ptr (some (i, (0 : Nat))) = V.ptr (some (i, (0 : Nat))) ∧ ∃ (h'7 : Hp), h'6.st i
  (0 : Nat) [V.int IntKind.u32 (IntKind.u32.wrap (n9 + (1 : Int)))] = some h'7 ∧ K (V.bool true) h'7 else ∃ (n14 : Int), h1.ld i (3 : Nat) = some (V.int IntKind.i64 n14) ∧ XCalls Try.prog (48 : Nat) [V.ptr (some (i, (0 : Nat))), V.int
  IntKind.u32 (IntKind.u32.wrap (a1 - (1 : Int)))] h1 fun (v4 : V) (h'8 : Hp) => ∃ (n15 : Int), v4 = V.int IntKind.i64 n15 ∧ V.int IntKind.u32 (IntKind.u32.wrap (a1 + (1 : Int))) = V.int IntKind.u32 (IntKind.u32.wrap (a1 + (1 : Int))) ∧
  V.int IntKind.u32 a1 = V.int IntKind.u32 a1 ∧ V.ptr (some (i, (0 : Nat))) = V.ptr (some (i, (0 : Nat))) ∧ V.int IntKind.i64 (IntKind.i64.wrap (n14 + (1 : Int))) = V.int IntKind.i64 (IntKind.i64.wrap (n14 + (1 : Int))) ∧ (∃ (n16 : Int),
  h'8.ld i (3 : Nat) = some (V.int IntKind.i64 n16) ∧ V.int IntKind.i64 n16 = V.int IntKind.i64 n14) ∧ V.ptr (some (i, (3 : Nat))) = V.ptr (some (i, (3 : Nat))) ∧ V.ptr (some (i, (0 : Nat))) = V.ptr (some (i, (0 : Nat))) ∧ V.ptr (some (i, (0
  : Nat))) = V.ptr (some (i, (0 : Nat))) ∧ XCalls Try.prog (48 : Nat) [V.ptr (some (i, (0 : Nat))), V.int IntKind.u32 (IntKind.u32.wrap (a1 + (1 : Int)))] h'8 fun (v5 : V) (h'9 : Hp) => ∃ (n17 : Int), v5 = V.int IntKind.i64 n17 ∧ V.int
  IntKind.i64 (IntKind.i64.wrap (IntKind.i64.wrap (n14 + (1 : Int)) - n15)) = V.int IntKind.i64 (IntKind.i64.wrap (IntKind.i64.wrap (n14 + (1 : Int)) - n15)) ∧ V.int IntKind.i64 (IntKind.i64.wrap (n14 + (1 : Int))) = V.int IntKind.i64
  (IntKind.i64.wrap (n14 + (1 : Int))) ∧ (∃ (n18 : Int), h'9.ld i (3 : Nat) = some (V.int IntKind.i64 n18) ∧ V.int IntKind.i64 n18 = V.int IntKind.i64 n14) ∧ V.ptr (some (i, (3 : Nat))) = V.ptr (some (i, (3 : Nat))) ∧ V.ptr (some (i, (0 :
  Nat))) = V.ptr (some (i, (0 : Nat))) ∧ V.ptr (some (i, (0 : Nat))) = V.ptr (some (i, (0 : Nat))) ∧ bif ltI (64 : Int) (IntKind.i64.wrap (IntKind.i64.wrap (IntKind.i64.wrap (n14 + (1 : Int)) - n15) - n17)) then K (V.bool false) h'9 else ∃
  (r1 : Option Nat), h'9.ld i (2 : Nat) = some (V.map r1) ∧ ∃ (n19 : Int), ∃ (n20 : Int), ∃ (h'10 : Hp), xmapEntry T h'9 (73 : Nat) (V.map r1) (V.int IntKind.u32 a1) = some (V.tup [V.int IntKind.u8 n19, V.int IntKind.i64 n20], h'10) ∧ ∃
  (h'11 : Hp), xentryStore h'10 (V.map r1) (V.int IntKind.i64 n20) (V.int IntKind.u8 c) = some h'11 ∧ ∃ (h'12 : Hp), h'11.st i (3 : Nat) [V.int IntKind.i64 (IntKind.i64.wrap (IntKind.i64.wrap (IntKind.i64.wrap (n14 + (1 : Int)) - n15) -
  n17))] = some h'12 ∧ K (V.bool true) h'12
theorem y43 (h : Hp) (K : V → Hp → Prop) (i : Nat) (a1 : Int) (c : Int) : X43 h K i a1 c = fnX Try.prog T F jl43 jj43 Try.f43 [V.ptr (some (i, (0 : Nat))), V.int IntKind.u32 a1, V.int IntKind.u8 c] h K := by kernel_rfl
theorem x43 {h : Hp} {K : V → Hp → Prop} (i : Nat) (a1 : Int) (c : Int) (hx : X43 h K i a1 c) : XCalls Try.prog 43 [V.ptr (some (i, (0 : Nat))), V.int IntKind.u32 a1, V.int IntKind.u8 c] h K :=
  XCalls.ofX tok fok mixed (JL := jl43) (JJ := jj43) Try.func43 ((y43 h K i a1 c) ▸ hx)
/-! 44: (*stevedore/flow.In).joins -/
-- loop 1000000: stays i(0); turns first(2)
def jl44 : Nat → Option JT := fun r => bif Nat.beq r 1000000 then some ⟨[0], [2], [V.bool false]⟩ else none
def jj44 : Nat → Option JT := fun r => none
def X44 (h : Hp) (K : V → Hp → Prop) (i : Nat) : Prop := ∃ (I1 : List V → Hp → Prop), ∃ (x1 : List V → Hp → Nat), ∃ (N1 : Nat), (∃ (r1 : Option Nat), h.ld i (2 : Nat) = some (V.map r1) ∧ ∃ (n1 : Int), h.ld i (0 : Nat) = some (V.int
  IntKind.u32 n1) ∧ ∃ (n2 : Int), ∃ (b'1 : Bool), xlook T h (73 : Nat) (V.map r1) (V.int IntKind.u32 n1) true = some (V.tup [V.int IntKind.u8 n2, V.bool b'1]) ∧ bif !b'1 then K (V.tup []) h else ∃ (n3 : Int), h.ld i (3 : Nat) = some (V.int
  IntKind.i64 n3) ∧ ∃ (h'1 : Hp), h.st i (3 : Nat) [V.int IntKind.i64 (IntKind.i64.wrap (n3 - (1 : Int)))] = some h'1 ∧ ∃ (r2 : Option Nat), h'1.ld i (2 : Nat) = some (V.map r2) ∧ ∃ (n4 : Int), h'1.ld i (0 : Nat) = some (V.int IntKind.u32
  n4) ∧ ∃ (h'2 : Hp), xdel T h'1 (73 : Nat) (V.map r2) (V.int IntKind.u32 n4) = some h'2 ∧ ∃ (a1 : Option (Nat × Nat)), ∃ (n5 : Nat), ∃ (f1 : Bool), h'2.ld i (1 : Nat) = some (V.slc a1 n5 f1) ∧ ∃ (n6 : Int), h'2.ld i (0 : Nat) = some (V.int
  IntKind.u32 n6) ∧ ∀ (h'3 : Hp), h'3 = h'2.alloc (O.row [V.int IntKind.u8 n2] (1 : Nat) false) → V.int IntKind.u32 (IntKind.u32.wrap (n6 + (1 : Int))) = V.int IntKind.u32 (IntKind.u32.wrap (n6 + (1 : Int))) ∧ (∃ (n7 : Int), h'3.ld i (0 :
  Nat) = some (V.int IntKind.u32 n7) ∧ V.int IntKind.u32 n7 = V.int IntKind.u32 n6) ∧ V.ptr (some (i, (0 : Nat))) = V.ptr (some (i, (0 : Nat))) ∧ V.ptr (some (i, (0 : Nat))) = V.ptr (some (i, (0 : Nat))) ∧ V.ptr (some (i, (0 : Nat))) = V.ptr
  (some (i, (0 : Nat))) ∧ (∃ (a2 : Option (Nat × Nat)), ∃ (n8 : Nat), ∃ (f2 : Bool), h'3.ld i (1 : Nat) = some (V.slc a2 n8 f2) ∧ V.slc a2 n8 f2 = V.slc a1 n5 f1) ∧ V.ptr (some (i, (1 : Nat))) = V.ptr (some (i, (1 : Nat))) ∧ V.ptr (some (i,
  (0 : Nat))) = V.ptr (some (i, (0 : Nat))) ∧ V.ptr (some (i, (0 : Nat))) = V.ptr (some (i, (0 : Nat))) ∧ V.ptr (some (i, (0 : Nat))) = V.ptr (some (i, (0 : Nat))) ∧ V.ptr (some (i, (0 : Nat))) = V.ptr (some (i, (0 : Nat))) ∧ ∃ (p1 : Option
  (Nat × Nat)), ∃ (n9 : Nat), ∃ (f3 : Bool), ∃ (h'4 : Hp), xapp T h'3 (68 : Nat) (68 : Nat) (V.slc a1 n5 f1) (V.slc (some (h'2.next, (0 : Nat))) (1 : Nat) true) = some (V.slc p1 n9 f3, h'4) ∧ V.int IntKind.u32 (IntKind.u32.wrap (n6 + (1 :
  Int))) = V.int IntKind.u32 (IntKind.u32.wrap (n6 + (1 : Int))) ∧ (∃ (n10 : Int), h'4.ld i (0 : Nat) = some (V.int IntKind.u32 n10) ∧ V.int IntKind.u32 n10 = V.int IntKind.u32 n6) ∧ V.ptr (some (i, (0 : Nat))) = V.ptr (some (i, (0 : Nat)))
  ∧ V.ptr (some (i, (0 : Nat))) = V.ptr (some (i, (0 : Nat))) ∧ V.ptr (some (i, (0 : Nat))) = V.ptr (some (i, (0 : Nat))) ∧ V.ptr (some (i, (0 : Nat))) = V.ptr (some (i, (0 : Nat))) ∧ V.ptr (some (i, (0 : Nat))) = V.ptr (some (i, (0 : Nat)))
  ∧ ∃ (h'5 : Hp), h'4.st i (1 : Nat) [V.slc p1 n9 f3] = some h'5 ∧ V.int IntKind.u32 (IntKind.u32.wrap (n6 + (1 : Int))) = V.int IntKind.u32 (IntKind.u32.wrap (n6 + (1 : Int))) ∧ V.ptr (some (i, (0 : Nat))) = V.ptr (some (i, (0 : Nat))) ∧ ∃
  (h'6 : Hp), h'5.st i (0 : Nat) [V.int IntKind.u32 (IntKind.u32.wrap (n6 + (1 : Int)))] = some h'6 ∧ [V.ptr (some (i, (0 : Nat)))] = [V.ptr (some (i, (0 : Nat)))] ∧ I1 [V.bool false] h'6 ∧ x1 [V.bool false] h'6 < N1) ∧ ∀ (bs1 : Nat → Option
  V) (b1 : Bool) (h1 : Hp), I1 [V.bool b1] h1 → ∃ (r3 : Option Nat), h1.ld i (2 : Nat) = some (V.map r3) ∧ ∃ (n11 : Int), h1.ld i (0 : Nat) = some (V.int IntKind.u32 n11) ∧ ∃ (n12 : Int), ∃ (b'2 : Bool), xlook T h1 (73 : Nat) (V.map r3)
  (V.int IntKind.u32 n11) true = some (V.tup [V.int IntKind.u8 n12, V.bool b'2]) ∧ bif !b'2 then K (V.tup []) h1 else bif b1 then ∃ (n13 : Int), h1.ld i (3 : Nat) = some (V.int IntKind.i64 n13) ∧ ∃ (h'7 : Hp), h1.st i (3 : Nat) [V.int
  IntKind.i64 (IntKind.i64.wrap (n13 - (1 : Int)))] = some h'7 ∧ ∃ (r4 : Option Nat), h'7.ld i (2 : Nat) = some (V.map r4) ∧ ∃ (n14 : Int), h'7.ld i (0 : Nat) = some (V.int IntKind.u32 n14) ∧ ∃ (h'8 : Hp), xdel T h'7 (73 : Nat) (V.map r4)
  (V.int IntKind.u32 n14) = some h'8 ∧ ∃ (a3 : Option (Nat × Nat)), ∃ (n15 : Nat), ∃ (f4 : Bool), h'8.ld i (1 : Nat) = some (V.slc a3 n15 f4) ∧ ∃ (n16 : Int), h'8.ld i (0 : Nat) = some (V.int IntKind.u32 n16) ∧ ∀ (h'9 : Hp), h'9 = h'8.alloc
  (O.row [V.int IntKind.u8 n12] (1 : Nat) false) → V.int IntKind.u32 (IntKind.u32.wrap (n16 + (1 : Int))) = V.int IntKind.u32 (IntKind.u32.wrap (n16 + (1 : Int))) ∧ (∃ (n17 : Int), h'9.ld i (0 : Nat) = some (V.int IntKind.u32 n17) ∧ V.int
  IntKind.u32 n17 = V.int IntKind.u32 n16) ∧ V.ptr (some (i, (0 : Nat))) = V.ptr (some (i, (0 : Nat))) ∧ V.ptr (some (i, (0 : Nat))) = V.ptr (some (i, (0 : Nat))) ∧ V.ptr (some (i, (0 : Nat))) = V.ptr (some (i, (0 : Nat))) ∧ (∃ (a4 : Option
  (Nat × Nat)), ∃ (n18 : Nat), ∃ (f5 : Bool), h'9.ld i (1 : Nat) = some (V.slc a4 n18 f5) ∧ V.slc a4 n18 f5 = V.slc a3 n15 f4) ∧ V.ptr (some (i, (1 : Nat))) = V.ptr (some (i, (1 : Nat))) ∧ V.ptr (some (i, (0 : Nat))) = V.ptr (some (i, (0 :
  Nat))) ∧ V.ptr (some (i, (0 : Nat))) = V.ptr (some (i, (0 : Nat))) ∧ V.ptr (some (i, (0 : Nat))) = V.ptr (some (i, (0 : Nat))) ∧ V.ptr (some (i, (0 : Nat))) = V.ptr (some (i, (0 : Nat))) ∧ ∃ (p2 : Option (Nat × Nat)), ∃ (n19 : Nat), ∃ (f6
  : Bool), ∃ (h'10 : Hp), xapp T h'9 (68 : Nat) (68 : Nat) (V.slc a3 n15 f4) (V.slc (some (h'8.next, (0 : Nat))) (1 : Nat) true) = some (V.slc p2 n19 f6, h'10) ∧ V.int IntKind.u32 (IntKind.u32.wrap (n16 + (1 : Int))) = V.int IntKind.u32
  (IntKind.u32.wrap (n16 + (1 : Int))) ∧ (∃ (n20 : Int), h'10.ld i (0 : Nat) = some (V.int IntKind.u32 n20) ∧ V.int IntKind.u32 n20 = V.int IntKind.u32 n16) ∧ V.ptr (some (i, (0 : Nat))) = V.ptr (some (i, (0 : Nat))) ∧ V.ptr (some (i, (0 :
  Nat))) = V.ptr (some (i, (0 : Nat))) ∧ V.ptr (some (i, (0 : Nat))) = V.ptr (some (i, (0 : Nat))) ∧ V.ptr (some (i, (0 : Nat))) = V.ptr (some (i, (0 : Nat))) ∧ V.ptr (some (i, (0 : Nat))) = V.ptr (some (i, (0 : Nat))) ∧ ∃ (h'11 : Hp),
  h'10.st i (1 : Nat) [V.slc p2 n19 f6] = some h'11 ∧ V.int IntKind.u32 (IntKind.u32.wrap (n16 + (1 : Int))) = V.int IntKind.u32 (IntKind.u32.wrap (n16 + (1 : Int))) ∧ V.ptr (some (i, (0 : Nat))) = V.ptr (some (i, (0 : Nat))) ∧ ∃ (h'12 :
  Hp), h'11.st i (0 : Nat) [V.int IntKind.u32 (IntKind.u32.wrap (n16 + (1 : Int)))] = some h'12 ∧ [V.ptr (some (i, (0 : Nat)))] = [V.ptr (some (i, (0 : Nat)))] ∧ I1 [V.bool false] h'12 ∧ x1 [V.bool false] h'12 < x1 [V.bool b1] h1 else ∃ (r5
  : Option Nat), h1.ld i (2 : Nat) = some (V.map r5) ∧ ∃ (n21 : Int), h1.ld i (0 : Nat) = some (V.int IntKind.u32 n21) ∧ ∃ (h'13 : Hp), xdel T h1 (73 : Nat) (V.map r5) (V.int IntKind.u32 n21) = some h'13 ∧ ∃ (a5 : Option (Nat × Nat)), ∃ (n22
  : Nat), ∃ (f7 : Bool), h'13.ld i (1 : Nat) = some (V.slc a5 n22 f7) ∧ ∃ (n23 : Int), h'13.ld i (0 : Nat) = some (V.int IntKind.u32 n23) ∧ ∀ (h'14 : Hp), h'14 = h'13.alloc (O.row [V.int IntKind.u8 n12] (1 : Nat) false) → V.int IntKind.u32
  (IntKind.u32.wrap (n23 + (1 : Int))) = V.int IntKind.u32 (IntKind.u32.wrap (n23 + (1 : Int))) ∧ (∃ (n24 : Int), h'14.ld i (0 : Nat) = some (V.int IntKind.u32 n24) ∧ V.int IntKind.u32 n24 = V.int IntKind.u32 n23) ∧ V.ptr (some (i, (0 :
  Nat))) = V.ptr (some (i, (0 : Nat))) ∧ V.ptr (some (i, (0 : Nat))) = V.ptr (some (i, (0 : Nat))) ∧ V.ptr (some (i, (0 : Nat))) = V.ptr (some (i, (0 : Nat))) ∧ (∃ (a6 : Option (Nat × Nat)), ∃ (n25 : Nat), ∃ (f8 : Bool), h'14.ld i (1 : Nat)
  = some (V.slc a6 n25 f8) ∧ V.slc a6 n25 f8 = V.slc a5 n22 f7) ∧ V.ptr (some (i, (1 : Nat))) = V.ptr (some (i, (1 : Nat))) ∧ V.ptr (some (i, (0 : Nat))) = V.ptr (some (i, (0 : Nat))) ∧ V.ptr (some (i, (0 : Nat))) = V.ptr (some (i, (0 :
  Nat))) ∧ V.ptr (some (i, (0 : Nat))) = V.ptr (some (i, (0 : Nat))) ∧ V.ptr (some (i, (0 : Nat))) = V.ptr (some (i, (0 : Nat))) ∧ ∃ (p3 : Option (Nat × Nat)), ∃ (n26 : Nat), ∃ (f9 : Bool), ∃ (h'15 : Hp), xapp T h'14 (68 : Nat) (68 : Nat)
  (V.slc a5 n22 f7) (V.slc (some (h'13.next, (0 : Nat))) (1 : Nat) true) = some (V.slc p3 n26 f9, h'15) ∧ V.int IntKind.u32 (IntKind.u32.wrap (n23 + (1 : Int))) = V.int IntKind.u32 (IntKind.u32.wrap (n23 + (1 : Int))) ∧ (∃ (n27 : Int),
  h'15.ld i (0 : Nat) = some (V.int IntKind.u32 n27) ∧ V.int IntKind.u32 n27 = V.int IntKind.u32 n23) ∧ V.ptr (some (i, (0 : Nat))) = V.ptr (some (i, (0 : Nat))) ∧ V.ptr (some (i, (0 : Nat))) = V.ptr (some (i, (0 : Nat))) ∧ V.ptr (some (i,
  (0 : Nat))) = V.ptr (some (i, (0 : Nat))) ∧ V.ptr (some (i, (0 : Nat))) = V.ptr (some (i, (0 : Nat))) ∧ V.ptr (some (i, (0 : Nat))) = V.ptr (some (i, (0 : Nat))) ∧ ∃ (h'16 : Hp), h'15.st i (1 : Nat) [V.slc p3 n26 f9] = some h'16 ∧ V.int
  IntKind.u32 (IntKind.u32.wrap (n23 + (1 : Int))) = V.int IntKind.u32 (IntKind.u32.wrap (n23 + (1 : Int))) ∧ V.ptr (some (i, (0 : Nat))) = V.ptr (some (i, (0 : Nat))) ∧ ∃ (h'17 : Hp), h'16.st i (0 : Nat) [V.int IntKind.u32 (IntKind.u32.wrap
  (n23 + (1 : Int)))] = some h'17 ∧ [V.ptr (some (i, (0 : Nat)))] = [V.ptr (some (i, (0 : Nat)))] ∧ I1 [V.bool b1] h'17 ∧ x1 [V.bool b1] h'17 < x1 [V.bool b1] h1
theorem y44 (h : Hp) (K : V → Hp → Prop) (i : Nat) : X44 h K i = fnX Try.prog T F jl44 jj44 Try.f44 [V.ptr (some (i, (0 : Nat)))] h K := by kernel_rfl
theorem x44 {h : Hp} {K : V → Hp → Prop} (i : Nat) (hx : X44 h K i) : XCalls Try.prog 44 [V.ptr (some (i, (0 : Nat)))] h K :=
  XCalls.ofX tok fok mixed (JL := jl44) (JJ := jj44) Try.func44 ((y44 h K i) ▸ hx)
/-! 28: (*stevedore/flow.In).Put -/
-- loop 5: stays i(0), at(1), text(2), window(7), (33); turns n(6), (34)
def jl28 : Nat → Option JT := fun r => bif Nat.beq r 5 then some ⟨[0, 1, 2, 7, 33], [6, 34], [V.int IntKind.i64 (0 : Int), V.int IntKind.i64 (0 : Int)]⟩ else none
def jj28 : Nat → Option JT := fun r => none
def X28 (h : Hp) (K : V → Hp → Prop) (i : Nat) (a1 : Int) (text : List UInt8) : Prop := ∃ (r1 : Option Nat), h.ld i (2 : Nat) = some (V.map r1) ∧ bif r1.isNone then K (V.int IntKind.i64 (0 : Int)) h else bif ltI (16384 : Int) (↑text.length :
  Int) then K (V.int IntKind.i64 (0 : Int)) h else ∃ (n1 : Int), h.ld i (0 : Nat) = some (V.int IntKind.u32 n1) ∧ XCalls Try.prog (30 : Nat) [V.ptr (some (i, (0 : Nat)))] h fun (v1 : V) (h'1 : Hp) => ∃ (n2 : Int), v1 = V.int IntKind.i64 n2 ∧
  (∃ (n3 : Int), h'1.ld i (0 : Nat) = some (V.int IntKind.u32 n3) ∧ V.int IntKind.u32 n3 = V.int IntKind.u32 n1) ∧ V.ptr (some (i, (0 : Nat))) = V.ptr (some (i, (0 : Nat))) ∧ V.ptr (some (i, (0 : Nat))) = V.ptr (some (i, (0 : Nat))) ∧ V.ptr
  (some (i, (0 : Nat))) = V.ptr (some (i, (0 : Nat))) ∧ ∃ (I1 : List V → Hp → Prop), ∃ (x1 : List V → Hp → Nat), ([V.ptr (some (i, (0 : Nat))), V.int IntKind.u32 a1, V.str text, V.int IntKind.u32 (IntKind.u32.wrap (IntKind.u32.wrap n2 +
  n1)), V.int IntKind.i64 (↑text.length : Int)] = [V.ptr (some (i, (0 : Nat))), V.int IntKind.u32 a1, V.str text, V.int IntKind.u32 (IntKind.u32.wrap (IntKind.u32.wrap n2 + n1)), V.int IntKind.i64 (↑text.length : Int)] ∧ I1 [V.int
  IntKind.i64 (0 : Int), V.int IntKind.i64 (0 : Int)] h'1) ∧ ∀ (bs1 : Nat → Option V) (n4 n5 : Int) (h1 : Hp), I1 [V.int IntKind.i64 n4, V.int IntKind.i64 n5] h1 → bif ltI n5 (↑text.length : Int) then bif !ltI (0 : Int) (IntKind.i32.wrap
  (IntKind.u32.wrap (IntKind.u32.wrap (IntKind.u32.wrap n2 + n1) - IntKind.u32.wrap (a1 + IntKind.u32.wrap n5)))) then [V.ptr (some (i, (0 : Nat))), V.int IntKind.u32 a1, V.str text, V.int IntKind.u32 (IntKind.u32.wrap (IntKind.u32.wrap n2 +
  n1)), V.int IntKind.i64 (↑text.length : Int)] = [V.ptr (some (i, (0 : Nat))), V.int IntKind.u32 a1, V.str text, V.int IntKind.u32 (IntKind.u32.wrap (IntKind.u32.wrap n2 + n1)), V.int IntKind.i64 (↑text.length : Int)] ∧ I1 [V.int
  IntKind.i64 n4, V.int IntKind.i64 (IntKind.i64.wrap (n5 + (1 : Int)))] h1 ∧ x1 [V.int IntKind.i64 n4, V.int IntKind.i64 (IntKind.i64.wrap (n5 + (1 : Int)))] h1 < x1 [V.int IntKind.i64 n4, V.int IntKind.i64 n5] h1 else ∃ (n6 : Int), h1.ld i
  (0 : Nat) = some (V.int IntKind.u32 n6) ∧ bif ltI (IntKind.i32.wrap (IntKind.u32.wrap (IntKind.u32.wrap (a1 + IntKind.u32.wrap n5) - n6))) (0 : Int) then [V.ptr (some (i, (0 : Nat))), V.int IntKind.u32 a1, V.str text, V.int IntKind.u32
  (IntKind.u32.wrap (IntKind.u32.wrap n2 + n1)), V.int IntKind.i64 (↑text.length : Int)] = [V.ptr (some (i, (0 : Nat))), V.int IntKind.u32 a1, V.str text, V.int IntKind.u32 (IntKind.u32.wrap (IntKind.u32.wrap n2 + n1)), V.int IntKind.i64
  (↑text.length : Int)] ∧ I1 [V.int IntKind.i64 n4, V.int IntKind.i64 (IntKind.i64.wrap (n5 + (1 : Int)))] h1 ∧ x1 [V.int IntKind.i64 n4, V.int IntKind.i64 (IntKind.i64.wrap (n5 + (1 : Int)))] h1 < x1 [V.int IntKind.i64 n4, V.int IntKind.i64
  n5] h1 else (0 : Int) ≤ n5 ∧ ∃ (b1 : UInt8), text.get?Internal n5.toNat = some b1 ∧ XCalls Try.prog (43 : Nat) [V.ptr (some (i, (0 : Nat))), V.int IntKind.u32 (IntKind.u32.wrap (a1 + IntKind.u32.wrap n5)), V.int IntKind.u8 (↑b1.toNat :
  Int)] h1 fun (v2 : V) (h'2 : Hp) => ∃ (b2 : Bool), v2 = V.bool b2 ∧ bif b2 then XCalls Try.prog (44 : Nat) [V.ptr (some (i, (0 : Nat)))] h'2 fun (v3 : V) (h'3 : Hp) => [V.ptr (some (i, (0 : Nat))), V.int IntKind.u32 a1, V.str text, V.int
  IntKind.u32 (IntKind.u32.wrap (IntKind.u32.wrap n2 + n1)), V.int IntKind.i64 (↑text.length : Int)] = [V.ptr (some (i, (0 : Nat))), V.int IntKind.u32 a1, V.str text, V.int IntKind.u32 (IntKind.u32.wrap (IntKind.u32.wrap n2 + n1)), V.int
  IntKind.i64 (↑text.length : Int)] ∧ I1 [V.int IntKind.i64 (IntKind.i64.wrap (n4 + (1 : Int))), V.int IntKind.i64 (IntKind.i64.wrap (n5 + (1 : Int)))] h'3 ∧ x1 [V.int IntKind.i64 (IntKind.i64.wrap (n4 + (1 : Int))), V.int IntKind.i64
  (IntKind.i64.wrap (n5 + (1 : Int)))] h'3 < x1 [V.int IntKind.i64 n4, V.int IntKind.i64 n5] h1 else XCalls Try.prog (44 : Nat) [V.ptr (some (i, (0 : Nat)))] h'2 fun (v4 : V) (h'4 : Hp) => [V.ptr (some (i, (0 : Nat))), V.int IntKind.u32 a1,
  V.str text, V.int IntKind.u32 (IntKind.u32.wrap (IntKind.u32.wrap n2 + n1)), V.int IntKind.i64 (↑text.length : Int)] = [V.ptr (some (i, (0 : Nat))), V.int IntKind.u32 a1, V.str text, V.int IntKind.u32 (IntKind.u32.wrap (IntKind.u32.wrap n2
  + n1)), V.int IntKind.i64 (↑text.length : Int)] ∧ I1 [V.int IntKind.i64 n4, V.int IntKind.i64 (IntKind.i64.wrap (n5 + (1 : Int)))] h'4 ∧ x1 [V.int IntKind.i64 n4, V.int IntKind.i64 (IntKind.i64.wrap (n5 + (1 : Int)))] h'4 < x1 [V.int
  IntKind.i64 n4, V.int IntKind.i64 n5] h1 else K (V.int IntKind.i64 n4) h1
theorem y28 (h : Hp) (K : V → Hp → Prop) (i : Nat) (a1 : Int) (text : List UInt8) : X28 h K i a1 text = fnX Try.prog T F jl28 jj28 Try.f28 [V.ptr (some (i, (0 : Nat))), V.int IntKind.u32 a1, V.str text] h K := by kernel_rfl
theorem x28 {h : Hp} {K : V → Hp → Prop} (i : Nat) (a1 : Int) (text : List UInt8) (hx : X28 h K i a1 text) : XCalls Try.prog 28 [V.ptr (some (i, (0 : Nat))), V.int IntKind.u32 a1, V.str text] h K :=
  XCalls.ofX tok fok mixed (JL := jl28) (JJ := jj28) Try.func28 ((y28 h K i a1 text) ▸ hx)
/-! 27: (*stevedore/flow.In).Fin -/
-- loop 7: stays i(0), at(1), (44); turns behind(6)
-- join 12: stays i(0); turns 
def jl27 : Nat → Option JT := fun r => bif Nat.beq r 7 then some ⟨[0, 1, 44], [6], [V.bool false]⟩ else none
def jj27 : Nat → Option JT := fun r => bif Nat.beq r 12 then some ⟨[0], [], []⟩ else none
def X27 (h : Hp) (K : V → Hp → Prop) (i : Nat) (a1 : Int) : Prop := ∃ (r1 : Option Nat), h.ld i (2 : Nat) = some (V.map r1) ∧ bif r1.isNone then K (V.bool false) h else ∃ (n1 : Int), h.ld i (0 : Nat) = some (V.int IntKind.u32 n1) ∧ ∃ (Q1 :
  List V → Hp → Prop), (∃ (b1 : Bool), h.ld i (5 : Nat) = some (V.bool b1) ∧ bif !b1 then bif !ltI (IntKind.i32.wrap (IntKind.u32.wrap (a1 - n1))) (0 : Int) then XCalls Try.prog (30 : Nat) [V.ptr (some (i, (0 : Nat)))] h fun (v1 : V) (h'1 :
  Hp) => ∃ (n2 : Int), v1 = V.int IntKind.i64 n2 ∧ bif !ltI n2 (IntKind.i64.wrap (IntKind.i32.wrap (IntKind.u32.wrap (a1 - n1)))) then ∃ (r2 : Option Nat), h'1.ld i (2 : Nat) = some (V.map r2) ∧ ∃ (h'2 : Hp), xrange T h'1 (73 : Nat) (V.map
  r2) = some (V.ptr (some (h'1.next, (0 : Nat))), h'2) ∧ ∃ (I1 : List V → Hp → Prop), ∃ (x1 : List V → Hp → Nat), ([V.ptr (some (i, (0 : Nat))), V.int IntKind.u32 a1, V.ptr (some (h'1.next, (0 : Nat)))] = [V.ptr (some (i, (0 : Nat))), V.int
  IntKind.u32 a1, V.ptr (some (h'1.next, (0 : Nat)))] ∧ I1 [V.bool false] h'2) ∧ ∀ (bs1 : Nat → Option V) (b2 : Bool) (h1 : Hp), I1 [V.bool b2] h1 → ∃ (l1 : List (V × Hp)), xnext h1 (V.ptr (some (h'1.next, (0 : Nat)))) = some l1 ∧ (List.Mem
  (V.tup [V.bool false], h1) l1 → bif !b2 then ∃ (h'3 : Hp), h1.st i (5 : Nat) [V.bool true] = some h'3 ∧ ∃ (h'4 : Hp), h'3.st i (6 : Nat) [V.int IntKind.u32 a1] = some h'4 ∧ [V.ptr (some (i, (0 : Nat)))] = [V.ptr (some (i, (0 : Nat)))] ∧ Q1
  [] h'4 else [V.ptr (some (i, (0 : Nat)))] = [V.ptr (some (i, (0 : Nat)))] ∧ Q1 [] h1) ∧ (∀ (r3 : V × Hp), List.Mem r3 l1 → r3 = (V.tup [V.bool false], h1) ∨ ∃ (a1 : V), ∃ (b3 : V), r3.1 = V.tup [V.bool true, a1, b3]) ∧ ∀ (a2 b4 : V) (h'5 :
  Hp), List.Mem (V.tup [V.bool true, a2, b4], h'5) l1 → ∃ (n3 : Int), ∃ (v2 : V), xentry h'5 (V.ptr (some (h'1.next, (0 : Nat)))) = some (V.tup [V.int IntKind.u32 n3, v2]) ∧ bif b2 then [V.ptr (some (i, (0 : Nat))), V.int IntKind.u32 a1,
  V.ptr (some (h'1.next, (0 : Nat)))] = [V.ptr (some (i, (0 : Nat))), V.int IntKind.u32 a1, V.ptr (some (h'1.next, (0 : Nat)))] ∧ I1 [V.bool true] h'5 ∧ x1 [V.bool true] h'5 < x1 [V.bool b2] h1 else [V.ptr (some (i, (0 : Nat))), V.int
  IntKind.u32 a1, V.ptr (some (h'1.next, (0 : Nat)))] = [V.ptr (some (i, (0 : Nat))), V.int IntKind.u32 a1, V.ptr (some (h'1.next, (0 : Nat)))] ∧ I1 [V.bool !ltI (IntKind.i32.wrap (IntKind.u32.wrap (n3 - a1))) (0 : Int)] h'5 ∧ x1 [V.bool
  !ltI (IntKind.i32.wrap (IntKind.u32.wrap (n3 - a1))) (0 : Int)] h'5 < x1 [V.bool b2] h1 else [V.ptr (some (i, (0 : Nat)))] = [V.ptr (some (i, (0 : Nat)))] ∧ Q1 [] h'1 else [V.ptr (some (i, (0 : Nat)))] = [V.ptr (some (i, (0 : Nat)))] ∧ Q1
  [] h else [V.ptr (some (i, (0 : Nat)))] = [V.ptr (some (i, (0 : Nat)))] ∧ Q1 [] h) ∧ ∀ (bs2 : Nat → Option V) (h2 : Hp), Q1 [] h2 → ∃ (b5 : Bool), h2.ld i (5 : Nat) = some (V.bool b5) ∧ bif b5 then ∃ (n4 : Int), h2.ld i (6 : Nat) = some
  (V.int IntKind.u32 n4) ∧ ∃ (n5 : Int), h2.ld i (0 : Nat) = some (V.int IntKind.u32 n5) ∧ K (V.bool (n4 == n5)) h2 else K (V.bool false) h2
theorem y27 (h : Hp) (K : V → Hp → Prop) (i : Nat) (a1 : Int) : X27 h K i a1 = fnX Try.prog T F jl27 jj27 Try.f27 [V.ptr (some (i, (0 : Nat))), V.int IntKind.u32 a1] h K := by kernel_rfl
theorem x27 {h : Hp} {K : V → Hp → Prop} (i : Nat) (a1 : Int) (hx : X27 h K i a1) : XCalls Try.prog 27 [V.ptr (some (i, (0 : Nat))), V.int IntKind.u32 a1] h K :=
  XCalls.ofX tok fok mixed (JL := jl27) (JJ := jj27) Try.func27 ((y27 h K i a1) ▸ hx)
/-! 26: (*stevedore/flow.In).Read -/
def jl26 : Nat → Option JT := fun r => none
def jj26 : Nat → Option JT := fun r => none
def X26 (h : Hp) (K : V → Hp → Prop) (i : Nat) (n : Int) : Prop := ∃ (a1 : Option (Nat × Nat)), ∃ (n1 : Nat), ∃ (f1 : Bool), h.ld i (1 : Nat) = some (V.slc a1 n1 f1) ∧ ∃ (a2 : Option (Nat × Nat)), ∃ (n2 : Nat), ∃ (f2 : Bool), h.ld i (1 :
  Nat) = some (V.slc a2 n2 f2) ∧ ∃ (a3 : Option (Nat × Nat)), ∃ (n3 : Nat), ∃ (f3 : Bool), xslice T h (68 : Nat) (V.slc a2 n2 f2) none (some (V.int IntKind.i64 (bif ltI (↑n1 : Int) (bif ltI n (0 : Int) then (0 : Int) else n) then (↑n1 : Int)
  else bif ltI n (0 : Int) then (0 : Int) else n))) none = some (V.slc a3 n3 f3) ∧ ∃ (s1 : List UInt8), xconv T h (68 : Nat) (9 : Nat) (V.slc a3 n3 f3) = some (V.str s1) ∧ ∃ (a4 : Option (Nat × Nat)), ∃ (n4 : Nat), ∃ (f4 : Bool), h.ld i (1 :
  Nat) = some (V.slc a4 n4 f4) ∧ ∃ (a5 : Option (Nat × Nat)), ∃ (n5 : Nat), ∃ (f5 : Bool), xslice T h (68 : Nat) (V.slc a4 n4 f4) (some (V.int IntKind.i64 (bif ltI (↑n1 : Int) (bif ltI n (0 : Int) then (0 : Int) else n) then (↑n1 : Int) else
  bif ltI n (0 : Int) then (0 : Int) else n))) none none = some (V.slc a5 n5 f5) ∧ ∃ (h'1 : Hp), h.st i (1 : Nat) [V.slc a5 n5 f5] = some h'1 ∧ K (V.str s1) h'1
theorem y26 (h : Hp) (K : V → Hp → Prop) (i : Nat) (n : Int) : X26 h K i n = fnX Try.prog T F jl26 jj26 Try.f26 [V.ptr (some (i, (0 : Nat))), V.int IntKind.i64 n] h K := by kernel_rfl
theorem x26 {h : Hp} {K : V → Hp → Prop} (i : Nat) (n : Int) (hx : X26 h K i n) : XCalls Try.prog 26 [V.ptr (some (i, (0 : Nat))), V.int IntKind.i64 n] h K :=
  XCalls.ofX tok fok mixed (JL := jl26) (JJ := jj26) Try.func26 ((y26 h K i n) ▸ hx) 
end Go.Vex
