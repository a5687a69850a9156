/-
  What no end answers (printed by VexPrint).
-/
import Derived.Test.YtkfnokgfgcfldaaGreatVexX
import Derived.Test.YtkfnokgfgcfldaaGreatVexJJ
import Derived.Test.YtkfnokgfgcfldaaGreatTab27
set_option linter.unusedVariables false
set_option maxRecDepth 100000
namespace Go.Vex
open Go.Proofs
/-! 17: (*stevedore/tcb.Tcb).Next -/
-- loop 4: stays t(0), (28); turns least(2), is(3), (29)
def jl17n : Nat → Option JT := fun r => bif Nat.beq r 4 then some ⟨[0, 28], [2, 3, 29], [V.int IntKind.i64 (0 : Int), V.bool false, V.int IntKind.i64 (0 : Int)]⟩ else none
def jj17n : Nat → Option JT := fun r => none
def X17n (h : Hp) (K : V → Hp → Prop)  : Prop :=
  K (V.tup [V.int IntKind.i64 (0 : Int), V.bool false]) h
theorem y17n (h : Hp) (K : V → Hp → Prop)  : X17n h K  = fnX Tryz.prog T F jl17n jj17n Tryz.f17 [V.ptr none] h K := by kernel_rfl
theorem x17n {h : Hp} {K : V → Hp → Prop}  (hx : X17n h K ) : XCalls Tryz.prog 17 [V.ptr none] h K :=
  XCalls.ofXE tok fok mixed Tryz.func17 (y17n h K ) hx
/-! 18: (*stevedore/tcb.Tcb).Over -/
def jl18n : Nat → Option JT := fun r => none
def jj18n : Nat → Option JT := fun r => none
def X18n (h : Hp) (K : V → Hp → Prop)  : Prop :=
  K (V.int IntKind.u8 (0 : Int)) h
theorem y18n (h : Hp) (K : V → Hp → Prop)  : X18n h K  = fnX Tryz.prog T F jl18n jj18n Tryz.f18 [V.ptr none] h K := by kernel_rfl
theorem x18n {h : Hp} {K : V → Hp → Prop}  (hx : X18n h K ) : XCalls Tryz.prog 18 [V.ptr none] h K :=
  XCalls.ofXE tok fok mixed Tryz.func18 (y18n h K ) hx
/-! 24: (*stevedore/tcb.Tcb).Tick -/
-- loop 7: stays t(0), (56), (57); turns (58)
def jl24n : Nat → Option JT := fun r => bif Nat.beq r 7 then some ⟨[0, 56, 57], [58], [V.int IntKind.i64 (0 : Int)]⟩ else none
def jj24n : Nat → Option JT := fun r => none
def X24n (h : Hp) (K : V → Hp → Prop) (now : Int) : Prop :=
  K (V.int IntKind.i64 (1 : Int)) h
theorem y24n (h : Hp) (K : V → Hp → Prop) (now : Int) : X24n h K now = fnX Tryz.prog T F jl24n jj24n Tryz.f24 [V.ptr none, V.int IntKind.i64 now] h K := by kernel_rfl
theorem x24n {h : Hp} {K : V → Hp → Prop} (now : Int) (hx : X24n h K now) : XCalls Tryz.prog 24 [V.ptr none, V.int IntKind.i64 now] h K :=
  XCalls.ofXE tok fok mixed Tryz.func24 (y24n h K now) hx
/-! 25: (*stevedore/tcb.Tcb).Out -/
def jl25n : Nat → Option JT := fun r => none
def jj25n : Nat → Option JT := fun r => none
def X25n (h : Hp) (K : V → Hp → Prop)  : Prop :=
  K (V.slc none (0 : Nat) true) h
theorem y25n (h : Hp) (K : V → Hp → Prop)  : X25n h K  = fnX Tryz.prog T F jl25n jj25n Tryz.f25 [V.ptr none] h K := by kernel_rfl
theorem x25n {h : Hp} {K : V → Hp → Prop}  (hx : X25n h K ) : XCalls Tryz.prog 25 [V.ptr none] h K :=
  XCalls.ofXE tok fok mixed Tryz.func25 (y25n h K ) hx
/-! 26: (*stevedore/tcb.Tcb).Take -/
-- loop 12: stays t(0), x(4), (64), (65); turns (66)
def jl26n : Nat → Option JT := fun r => bif Nat.beq r 12 then some ⟨[0, 4, 64, 65], [66], [V.int IntKind.i64 (0 : Int)]⟩ else none
def jj26n : Nat → Option JT := fun r => none
def X26n (h : Hp) (K : V → Hp → Prop) (x_0 : Int) (x_1 : Int) (x_2 : Int) (x_3 : Int) (x_4 : Int) (x_5 : Int) (x_6 : Int) (x_7 : Int) (x_8 : Int) (x_9 : Int) (x_10 : Int) (x_11 : List UInt8) (now : Int) : Prop :=
  ∀ (h'1 : Hp),
  h'1 =
      h.alloc
        (O.row
          [V.int IntKind.u32 x_0, V.int IntKind.u16 x_1, V.int IntKind.u32 x_2, V.int IntKind.u16 x_3, V.int IntKind.u32 x_4, V.int IntKind.u32 x_5, V.int IntKind.u8 x_6, V.int IntKind.u16 x_7,
            V.int IntKind.u16 x_8, V.int IntKind.u16 x_9, V.int IntKind.i64 x_10, V.str x_11]
          (1 : Nat) false) →
    K (V.int IntKind.i64 (1 : Int)) h'1
theorem y26n (h : Hp) (K : V → Hp → Prop) (x_0 : Int) (x_1 : Int) (x_2 : Int) (x_3 : Int) (x_4 : Int) (x_5 : Int) (x_6 : Int) (x_7 : Int) (x_8 : Int) (x_9 : Int) (x_10 : Int) (x_11 : List UInt8) (now : Int) : X26n h K x_0 x_1 x_2 x_3 x_4 x_5 x_6 x_7 x_8 x_9 x_10 x_11 now = fnX Tryz.prog T F jl26n jj26n Tryz.f26 [V.ptr none,
  V.agg
    [V.int IntKind.u32 x_0, V.int IntKind.u16 x_1, V.int IntKind.u32 x_2, V.int IntKind.u16 x_3, V.int IntKind.u32 x_4, V.int IntKind.u32 x_5, V.int IntKind.u8 x_6, V.int IntKind.u16 x_7,
      V.int IntKind.u16 x_8, V.int IntKind.u16 x_9, V.int IntKind.i64 x_10, V.str x_11],
  V.int IntKind.i64 now] h K := by kernel_rfl
theorem x26n {h : Hp} {K : V → Hp → Prop} (x_0 : Int) (x_1 : Int) (x_2 : Int) (x_3 : Int) (x_4 : Int) (x_5 : Int) (x_6 : Int) (x_7 : Int) (x_8 : Int) (x_9 : Int) (x_10 : Int) (x_11 : List UInt8) (now : Int) (hx : X26n h K x_0 x_1 x_2 x_3 x_4 x_5 x_6 x_7 x_8 x_9 x_10 x_11 now) : XCalls Tryz.prog 26 [V.ptr none,
  V.agg
    [V.int IntKind.u32 x_0, V.int IntKind.u16 x_1, V.int IntKind.u32 x_2, V.int IntKind.u16 x_3, V.int IntKind.u32 x_4, V.int IntKind.u32 x_5, V.int IntKind.u8 x_6, V.int IntKind.u16 x_7,
      V.int IntKind.u16 x_8, V.int IntKind.u16 x_9, V.int IntKind.i64 x_10, V.str x_11],
  V.int IntKind.i64 now] h K :=
  XCalls.ofXE tok fok mixed Tryz.func26 (y26n h K x_0 x_1 x_2 x_3 x_4 x_5 x_6 x_7 x_8 x_9 x_10 x_11 now) hx
/-! 27: (*stevedore/tcb.Tcb).Ready -/
def jl27n : Nat → Option JT := fun r => none
def jj27n : Nat → Option JT := fun r => none
def X27n (h : Hp) (K : V → Hp → Prop)  : Prop :=
  K (V.int IntKind.i64 (0 : Int)) h
theorem y27n (h : Hp) (K : V → Hp → Prop)  : X27n h K  = fnX Tryz.prog T F jl27n jj27n Tryz.f27 [V.ptr none] h K := by kernel_rfl
theorem x27n {h : Hp} {K : V → Hp → Prop}  (hx : X27n h K ) : XCalls Tryz.prog 27 [V.ptr none] h K :=
  XCalls.ofXE tok fok mixed Tryz.func27 (y27n h K ) hx
/-! 29: (*stevedore/tcb.Tcb).Read -/
def jl29n : Nat → Option JT := fun r => none
def jj29n : Nat → Option JT := fun r => none
def X29n (h : Hp) (K : V → Hp → Prop) (n : Int) (now : Int) : Prop :=
  K (V.str []) h
theorem y29n (h : Hp) (K : V → Hp → Prop) (n : Int) (now : Int) : X29n h K n now = fnX Tryz.prog T F jl29n jj29n Tryz.f29 [V.ptr none, V.int IntKind.i64 n, V.int IntKind.i64 now] h K := by kernel_rfl
theorem x29n {h : Hp} {K : V → Hp → Prop} (n : Int) (now : Int) (hx : X29n h K n now) : XCalls Tryz.prog 29 [V.ptr none, V.int IntKind.i64 n, V.int IntKind.i64 now] h K :=
  XCalls.ofXE tok fok mixed Tryz.func29 (y29n h K n now) hx
/-! 31: (*stevedore/tcb.Tcb).Marks -/
def jl31n : Nat → Option JT := fun r => none
def jj31n : Nat → Option JT := fun r => none
def X31n (h : Hp) (K : V → Hp → Prop)  : Prop :=
  K (V.tup [V.int IntKind.u32 (0 : Int), V.int IntKind.u32 (0 : Int), V.int IntKind.u32 (0 : Int)]) h
theorem y31n (h : Hp) (K : V → Hp → Prop)  : X31n h K  = fnX Tryz.prog T F jl31n jj31n Tryz.f31 [V.ptr none] h K := by kernel_rfl
theorem x31n {h : Hp} {K : V → Hp → Prop}  (hx : X31n h K ) : XCalls Tryz.prog 31 [V.ptr none] h K :=
  XCalls.ofXE tok fok mixed Tryz.func31 (y31n h K ) hx
/-! 35: (*stevedore/tcb.Tcb).State -/
def jl35n : Nat → Option JT := fun r => none
def jj35n : Nat → Option JT := fun r => none
def X35n (h : Hp) (K : V → Hp → Prop)  : Prop :=
  K (V.int IntKind.u8 (0 : Int)) h
theorem y35n (h : Hp) (K : V → Hp → Prop)  : X35n h K  = fnX Tryz.prog T F jl35n jj35n Tryz.f35 [V.ptr none] h K := by kernel_rfl
theorem x35n {h : Hp} {K : V → Hp → Prop}  (hx : X35n h K ) : XCalls Tryz.prog 35 [V.ptr none] h K :=
  XCalls.ofXE tok fok mixed Tryz.func35 (y35n h K ) hx
/-! 42: (*stevedore/tcb.Tcb).Write -/
-- join 6: stays t(0), now(2), text(1); turns 
def jl42n : Nat → Option JT := fun r => none
def jj42n : Nat → Option JT := fun r => bif Nat.beq r 6 then some ⟨[0, 2, 1], [], []⟩ else none
def X42n (h : Hp) (K : V → Hp → Prop) (text : List UInt8) (now : Int) : Prop :=
  ∃ (Q1 : List V → Hp → Prop),
  K (V.tup [V.int IntKind.i64 (0 : Int), V.int IntKind.i64 (1 : Int)]) h ∧
    ∀ (bs1 : Nat → Option V) (h1 : Hp), Q1 [] h1 → XCalls Tryz.prog (61 : Nat) [V.ptr none, V.int IntKind.i64 now] h1 fun (v1 : V) (h'1 : Hp) => False
theorem y42n (h : Hp) (K : V → Hp → Prop) (text : List UInt8) (now : Int) : X42n h K text now = fnX Tryz.prog T F jl42n jj42n Tryz.f42 [V.ptr none, V.str text, V.int IntKind.i64 now] h K := by kernel_rfl
theorem x42n {h : Hp} {K : V → Hp → Prop} (text : List UInt8) (now : Int) (hx : X42n h K text now) : XCalls Tryz.prog 42 [V.ptr none, V.str text, V.int IntKind.i64 now] h K :=
  XCalls.ofXE tok fok mixed Tryz.func42 (y42n h K text now) hx
/-! 43: (*stevedore/tcb.Tcb).Shut -/
-- join 6: stays t(0), now(1); turns 
def jl43n : Nat → Option JT := fun r => none
def jj43n : Nat → Option JT := fun r => bif Nat.beq r 6 then some ⟨[0, 1], [], []⟩ else none
def X43n (h : Hp) (K : V → Hp → Prop) (now : Int) : Prop :=
  ∃ (Q1 : List V → Hp → Prop),
  K (V.int IntKind.i64 (1 : Int)) h ∧ ∀ (bs1 : Nat → Option V) (h1 : Hp), Q1 [] h1 → XCalls Tryz.prog (61 : Nat) [V.ptr none, V.int IntKind.i64 now] h1 fun (v1 : V) (h'1 : Hp) => False
theorem y43n (h : Hp) (K : V → Hp → Prop) (now : Int) : X43n h K now = fnX Tryz.prog T F jl43n jj43n Tryz.f43 [V.ptr none, V.int IntKind.i64 now] h K := by kernel_rfl
theorem x43n {h : Hp} {K : V → Hp → Prop} (now : Int) (hx : X43n h K now) : XCalls Tryz.prog 43 [V.ptr none, V.int IntKind.i64 now] h K :=
  XCalls.ofXE tok fok mixed Tryz.func43 (y43n h K now) hx
/-! 46: (*stevedore/tcb.Tcb).Room -/
def jl46n : Nat → Option JT := fun r => none
def jj46n : Nat → Option JT := fun r => none
def X46n (h : Hp) (K : V → Hp → Prop)  : Prop :=
  K (V.int IntKind.i64 (0 : Int)) h
theorem y46n (h : Hp) (K : V → Hp → Prop)  : X46n h K  = fnX Tryz.prog T F jl46n jj46n Tryz.f46 [V.ptr none] h K := by kernel_rfl
theorem x46n {h : Hp} {K : V → Hp → Prop}  (hx : X46n h K ) : XCalls Tryz.prog 46 [V.ptr none] h K :=
  XCalls.ofXE tok fok mixed Tryz.func46 (y46n h K ) hx
/-! 48: (*stevedore/tcb.Tcb).Close -/
-- join 6: stays t(0), now(1); turns 
def jl48n : Nat → Option JT := fun r => none
def jj48n : Nat → Option JT := fun r => bif Nat.beq r 6 then some ⟨[0, 1], [], []⟩ else none
def X48n (h : Hp) (K : V → Hp → Prop) (now : Int) : Prop :=
  ∃ (Q1 : List V → Hp → Prop),
  K (V.int IntKind.i64 (1 : Int)) h ∧ ∀ (bs1 : Nat → Option V) (h1 : Hp), Q1 [] h1 → XCalls Tryz.prog (61 : Nat) [V.ptr none, V.int IntKind.i64 now] h1 fun (v1 : V) (h'1 : Hp) => False
theorem y48n (h : Hp) (K : V → Hp → Prop) (now : Int) : X48n h K now = fnX Tryz.prog T F jl48n jj48n Tryz.f48 [V.ptr none, V.int IntKind.i64 now] h K := by kernel_rfl
theorem x48n {h : Hp} {K : V → Hp → Prop} (now : Int) (hx : X48n h K now) : XCalls Tryz.prog 48 [V.ptr none, V.int IntKind.i64 now] h K :=
  XCalls.ofXE tok fok mixed Tryz.func48 (y48n h K now) hx
/-! 49: (*stevedore/tcb.Tcb).Abort -/
def jl49n : Nat → Option JT := fun r => none
def jj49n : Nat → Option JT := fun r => none
def X49n (h : Hp) (K : V → Hp → Prop) (now : Int) : Prop :=
  K (V.int IntKind.i64 (1 : Int)) h
theorem y49n (h : Hp) (K : V → Hp → Prop) (now : Int) : X49n h K now = fnX Tryz.prog T F jl49n jj49n Tryz.f49 [V.ptr none, V.int IntKind.i64 now] h K := by kernel_rfl
theorem x49n {h : Hp} {K : V → Hp → Prop} (now : Int) (hx : X49n h K now) : XCalls Tryz.prog 49 [V.ptr none, V.int IntKind.i64 now] h K :=
  XCalls.ofXE tok fok mixed Tryz.func49 (y49n h K now) hx
/-! 50: (*stevedore/tcb.Tcb).Refuse -/
def jl50n : Nat → Option JT := fun r => none
def jj50n : Nat → Option JT := fun r => none
def X50n (h : Hp) (K : V → Hp → Prop) (now : Int) : Prop :=
  K (V.int IntKind.i64 (1 : Int)) h
theorem y50n (h : Hp) (K : V → Hp → Prop) (now : Int) : X50n h K now = fnX Tryz.prog T F jl50n jj50n Tryz.f50 [V.ptr none, V.int IntKind.i64 now] h K := by kernel_rfl
theorem x50n {h : Hp} {K : V → Hp → Prop} (now : Int) (hx : X50n h K now) : XCalls Tryz.prog 50 [V.ptr none, V.int IntKind.i64 now] h K :=
  XCalls.ofXE tok fok mixed Tryz.func50 (y50n h K now) hx
/-! 51: (*stevedore/tcb.Tcb).Opened -/
def jl51n : Nat → Option JT := fun r => none
def jj51n : Nat → Option JT := fun r => none
def X51n (h : Hp) (K : V → Hp → Prop)  : Prop :=
  K (V.bool false) h
theorem y51n (h : Hp) (K : V → Hp → Prop)  : X51n h K  = fnX Tryz.prog T F jl51n jj51n Tryz.f51 [V.ptr none] h K := by kernel_rfl
theorem x51n {h : Hp} {K : V → Hp → Prop}  (hx : X51n h K ) : XCalls Tryz.prog 51 [V.ptr none] h K :=
  XCalls.ofXE tok fok mixed Tryz.func51 (y51n h K ) hx
/-! 52: (*stevedore/tcb.Tcb).Ended -/
def jl52n : Nat → Option JT := fun r => none
def jj52n : Nat → Option JT := fun r => none
def X52n (h : Hp) (K : V → Hp → Prop)  : Prop :=
  K (V.bool false) h
theorem y52n (h : Hp) (K : V → Hp → Prop)  : X52n h K  = fnX Tryz.prog T F jl52n jj52n Tryz.f52 [V.ptr none] h K := by kernel_rfl
theorem x52n {h : Hp} {K : V → Hp → Prop}  (hx : X52n h K ) : XCalls Tryz.prog 52 [V.ptr none] h K :=
  XCalls.ofXE tok fok mixed Tryz.func52 (y52n h K ) hx
end Go.Vex
