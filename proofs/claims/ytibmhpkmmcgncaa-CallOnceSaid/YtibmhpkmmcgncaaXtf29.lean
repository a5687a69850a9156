/-
  call.Table as statements about data: Close, Free, To (printed by VexPrint).
-/
import Derived.Test.YtibmhpkmmcgncaaVexX
import Derived.Test.YtibmhpkmmcgncaaTab29
set_option linter.unusedVariables false
set_option maxRecDepth 100000
namespace Go.Vex
open Go.Proofs
/-! 20: (*stevedore/call.Table).Close -/
def jl20 : Nat → Option JT := fun r => none
def jj20 : Nat → Option JT := fun r => none
def X20 (h : Hp) (K : V → Hp → Prop) (t : Nat) (fd : Int) : Prop :=
  ∀ (h'1 : Hp),
  h'1 = h.alloc (O.row [V.int IntKind.u8 (0 : Int), V.int IntKind.u8 (0 : Int), V.int IntKind.u64 (0 : Int), V.bool false] (1 : Nat) false) →
    ∃ (r1 : Option Nat),
      h'1.ld t (2 : Nat) = some (V.map r1) ∧
        bif r1.isNone then
          ∃ (h'2 : Hp),
            h'1.st h.next (0 : Nat) [V.int IntKind.u8 (0 : Int), V.int IntKind.u8 (0 : Int), V.int IntKind.u64 (0 : Int), V.bool false] = some h'2 ∧
              ∃ (n1 : Int),
                ∃ (n2 : Int),
                  ∃ (n3 : Int),
                    ∃ (b1 : Bool),
                      h'2.lda h.next (0 : Nat) (4 : Nat) = some (V.agg [V.int IntKind.u8 n1, V.int IntKind.u8 n2, V.int IntKind.u64 n3, V.bool b1]) ∧
                        K (V.tup [V.agg [V.int IntKind.u8 n1, V.int IntKind.u8 n2, V.int IntKind.u64 n3, V.bool b1], V.int IntKind.i64 (1 : Int)]) h'2
        else
          ∃ (r2 : Option Nat),
            h'1.ld t (2 : Nat) = some (V.map r2) ∧
              ∃ (n4 : Int),
                ∃ (n5 : Int),
                  ∃ (n6 : Int),
                    ∃ (b2 : Bool),
                      ∃ (b'1 : Bool),
                        xlook T h'1 (80 : Nat) (V.map r2) (V.int IntKind.i64 fd) true = some (V.tup [V.agg [V.int IntKind.u8 n4, V.int IntKind.u8 n5, V.int IntKind.u64 n6, V.bool b2], V.bool b'1]) ∧
                          ∀ (h'3 : Hp),
                            h'3 = h'1.alloc (O.row [V.int IntKind.u8 (0 : Int), V.int IntKind.u8 (0 : Int), V.int IntKind.u64 (0 : Int), V.bool false] (1 : Nat) false) →
                              ∃ (h'4 : Hp),
                                h'3.st h'1.next (0 : Nat) [V.int IntKind.u8 n4, V.int IntKind.u8 n5, V.int IntKind.u64 n6, V.bool b2] = some h'4 ∧
                                  bif !b'1 then
                                    ∃ (h'5 : Hp),
                                      h'4.st h.next (0 : Nat) [V.int IntKind.u8 (0 : Int), V.int IntKind.u8 (0 : Int), V.int IntKind.u64 (0 : Int), V.bool false] = some h'5 ∧
                                        ∃ (n7 : Int),
                                          ∃ (n8 : Int),
                                            ∃ (n9 : Int),
                                              ∃ (b3 : Bool),
                                                h'5.lda h.next (0 : Nat) (4 : Nat) = some (V.agg [V.int IntKind.u8 n7, V.int IntKind.u8 n8, V.int IntKind.u64 n9, V.bool b3]) ∧
                                                  K (V.tup [V.agg [V.int IntKind.u8 n7, V.int IntKind.u8 n8, V.int IntKind.u64 n9, V.bool b3], V.int IntKind.i64 (290 : Int)]) h'5
                                  else
                                    ∃ (r3 : Option Nat),
                                      h'4.ld t (2 : Nat) = some (V.map r3) ∧
                                        ∃ (h'6 : Hp),
                                          xdel T h'4 (80 : Nat) (V.map r3) (V.int IntKind.i64 fd) = some h'6 ∧
                                            ∃ (n10 : Int),
                                              ∃ (n11 : Int),
                                                ∃ (n12 : Int),
                                                  ∃ (b4 : Bool),
                                                    h'6.lda h'1.next (0 : Nat) (4 : Nat) = some (V.agg [V.int IntKind.u8 n10, V.int IntKind.u8 n11, V.int IntKind.u64 n12, V.bool b4]) ∧
                                                      ∃ (h'7 : Hp),
                                                        h'6.st h.next (0 : Nat) [V.int IntKind.u8 n10, V.int IntKind.u8 n11, V.int IntKind.u64 n12, V.bool b4] = some h'7 ∧
                                                          ∃ (n13 : Int),
                                                            ∃ (n14 : Int),
                                                              ∃ (n15 : Int),
                                                                ∃ (b5 : Bool),
                                                                  h'7.lda h.next (0 : Nat) (4 : Nat) = some (V.agg [V.int IntKind.u8 n13, V.int IntKind.u8 n14, V.int IntKind.u64 n15, V.bool b5]) ∧
                                                                    K (V.tup [V.agg [V.int IntKind.u8 n13, V.int IntKind.u8 n14, V.int IntKind.u64 n15, V.bool b5], V.int IntKind.i64 (0 : Int)]) h'7
theorem y20 (h : Hp) (K : V → Hp → Prop) (t : Nat) (fd : Int) : X20 h K t fd = fnX Try.prog T F jl20 jj20 Try.f20 [V.ptr (some (t, (0 : Nat))), V.int IntKind.i64 fd] h K := by kernel_rfl
theorem x20 {h : Hp} {K : V → Hp → Prop} (t : Nat) (fd : Int) (hx : X20 h K t fd) : XCalls Try.prog 20 [V.ptr (some (t, (0 : Nat))), V.int IntKind.i64 fd] h K :=
  XCalls.ofX tok fok mixed (JL := jl20) (JJ := jj20) Try.func20 ((y20 h K t fd) ▸ hx)
/-! 21: (*stevedore/call.Table).Free -/
def jl21 : Nat → Option JT := fun r => none
def jj21 : Nat → Option JT := fun r => none
def X21 (h : Hp) (K : V → Hp → Prop) (t : Nat) (id : Int) : Prop :=
  ∃ (r1 : Option Nat),
  h.ld t (3 : Nat) = some (V.map r1) ∧
    ∃ (a1 : Option (Nat × Nat)),
      xlook T h (81 : Nat) (V.map r1) (V.int IntKind.u64 id) false = some (V.ptr a1) ∧
        bif a1.isNone then K (V.bool false) h
        else
          ∃ (r2 : Option Nat),
            h.ld t (3 : Nat) = some (V.map r2) ∧
              ∃ (h'1 : Hp),
                xdel T h (81 : Nat) (V.map r2) (V.int IntKind.u64 id) = some h'1 ∧
                  ∃ (a2 : Option (Nat × Nat)),
                    h'1.ld t (4 : Nat) = some (V.ptr a2) ∧
                      ∀ (h'2 : Hp),
                        h'2 = h'1.alloc (O.row [V.int IntKind.u64 id] (1 : Nat) false) →
                          XCalls Try.prog (51 : Nat) [V.ptr a2, V.slc (some (h'1.next, (0 : Nat))) (1 : Nat) true] h'2 fun (v1 : V) (h'3 : Hp) =>
                            ∃ (n1 : Int), v1 = V.int IntKind.i64 n1 ∧ K (V.bool true) h'3
theorem y21 (h : Hp) (K : V → Hp → Prop) (t : Nat) (id : Int) : X21 h K t id = fnX Try.prog T F jl21 jj21 Try.f21 [V.ptr (some (t, (0 : Nat))), V.int IntKind.u64 id] h K := by kernel_rfl
theorem x21 {h : Hp} {K : V → Hp → Prop} (t : Nat) (id : Int) (hx : X21 h K t id) : XCalls Try.prog 21 [V.ptr (some (t, (0 : Nat))), V.int IntKind.u64 id] h K :=
  XCalls.ofX tok fok mixed (JL := jl21) (JJ := jj21) Try.func21 ((y21 h K t id) ▸ hx)
/-! 25: (*stevedore/call.Table).To -/
def jl25 : Nat → Option JT := fun r => none
def jj25 : Nat → Option JT := fun r => none
def X25 (h : Hp) (K : V → Hp → Prop) (t : Nat) (proto : Int) (a_0 : Int) (a_1 : Int) : Prop :=
  ∀ (h'1 : Hp),
  h'1 = h.alloc (O.row [V.int IntKind.u32 a_0, V.int IntKind.u16 a_1] (1 : Nat) false) →
    ∃ (a1 : Option (Nat × Nat)),
      h'1.ld t (4 : Nat) = some (V.ptr a1) ∧
        ∃ (n1 : Int),
          ∃ (n2 : Int),
            h'1.lda h.next (0 : Nat) (2 : Nat) = some (V.agg [V.int IntKind.u32 n1, V.int IntKind.u16 n2]) ∧
              XCalls Try.prog (63 : Nat) [V.ptr a1, V.int IntKind.u8 proto, V.agg [V.int IntKind.u32 n1, V.int IntKind.u16 n2]] h'1 fun (v1 : V) (h'2 : Hp) =>
                ∃ (a2 : Option (Nat × Nat)), ∃ (n3 : Nat), ∃ (f1 : Bool), v1 = V.slc a2 n3 f1 ∧ K (V.slc a2 n3 f1) h'2
theorem y25 (h : Hp) (K : V → Hp → Prop) (t : Nat) (proto : Int) (a_0 : Int) (a_1 : Int) : X25 h K t proto a_0 a_1 = fnX Try.prog T F jl25 jj25 Try.f25 [V.ptr (some (t, (0 : Nat))), V.int IntKind.u8 proto, V.agg [V.int IntKind.u32 a_0, V.int IntKind.u16 a_1]] h K := by kernel_rfl
theorem x25 {h : Hp} {K : V → Hp → Prop} (t : Nat) (proto : Int) (a_0 : Int) (a_1 : Int) (hx : X25 h K t proto a_0 a_1) : XCalls Try.prog 25 [V.ptr (some (t, (0 : Nat))), V.int IntKind.u8 proto, V.agg [V.int IntKind.u32 a_0, V.int IntKind.u16 a_1]] h K :=
  XCalls.ofX tok fok mixed (JL := jl25) (JJ := jj25) Try.func25 ((y25 h K t proto a_0 a_1) ▸ hx)
end Go.Vex
