/-
  ports: what none answers, as statements about data (printed by VexPrint).
-/
import Derived.Test.YtehihinmgejpaaaVexX
import Derived.Test.YtehihinmgejpaaaTab22
set_option linter.unusedVariables false
set_option maxRecDepth 100000
namespace Go.Vex
open Go.Proofs
/-! 11: (*stevedore/ports.Ports).Len -/
def jl11n : Nat → Option JT := fun r => none
def jj11n : Nat → Option JT := fun r => none
def X11n (h : Hp) (K : V → Hp → Prop)  : Prop :=
  K (V.int IntKind.i64 (0 : Int)) h
theorem y11n (h : Hp) (K : V → Hp → Prop)  : X11n h K  = fnX Try.prog T F jl11n jj11n Try.f11 [V.ptr none] h K := by kernel_rfl
theorem x11n {h : Hp} {K : V → Hp → Prop}  (hx : X11n h K ) : XCalls Try.prog 11 [V.ptr none] h K :=
  XCalls.ofX tok fok mixed (JL := jl11n) (JJ := jj11n) Try.func11 ((y11n h K ) ▸ hx)
/-! 12: (*stevedore/ports.Ports).Of -/
def jl12n : Nat → Option JT := fun r => none
def jj12n : Nat → Option JT := fun r => none
def X12n (h : Hp) (K : V → Hp → Prop) (socket : Int) : Prop :=
  ∀ (h'1 : Hp),
  h'1 = h.alloc (O.row [V.int IntKind.u8 (0 : Int), V.int IntKind.u32 (0 : Int), V.int IntKind.u16 (0 : Int), V.bool false] (1 : Nat) false) →
    ∃ (h'2 : Hp),
      h'1.st h.next (0 : Nat) [V.int IntKind.u8 (0 : Int), V.int IntKind.u32 (0 : Int), V.int IntKind.u16 (0 : Int), V.bool false] = some h'2 ∧
        ∃ (n1 : Int),
          ∃ (n2 : Int),
            ∃ (n3 : Int),
              ∃ (b1 : Bool),
                h'2.lda h.next (0 : Nat) (4 : Nat) = some (V.agg [V.int IntKind.u8 n1, V.int IntKind.u32 n2, V.int IntKind.u16 n3, V.bool b1]) ∧
                  K (V.tup [V.agg [V.int IntKind.u8 n1, V.int IntKind.u32 n2, V.int IntKind.u16 n3, V.bool b1], V.bool false]) h'2
theorem y12n (h : Hp) (K : V → Hp → Prop) (socket : Int) : X12n h K socket = fnX Try.prog T F jl12n jj12n Try.f12 [V.ptr none, V.int IntKind.u64 socket] h K := by kernel_rfl
theorem x12n {h : Hp} {K : V → Hp → Prop} (socket : Int) (hx : X12n h K socket) : XCalls Try.prog 12 [V.ptr none, V.int IntKind.u64 socket] h K :=
  XCalls.ofX tok fok mixed (JL := jl12n) (JJ := jj12n) Try.func12 ((y12n h K socket) ▸ hx)
/-! 14: (*stevedore/ports.Ports).At -/
def jl14n : Nat → Option JT := fun r => none
def jj14n : Nat → Option JT := fun r => none
def X14n (h : Hp) (K : V → Hp → Prop) (kind : Int) (a_0 : Int) (a_1 : Int) : Prop :=
  ∀ (h'1 : Hp), h'1 = h.alloc (O.row [V.int IntKind.u32 a_0, V.int IntKind.u16 a_1] (1 : Nat) false) → K (V.slc none (0 : Nat) true) h'1
theorem y14n (h : Hp) (K : V → Hp → Prop) (kind : Int) (a_0 : Int) (a_1 : Int) : X14n h K kind a_0 a_1 = fnX Try.prog T F jl14n jj14n Try.f14 [V.ptr none, V.int IntKind.u8 kind, V.agg [V.int IntKind.u32 a_0, V.int IntKind.u16 a_1]] h K := by kernel_rfl
theorem x14n {h : Hp} {K : V → Hp → Prop} (kind : Int) (a_0 : Int) (a_1 : Int) (hx : X14n h K kind a_0 a_1) : XCalls Try.prog 14 [V.ptr none, V.int IntKind.u8 kind, V.agg [V.int IntKind.u32 a_0, V.int IntKind.u16 a_1]] h K :=
  XCalls.ofX tok fok mixed (JL := jl14n) (JJ := jj14n) Try.func14 ((y14n h K kind a_0 a_1) ▸ hx)
/-! 16: (*stevedore/ports.Ports).Bind -/
def jl16n : Nat → Option JT := fun r => none
def jj16n : Nat → Option JT := fun r => none
def X16n (h : Hp) (K : V → Hp → Prop) (socket : Int) (b_0 : Int) (b_1 : Int) (b_2 : Int) (b_3 : Bool) : Prop :=
  ∀ (h'1 : Hp),
  h'1 = h.alloc (O.row [V.int IntKind.u8 b_0, V.int IntKind.u32 b_1, V.int IntKind.u16 b_2, V.bool b_3] (1 : Nat) false) →
    ∀ (h'2 : Hp),
      h'2 = h'1.alloc (O.row [V.int IntKind.i64 (0 : Int)] (1 : Nat) false) →
        ∃ (n1 : Int),
          ∃ (n2 : Int),
            ∃ (n3 : Int),
              ∃ (b1 : Bool),
                h'2.lda h.next (0 : Nat) (4 : Nat) = some (V.agg [V.int IntKind.u8 n1, V.int IntKind.u32 n2, V.int IntKind.u16 n3, V.bool b1]) ∧
                  XCalls Try.prog (24 : Nat) [V.ptr none, V.int IntKind.u64 socket, V.agg [V.int IntKind.u8 n1, V.int IntKind.u32 n2, V.int IntKind.u16 n3, V.bool b1], V.bool true] h'2
                    fun (v1 : V) (h'3 : Hp) =>
                    ∃ (n4 : Int),
                      v1 = V.int IntKind.i64 n4 ∧
                        bif n4 != (0 : Int) then
                          ∃ (h'4 : Hp),
                            h'3.st h'1.next (0 : Nat) [V.int IntKind.i64 n4] = some h'4 ∧ ∃ (n5 : Int), h'4.ld h'1.next (0 : Nat) = some (V.int IntKind.i64 n5) ∧ K (V.int IntKind.i64 n5) h'4
                        else
                          ∃ (n6 : Int),
                            ∃ (n7 : Int),
                              ∃ (n8 : Int),
                                ∃ (b2 : Bool),
                                  h'3.lda h.next (0 : Nat) (4 : Nat) = some (V.agg [V.int IntKind.u8 n6, V.int IntKind.u32 n7, V.int IntKind.u16 n8, V.bool b2]) ∧
                                    XCalls Try.prog (25 : Nat) [V.ptr none, V.agg [V.int IntKind.u8 n6, V.int IntKind.u32 n7, V.int IntKind.u16 n8, V.bool b2]] h'3 fun (v2 : V) (h'5 : Hp) =>
                                      ∃ (c1 : Nat),
                                        ∃ (c2 : Nat),
                                          v2 = V.fn (Fn.func (35 : Nat)) [] [V.ptr (some (c1, (0 : Nat))), V.ptr (some (c2, (0 : Nat)))] ∧
                                            ∀ (rec1 : LoopState → Option Code → O),
                                              LRec rec1 →
                                                ∀ (h'6 : Hp),
                                                  h'6 = (h'5.alloc (O.dfr true)).alloc (rec1 LoopState.ready none) →
                                                    (∀ (v3 : V) (n9 n10 n11 : Int) (b3 : Bool) (h1 : Hp) (K1 : V → Hp → Prop),
                                                        h1.get (h'5.next + (1 : Nat)) = some (rec1 LoopState.ready none) →
                                                          (∀ (h'7 : Hp),
                                                              h'7 =
                                                                  h1.alloc
                                                                    (O.row [V.int IntKind.u8 (0 : Int), V.int IntKind.u32 (0 : Int), V.int IntKind.u16 (0 : Int), V.bool false] (1 : Nat) false) →
                                                                ∃ (h'8 : Hp),
                                                                  h'7.st h1.next (0 : Nat) [V.int IntKind.u8 n9, V.int IntKind.u32 n10, V.int IntKind.u16 n11, V.bool b3] = some h'8 ∧
                                                                    h'8.get (h'5.next + (1 : Nat)) = some (rec1 LoopState.ready none) ∧
                                                                      ∀ (h2 : Hp),
                                                                        h2 = h'8.set (h'5.next + (1 : Nat)) (rec1 LoopState.busy none) →
                                                                          ∃ (b4 : Bool),
                                                                            h2.ld h1.next (3 : Nat) = some (V.bool b4) ∧
                                                                              bif !b4 then
                                                                                ∃ (h'9 : Hp),
                                                                                  h2.st h'1.next (0 : Nat) [V.int IntKind.i64 (220 : Int)] = some h'9 ∧
                                                                                    h'9.get (h'5.next + (1 : Nat)) = some (rec1 LoopState.busy none) ∧
                                                                                      ∀ (h'10 : Hp),
                                                                                        h'10 = h'9.set (h'5.next + (1 : Nat)) (rec1 LoopState.done (some Code.ret)) → K1 (V.bool false) h'10
                                                                              else
                                                                                ∃ (b5 : Bool),
                                                                                  h2.ld h.next (3 : Nat) = some (V.bool b5) ∧
                                                                                    bif !b5 then
                                                                                      ∃ (h'11 : Hp),
                                                                                        h2.st h'1.next (0 : Nat) [V.int IntKind.i64 (220 : Int)] = some h'11 ∧
                                                                                          h'11.get (h'5.next + (1 : Nat)) = some (rec1 LoopState.busy none) ∧
                                                                                            ∀ (h'12 : Hp),
                                                                                              h'12 = h'11.set (h'5.next + (1 : Nat)) (rec1 LoopState.done (some Code.ret)) → K1 (V.bool false) h'12
                                                                                    else
                                                                                      ∃ (n12 : Int),
                                                                                        h2.ld h1.next (1 : Nat) = some (V.int IntKind.u32 n12) ∧
                                                                                          ∃ (n13 : Int),
                                                                                            h2.ld h.next (1 : Nat) = some (V.int IntKind.u32 n13) ∧
                                                                                              bif n12 != n13 then
                                                                                                ∃ (h'13 : Hp),
                                                                                                  h2.st h'1.next (0 : Nat) [V.int IntKind.i64 (220 : Int)] = some h'13 ∧
                                                                                                    h'13.get (h'5.next + (1 : Nat)) = some (rec1 LoopState.busy none) ∧
                                                                                                      ∀ (h'14 : Hp),
                                                                                                        h'14 = h'13.set (h'5.next + (1 : Nat)) (rec1 LoopState.done (some Code.ret)) →
                                                                                                          K1 (V.bool false) h'14
                                                                                              else
                                                                                                h2.get (h'5.next + (1 : Nat)) = some (rec1 LoopState.busy none) ∧
                                                                                                  ∀ (h'15 : Hp),
                                                                                                    h'15 = h2.set (h'5.next + (1 : Nat)) (rec1 LoopState.ready none) → K1 (V.bool true) h'15) →
                                                            XYield Try.prog (h'5.next + (1 : Nat)) [v3, V.agg [V.int IntKind.u8 n9, V.int IntKind.u32 n10, V.int IntKind.u16 n11, V.bool b3]] h1
                                                              fun (a1 : V) (a2 : Hp) => K1 a1 a2) →
                                                      XCalls Try.prog (35 : Nat) [V.yld (h'5.next + (1 : Nat)), V.ptr (some (c1, (0 : Nat))), V.ptr (some (c2, (0 : Nat)))] h'6
                                                        fun (a3 : V) (a4 : Hp) =>
                                                        (a4.get (h'5.next + (1 : Nat)) = some (rec1 LoopState.ready none) ∧
                                                            ∀ (h'16 : Hp), h'16 = a4.set (h'5.next + (1 : Nat)) (rec1 LoopState.exhausted none) → False) ∨
                                                          (a4.get (h'5.next + (1 : Nat)) = some (rec1 LoopState.done (some Code.ret)) ∧
                                                              ∀ (h'17 : Hp),
                                                                h'17 = a4.set (h'5.next + (1 : Nat)) (rec1 LoopState.exhausted (some Code.ret)) →
                                                                  ∃ (h'18 : Hp),
                                                                    shut [h'5.next] h'17 = some h'18 ∧
                                                                      ∃ (n14 : Int), h'18.ld h'1.next (0 : Nat) = some (V.int IntKind.i64 n14) ∧ K (V.int IntKind.i64 n14) h'18) ∨
                                                            False
theorem y16n (h : Hp) (K : V → Hp → Prop) (socket : Int) (b_0 : Int) (b_1 : Int) (b_2 : Int) (b_3 : Bool) : X16n h K socket b_0 b_1 b_2 b_3 = fnX Try.prog T F jl16n jj16n Try.f16 [V.ptr none, V.int IntKind.u64 socket, V.agg [V.int IntKind.u8 b_0, V.int IntKind.u32 b_1, V.int IntKind.u16 b_2, V.bool b_3]] h K := by kernel_rfl
theorem x16n {h : Hp} {K : V → Hp → Prop} (socket : Int) (b_0 : Int) (b_1 : Int) (b_2 : Int) (b_3 : Bool) (hx : X16n h K socket b_0 b_1 b_2 b_3) : XCalls Try.prog 16 [V.ptr none, V.int IntKind.u64 socket, V.agg [V.int IntKind.u8 b_0, V.int IntKind.u32 b_1, V.int IntKind.u16 b_2, V.bool b_3]] h K :=
  XCalls.ofX tok fok mixed (JL := jl16n) (JJ := jj16n) Try.func16 ((y16n h K socket b_0 b_1 b_2 b_3) ▸ hx)
/-! 17: (*stevedore/ports.Ports).Lend -/
-- loop 6: stays p(0), socket(1), draw(3), b(6); turns (20)
def jl17n : Nat → Option JT := fun r => bif Nat.beq r 6 then some ⟨[0, 1, 3, 6], [20], [V.int IntKind.i64 (0 : Int)]⟩ else none
def jj17n : Nat → Option JT := fun r => none
def X17n (h : Hp) (K : V → Hp → Prop) (socket : Int) (b_0 : Int) (b_1 : Int) (b_2 : Int) (b_3 : Bool) (draw : Int) : Prop :=
  ∀ (h'1 : Hp),
  h'1 = h.alloc (O.row [V.int IntKind.u8 b_0, V.int IntKind.u32 b_1, V.int IntKind.u16 b_2, V.bool b_3] (1 : Nat) false) →
    ∃ (n1 : Int),
      ∃ (n2 : Int),
        ∃ (n3 : Int),
          ∃ (b1 : Bool),
            h'1.lda h.next (0 : Nat) (4 : Nat) = some (V.agg [V.int IntKind.u8 n1, V.int IntKind.u32 n2, V.int IntKind.u16 n3, V.bool b1]) ∧
              XCalls Try.prog (24 : Nat) [V.ptr none, V.int IntKind.u64 socket, V.agg [V.int IntKind.u8 n1, V.int IntKind.u32 n2, V.int IntKind.u16 n3, V.bool b1], V.bool false] h'1
                fun (v1 : V) (h'2 : Hp) =>
                ∃ (n4 : Int),
                  v1 = V.int IntKind.i64 n4 ∧
                    bif n4 != (0 : Int) then K (V.tup [V.int IntKind.u16 (0 : Int), V.int IntKind.i64 n4]) h'2
                    else
                      ∃ (h'3 : Hp),
                        h'2.st h.next (3 : Nat) [V.bool false] = some h'3 ∧
                          ∃ (I1 : List V → Hp → Prop),
                            ∃ (x1 : List V → Hp → Nat),
                              ([V.ptr none, V.int IntKind.u64 socket, V.int IntKind.u16 draw, V.ptr (some (h.next, (0 : Nat)))] =
                                    [V.ptr none, V.int IntKind.u64 socket, V.int IntKind.u16 draw, V.ptr (some (h.next, (0 : Nat)))] ∧
                                  I1 [V.int IntKind.i64 (0 : Int)] h'3) ∧
                                ∀ (bs1 : Nat → Option V) (n5 : Int) (h1 : Hp),
                                  I1 [V.int IntKind.i64 n5] h1 →
                                    bif ltI n5 (28232 : Int) then
                                      ¬(28232 : Int) = (0 : Int) ∧
                                        ∃ (h'4 : Hp),
                                          h1.st h.next (2 : Nat)
                                                [V.int IntKind.u16 (IntKind.u16.wrap (IntKind.i64.wrap ((32768 : Int) + (IntKind.i64.wrap (IntKind.i64.wrap draw + n5)).tmod (28232 : Int))))] =
                                              some h'4 ∧
                                            ∃ (n6 : Int),
                                              ∃ (n7 : Int),
                                                ∃ (n8 : Int),
                                                  ∃ (b2 : Bool),
                                                    h'4.lda h.next (0 : Nat) (4 : Nat) = some (V.agg [V.int IntKind.u8 n6, V.int IntKind.u32 n7, V.int IntKind.u16 n8, V.bool b2]) ∧
                                                      XCalls Try.prog (26 : Nat) [V.ptr none, V.agg [V.int IntKind.u8 n6, V.int IntKind.u32 n7, V.int IntKind.u16 n8, V.bool b2]] h'4
                                                        fun (v2 : V) (h'5 : Hp) =>
                                                        ∃ (b3 : Bool),
                                                          v2 = V.bool b3 ∧
                                                            bif b3 then False
                                                            else
                                                              [V.ptr none, V.int IntKind.u64 socket, V.int IntKind.u16 draw, V.ptr (some (h.next, (0 : Nat)))] =
                                                                  [V.ptr none, V.int IntKind.u64 socket, V.int IntKind.u16 draw, V.ptr (some (h.next, (0 : Nat)))] ∧
                                                                I1 [V.int IntKind.i64 (IntKind.i64.wrap (n5 + (1 : Int)))] h'5 ∧
                                                                  x1 [V.int IntKind.i64 (IntKind.i64.wrap (n5 + (1 : Int)))] h'5 < x1 [V.int IntKind.i64 n5] h1
                                    else K (V.tup [V.int IntKind.u16 (0 : Int), V.int IntKind.i64 (220 : Int)]) h1
theorem y17n (h : Hp) (K : V → Hp → Prop) (socket : Int) (b_0 : Int) (b_1 : Int) (b_2 : Int) (b_3 : Bool) (draw : Int) : X17n h K socket b_0 b_1 b_2 b_3 draw = fnX Try.prog T F jl17n jj17n Try.f17 [V.ptr none, V.int IntKind.u64 socket, V.agg [V.int IntKind.u8 b_0, V.int IntKind.u32 b_1, V.int IntKind.u16 b_2, V.bool b_3], V.int IntKind.u16 draw] h K := by kernel_rfl
theorem x17n {h : Hp} {K : V → Hp → Prop} (socket : Int) (b_0 : Int) (b_1 : Int) (b_2 : Int) (b_3 : Bool) (draw : Int) (hx : X17n h K socket b_0 b_1 b_2 b_3 draw) : XCalls Try.prog 17 [V.ptr none, V.int IntKind.u64 socket, V.agg [V.int IntKind.u8 b_0, V.int IntKind.u32 b_1, V.int IntKind.u16 b_2, V.bool b_3], V.int IntKind.u16 draw] h K :=
  XCalls.ofX tok fok mixed (JL := jl17n) (JJ := jj17n) Try.func17 ((y17n h K socket b_0 b_1 b_2 b_3 draw) ▸ hx)
/-! 18: (*stevedore/ports.Ports).Give -/
def jl18n : Nat → Option JT := fun r => none
def jj18n : Nat → Option JT := fun r => none
def X18n (h : Hp) (K : V → Hp → Prop) (sockets : Option (Nat × Nat)) (sockets_n : Nat) (sockets_f : Bool) : Prop :=
  ∀ (h'1 : Hp), h'1 = h.alloc (O.row [V.slc sockets sockets_n sockets_f] (1 : Nat) false) → K (V.int IntKind.i64 (0 : Int)) h'1
theorem y18n (h : Hp) (K : V → Hp → Prop) (sockets : Option (Nat × Nat)) (sockets_n : Nat) (sockets_f : Bool) : X18n h K sockets sockets_n sockets_f = fnX Try.prog T F jl18n jj18n Try.f18 [V.ptr none, V.slc sockets sockets_n sockets_f] h K := by kernel_rfl
theorem x18n {h : Hp} {K : V → Hp → Prop} (sockets : Option (Nat × Nat)) (sockets_n : Nat) (sockets_f : Bool) (hx : X18n h K sockets sockets_n sockets_f) : XCalls Try.prog 18 [V.ptr none, V.slc sockets sockets_n sockets_f] h K :=
  XCalls.ofX tok fok mixed (JL := jl18n) (JJ := jj18n) Try.func18 ((y18n h K sockets sockets_n sockets_f) ▸ hx)
/-! 24: (*stevedore/ports.Ports).may -/
def jl24n : Nat → Option JT := fun r => none
def jj24n : Nat → Option JT := fun r => none
def X24n (h : Hp) (K : V → Hp → Prop) (socket : Int) (b_0 : Int) (b_1 : Int) (b_2 : Int) (b_3 : Bool) (port : Bool) : Prop :=
  ∀ (h'1 : Hp), h'1 = h.alloc (O.row [V.int IntKind.u8 b_0, V.int IntKind.u32 b_1, V.int IntKind.u16 b_2, V.bool b_3] (1 : Nat) false) → K (V.int IntKind.i64 (1 : Int)) h'1
theorem y24n (h : Hp) (K : V → Hp → Prop) (socket : Int) (b_0 : Int) (b_1 : Int) (b_2 : Int) (b_3 : Bool) (port : Bool) : X24n h K socket b_0 b_1 b_2 b_3 port = fnX Try.prog T F jl24n jj24n Try.f24 [V.ptr none, V.int IntKind.u64 socket, V.agg [V.int IntKind.u8 b_0, V.int IntKind.u32 b_1, V.int IntKind.u16 b_2, V.bool b_3], V.bool port] h K := by kernel_rfl
theorem x24n {h : Hp} {K : V → Hp → Prop} (socket : Int) (b_0 : Int) (b_1 : Int) (b_2 : Int) (b_3 : Bool) (port : Bool) (hx : X24n h K socket b_0 b_1 b_2 b_3 port) : XCalls Try.prog 24 [V.ptr none, V.int IntKind.u64 socket, V.agg [V.int IntKind.u8 b_0, V.int IntKind.u32 b_1, V.int IntKind.u16 b_2, V.bool b_3], V.bool port] h K :=
  XCalls.ofX tok fok mixed (JL := jl24n) (JJ := jj24n) Try.func24 ((y24n h K socket b_0 b_1 b_2 b_3 port) ▸ hx)
/-! 19: stevedore/stevedorelaw22.tcp -/
def jl19 : Nat → Option JT := fun r => none
def jj19 : Nat → Option JT := fun r => none
def X19 (h : Hp) (K : V → Hp → Prop) (ip : Int) (port : Int) : Prop :=
  ∀ (h'1 : Hp),
  h'1 = h.alloc (O.row [V.int IntKind.u8 (0 : Int), V.int IntKind.u32 (0 : Int), V.int IntKind.u16 (0 : Int), V.bool false] (1 : Nat) false) →
    ∃ (h'2 : Hp),
      h'1.st h.next (0 : Nat) [V.int IntKind.u8 (2 : Int), V.int IntKind.u32 ip, V.int IntKind.u16 port, V.bool false] = some h'2 ∧
        ∃ (n1 : Int),
          ∃ (n2 : Int),
            ∃ (n3 : Int),
              ∃ (b1 : Bool),
                h'2.lda h.next (0 : Nat) (4 : Nat) = some (V.agg [V.int IntKind.u8 n1, V.int IntKind.u32 n2, V.int IntKind.u16 n3, V.bool b1]) ∧
                  K (V.agg [V.int IntKind.u8 n1, V.int IntKind.u32 n2, V.int IntKind.u16 n3, V.bool b1]) h'2
theorem y19 (h : Hp) (K : V → Hp → Prop) (ip : Int) (port : Int) : X19 h K ip port = fnX Try.prog T F jl19 jj19 Try.f19 [V.int IntKind.u32 ip, V.int IntKind.u16 port] h K := by kernel_rfl
theorem x19 {h : Hp} {K : V → Hp → Prop} (ip : Int) (port : Int) (hx : X19 h K ip port) : XCalls Try.prog 19 [V.int IntKind.u32 ip, V.int IntKind.u16 port] h K :=
  XCalls.ofX tok fok mixed (JL := jl19) (JJ := jj19) Try.func19 ((y19 h K ip port) ▸ hx)
end Go.Vex
