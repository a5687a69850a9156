/-
  The meter's functions as statements about data (printed by VexPrint).
  The meter (layer 4): contracts of the program's functions.
  The meter (layer 4): contracts of All, Total, Join.
  The meter (layer 4): contracts of Total, Join; what none answers.
-/
import Derived.Test.YtakkppekchofdaaDoorVexX
import Derived.Test.YtakkppekchofdaaDoorTab04
import Derived.Test.YtakkppekchofdaaDoorVexFF
import Derived.Test.YtakkppekchofdaaDoorPx04
import Derived.Test.YtakkppekchofdaaDoorSx04
set_option linter.unusedVariables false
set_option linter.unusedSimpArgs false
set_option maxRecDepth 100000
namespace Go.Vex
open Go.Proofs
/-! 22: stevedore/meter.Make -/
def jl22 : Nat → Option JT := fun r => none
def jj22 : Nat → Option JT := fun r => none
def X22 (h : Hp) (K : V → Hp → Prop) (came : Int) (dropped : Int) : Prop :=
  XCalls Tryd.prog (33 : Nat) [V.int IntKind.i64 came] h fun (v1 : V) (h'1 : Hp) =>
  ∃ (b1 : Bool),
    v1 = V.bool b1 ∧
      bif !b1 then K (V.tup [V.cplx FloatKind.f64 (0 : Nat) (0 : Nat), V.int IntKind.i64 (2 : Int)]) h'1
      else
        XCalls Tryd.prog (33 : Nat) [V.int IntKind.i64 dropped] h'1 fun (v2 : V) (h'2 : Hp) =>
          ∃ (b2 : Bool),
            v2 = V.bool b2 ∧
              bif !b2 then K (V.tup [V.cplx FloatKind.f64 (0 : Nat) (0 : Nat), V.int IntKind.i64 (2 : Int)]) h'2
              else K (V.tup [V.cplx FloatKind.f64 (FloatKind.f64.nearest came) (FloatKind.f64.nearest dropped), V.int IntKind.i64 (0 : Int)]) h'2
theorem y22 (h : Hp) (K : V → Hp → Prop) (came : Int) (dropped : Int) : X22 h K came dropped = fnX Tryd.prog T F jl22 jj22 Tryd.f22 [V.int IntKind.i64 came, V.int IntKind.i64 dropped] h K := by kernel_rfl
theorem x22 {h : Hp} {K : V → Hp → Prop} (came : Int) (dropped : Int) (hx : X22 h K came dropped) : XCalls Tryd.prog 22 [V.int IntKind.i64 came, V.int IntKind.i64 dropped] h K :=
  XCalls.ofX tok fok mixed (JL := jl22) (JJ := jj22) Tryd.func22 ((y22 h K came dropped) ▸ hx)
/-! 33: stevedore/meter.fits -/
def jl33 : Nat → Option JT := fun r => none
def jj33 : Nat → Option JT := fun r => none
def X33 (h : Hp) (K : V → Hp → Prop) (n : Int) : Prop :=
  bif !ltI n (0 : Int) then K (V.bool !ltI (4503599627370496 : Int) n) h else K (V.bool false) h
theorem y33 (h : Hp) (K : V → Hp → Prop) (n : Int) : X33 h K n = fnX Tryd.prog T F jl33 jj33 Tryd.f33 [V.int IntKind.i64 n] h K := by kernel_rfl
theorem x33 {h : Hp} {K : V → Hp → Prop} (n : Int) (hx : X33 h K n) : XCalls Tryd.prog 33 [V.int IntKind.i64 n] h K :=
  XCalls.ofX tok fok mixed (JL := jl33) (JJ := jj33) Tryd.func33 ((y33 h K n) ▸ hx)
/-! 32: stevedore/meter.part -/
def jl32 : Nat → Option JT := fun r => none
def jj32 : Nat → Option JT := fun r => none
def X32 (h : Hp) (K : V → Hp → Prop) (f : Nat) : Prop :=
  FloatKind.f64 = FloatKind.f64 ∧
  bif fIs FloatKind.f64 Ordering.gt f (0 : Nat) || fIs FloatKind.f64 Ordering.eq f (0 : Nat) then
    FloatKind.f64 = FloatKind.f64 ∧
      bif !(fIs FloatKind.f64 Ordering.lt f (4841369599423283200 : Nat) || fIs FloatKind.f64 Ordering.eq f (4841369599423283200 : Nat)) then K (V.tup [V.int IntKind.i64 (0 : Int), V.bool false]) h
      else
        ∃ (n1 : Int),
          xconv T h (61 : Nat) (2 : Nat) (V.flt FloatKind.f64 f) = some (V.int IntKind.i64 n1) ∧
            FloatKind.f64 = FloatKind.f64 ∧
              bif !fIs FloatKind.f64 Ordering.eq f (FloatKind.f64.nearest n1) then K (V.tup [V.int IntKind.i64 (0 : Int), V.bool false]) h
              else ∃ (n2 : Int), xconv T h (61 : Nat) (2 : Nat) (V.flt FloatKind.f64 f) = some (V.int IntKind.i64 n2) ∧ K (V.tup [V.int IntKind.i64 n2, V.bool true]) h
  else K (V.tup [V.int IntKind.i64 (0 : Int), V.bool false]) h
theorem y32 (h : Hp) (K : V → Hp → Prop) (f : Nat) : X32 h K f = fnX Tryd.prog T F jl32 jj32 Tryd.f32 [V.flt FloatKind.f64 f] h K := by kernel_rfl
theorem x32 {h : Hp} {K : V → Hp → Prop} (f : Nat) (hx : X32 h K f) : XCalls Tryd.prog 32 [V.flt FloatKind.f64 f] h K :=
  XCalls.ofX tok fok mixed (JL := jl32) (JJ := jj32) Tryd.func32 ((y32 h K f) ▸ hx)
/-! 21: stevedore/meter.Read -/
def jl21 : Nat → Option JT := fun r => none
def jj21 : Nat → Option JT := fun r => none
def X21 (h : Hp) (K : V → Hp → Prop) (c_re : Nat) (c_im : Nat) : Prop :=
  XCalls Tryd.prog (32 : Nat) [V.flt FloatKind.f64 c_re] h fun (v1 : V) (h'1 : Hp) =>
  ∃ (n1 : Int),
    ∃ (b1 : Bool),
      v1 = V.tup [V.int IntKind.i64 n1, V.bool b1] ∧
        XCalls Tryd.prog (32 : Nat) [V.flt FloatKind.f64 c_im] h'1 fun (v2 : V) (h'2 : Hp) =>
          ∃ (n2 : Int),
            ∃ (b2 : Bool),
              v2 = V.tup [V.int IntKind.i64 n2, V.bool b2] ∧
                bif !b1 then K (V.tup [V.int IntKind.i64 (0 : Int), V.int IntKind.i64 (0 : Int), V.int IntKind.i64 (2 : Int)]) h'2
                else
                  bif !b2 then K (V.tup [V.int IntKind.i64 (0 : Int), V.int IntKind.i64 (0 : Int), V.int IntKind.i64 (2 : Int)]) h'2
                  else K (V.tup [V.int IntKind.i64 n1, V.int IntKind.i64 n2, V.int IntKind.i64 (0 : Int)]) h'2
theorem y21 (h : Hp) (K : V → Hp → Prop) (c_re : Nat) (c_im : Nat) : X21 h K c_re c_im = fnX Tryd.prog T F jl21 jj21 Tryd.f21 [V.cplx FloatKind.f64 c_re c_im] h K := by kernel_rfl
theorem x21 {h : Hp} {K : V → Hp → Prop} (c_re : Nat) (c_im : Nat) (hx : X21 h K c_re c_im) : XCalls Tryd.prog 21 [V.cplx FloatKind.f64 c_re c_im] h K :=
  XCalls.ofX tok fok mixed (JL := jl21) (JJ := jj21) Tryd.func21 ((y21 h K c_re c_im) ▸ hx)
/-! 12: stevedore/stevedorelaw04.is -/
def jl12 : Nat → Option JT := fun r => none
def jj12 : Nat → Option JT := fun r => none
def X12 (h : Hp) (K : V → Hp → Prop) (c_re : Nat) (c_im : Nat) (came : Int) (dropped : Int) : Prop :=
  FloatKind.f64 = FloatKind.f64 ∧
  bif fIs FloatKind.f64 Ordering.eq c_re (FloatKind.f64.nearest came) then FloatKind.f64 = FloatKind.f64 ∧ K (V.bool (fIs FloatKind.f64 Ordering.eq c_im (FloatKind.f64.nearest dropped))) h
  else K (V.bool false) h
theorem y12 (h : Hp) (K : V → Hp → Prop) (c_re : Nat) (c_im : Nat) (came : Int) (dropped : Int) : X12 h K c_re c_im came dropped = fnX Tryd.prog T F jl12 jj12 Tryd.f12 [V.cplx FloatKind.f64 c_re c_im, V.int IntKind.i64 came, V.int IntKind.i64 dropped] h K := by kernel_rfl
theorem x12 {h : Hp} {K : V → Hp → Prop} (c_re : Nat) (c_im : Nat) (came : Int) (dropped : Int) (hx : X12 h K c_re c_im came dropped) : XCalls Tryd.prog 12 [V.cplx FloatKind.f64 c_re c_im, V.int IntKind.i64 came, V.int IntKind.i64 dropped] h K :=
  XCalls.ofX tok fok mixed (JL := jl12) (JJ := jj12) Tryd.func12 ((y12 h K c_re c_im came dropped) ▸ hx)
/-! 17: stevedore/meter.New -/
def jl17 : Nat → Option JT := fun r => none
def jj17 : Nat → Option JT := fun r => none
def X17 (h : Hp) (K : V → Hp → Prop) : Prop :=
  ∀ (h'1 : Hp), h'1 = h.alloc (O.map [] (0 : Nat)) → ∀ (h'2 : Hp), h'2 = h'1.alloc (O.row [V.map (some h.next)] (1 : Nat) false) → K (V.ptr (some (h'1.next, (0 : Nat)))) h'2
theorem y17 (h : Hp) (K : V → Hp → Prop) : X17 h K  = fnX Tryd.prog T F jl17 jj17 Tryd.f17 [] h K := by kernel_rfl
theorem x17 {h : Hp} {K : V → Hp → Prop}  (hx : X17 h K ) : XCalls Tryd.prog 17 [] h K :=
  XCalls.ofX tok fok mixed (JL := jl17) (JJ := jj17) Tryd.func17 ((y17 h K ) ▸ hx)
/-! 29: stevedore/meter.may -/
def jl29 : Nat → Option JT := fun r => none
def jj29 : Nat → Option JT := fun r => none
def X29 (h : Hp) (K : V → Hp → Prop) (name : List UInt8) : Prop :=
  bif !ltI (↑name.length : Int) (1 : Int) then
  bif !ltI (32 : Int) (↑name.length : Int) then
    XCalls Tryd.prog (36 : Nat)
      [V.str name,
        V.str
          [(97 : UInt8), (98 : UInt8), (99 : UInt8), (100 : UInt8), (101 : UInt8), (102 : UInt8), (103 : UInt8), (104 : UInt8), (105 : UInt8), (106 : UInt8), (107 : UInt8), (108 : UInt8),
            (109 : UInt8), (110 : UInt8), (111 : UInt8), (112 : UInt8), (113 : UInt8), (114 : UInt8), (115 : UInt8), (116 : UInt8), (117 : UInt8), (118 : UInt8), (119 : UInt8), (120 : UInt8),
            (121 : UInt8), (122 : UInt8), (45 : UInt8)]]
      h fun (v1 : V) (h'1 : Hp) => ∃ (s1 : List UInt8), v1 = V.str s1 ∧ K (V.bool (s1 == [])) h'1
  else K (V.bool false) h
else K (V.bool false) h
theorem y29 (h : Hp) (K : V → Hp → Prop) (name : List UInt8) : X29 h K name = fnX Tryd.prog T F jl29 jj29 Tryd.f29 [V.str name] h K := by kernel_rfl
theorem x29 {h : Hp} {K : V → Hp → Prop} (name : List UInt8) (hx : X29 h K name) : XCalls Tryd.prog 29 [V.str name] h K :=
  XCalls.ofX tok fok mixed (JL := jl29) (JJ := jj29) Tryd.func29 ((y29 h K name) ▸ hx)
/-! 27: stevedore/meter.adds -/
def jl27 : Nat → Option JT := fun r => none
def jj27 : Nat → Option JT := fun r => none
def X27 (h : Hp) (K : V → Hp → Prop) (all : Option Nat) (name : List UInt8) (c_re : Nat) (c_im : Nat) : Prop :=
  ∃ (a1 : Nat),
  ∃ (b1 : Nat),
    ∃ (b'1 : Bool),
      xlook T h (62 : Nat) (V.map all) (V.str name) true = some (V.tup [V.cplx FloatKind.f64 a1 b1, V.bool b'1]) ∧
        FloatKind.f64 = FloatKind.f64 ∧
          ∃ (x1 : Nat),
            ∃ (y1 : Nat),
              (fAdd FloatKind.f64 a1 c_re = some x1 ∧ fAdd FloatKind.f64 b1 c_im = some y1) ∧
                bif !b'1 then
                  ∃ (n1 : Int),
                    xlen T h (62 : Nat) (V.map all) = some (V.int IntKind.i64 n1) ∧
                      bif !ltI n1 (64 : Int) then K (V.int IntKind.i64 (6 : Int)) h
                      else
                        FloatKind.f64 = FloatKind.f64 ∧
                          bif fIs FloatKind.f64 Ordering.gt x1 (4841369599423283200 : Nat) then
                            bif fIs FloatKind.f64 Ordering.gt x1 (4841369599423283200 : Nat) then K (V.int IntKind.i64 (9 : Int)) h
                            else ∃ (h'1 : Hp), xput T h (62 : Nat) (V.map all) (V.str name) (V.cplx FloatKind.f64 x1 y1) = some h'1 ∧ K (V.int IntKind.i64 (0 : Int)) h'1
                          else
                            FloatKind.f64 = FloatKind.f64 ∧
                              bif fIs FloatKind.f64 Ordering.gt y1 (4841369599423283200 : Nat) then K (V.int IntKind.i64 (9 : Int)) h
                              else ∃ (h'2 : Hp), xput T h (62 : Nat) (V.map all) (V.str name) (V.cplx FloatKind.f64 x1 y1) = some h'2 ∧ K (V.int IntKind.i64 (0 : Int)) h'2
                else
                  FloatKind.f64 = FloatKind.f64 ∧
                    bif fIs FloatKind.f64 Ordering.gt x1 (4841369599423283200 : Nat) then
                      bif fIs FloatKind.f64 Ordering.gt x1 (4841369599423283200 : Nat) then K (V.int IntKind.i64 (9 : Int)) h
                      else ∃ (h'3 : Hp), xput T h (62 : Nat) (V.map all) (V.str name) (V.cplx FloatKind.f64 x1 y1) = some h'3 ∧ K (V.int IntKind.i64 (0 : Int)) h'3
                    else
                      FloatKind.f64 = FloatKind.f64 ∧
                        bif fIs FloatKind.f64 Ordering.gt y1 (4841369599423283200 : Nat) then K (V.int IntKind.i64 (9 : Int)) h
                        else ∃ (h'4 : Hp), xput T h (62 : Nat) (V.map all) (V.str name) (V.cplx FloatKind.f64 x1 y1) = some h'4 ∧ K (V.int IntKind.i64 (0 : Int)) h'4
theorem y27 (h : Hp) (K : V → Hp → Prop) (all : Option Nat) (name : List UInt8) (c_re : Nat) (c_im : Nat) : X27 h K all name c_re c_im = fnX Tryd.prog T F jl27 jj27 Tryd.f27 [V.map all, V.str name, V.cplx FloatKind.f64 c_re c_im] h K := by kernel_rfl
theorem x27 {h : Hp} {K : V → Hp → Prop} (all : Option Nat) (name : List UInt8) (c_re : Nat) (c_im : Nat) (hx : X27 h K all name c_re c_im) : XCalls Tryd.prog 27 [V.map all, V.str name, V.cplx FloatKind.f64 c_re c_im] h K :=
  XCalls.ofX tok fok mixed (JL := jl27) (JJ := jj27) Tryd.func27 ((y27 h K all name c_re c_im) ▸ hx)
/-! 18: (*stevedore/meter.Meter).Add -/
def jl18 : Nat → Option JT := fun r => none
def jj18 : Nat → Option JT := fun r => none
def X18 (h : Hp) (K : V → Hp → Prop) (m : Nat) (name : List UInt8) (came : Int) (dropped : Int) : Prop :=
  ∃ (r1 : Option Nat),
  h.ld m (0 : Nat) = some (V.map r1) ∧
    bif r1.isNone then K (V.int IntKind.i64 (1 : Int)) h
    else
      XCalls Tryd.prog (22 : Nat) [V.int IntKind.i64 came, V.int IntKind.i64 dropped] h fun (v1 : V) (h'1 : Hp) =>
        ∃ (a1 : Nat),
          ∃ (b1 : Nat),
            ∃ (n1 : Int),
              v1 = V.tup [V.cplx FloatKind.f64 a1 b1, V.int IntKind.i64 n1] ∧
                bif n1 != (0 : Int) then K (V.int IntKind.i64 (2 : Int)) h'1
                else
                  XCalls Tryd.prog (29 : Nat) [V.str name] h'1 fun (v2 : V) (h'2 : Hp) =>
                    ∃ (b2 : Bool),
                      v2 = V.bool b2 ∧
                        bif !b2 then K (V.int IntKind.i64 (2 : Int)) h'2
                        else
                          ∃ (r2 : Option Nat),
                            h'2.ld m (0 : Nat) = some (V.map r2) ∧
                              XCalls Tryd.prog (27 : Nat) [V.map r2, V.str name, V.cplx FloatKind.f64 a1 b1] h'2 fun (v3 : V) (h'3 : Hp) =>
                                ∃ (n2 : Int), v3 = V.int IntKind.i64 n2 ∧ K (V.int IntKind.i64 n2) h'3
theorem y18 (h : Hp) (K : V → Hp → Prop) (m : Nat) (name : List UInt8) (came : Int) (dropped : Int) : X18 h K m name came dropped = fnX Tryd.prog T F jl18 jj18 Tryd.f18 [V.ptr (some (m, (0 : Nat))), V.str name, V.int IntKind.i64 came, V.int IntKind.i64 dropped] h K := by kernel_rfl
theorem x18 {h : Hp} {K : V → Hp → Prop} (m : Nat) (name : List UInt8) (came : Int) (dropped : Int) (hx : X18 h K m name came dropped) : XCalls Tryd.prog 18 [V.ptr (some (m, (0 : Nat))), V.str name, V.int IntKind.i64 came, V.int IntKind.i64 dropped] h K :=
  XCalls.ofX tok fok mixed (JL := jl18) (JJ := jj18) Tryd.func18 ((y18 h K m name came dropped) ▸ hx)
/-! 13: (*stevedore/meter.Meter).Get -/
def jl13 : Nat → Option JT := fun r => none
def jj13 : Nat → Option JT := fun r => none
def X13 (h : Hp) (K : V → Hp → Prop) (m : Nat) (name : List UInt8) : Prop :=
  ∃ (r1 : Option Nat),
  h.ld m (0 : Nat) = some (V.map r1) ∧ ∃ (a1 : Nat), ∃ (b1 : Nat), xlook T h (62 : Nat) (V.map r1) (V.str name) false = some (V.cplx FloatKind.f64 a1 b1) ∧ K (V.cplx FloatKind.f64 a1 b1) h
theorem y13 (h : Hp) (K : V → Hp → Prop) (m : Nat) (name : List UInt8) : X13 h K m name = fnX Tryd.prog T F jl13 jj13 Tryd.f13 [V.ptr (some (m, (0 : Nat))), V.str name] h K := by kernel_rfl
theorem x13 {h : Hp} {K : V → Hp → Prop} (m : Nat) (name : List UInt8) (hx : X13 h K m name) : XCalls Tryd.prog 13 [V.ptr (some (m, (0 : Nat))), V.str name] h K :=
  XCalls.ofX tok fok mixed (JL := jl13) (JJ := jj13) Tryd.func13 ((y13 h K m name) ▸ hx)
/-! 20: (*stevedore/meter.Meter).Total -/
-- loop 2: stays (8), (9); turns sum(2), (10)
def jl20 : Nat → Option JT := fun r => bif Nat.beq r 2 then some ⟨[8, 9], [2, 10], [V.cplx FloatKind.f64 (0 : Nat) (0 : Nat), V.int IntKind.i64 (0 : Int)]⟩ else none
def jj20 : Nat → Option JT := fun r => none
def X20 (h : Hp) (K : V → Hp → Prop) (m : Nat) : Prop :=
  XCalls Tryd.prog (19 : Nat) [V.ptr (some (m, (0 : Nat)))] h fun (v1 : V) (h'1 : Hp) =>
  ∃ (a1 : Option (Nat × Nat)),
    ∃ (n1 : Nat),
      ∃ (f1 : Bool),
        v1 = V.slc a1 n1 f1 ∧
          ∃ (I1 : List V → Hp → Prop),
            ∃ (x1 : List V → Hp → Nat),
              ([V.slc a1 n1 f1, V.int IntKind.i64 (↑n1 : Int)] = [V.slc a1 n1 f1, V.int IntKind.i64 (↑n1 : Int)] ∧ I1 [V.cplx FloatKind.f64 (0 : Nat) (0 : Nat), V.int IntKind.i64 (0 : Int)] h'1) ∧
                ∀ (bs1 : Nat → Option V) (a2 b1 : Nat) (n2 : Int) (h1 : Hp),
                  I1 [V.cplx FloatKind.f64 a2 b1, V.int IntKind.i64 n2] h1 →
                    bif ltI n2 (↑n1 : Int) then
                      ((0 : Int) ≤ n2 ∧ n2 < (↑n1 : Int)) ∧
                        onS a1 fun (i1 o1 : Nat) =>
                          ∃ (s1 : List UInt8),
                            ∃ (n3 : Int),
                              ∃ (n4 : Int),
                                h1.lda i1 (o1 + n2.toNat * (3 : Nat)) (3 : Nat) = some (V.agg [V.str s1, V.int IntKind.i64 n3, V.int IntKind.i64 n4]) ∧
                                  ∀ (h'2 : Hp),
                                    h'2 = h1.alloc (O.row [V.str [], V.int IntKind.i64 (0 : Int), V.int IntKind.i64 (0 : Int)] (1 : Nat) false) →
                                      ∃ (h'3 : Hp),
                                        h'2.st h1.next (0 : Nat) [V.str s1, V.int IntKind.i64 n3, V.int IntKind.i64 n4] = some h'3 ∧
                                          ∃ (n5 : Int),
                                            h'3.ld h1.next (1 : Nat) = some (V.int IntKind.i64 n5) ∧
                                              FloatKind.f64 = FloatKind.f64 ∧
                                                ∃ (x2 : Nat),
                                                  fAdd FloatKind.f64 a2 (FloatKind.f64.nearest n5) = some x2 ∧
                                                    ∃ (z1 : Nat),
                                                      fMin FloatKind.f64 x2 (4841369599423283200 : Nat) = some z1 ∧
                                                        ∃ (n6 : Int),
                                                          h'3.ld h1.next (2 : Nat) = some (V.int IntKind.i64 n6) ∧
                                                            FloatKind.f64 = FloatKind.f64 ∧
                                                              ∃ (x3 : Nat),
                                                                fAdd FloatKind.f64 b1 (FloatKind.f64.nearest n6) = some x3 ∧
                                                                  ∃ (z2 : Nat),
                                                                    fMin FloatKind.f64 x3 (4841369599423283200 : Nat) = some z2 ∧
                                                                      [V.slc a1 n1 f1, V.int IntKind.i64 (↑n1 : Int)] = [V.slc a1 n1 f1, V.int IntKind.i64 (↑n1 : Int)] ∧
                                                                        I1 [V.cplx FloatKind.f64 z1 z2, V.int IntKind.i64 (IntKind.i64.wrap (n2 + (1 : Int)))] h'3 ∧
                                                                          x1 [V.cplx FloatKind.f64 z1 z2, V.int IntKind.i64 (IntKind.i64.wrap (n2 + (1 : Int)))] h'3 <
                                                                            x1 [V.cplx FloatKind.f64 a2 b1, V.int IntKind.i64 n2] h1
                    else K (V.cplx FloatKind.f64 a2 b1) h1
theorem y20 (h : Hp) (K : V → Hp → Prop) (m : Nat) : X20 h K m = fnX Tryd.prog T F jl20 jj20 Tryd.f20 [V.ptr (some (m, (0 : Nat)))] h K := by kernel_rfl
theorem x20 {h : Hp} {K : V → Hp → Prop} (m : Nat) (hx : X20 h K m) : XCalls Tryd.prog 20 [V.ptr (some (m, (0 : Nat)))] h K :=
  XCalls.ofX tok fok mixed (JL := jl20) (JJ := jj20) Tryd.func20 ((y20 h K m) ▸ hx)
/-! 14: (*stevedore/meter.Meter).Join -/
-- loop 8: stays m(0), all(5), (31), (32), (33), (38), (39); turns (40)
-- loop 5: stays m(0), all(5), (31), (32); turns (33)
def jl14 : Nat → Option JT := fun r => bif Nat.beq r 8 then some ⟨[0, 5, 31, 32, 33, 38, 39], [40], [V.int IntKind.i64 (0 : Int)]⟩ else bif Nat.beq r 5 then some ⟨[0, 5, 31, 32], [33], [V.int IntKind.i64 (0 : Int)]⟩ else none
def jj14 : Nat → Option JT := fun r => none
def X14 (h : Hp) (K : V → Hp → Prop) (m : Nat) (l : Option (Nat × Nat)) (l_n : Nat) (l_f : Bool) : Prop :=
  ∃ (r1 : Option Nat),
  h.ld m (0 : Nat) = some (V.map r1) ∧
    bif r1.isNone then K (V.int IntKind.i64 (1 : Int)) h
    else
      XCalls Tryd.prog (25 : Nat) [V.slc l l_n l_f, V.ptr none] h fun (v1 : V) (h'1 : Hp) =>
        ∃ (b1 : Bool),
          v1 = V.bool b1 ∧
            bif b1 then K (V.int IntKind.i64 (1 : Int)) h'1
            else
              ∃ (r2 : Option Nat),
                h'1.ld m (0 : Nat) = some (V.map r2) ∧
                  XCalls Tryd.prog (26 : Nat) [V.map r2] h'1 fun (v2 : V) (h'2 : Hp) =>
                    ∃ (r3 : Option Nat),
                      v2 = V.map r3 ∧
                        ∃ (I1 : List V → Hp → Prop),
                          ∃ (x1 : List V → Hp → Nat),
                            ([V.ptr (some (m, (0 : Nat))), V.map r3, V.slc l l_n l_f, V.int IntKind.i64 (↑l_n : Int)] =
                                  [V.ptr (some (m, (0 : Nat))), V.map r3, V.slc l l_n l_f, V.int IntKind.i64 (↑l_n : Int)] ∧
                                I1 [V.int IntKind.i64 (0 : Int)] h'2) ∧
                              ∀ (bs1 : Nat → Option V) (n1 : Int) (h1 : Hp),
                                I1 [V.int IntKind.i64 n1] h1 →
                                  bif ltI n1 (↑l_n : Int) then
                                    ((0 : Int) ≤ n1 ∧ n1 < (↑l_n : Int)) ∧
                                      onS l fun (i1 o1 : Nat) =>
                                        ∃ (a1 : Option (Nat × Nat)),
                                          h1.ld i1 (o1 + n1.toNat * (1 : Nat)) = some (V.ptr a1) ∧
                                            XCalls Tryd.prog (19 : Nat) [V.ptr a1] h1 fun (v3 : V) (h'3 : Hp) =>
                                              ∃ (a2 : Option (Nat × Nat)),
                                                ∃ (n2 : Nat),
                                                  ∃ (f1 : Bool),
                                                    v3 = V.slc a2 n2 f1 ∧
                                                      ∃ (I2 : List V → Hp → Prop),
                                                        ∃ (x2 : List V → Hp → Nat),
                                                          ([V.ptr (some (m, (0 : Nat))), V.map r3, V.slc l l_n l_f, V.int IntKind.i64 (↑l_n : Int), V.int IntKind.i64 n1, V.slc a2 n2 f1,
                                                                  V.int IntKind.i64 (↑n2 : Int)] =
                                                                [V.ptr (some (m, (0 : Nat))), V.map r3, V.slc l l_n l_f, V.int IntKind.i64 (↑l_n : Int), V.int IntKind.i64 n1, V.slc a2 n2 f1,
                                                                  V.int IntKind.i64 (↑n2 : Int)] ∧
                                                              I2 [V.int IntKind.i64 (0 : Int)] h'3) ∧
                                                            ∀ (bs2 : Nat → Option V) (n3 : Int) (h2 : Hp),
                                                              I2 [V.int IntKind.i64 n3] h2 →
                                                                bif ltI n3 (↑n2 : Int) then
                                                                  ((0 : Int) ≤ n3 ∧ n3 < (↑n2 : Int)) ∧
                                                                    onS a2 fun (i2 o2 : Nat) =>
                                                                      ∃ (s1 : List UInt8),
                                                                        ∃ (n4 : Int),
                                                                          ∃ (n5 : Int),
                                                                            h2.lda i2 (o2 + n3.toNat * (3 : Nat)) (3 : Nat) = some (V.agg [V.str s1, V.int IntKind.i64 n4, V.int IntKind.i64 n5]) ∧
                                                                              ∀ (h'4 : Hp),
                                                                                h'4 = h2.alloc (O.row [V.str [], V.int IntKind.i64 (0 : Int), V.int IntKind.i64 (0 : Int)] (1 : Nat) false) →
                                                                                  ∃ (h'5 : Hp),
                                                                                    h'4.st h2.next (0 : Nat) [V.str s1, V.int IntKind.i64 n4, V.int IntKind.i64 n5] = some h'5 ∧
                                                                                      ∃ (n6 : Int),
                                                                                        h'5.ld h2.next (1 : Nat) = some (V.int IntKind.i64 n6) ∧
                                                                                          ∃ (n7 : Int),
                                                                                            h'5.ld h2.next (2 : Nat) = some (V.int IntKind.i64 n7) ∧
                                                                                              XCalls Tryd.prog (22 : Nat) [V.int IntKind.i64 n6, V.int IntKind.i64 n7] h'5 fun (v4 : V) (h'6 : Hp) =>
                                                                                                ∃ (a3 : Nat),
                                                                                                  ∃ (b2 : Nat),
                                                                                                    ∃ (n8 : Int),
                                                                                                      v4 = V.tup [V.cplx FloatKind.f64 a3 b2, V.int IntKind.i64 n8] ∧
                                                                                                        ∃ (s2 : List UInt8),
                                                                                                          h'6.ld h2.next (0 : Nat) = some (V.str s2) ∧
                                                                                                            XCalls Tryd.prog (27 : Nat) [V.map r3, V.str s2, V.cplx FloatKind.f64 a3 b2] h'6
                                                                                                              fun (v5 : V) (h'7 : Hp) =>
                                                                                                              ∃ (n9 : Int),
                                                                                                                v5 = V.int IntKind.i64 n9 ∧
                                                                                                                  bif n9 != (0 : Int) then K (V.int IntKind.i64 n9) h'7
                                                                                                                  else
                                                                                                                    [V.ptr (some (m, (0 : Nat))), V.map r3, V.slc l l_n l_f,
                                                                                                                          V.int IntKind.i64 (↑l_n : Int), V.int IntKind.i64 n1, V.slc a2 n2 f1,
                                                                                                                          V.int IntKind.i64 (↑n2 : Int)] =
                                                                                                                        [V.ptr (some (m, (0 : Nat))), V.map r3, V.slc l l_n l_f,
                                                                                                                          V.int IntKind.i64 (↑l_n : Int), V.int IntKind.i64 n1, V.slc a2 n2 f1,
                                                                                                                          V.int IntKind.i64 (↑n2 : Int)] ∧
                                                                                                                      I2 [V.int IntKind.i64 (IntKind.i64.wrap (n3 + (1 : Int)))] h'7 ∧
                                                                                                                        x2 [V.int IntKind.i64 (IntKind.i64.wrap (n3 + (1 : Int)))] h'7 <
                                                                                                                          x2 [V.int IntKind.i64 n3] h2
                                                                else
                                                                  [V.ptr (some (m, (0 : Nat))), V.map r3, V.slc l l_n l_f, V.int IntKind.i64 (↑l_n : Int)] =
                                                                      [V.ptr (some (m, (0 : Nat))), V.map r3, V.slc l l_n l_f, V.int IntKind.i64 (↑l_n : Int)] ∧
                                                                    I1 [V.int IntKind.i64 (IntKind.i64.wrap (n1 + (1 : Int)))] h2 ∧
                                                                      x1 [V.int IntKind.i64 (IntKind.i64.wrap (n1 + (1 : Int)))] h2 < x1 [V.int IntKind.i64 n1] h1
                                  else ∃ (h'8 : Hp), h1.st m (0 : Nat) [V.map r3] = some h'8 ∧ K (V.int IntKind.i64 (0 : Int)) h'8
theorem y14 (h : Hp) (K : V → Hp → Prop) (m : Nat) (l : Option (Nat × Nat)) (l_n : Nat) (l_f : Bool) : X14 h K m l l_n l_f = fnX Tryd.prog T F jl14 jj14 Tryd.f14 [V.ptr (some (m, (0 : Nat))), V.slc l l_n l_f] h K := by kernel_rfl
theorem x14 {h : Hp} {K : V → Hp → Prop} (m : Nat) (l : Option (Nat × Nat)) (l_n : Nat) (l_f : Bool) (hx : X14 h K m l l_n l_f) : XCalls Tryd.prog 14 [V.ptr (some (m, (0 : Nat))), V.slc l l_n l_f] h K :=
  XCalls.ofX tok fok mixed (JL := jl14) (JJ := jj14) Tryd.func14 ((y14 h K m l l_n l_f) ▸ hx)
/-! 19: (*stevedore/meter.Meter).All -/
-- loop 4: stays m(0), (15), (16); turns l(2), (17)
def jl19 : Nat → Option JT := fun r => bif Nat.beq r 4 then some ⟨[0, 15, 16], [2, 17], [V.slc none (0 : Nat) true, V.int IntKind.i64 (0 : Int)]⟩ else none
def jj19 : Nat → Option JT := fun r => none
def X19 (h : Hp) (K : V → Hp → Prop) (m : Nat) : Prop :=
  ∃ (r1 : Option Nat),
  h.ld m (0 : Nat) = some (V.map r1) ∧
    XCalls Tryd.prog (31 : Nat) [V.map r1] h fun (v1 : V) (h'1 : Hp) =>
      ∃ (c1 : Nat),
        v1 = V.fn (Fn.func (39 : Nat)) [] [V.ptr (some (c1, (0 : Nat)))] ∧
          XCalls Tryd.prog (30 : Nat) [V.fn (Fn.func (39 : Nat)) [] [V.ptr (some (c1, (0 : Nat)))]] h'1 fun (v2 : V) (h'2 : Hp) =>
            ∃ (a1 : Option (Nat × Nat)),
              ∃ (n1 : Nat),
                ∃ (f1 : Bool),
                  v2 = V.slc a1 n1 f1 ∧
                    ∃ (I1 : List V → Hp → Prop),
                      ∃ (x1 : List V → Hp → Nat),
                        ([V.ptr (some (m, (0 : Nat))), V.slc a1 n1 f1, V.int IntKind.i64 (↑n1 : Int)] = [V.ptr (some (m, (0 : Nat))), V.slc a1 n1 f1, V.int IntKind.i64 (↑n1 : Int)] ∧
                            I1 [V.slc none (0 : Nat) true, V.int IntKind.i64 (0 : Int)] h'2) ∧
                          ∀ (bs1 : Nat → Option V) (a2 : Option (Nat × Nat)) (n2 : Nat) (f2 : Bool) (n3 : Int) (h1 : Hp),
                            I1 [V.slc a2 n2 f2, V.int IntKind.i64 n3] h1 →
                              bif ltI n3 (↑n1 : Int) then
                                ((0 : Int) ≤ n3 ∧ n3 < (↑n1 : Int)) ∧
                                  onS a1 fun (i1 o1 : Nat) =>
                                    ∃ (s1 : List UInt8),
                                      h1.ld i1 (o1 + n3.toNat * (1 : Nat)) = some (V.str s1) ∧
                                        ∃ (r2 : Option Nat),
                                          h1.ld m (0 : Nat) = some (V.map r2) ∧
                                            ∃ (a3 : Nat),
                                              ∃ (b1 : Nat),
                                                xlook T h1 (62 : Nat) (V.map r2) (V.str s1) false = some (V.cplx FloatKind.f64 a3 b1) ∧
                                                  XCalls Tryd.prog (21 : Nat) [V.cplx FloatKind.f64 a3 b1] h1 fun (v3 : V) (h'3 : Hp) =>
                                                    ∃ (n4 : Int),
                                                      ∃ (n5 : Int),
                                                        ∃ (n6 : Int),
                                                          v3 = V.tup [V.int IntKind.i64 n4, V.int IntKind.i64 n5, V.int IntKind.i64 n6] ∧
                                                            ∀ (h'4 : Hp),
                                                              h'4 = h'3.alloc (O.row [V.str s1, V.int IntKind.i64 n4, V.int IntKind.i64 n5] (3 : Nat) false) →
                                                                ∃ (p1 : Option (Nat × Nat)),
                                                                  ∃ (n7 : Nat),
                                                                    ∃ (f3 : Bool),
                                                                      ∃ (h'5 : Hp),
                                                                        xapp T h'4 (46 : Nat) (46 : Nat) (V.slc a2 n2 f2) (V.slc (some (h'3.next, (0 : Nat))) (1 : Nat) true) =
                                                                            some (V.slc p1 n7 f3, h'5) ∧
                                                                          [V.ptr (some (m, (0 : Nat))), V.slc a1 n1 f1, V.int IntKind.i64 (↑n1 : Int)] =
                                                                              [V.ptr (some (m, (0 : Nat))), V.slc a1 n1 f1, V.int IntKind.i64 (↑n1 : Int)] ∧
                                                                            I1 [V.slc p1 n7 f3, V.int IntKind.i64 (IntKind.i64.wrap (n3 + (1 : Int)))] h'5 ∧
                                                                              x1 [V.slc p1 n7 f3, V.int IntKind.i64 (IntKind.i64.wrap (n3 + (1 : Int)))] h'5 <
                                                                                x1 [V.slc a2 n2 f2, V.int IntKind.i64 n3] h1
                              else K (V.slc a2 n2 f2) h1
theorem y19 (h : Hp) (K : V → Hp → Prop) (m : Nat) : X19 h K m = fnX Tryd.prog T F jl19 jj19 Tryd.f19 [V.ptr (some (m, (0 : Nat)))] h K := by kernel_rfl
theorem x19 {h : Hp} {K : V → Hp → Prop} (m : Nat) (hx : X19 h K m) : XCalls Tryd.prog 19 [V.ptr (some (m, (0 : Nat)))] h K :=
  XCalls.ofX tok fok mixed (JL := jl19) (JJ := jj19) Tryd.func19 ((y19 h K m) ▸ hx)
/-! 25: slices.Contains[[]*stevedore/meter.Meter,*stevedore/meter.Meter] -/
def jl25 : Nat → Option JT := fun r => none
def jj25 : Nat → Option JT := fun r => none
def X25 (h : Hp) (K : V → Hp → Prop) (s : Option (Nat × Nat)) (s_n : Nat) (s_f : Bool) : Prop :=
  XCalls Tryd.prog (34 : Nat) [V.slc s s_n s_f, V.ptr none] h fun (v1 : V) (h'1 : Hp) => ∃ (n1 : Int), v1 = V.int IntKind.i64 n1 ∧ K (V.bool !ltI n1 (0 : Int)) h'1
theorem y25 (h : Hp) (K : V → Hp → Prop) (s : Option (Nat × Nat)) (s_n : Nat) (s_f : Bool) : X25 h K s s_n s_f = fnX Tryd.prog T F jl25 jj25 Tryd.f25 [V.slc s s_n s_f, V.ptr none] h K := by kernel_rfl
theorem x25 {h : Hp} {K : V → Hp → Prop} (s : Option (Nat × Nat)) (s_n : Nat) (s_f : Bool) (hx : X25 h K s s_n s_f) : XCalls Tryd.prog 25 [V.slc s s_n s_f, V.ptr none] h K :=
  XCalls.ofX tok fok mixed (JL := jl25) (JJ := jj25) Tryd.func25 ((y25 h K s s_n s_f) ▸ hx)
/-! 34: slices.Index[[]*stevedore/meter.Meter,*stevedore/meter.Meter] -/
-- loop 2: stays s(0), v(1), (7); turns (8)
def jl34 : Nat → Option JT := fun r => bif Nat.beq r 2 then some ⟨[0, 1, 7], [8], [V.int IntKind.i64 (0 : Int)]⟩ else none
def jj34 : Nat → Option JT := fun r => none
def X34 (h : Hp) (K : V → Hp → Prop) (s : Option (Nat × Nat)) (s_n : Nat) (s_f : Bool) : Prop :=
  ∃ (I1 : List V → Hp → Prop),
  ∃ (x1 : List V → Hp → Nat),
    ([V.slc s s_n s_f, V.ptr none, V.int IntKind.i64 (↑s_n : Int)] = [V.slc s s_n s_f, V.ptr none, V.int IntKind.i64 (↑s_n : Int)] ∧ I1 [V.int IntKind.i64 (0 : Int)] h) ∧
      ∀ (bs1 : Nat → Option V) (n1 : Int) (h1 : Hp),
        I1 [V.int IntKind.i64 n1] h1 →
          bif ltI n1 (↑s_n : Int) then
            ((0 : Int) ≤ n1 ∧ n1 < (↑s_n : Int)) ∧
              onS s fun (i1 o1 : Nat) =>
                ∃ (a1 : Option (Nat × Nat)),
                  h1.ld i1 (o1 + n1.toNat * (1 : Nat)) = some (V.ptr a1) ∧
                    ∃ (r1 : Bool),
                      xpeq T h1 (25 : Nat) none a1 = some r1 ∧
                        bif r1 then K (V.int IntKind.i64 n1) h1
                        else
                          [V.slc s s_n s_f, V.ptr none, V.int IntKind.i64 (↑s_n : Int)] = [V.slc s s_n s_f, V.ptr none, V.int IntKind.i64 (↑s_n : Int)] ∧
                            I1 [V.int IntKind.i64 (IntKind.i64.wrap (n1 + (1 : Int)))] h1 ∧ x1 [V.int IntKind.i64 (IntKind.i64.wrap (n1 + (1 : Int)))] h1 < x1 [V.int IntKind.i64 n1] h1
          else K (V.int IntKind.i64 (-1 : Int)) h1
theorem y34 (h : Hp) (K : V → Hp → Prop) (s : Option (Nat × Nat)) (s_n : Nat) (s_f : Bool) : X34 h K s s_n s_f = fnX Tryd.prog T F jl34 jj34 Tryd.f34 [V.slc s s_n s_f, V.ptr none] h K := by kernel_rfl
theorem x34 {h : Hp} {K : V → Hp → Prop} (s : Option (Nat × Nat)) (s_n : Nat) (s_f : Bool) (hx : X34 h K s s_n s_f) : XCalls Tryd.prog 34 [V.slc s s_n s_f, V.ptr none] h K :=
  XCalls.ofX tok fok mixed (JL := jl34) (JJ := jj34) Tryd.func34 ((y34 h K s s_n s_f) ▸ hx)
/-! 13: (*stevedore/meter.Meter).Get -/
def jl13n : Nat → Option JT := fun r => none
def jj13n : Nat → Option JT := fun r => none
def X13n (h : Hp) (K : V → Hp → Prop) (name : List UInt8) : Prop :=
  K (V.cplx FloatKind.f64 (0 : Nat) (0 : Nat)) h
theorem y13n (h : Hp) (K : V → Hp → Prop) (name : List UInt8) : X13n h K name = fnX Tryd.prog T F jl13n jj13n Tryd.f13 [V.ptr none, V.str name] h K := by kernel_rfl
theorem x13n {h : Hp} {K : V → Hp → Prop} (name : List UInt8) (hx : X13n h K name) : XCalls Tryd.prog 13 [V.ptr none, V.str name] h K :=
  XCalls.ofX tok fok mixed (JL := jl13n) (JJ := jj13n) Tryd.func13 ((y13n h K name) ▸ hx)
/-! 18: (*stevedore/meter.Meter).Add -/
def jl18n : Nat → Option JT := fun r => none
def jj18n : Nat → Option JT := fun r => none
def X18n (h : Hp) (K : V → Hp → Prop) (name : List UInt8) (came : Int) (dropped : Int) : Prop :=
  K (V.int IntKind.i64 (1 : Int)) h
theorem y18n (h : Hp) (K : V → Hp → Prop) (name : List UInt8) (came : Int) (dropped : Int) : X18n h K name came dropped = fnX Tryd.prog T F jl18n jj18n Tryd.f18 [V.ptr none, V.str name, V.int IntKind.i64 came, V.int IntKind.i64 dropped] h K := by kernel_rfl
theorem x18n {h : Hp} {K : V → Hp → Prop} (name : List UInt8) (came : Int) (dropped : Int) (hx : X18n h K name came dropped) : XCalls Tryd.prog 18 [V.ptr none, V.str name, V.int IntKind.i64 came, V.int IntKind.i64 dropped] h K :=
  XCalls.ofX tok fok mixed (JL := jl18n) (JJ := jj18n) Tryd.func18 ((y18n h K name came dropped) ▸ hx)
/-! 19: (*stevedore/meter.Meter).All -/
-- loop 4: stays m(0), (15), (16); turns l(2), (17)
def jl19n : Nat → Option JT := fun r => bif Nat.beq r 4 then some ⟨[0, 15, 16], [2, 17], [V.slc none (0 : Nat) true, V.int IntKind.i64 (0 : Int)]⟩ else none
def jj19n : Nat → Option JT := fun r => none
def X19n (h : Hp) (K : V → Hp → Prop) : Prop :=
  K (V.slc none (0 : Nat) true) h
theorem y19n (h : Hp) (K : V → Hp → Prop) : X19n h K  = fnX Tryd.prog T F jl19n jj19n Tryd.f19 [V.ptr none] h K := by kernel_rfl
theorem x19n {h : Hp} {K : V → Hp → Prop}  (hx : X19n h K ) : XCalls Tryd.prog 19 [V.ptr none] h K :=
  XCalls.ofX tok fok mixed (JL := jl19n) (JJ := jj19n) Tryd.func19 ((y19n h K ) ▸ hx)
/-! 20: (*stevedore/meter.Meter).Total -/
-- loop 2: stays (8), (9); turns sum(2), (10)
def jl20n : Nat → Option JT := fun r => bif Nat.beq r 2 then some ⟨[8, 9], [2, 10], [V.cplx FloatKind.f64 (0 : Nat) (0 : Nat), V.int IntKind.i64 (0 : Int)]⟩ else none
def jj20n : Nat → Option JT := fun r => none
def X20n (h : Hp) (K : V → Hp → Prop) : Prop :=
  XCalls Tryd.prog (19 : Nat) [V.ptr none] h fun (v1 : V) (h'1 : Hp) =>
  ∃ (a1 : Option (Nat × Nat)),
    ∃ (n1 : Nat),
      ∃ (f1 : Bool),
        v1 = V.slc a1 n1 f1 ∧
          ∃ (I1 : List V → Hp → Prop),
            ∃ (x1 : List V → Hp → Nat),
              ([V.slc a1 n1 f1, V.int IntKind.i64 (↑n1 : Int)] = [V.slc a1 n1 f1, V.int IntKind.i64 (↑n1 : Int)] ∧ I1 [V.cplx FloatKind.f64 (0 : Nat) (0 : Nat), V.int IntKind.i64 (0 : Int)] h'1) ∧
                ∀ (bs1 : Nat → Option V) (a2 b1 : Nat) (n2 : Int) (h1 : Hp),
                  I1 [V.cplx FloatKind.f64 a2 b1, V.int IntKind.i64 n2] h1 →
                    bif ltI n2 (↑n1 : Int) then
                      ((0 : Int) ≤ n2 ∧ n2 < (↑n1 : Int)) ∧
                        onS a1 fun (i1 o1 : Nat) =>
                          ∃ (s1 : List UInt8),
                            ∃ (n3 : Int),
                              ∃ (n4 : Int),
                                h1.lda i1 (o1 + n2.toNat * (3 : Nat)) (3 : Nat) = some (V.agg [V.str s1, V.int IntKind.i64 n3, V.int IntKind.i64 n4]) ∧
                                  ∀ (h'2 : Hp),
                                    h'2 = h1.alloc (O.row [V.str [], V.int IntKind.i64 (0 : Int), V.int IntKind.i64 (0 : Int)] (1 : Nat) false) →
                                      ∃ (h'3 : Hp),
                                        h'2.st h1.next (0 : Nat) [V.str s1, V.int IntKind.i64 n3, V.int IntKind.i64 n4] = some h'3 ∧
                                          ∃ (n5 : Int),
                                            h'3.ld h1.next (1 : Nat) = some (V.int IntKind.i64 n5) ∧
                                              FloatKind.f64 = FloatKind.f64 ∧
                                                ∃ (x2 : Nat),
                                                  fAdd FloatKind.f64 a2 (FloatKind.f64.nearest n5) = some x2 ∧
                                                    ∃ (z1 : Nat),
                                                      fMin FloatKind.f64 x2 (4841369599423283200 : Nat) = some z1 ∧
                                                        ∃ (n6 : Int),
                                                          h'3.ld h1.next (2 : Nat) = some (V.int IntKind.i64 n6) ∧
                                                            FloatKind.f64 = FloatKind.f64 ∧
                                                              ∃ (x3 : Nat),
                                                                fAdd FloatKind.f64 b1 (FloatKind.f64.nearest n6) = some x3 ∧
                                                                  ∃ (z2 : Nat),
                                                                    fMin FloatKind.f64 x3 (4841369599423283200 : Nat) = some z2 ∧
                                                                      [V.slc a1 n1 f1, V.int IntKind.i64 (↑n1 : Int)] = [V.slc a1 n1 f1, V.int IntKind.i64 (↑n1 : Int)] ∧
                                                                        I1 [V.cplx FloatKind.f64 z1 z2, V.int IntKind.i64 (IntKind.i64.wrap (n2 + (1 : Int)))] h'3 ∧
                                                                          x1 [V.cplx FloatKind.f64 z1 z2, V.int IntKind.i64 (IntKind.i64.wrap (n2 + (1 : Int)))] h'3 <
                                                                            x1 [V.cplx FloatKind.f64 a2 b1, V.int IntKind.i64 n2] h1
                    else K (V.cplx FloatKind.f64 a2 b1) h1
theorem y20n (h : Hp) (K : V → Hp → Prop) : X20n h K  = fnX Tryd.prog T F jl20n jj20n Tryd.f20 [V.ptr none] h K := by kernel_rfl
theorem x20n {h : Hp} {K : V → Hp → Prop} (hx : X20n h K) : XCalls Tryd.prog 20 [V.ptr none] h K :=
  XCalls.ofX tok fok mixed (JL := jl20n) (JJ := jj20n) Tryd.func20 (by rw [y20n] at hx; exact hx)
/-! 14: (*stevedore/meter.Meter).Join -/
-- loop 8: stays m(0), all(5), (31), (32), (33), (38), (39); turns (40)
-- loop 5: stays m(0), all(5), (31), (32); turns (33)
def jl14n : Nat → Option JT := fun r => bif Nat.beq r 8 then some ⟨[0, 5, 31, 32, 33, 38, 39], [40], [V.int IntKind.i64 (0 : Int)]⟩ else bif Nat.beq r 5 then some ⟨[0, 5, 31, 32], [33], [V.int IntKind.i64 (0 : Int)]⟩ else none
def jj14n : Nat → Option JT := fun r => none
def X14n (h : Hp) (K : V → Hp → Prop) (l : Option (Nat × Nat)) (l_n : Nat) (l_f : Bool) : Prop :=
  K (V.int IntKind.i64 (1 : Int)) h
theorem y14n (h : Hp) (K : V → Hp → Prop) (l : Option (Nat × Nat)) (l_n : Nat) (l_f : Bool) : X14n h K l l_n l_f = fnX Tryd.prog T F jl14n jj14n Tryd.f14 [V.ptr none, V.slc l l_n l_f] h K := by kernel_rfl
theorem x14n {h : Hp} {K : V → Hp → Prop} (l : Option (Nat × Nat)) (l_n : Nat) (l_f : Bool) (hx : X14n h K l l_n l_f) : XCalls Tryd.prog 14 [V.ptr none, V.slc l l_n l_f] h K :=
  XCalls.ofX tok fok mixed (JL := jl14n) (JJ := jj14n) Tryd.func14 (by rw [← y14n]; exact hx)
end Go.Vex
namespace Go.Vex.Mtr
open Go.Proofs Fl

structure Quiet (h h' : Hp) : Prop where
  same : ∀ j, j < h.next → h'.get j = h.get j
  le : h.next ≤ h'.next
  wf : h'.wf

theorem Quiet.refl {h : Hp} (hw : h.wf) : Quiet h h := ⟨fun _ _ => rfl, Nat.le_refl _, hw⟩
theorem Quiet.trans {h h' h'' : Hp} (q : Quiet h h') (r : Quiet h' h'') : Quiet h h'' := ⟨fun j hj => by rw [r.same j (by have := q.le; omega), q.same j hj], by have := q.le; have := r.le; omega, r.wf⟩
theorem Quiet.alloc {h : Hp} (hw : h.wf) (o : O) : Quiet h (h.alloc o) := ⟨fun j hj => Hp.get_alloc_ne (by omega), by simp [Hp.alloc_next], hw.alloc⟩
theorem Quiet.upd {h h' : Hp} (q : Quiet h h') (F : List Nat) : Upd h h' F F := Upd.quiet F q.same q.le

abbrev kS : Nm → V := fun s => .str s
def cV (c : Cn) : V := .cplx .f64 (fl c.1) (fl c.2)

theorem cV0 : cV (0, 0) = .cplx .f64 0 0 := by unfold cV; rw [fl0]

theorem mtM : MT T 62 kS (cV (0, 0)) := ⟨(T 62).get rfl, 9, 32, (T 32).get rfl, rfl, rfl, rfl, by rw [cV0]; rfl, KL.str (ti := (T 9).get rfl) rfl rfl⟩

theorem fits_spec {h : Hp} (n : Int) : XCalls Tryd.prog 33 [.int .i64 n] h fun v h' => v = .bool (fit n) ∧ h' = h := by
  apply x33; unfold X33
  cases hc : ltI n 0 with
  | true =>
    rw [ltI_eq, decide_eq_true_eq] at hc
    refine ⟨?_, rfl⟩
    unfold fit
    rw [decide_eq_false (by omega)]; rfl
  | false =>
    rw [ltI_eq, decide_eq_false_iff_not] at hc
    refine ⟨?_, rfl⟩
    unfold fit
    rw [decide_eq_true (show 0 ≤ n by omega), ltI_eq, ← decide_not, Bool.true_and]
    congr 1
    simp only [Int.not_lt]

theorem make_spec {h : Hp} (a b : Int) : XCalls Tryd.prog 22 [.int .i64 a, .int .i64 b] h fun v h' => v = .tup [cV (if (fit a && fit b) = true then (a.toNat, b.toNat) else (0, 0)), .int .i64 (if (fit a && fit b) = true then 0 else 2)] ∧ h' = h := by
  apply x22; unfold X22
  refine (fits_spec a).mono ?_
  rintro _ _ ⟨rfl, rfl⟩
  refine ⟨_, rfl, ?_⟩
  cases ha : fit a with
  | false => exact ⟨by rw [if_neg (by simp), if_neg (by simp), cV0], rfl⟩
  | true =>
    refine (fits_spec b).mono ?_
    rintro _ _ ⟨rfl, rfl⟩
    refine ⟨_, rfl, ?_⟩
    cases hb : fit b with
    | false => exact ⟨by rw [if_neg (by simp), if_neg (by simp), cV0], rfl⟩
    | true =>
      refine ⟨?_, rfl⟩
      rw [near_fl (fit_le ha).1, near_fl (fit_le hb).1]; rfl

theorem may_spec {h : Hp} (s : Nm) : XCalls Tryd.prog 29 [.str s] h fun v h' => v = .bool (May s) ∧ h' = h := by
  apply x29; unfold X29
  cases h1 : ltI (s.length : Int) 1 with
  | true =>
    rw [ltI_eq, decide_eq_true_eq] at h1
    refine ⟨?_, rfl⟩
    unfold May
    rw [decide_eq_false (by omega)]; rfl
  | false =>
    rw [ltI_eq, decide_eq_false_iff_not] at h1
    cases h2 : ltI 32 (s.length : Int) with
    | true =>
      rw [ltI_eq, decide_eq_true_eq] at h2
      refine ⟨?_, rfl⟩
      unfold May
      rw [decide_eq_false (show ¬ s.length ≤ 32 by omega), Bool.and_false]; rfl
    | false =>
      rw [ltI_eq, decide_eq_false_iff_not] at h2
      refine (trim_spec (by omega) (by omega)).mono ?_
      rintro _ _ ⟨rfl, rfl⟩
      refine ⟨_, rfl, ?_, rfl⟩
      rw [trim_nil]
      unfold May
      rw [decide_eq_true (show 1 ≤ s.length by omega), decide_eq_true (show s.length ≤ 32 by omega)]; rfl

theorem conv_fl {h : Hp} {n : Nat} (hn : n ≤ MX) : xconv T h 61 2 (.flt .f64 (fl n)) = some (.int .i64 n) := by
  have h1 : (FloatKind.f64.decode (fl n)).toInt .zero = some (n : Int) := int_fl (Nat.le_trans hn (by decide))
  obtain ⟨ti, ui, ht, hd, hu, ud⟩ : ∃ ti ui, T 61 = some ti ∧ ti.d = .flt .f64 ∧ T 2 = some ui ∧ ui.d = .int .i64 := ⟨_, _, rfl, rfl, rfl, rfl⟩
  have h2 : (decide (IntKind.i64.min ≤ (n : Int)) && decide ((n : Int) ≤ IntKind.i64.max)) = true := by
    have e1 : IntKind.i64.min = -9223372036854775808 := by decide
    have e2 : IntKind.i64.max = 9223372036854775807 := by decide
    have e3 : MX = 4503599627370496 := rfl
    rw [e1, e2, Bool.and_eq_true, decide_eq_true_eq, decide_eq_true_eq]; omega
  simp only [xconv, ht, hd, hu, ud, h1, h2, cond_true]

theorem lim {n : Nat} (h : n ≤ MX) : n ≤ 9007199254740992 := Nat.le_trans h (by decide)

theorem part_spec {h : Hp} {n : Nat} (hn : n ≤ MX) : XCalls Tryd.prog 32 [.flt .f64 (fl n)] h fun v h' => v = .tup [.int .i64 n, .bool true] ∧ h' = h := by
  apply x32; unfold X32
  refine ⟨rfl, ?_⟩
  have e1 : (fIs .f64 .gt (fl n) 0 || fIs .f64 .eq (fl n) 0) = true := by
    have a := fIs_gt (a := n) (b := 0) (lim hn) (by decide)
    have b := fIs_eq (a := n) (b := 0) (lim hn) (by decide)
    rw [fl0] at a b
    rw [a, b, Bool.or_eq_true, decide_eq_true_eq, decide_eq_true_eq]; omega
  have e2 : (fIs .f64 .lt (fl n) 4841369599423283200 || fIs .f64 .eq (fl n) 4841369599423283200) = true := by
    rw [← flMX, fIs_lt (lim hn) (by decide), fIs_eq (lim hn) (by decide), Bool.or_eq_true, decide_eq_true_eq, decide_eq_true_eq]; omega
  rw [e1, e2]
  refine ⟨rfl, n, conv_fl hn, rfl, ?_⟩
  rw [near_nat, fIs_eq (lim hn) (lim hn), decide_eq_true rfl]
  exact ⟨n, conv_fl hn, rfl, rfl⟩

theorem read_spec {h : Hp} {c : Cn} (h1 : c.1 ≤ MX) (h2 : c.2 ≤ MX) : XCalls Tryd.prog 21 [cV c] h fun v h' => v = .tup [.int .i64 c.1, .int .i64 c.2, .int .i64 0] ∧ h' = h := by
  apply x21; unfold X21
  refine (part_spec h1).mono ?_
  rintro _ _ ⟨rfl, rfl⟩
  refine ⟨_, _, rfl, ?_⟩
  refine (part_spec h2).mono ?_
  rintro _ _ ⟨rfl, rfl⟩
  exact ⟨_, _, rfl, rfl, rfl⟩

theorem is_spec {h : Hp} {c : Cn} (h1 : c.1 ≤ MX) (h2 : c.2 ≤ MX) : XCalls Tryd.prog 12 [cV c, .int .i64 c.1, .int .i64 c.2] h fun v h' => v = .bool true ∧ h' = h := by
  apply x12; unfold X12
  refine ⟨rfl, ?_⟩
  rw [near_nat, near_nat, fIs_eq (lim h1) (lim h1), fIs_eq (lim h2) (lim h2), decide_eq_true rfl, decide_eq_true rfl]
  exact ⟨rfl, rfl, rfl⟩

/-- object m is a map of these counters -/
def Mp (m : Nat) (R : List Row) (h : Hp) : Prop := ∃ o L, h.get m = some o ∧ MO kS cV L o ∧ L.Perm R

theorem Mp.keep {m : Nat} {R : List Row} {h h' : Hp} (hm : Mp m R h) (e : h'.get m = h.get m) : Mp m R h' := by
  obtain ⟨o, L, h1, h2⟩ := hm
  exact ⟨o, L, by rw [e]; exact h1, h2⟩

theorem Mp.lt {m : Nat} {R : List Row} {h : Hp} (hm : Mp m R h) (hw : h.wf) : m < h.next := by
  obtain ⟨o, L, h1, h2⟩ := hm
  exact hw.lt h1

theorem adds_spec {h : Hp} {m : Nat} {R : List Row} (hw : h.wf) (hm : Mp m R h) (g : Good R) (s : Nm) {c : Cn} (h1 : c.1 ≤ MX) (h2 : c.2 ≤ MX) :
    XCalls Tryd.prog 27 [.map (some m), .str s, cV c] h fun v h' => v = .int .i64 (addN R s c).1 ∧ Mp m (addN R s c).2 h' ∧ (∀ j, j ≠ m → h'.get j = h.get j) ∧ h'.next = h.next ∧ h'.wf := by
  obtain ⟨o, L, hg, mo, hp⟩ := hm
  apply x27; unfold X27
  have hl := mo.look2 mtM s h m hg
  rw [lookV_getD, perm_mget hp g.nd] at hl
  refine ⟨_, _, _, hl, rfl, ?_⟩
  have hlen := mo.len mtM h m hg
  rw [hp.length_eq] at hlen
  have eM : MX = 4503599627370496 := rfl
  have put : ∀ v : Cn, (mput L s v).Perm (addN R s c).2 → (addN R s c).1 = 0 → ∃ h', xput T h 62 (.map (some m)) (.str s) (cV v) = some h' ∧ V.int .i64 0 = .int .i64 (addN R s c).1 ∧ Mp m (addN R s c).2 h' ∧ (∀ j, j ≠ m → h'.get j = h.get j) ∧ h'.next = h.next ∧ h'.wf := by
    intro v hv hz
    obtain ⟨o', mo', hx⟩ := mo.put mtM s v
    exact ⟨_, hx h m hg, by rw [hz], ⟨o', _, Hp.get_set_self, mo', hv⟩, fun j hj => Hp.get_set_ne hj, rfl, hw.set (hw.lt hg)⟩
  cases hq : mget R s with
  | none =>
    have hL : mget L s = none := by rw [perm_mget hp g.nd]; exact hq
    simp only [Option.getD_none]
    refine ⟨fl (0 + c.1), fl (0 + c.2), ⟨fAdd_fl (by omega), fAdd_fl (by omega)⟩, ?_⟩
    refine ⟨_, hlen, ?_⟩
    cases h64 : ltI (R.length : Int) 64 with
    | false =>
      rw [ltI_eq, decide_eq_false_iff_not] at h64
      have e : addN R s c = (6, R) := by unfold addN; rw [hq]; simp only; rw [if_pos (by omega)]
      rw [e]
      exact ⟨rfl, ⟨o, L, hg, mo, hp⟩, by intros; first | trivial | rfl, by trivial, hw⟩
    | true =>
      rw [ltI_eq, decide_eq_true_eq] at h64
      have e : addN R s c = (0, ins s c R) := by unfold addN; rw [hq]; simp only; rw [if_neg (by omega)]
      have e1 : fIs .f64 .gt (fl (0 + c.1)) 4841369599423283200 = false := by rw [← flMX, fIs_gt (by omega) (by decide), decide_eq_false_iff_not]; omega
      have e2 : fIs .f64 .gt (fl (0 + c.2)) 4841369599423283200 = false := by rw [← flMX, fIs_gt (by omega) (by decide), decide_eq_false_iff_not]; omega
      rw [e1, e2, Nat.zero_add, Nat.zero_add]
      refine ⟨by trivial, by trivial, put c ?_ (by rw [e])⟩
      rw [e, mput_none _ _ _ hL]
      exact (List.perm_append_comm.trans (hp.cons _)).trans (ins_perm s c R).symm
  | some w =>
    have hL : mget L s ≠ none := by rw [perm_mget hp g.nd, hq]; simp
    obtain ⟨w1, w2⟩ := g.get hq
    simp only [Option.getD_some]
    refine ⟨fl (w.1 + c.1), fl (w.2 + c.2), ⟨fAdd_fl (by omega), fAdd_fl (by omega)⟩, by trivial, ?_⟩
    have e1 : fIs .f64 .gt (fl (w.1 + c.1)) 4841369599423283200 = decide (MX < w.1 + c.1) := by rw [← flMX, fIs_gt (by omega) (by decide)]
    have e2 : fIs .f64 .gt (fl (w.2 + c.2)) 4841369599423283200 = decide (MX < w.2 + c.2) := by rw [← flMX, fIs_gt (by omega) (by decide)]
    rw [e1, e2]
    by_cases c1 : MX < w.1 + c.1
    · have e : addN R s c = (9, R) := by unfold addN; rw [hq]; simp only; rw [if_pos (.inl c1)]
      rw [decide_eq_true c1, e]
      exact ⟨rfl, ⟨o, L, hg, mo, hp⟩, by intros; first | trivial | rfl, by trivial, hw⟩
    · rw [decide_eq_false c1]
      refine ⟨by trivial, ?_⟩
      by_cases c2 : MX < w.2 + c.2
      · have e : addN R s c = (9, R) := by unfold addN; rw [hq]; simp only; rw [if_pos (.inr c2)]
        rw [decide_eq_true c2, e]
        exact ⟨rfl, ⟨o, L, hg, mo, hp⟩, by intros; first | trivial | rfl, by trivial, hw⟩
      · have e : addN R s c = (0, mput R s (w.1 + c.1, w.2 + c.2)) := by unfold addN; rw [hq]; simp only; rw [if_neg (by omega)]
        rw [decide_eq_false c2]
        refine put (w.1 + c.1, w.2 + c.2) ?_ (by rw [e])
        rw [e]
        exact perm_mput hp _ _ g.nd

/-! ### the meter -/

/-- a meter at p -/
def MtR (p : Nat) (R : List Row) (h : Hp) (F : List Nat) : Prop := ∃ m, F = [p, m] ∧ p ≠ m ∧ h.get p = some (.row [.map (some m)] 1 false) ∧ Mp m R h

theorem MtR.rep (p : Nat) (R : List Row) : Rep (MtR p R) where
  loc := fun h h' F hs ⟨m, h1, h2, h3, h4⟩ => by
    subst h1
    exact ⟨m, rfl, h2, by rw [hs p (by simp)]; exact h3, h4.keep (hs m (by simp))⟩
  dom := fun h F ⟨m, h1, h2, h3, o, L, h4, h5, h6⟩ j hj => by
    subst h1
    rcases List.mem_cons.1 hj with rfl | hj
    · exact ⟨_, h3, rfl⟩
    · rw [List.mem_singleton] at hj; subst hj
      exact ⟨_, h4, h5.rw⟩

theorem new_spec {h : Hp} (hw : h.wf) : XCalls Tryd.prog 17 [] h fun v h' => v = .ptr (some (h.next + 1, 0)) ∧ MtR (h.next + 1) [] h' [h.next + 1, h.next] ∧ Quiet h h' ∧ h'.next = h.next + 2 := by
  apply x17; unfold X17
  rintro h1 rfl h2 rfl
  refine ⟨rfl, ⟨h.next, rfl, by omega, Hp.get_alloc_self, _, [], ?_, MO.nil kS cV, .refl _⟩, ⟨fun j hj => ?_, by show h.next ≤ h.next + 1 + 1; omega, hw.alloc.alloc⟩, rfl⟩
  · rw [Hp.get_alloc_ne (by rw [Hp.alloc_next]; omega)]; exact Hp.get_alloc_self
  · rw [Hp.get_alloc_ne (by rw [Hp.alloc_next]; omega), Hp.get_alloc_ne (by omega)]

section
variable {h : Hp} {p : Nat} {R : List Row} {F : List Nat}

theorem add_spec (hw : h.wf) (hm : MtR p R h F) (g : Good R) (s : Nm) (a b : Int) :
    XCalls Tryd.prog 18 [.ptr (some (p, 0)), .str s, .int .i64 a, .int .i64 b] h fun v h' => v = .int .i64 (addR R s a b).1 ∧ MtR p (addR R s a b).2 h' F ∧ Upd h h' F F ∧ h'.next = h.next ∧ h'.wf := by
  obtain ⟨m, rfl, hpm, hg, mp⟩ := hm
  apply x18; unfold X18
  refine ⟨some m, by rw [Hp.ld_of hg]; rfl, ?_⟩
  refine (make_spec a b).mono ?_
  rintro _ _ ⟨rfl, rfl⟩
  rename_i h
  refine ⟨_, _, _, rfl, ?_⟩
  by_cases hf : (fit a && fit b) = true
  · rw [if_pos hf, if_pos hf]
    refine (may_spec s).mono ?_
    rintro _ _ ⟨rfl, rfl⟩
    rename_i h
    refine ⟨_, rfl, ?_⟩
    cases hM : May s with
    | false =>
      have e : addR R s a b = (2, R) := by unfold addR; rw [hM, Bool.and_false, if_neg (by simp)]
      rw [e]
      exact ⟨rfl, ⟨m, rfl, hpm, hg, mp⟩, Upd.refl _ _, rfl, hw⟩
    | true =>
      have e : addR R s a b = addN R s (a.toNat, b.toNat) := by unfold addR; rw [hM, hf]; rfl
      rw [e]
      refine ⟨some m, by rw [Hp.ld_of hg]; rfl, ?_⟩
      simp only [Bool.and_eq_true] at hf
      refine (adds_spec hw mp g s (c := (a.toNat, b.toNat)) (fit_le hf.1).2.2 (fit_le hf.2).2.2).mono ?_
      rintro _ h3 ⟨rfl, mp3, s3, n3, w3⟩
      exact ⟨_, rfl, rfl, ⟨m, rfl, hpm, by rw [s3 p hpm]; exact hg, mp3⟩, ⟨fun j _ hj => s3 j (fun e => hj (by simp [e])), fun _ h => .inl h, by omega⟩, n3, w3⟩
  · have e : addR R s a b = (2, R) := by unfold addR; rw [if_neg (fun hh => hf (by simp only [Bool.and_eq_true] at hh ⊢; exact hh.1))]
    rw [if_neg hf, if_neg hf, e]
    exact ⟨rfl, ⟨m, rfl, hpm, hg, mp⟩, Upd.refl _ _, rfl, hw⟩

theorem get_spec (hm : MtR p R h F) (g : Good R) (s : Nm) :
    XCalls Tryd.prog 13 [.ptr (some (p, 0)), .str s] h fun v h' => v = cV ((mget R s).getD (0, 0)) ∧ h' = h := by
  obtain ⟨m, rfl, hpm, hg, o, L, hgm, mo, hp⟩ := hm
  apply x13; unfold X13
  refine ⟨some m, by rw [Hp.ld_of hg]; rfl, _, _, ?_, rfl, rfl⟩
  have hl := mo.look mtM s h m hgm
  rw [lookV_getD, perm_mget hp g.nd] at hl
  exact hl
end
end Go.Vex.Mtr
namespace Go.Vex.Mtr
open Go.Proofs Fl

def rRow (r : Row) : List V := [.str r.1, .int .i64 r.2.1, .int .i64 r.2.2]
def rws (R : List Row) : List (List V) := R.map rRow

theorem rws_len (R : List Row) : (rws R).length = R.length := by simp [rws]
theorem rws_all (R : List Row) : ∀ r ∈ rws R, r.length = 3 := fun r hr => by
  obtain ⟨x, _, rfl⟩ := List.mem_map.1 hr; rfl
theorem rws_get {R : List Row} {k : Nat} {r : Row} (h : R[k]? = some r) : (rws R)[k]? = some (rRow r) := by simp [rws, h]

theorem t46 : ∃ ti e ei, T 46 = some ti ∧ ti.d = .slc e ∧ T e = some ei ∧ ei.size = 3 ∧ ei.bytes ≤ 64 ∧ zok ei = true := ⟨_, _, _, rfl, rfl, rfl, rfl, by decide, rfl⟩

/-- one more row -/
theorem app46 {n : Nat} {a : Option (Nat × Nat)} {f : Bool} {rows : List (List V)} {g : Hp} {G : List Nat} {c : List V} (hc : c.length = 3) (ho : Own 3 a n rows g G) (hw : g.wf) (hl : n ≤ 100000000) :
    ∃ h', xapp T (g.alloc (.row c 3 false)) 46 46 (.slc a n f) (.slc (some (g.next, 0)) 1 true) = some (.slc (some (g.next + 1, 0)) (n + 1) false, h') ∧ Own 3 (some (g.next + 1, 0)) (n + 1) (rows ++ [c]) h' [g.next + 1] ∧ Upd g h' G [g.next + 1] ∧ h'.wf := by
  obtain ⟨ti, e, ei, ht, hd, he, hs, hb, hz⟩ := t46
  have ho' : Own 3 a n rows (g.alloc (.row c 3 false)) G := (Own.rep _ _ _ _).loc _ _ _ (fun j hj => Hp.get_alloc_ne (by have := (Own.rep _ _ _ _).lt hw ho hj; omega)) ho
  have hx : (g.alloc (.row c 3 false)).get g.next = some (.row c 3 false) := Hp.get_alloc_self
  obtain ⟨h', x, o2, u, w⟩ := ho'.app (f := f) (u := 46) (y := .slc (some (g.next, 0)) 1 true) (news := [c]) hw.alloc ht hd ht (by intro k; rw [hd]; exact fun h => by cases h) he hs (by omega) hz
    (xnews_one hx hc) (by simpa using hc) (by simp) (by simp; exact Nat.le_trans (Nat.mul_le_mul (show n + 1 ≤ 100000001 by omega) hb) (by decide)) (by simp; omega)
  exact ⟨h', x, o2, (Upd.alloc g _ G).trans u, w⟩

section
variable {h : Hp} {p : Nat} {R : List Row} {F : List Nat}

theorem all_spec (hw : h.wf) (hm : MtR p R h F) (g : Good R) :
    XCalls Tryd.prog 19 [.ptr (some (p, 0))] h fun v h' => ∃ a f G, v = .slc a R.length f ∧ Own 3 a R.length (rws R) h' G ∧ Quiet h h' ∧ ∀ j ∈ G, h.next ≤ j := by
  obtain ⟨m, rfl, hpm, hg, o, L, hgm, mo, hp⟩ := hm
  have hpl0 := hw.lt hg
  have hml0 := hw.lt hgm
  refine XCalls.cps fun K hK => ?_
  apply x19; unfold X19
  refine ⟨some m, by rw [Hp.ld_of hg]; rfl, ?_⟩
  refine (Sort.keys_spec (some m)).mono ?_
  rintro _ _ ⟨rfl, rfl⟩
  refine ⟨_, rfl, ?_⟩
  have mi : MapIs kS cV L m (h.alloc (.row [.map (some m)] 1 false)) [m] := mo.is (by rw [Hp.get_alloc_ne (by omega)]; exact hgm)
  have hln : L.length = R.length := hp.length_eq
  refine (Sort.sorted_spec hw.alloc Hp.get_alloc_self mi (by rw [hln]; have := g.len; omega)).mono ?_
  rintro _ h2 ⟨a, f, l, F, rfl, hpl, hr, ho, hs, hn, w2, hF⟩
  have hl : l = R.map Prod.fst := sorted_eq (hpl.trans (hp.map _)) hr g.srt
  subst hl
  rw [hln] at ho ⊢
  rw [Hp.alloc_next] at hs hn
  have q0 : Quiet h h2 := ⟨fun j hj => by rw [hs j (by omega), Hp.get_alloc_ne (by omega)], by omega, w2⟩
  refine ⟨_, _, _, rfl, fun vs g' => match vs with
    | [.slc a2 n2 f2, .int _ k] => ∃ G, k = (n2 : Int) ∧ n2 ≤ R.length ∧ Own 3 a2 n2 (rws (R.take n2)) g' G ∧ Quiet h2 g' ∧ ∀ j ∈ G, h2.next ≤ j
    | _ => False, fun vs _ => match vs with
    | [_, .int _ k] => ((R.length : Int) - k).toNat
    | _ => 0, ⟨rfl, [], rfl, by omega, Own.nil 3 h2, Quiet.refl w2, by simp⟩, ?_⟩
  rintro bs a2 n2 f2 k g1 ⟨G, rfl, hle, ho2, q2, hG⟩
  cases hc : ltI (n2 : Int) (R.length : Int) with
  | false =>
    rw [ltI_eq, decide_eq_false_iff_not] at hc
    obtain rfl : n2 = R.length := by omega
    rw [List.take_length] at ho2
    exact hK _ _ ⟨a2, f2, G, rfl, ho2, q0.trans q2, fun j hj => by have := hG j hj; omega⟩
  | true =>
    rw [ltI_eq, decide_eq_true_eq] at hc
    have hk : n2 < R.length := by omega
    have hgl := g.len
    refine ⟨⟨by omega, hc⟩, ?_⟩
    have ho1 : Own 1 a R.length ((R.map Prod.fst).map fun k => [Sort.en k]) g1 F := (Own.rep _ _ _ _).loc _ _ _ (fun j hj => q2.same j ((Own.rep _ _ _ _).lt w2 ho hj)) ho
    obtain ⟨q, o', r0, rfl, hr0, hr1, hld, _⟩ := ho1.ld hk
    obtain ⟨r, hrr⟩ : ∃ r, R[n2]? = some r := ⟨_, List.getElem?_eq_getElem hk⟩
    have e0 : r0 = [.str r.1] := by
      rw [List.getElem?_map, List.getElem?_map, hrr] at hr0
      simpa using hr0.symm
    subst e0
    have hmem : r ∈ R := List.mem_of_getElem? hrr
    obtain ⟨b1, b2⟩ := g.bnd r hmem
    have gp : g1.get p = some (.row [.map (some m)] 1 false) := by rw [q2.same p (by have := q0.le; omega), q0.same p hpl0]; exact hg
    have gm : g1.get m = some o := by rw [q2.same m (by have := q0.le; omega), q0.same m hml0]; exact hgm
    have hlk := mo.look mtM r.1 g1 m gm
    rw [lookV_getD, perm_mget hp g.nd, mget_of g.nd (show (r.1, r.2) ∈ R from hmem), Option.getD_some] at hlk
    refine ⟨r.1, by rw [Int.toNat_natCast]; have := hld 0 (by omega); simpa using this, some m, by rw [Hp.ld_of gp]; rfl, _, _, hlk, ?_⟩
    refine (read_spec b1 b2).mono ?_
    rintro _ g1 ⟨rfl, rfl⟩
    refine ⟨_, _, _, rfl, ?_⟩
    rintro h4 rfl
    obtain ⟨h5, hx, o5, u5, w5⟩ := app46 (c := rRow r) (f := f2) rfl ho2 q2.wf (by omega)
    have q5 : Quiet h2 h5 := ⟨fun j hj => by rw [u5.same j (by have := q2.le; omega) (fun hh => by have := hG j hh; omega), q2.same j hj], by have := u5.le; have := q2.le; omega, w5⟩
    refine ⟨_, _, _, h5, hx, rfl, ⟨[g1.next + 1], ?_, by omega, ?_, q5, ?_⟩, ?_⟩
    · rw [wr (by omega) (by omega)]; rfl
    · rw [List.take_add_one, hrr]
      show Own 3 _ _ (rws (R.take n2 ++ [r])) _ _
      rw [rws, List.map_append]; exact o5
    · intro j hj; rw [List.mem_singleton] at hj; have := q2.le; omega
    · show ((R.length : Int) - IntKind.i64.wrap ((n2 : Int) + 1)).toNat < ((R.length : Int) - (n2 : Int)).toNat
      rw [wr (by omega) (by omega)]; omega
end
end Go.Vex.Mtr
namespace Go.Vex.Mtr
open Go.Proofs Fl

theorem tot_snoc (R : List Row) {k : Nat} {r : Row} (h : R[k]? = some r) : tot (R.take (k + 1)) = tot1 (tot (R.take k)) r := by
  unfold tot
  rw [List.take_add_one, h, List.foldl_append]; rfl

theorem tot_le (R : List Row) : (tot R).1 ≤ MX ∧ (tot R).2 ≤ MX := by
  unfold tot
  have key : ∀ (R : List Row) (s : Cn), s.1 ≤ MX ∧ s.2 ≤ MX → (R.foldl tot1 s).1 ≤ MX ∧ (R.foldl tot1 s).2 ≤ MX := by
    intro R
    induction R with
    | nil => intro s h; exact h
    | cons r R ih => intro s _; exact ih _ (tot1_le s r)
  exact key R (0, 0) ⟨by decide, by decide⟩

theorem cplx_inj {a b c d : Nat} (h : V.cplx .f64 a b = .cplx .f64 c d) : a = c ∧ b = d := by injection h with _ h1 h2; exact ⟨h1, h2⟩

section
variable {h : Hp} {p : Nat} {R : List Row} {F : List Nat}

theorem total_spec (hw : h.wf) (hm : MtR p R h F) (g : Good R) :
    XCalls Tryd.prog 20 [.ptr (some (p, 0))] h fun v h' => v = cV (tot R) ∧ Quiet h h' := by
  refine XCalls.cps fun K hK => ?_
  apply x20; unfold X20
  refine (all_spec hw hm g).mono ?_
  rintro _ h1 ⟨a, f, G, rfl, ho, q1, hG⟩
  have hgl := g.len
  refine ⟨_, _, _, rfl, fun vs g' => match vs with
    | [.cplx .f64 x y, .int _ k] => ∃ i : Nat, k = (i : Int) ∧ i ≤ R.length ∧ x = fl (tot (R.take i)).1 ∧ y = fl (tot (R.take i)).2 ∧ Quiet h1 g'
    | _ => False, fun vs _ => match vs with
    | [_, .int _ k] => ((R.length : Int) - k).toNat
    | _ => 0, ⟨rfl, 0, rfl, by omega, fl0.symm, fl0.symm, Quiet.refl q1.wf⟩, ?_⟩
  rintro bs x y k g1 ⟨i, rfl, hi, rfl, rfl, q2⟩
  cases hc : ltI (i : Int) (R.length : Int) with
  | false =>
    rw [ltI_eq, decide_eq_false_iff_not] at hc
    obtain rfl : i = R.length := by omega
    rw [List.take_length]
    exact hK _ _ ⟨rfl, q1.trans q2⟩
  | true =>
    rw [ltI_eq, decide_eq_true_eq] at hc
    have hk : i < R.length := by omega
    refine ⟨⟨by omega, hc⟩, ?_⟩
    have ho1 : Own 3 a R.length (rws R) g1 G := (Own.rep _ _ _ _).loc _ _ _ (fun j hj => q2.same j ((Own.rep _ _ _ _).lt q1.wf ho hj)) ho
    obtain ⟨q, o', r0, rfl, hr0, hr1, _, hlda⟩ := ho1.ld hk
    obtain ⟨r, hrr⟩ : ∃ r, R[i]? = some r := ⟨_, List.getElem?_eq_getElem hk⟩
    rw [rws_get hrr] at hr0
    obtain rfl := Option.some.inj hr0
    obtain ⟨b1, b2⟩ := g.bnd r (List.mem_of_getElem? hrr)
    obtain ⟨t1, t2⟩ := tot_le (R.take i)
    have eM : MX = 4503599627370496 := rfl
    refine ⟨r.1, r.2.1, r.2.2, by rw [Int.toNat_natCast]; exact hlda, ?_⟩
    rintro h2 rfl
    have hg2 : (g1.alloc (.row [.str [], .int .i64 0, .int .i64 0] 1 false)).get g1.next = some (.row [.str [], .int .i64 0, .int .i64 0] 1 false) := Hp.get_alloc_self
    refine ⟨_, Hp.st_of hg2 (Nat.le_of_ble_eq_true rfl), ?_⟩
    have hg3 : ((g1.alloc (.row [.str [], .int .i64 0, .int .i64 0] 1 false)).set g1.next (.row (splice [.str [], .int .i64 0, .int .i64 0] 0 [.str r.1, .int .i64 r.2.1, .int .i64 r.2.2]) 1 false)).get g1.next = some (.row [.str r.1, .int .i64 r.2.1, .int .i64 r.2.2] 1 false) := Hp.get_set_self
    have q3 : Quiet g1 ((g1.alloc (.row [.str [], .int .i64 0, .int .i64 0] 1 false)).set g1.next (.row (splice [.str [], .int .i64 0, .int .i64 0] 0 [.str r.1, .int .i64 r.2.1, .int .i64 r.2.2]) 1 false)) := ⟨fun j hj => by rw [Hp.get_set_ne (by omega), Hp.get_alloc_ne (by omega)], by show g1.next ≤ g1.next + 1; omega, q2.wf.alloc.set (by show g1.next < g1.next + 1; omega)⟩
    generalize ((g1.alloc (.row [.str [], .int .i64 0, .int .i64 0] 1 false)).set g1.next _) = h3 at *
    refine ⟨r.2.1, by rw [Hp.ld_of hg3]; rfl, rfl, fl ((tot (R.take i)).1 + r.2.1), by rw [near_nat]; exact fAdd_fl (by omega), _, fMin_fl (by omega), r.2.2, by rw [Hp.ld_of hg3]; rfl, rfl, fl ((tot (R.take i)).2 + r.2.2), by rw [near_nat]; exact fAdd_fl (by omega), _, fMin_fl (by omega), rfl, ⟨i + 1, ?_, by omega, ?_, ?_, q2.trans q3⟩, ?_⟩
    · rw [wr (by omega) (by omega)]; rfl
    · rw [tot_snoc R hrr]; rfl
    · rw [tot_snoc R hrr]; rfl
    · show ((R.length : Int) - IntKind.i64.wrap ((i : Int) + 1)).toNat < ((R.length : Int) - (i : Int)).toNat
      rw [wr (by omega) (by omega)]; omega

/-! ### what none answers -/

theorem getN_spec (s : Nm) : XCalls Tryd.prog 13 [.ptr none, .str s] h fun v h' => v = cV (0, 0) ∧ h' = h := by
  apply x13n; exact ⟨cV0.symm, rfl⟩
theorem allN_spec : XCalls Tryd.prog 19 [.ptr none] h fun v h' => v = .slc none 0 true ∧ h' = h := by
  apply x19n; exact ⟨rfl, rfl⟩
theorem addN_spec (s : Nm) (a b : Int) : XCalls Tryd.prog 18 [.ptr none, .str s, .int .i64 a, .int .i64 b] h fun v h' => v = .int .i64 1 ∧ h' = h := by
  apply x18n; exact ⟨rfl, rfl⟩
theorem joinN_spec (l : Option (Nat × Nat)) (n : Nat) (f : Bool) : XCalls Tryd.prog 14 [.ptr none, .slc l n f] h fun v h' => v = .int .i64 1 ∧ h' = h := by
  apply x14n; exact ⟨rfl, rfl⟩
theorem totalN_spec : XCalls Tryd.prog 20 [.ptr none] h fun v h' => v = cV (0, 0) ∧ h' = h := by
  refine XCalls.cps fun K hK => ?_
  apply x20n; unfold X20n
  refine allN_spec.mono ?_
  rintro _ h1 ⟨rfl, rfl⟩
  refine ⟨_, _, _, rfl, fun vs g' => vs = [.cplx .f64 0 0, .int .i64 0] ∧ g' = h1, fun _ _ => 0, ⟨rfl, rfl, rfl⟩, ?_⟩
  rintro bs x y k g1 ⟨hv, rfl⟩
  cases hv
  exact hK _ _ ⟨cV0.symm, rfl⟩

/-! ### Join -/

abbrev ptrs (ps : List (Option (Nat × Nat))) : List (List V) := ps.map fun p => [.ptr p]

theorem index_spec {a : Option (Nat × Nat)} {n : Nat} {f : Bool} {ps : List (Option (Nat × Nat))} {G : List Nat} (ho : Ow 1 a n (ptrs ps) h G) (hn : n ≤ 1000000) :
    XCalls Tryd.prog 34 [.slc a n f, .ptr none] h fun v h' => (∃ x : Int, v = .int .i64 x ∧ ltI x 0 = !ps.any Option.isNone) ∧ h' = h := by
  refine XCalls.cps fun K hK => ?_
  have hl : ps.length = n := by have := ho.1; simpa using this
  apply x34; unfold X34
  refine ⟨fun vs g' => match vs with
    | [.int _ k] => ∃ i : Nat, k = (i : Int) ∧ i ≤ n ∧ (ps.take i).any Option.isNone = false ∧ g' = h
    | _ => False, fun vs _ => match vs with
    | [.int _ k] => ((n : Int) - k).toNat
    | _ => 0, ⟨rfl, 0, rfl, by omega, rfl, rfl⟩, ?_⟩
  rintro bs k g1 ⟨i, rfl, hi, hx, rfl⟩
  cases hc : ltI (i : Int) (n : Int) with
  | false =>
    rw [ltI_eq, decide_eq_false_iff_not] at hc
    obtain rfl : i = n := by omega
    rw [← hl, List.take_length] at hx
    exact hK _ _ ⟨⟨-1, rfl, by rw [hx]; rfl⟩, rfl⟩
  | true =>
    rw [ltI_eq, decide_eq_true_eq] at hc
    have hk : i < n := by omega
    refine ⟨⟨by omega, hc⟩, ?_⟩
    obtain ⟨q, o', r0, rfl, hr0, hr1, hld, _⟩ := ho.ld hk
    obtain ⟨pp, hpp⟩ : ∃ pp, ps[i]? = some pp := ⟨_, List.getElem?_eq_getElem (by omega)⟩
    rw [List.getElem?_map, hpp] at hr0
    obtain rfl := Option.some.inj hr0
    refine ⟨pp, by rw [Int.toNat_natCast]; have := hld 0 (by omega); simpa using this, ?_⟩
    have hpe : ∀ b, xpeq T g1 25 none b = some b.isNone := fun b => rfl
    cases pp with
    | none =>
      refine ⟨true, hpe _, hK _ _ ⟨⟨i, rfl, ?_⟩, rfl⟩⟩
      have : ps.any Option.isNone = true := List.any_eq_true.2 ⟨none, List.mem_of_getElem? hpp, rfl⟩
      rw [this, ltI_eq, decide_eq_false (by omega)]; rfl
    | some io =>
      refine ⟨false, hpe _, rfl, ⟨i + 1, ?_, by omega, ?_, rfl⟩, ?_⟩
      · rw [wr (by omega) (by omega)]; rfl
      · rw [List.take_add_one, hpp, List.any_append, hx]; rfl
      · show ((n : Int) - IntKind.i64.wrap ((i : Int) + 1)).toNat < ((n : Int) - (i : Int)).toNat
        rw [wr (by omega) (by omega)]; omega

theorem contains_spec {a : Option (Nat × Nat)} {n : Nat} {f : Bool} {ps : List (Option (Nat × Nat))} {G : List Nat} (ho : Ow 1 a n (ptrs ps) h G) (hn : n ≤ 1000000) :
    XCalls Tryd.prog 25 [.slc a n f, .ptr none] h fun v h' => v = .bool (ps.any Option.isNone) ∧ h' = h := by
  apply x25; unfold X25
  refine (index_spec ho hn).mono ?_
  rintro _ _ ⟨⟨x, rfl, hx⟩, rfl⟩
  exact ⟨_, rfl, by rw [hx, Bool.not_not], rfl⟩

/-- a list that holds none -/
theorem join_none {a : Option (Nat × Nat)} {n : Nat} {f : Bool} {ps : List (Option (Nat × Nat))} {G : List Nat} (hm : MtR p R h F) (ho : Ow 1 a n (ptrs ps) h G) (hn : n ≤ 1000000) (hp : ps.any Option.isNone = true) :
    XCalls Tryd.prog 14 [.ptr (some (p, 0)), .slc a n f] h fun v h' => v = .int .i64 1 ∧ h' = h := by
  obtain ⟨m, rfl, hpm, hg, mp⟩ := hm
  apply x14; unfold X14
  refine ⟨some m, by rw [Hp.ld_of hg]; rfl, ?_⟩
  refine (contains_spec ho hn).mono ?_
  rintro _ _ ⟨rfl, rfl⟩
  refine ⟨_, rfl, ?_⟩
  rw [hp]
  exact ⟨rfl, rfl⟩

theorem join_spec (hw : h.wf) (hm : MtR p R h F) (g : Good R) {a : Option (Nat × Nat)} {n : Nat} {f : Bool} {ms : List Nat} {Rs : List (List Row)} {G : List Nat} (ho : Ow 1 a n (ptrs (ms.map fun q => some (q, 0))) h G) (hn : n ≤ 1000000)
    (hl : Rs.length = ms.length) (hms : ∀ (i q : Nat) (Q : List Row), ms[i]? = some q → Rs[i]? = some Q → Good Q ∧ ∃ F', MtR q Q h F') :
    XCalls Tryd.prog 14 [.ptr (some (p, 0)), .slc a n f] h fun v h' => ∃ F', v = .int .i64 (joinR R Rs).1 ∧ MtR p (joinR R Rs).2 h' F' ∧ Upd h h' F F' ∧ h'.wf := by
  obtain ⟨m, rfl, hpm, hg, o, L, hgm, mo, hp⟩ := hm
  refine XCalls.cps fun K hK => ?_
  have hnl : ms.length = n := by have := ho.1; simpa [ptrs] using this
  have hpl0 := hw.lt hg
  have hml0 := hw.lt hgm
  have hnone : (ms.map fun q => (some (q, 0) : Option (Nat × Nat))).any Option.isNone = false := by
    rw [List.any_eq_false]
    intro x hx
    obtain ⟨q, _, rfl⟩ := List.mem_map.1 hx
    simp
  apply x14; unfold X14
  refine ⟨some m, by rw [Hp.ld_of hg]; rfl, ?_⟩
  refine (contains_spec ho hn).mono ?_
  rintro _ h ⟨rfl, rfl⟩
  refine ⟨_, rfl, ?_⟩
  rw [hnone]
  refine ⟨some m, by rw [Hp.ld_of hg]; rfl, ?_⟩
  obtain ⟨es, clk, rfl, m1, m2, m3, m4⟩ := mo
  refine (clone_spec hgm).mono ?_
  rintro _ _ ⟨rfl, rfl⟩
  refine ⟨_, rfl, ?_⟩
  have w2 : (h.alloc (.map es clk)).wf := hw.alloc
  have mp2 : Mp h.next R (h.alloc (.map es clk)) := ⟨_, L, Hp.get_alloc_self, ⟨es, clk, rfl, m1, m2, m3, m4⟩, hp⟩
  have q2 : Quiet h (h.alloc (.map es clk)) := Quiet.alloc hw _
  have n2 : h.next < (h.alloc (.map es clk)).next := by rw [Hp.alloc_next]; omega
  generalize h.alloc (.map es clk) = h2 at *
  refine ⟨fun vs g' => match vs with
    | [.int _ k] => ∃ (i : Nat) (X : List Row), k = (i : Int) ∧ i ≤ n ∧ Quiet h g' ∧ h.next < g'.next ∧ Mp h.next X g' ∧ Good X ∧ joinL R Rs = joinL X (Rs.drop i)
    | _ => False, fun vs _ => match vs with
    | [.int _ k] => ((n : Int) - k).toNat
    | _ => 0, ⟨rfl, 0, R, rfl, by omega, q2, n2, mp2, g, rfl⟩, ?_⟩
  rintro bs k g1 ⟨i, X, rfl, hi, q1, n1, mp1, gX, hJ⟩
  have gp1 : g1.get p = some (.row [.map (some m)] 1 false) := by rw [q1.same p hpl0]; exact hg
  cases hc : ltI (i : Int) (n : Int) with
  | false =>
    rw [ltI_eq, decide_eq_false_iff_not] at hc
    obtain rfl : i = n := by omega
    rw [List.drop_of_length_le (by omega)] at hJ
    have hR : joinR R Rs = (0, X) := by unfold joinR; rw [hJ]; rfl
    refine ⟨_, Hp.st_of gp1 (Nat.le_of_ble_eq_true rfl), hK _ _ ⟨[p, h.next], by rw [hR], ?_, ⟨fun j hj hF => ?_, fun j hj => ?_, ?_⟩, q1.wf.set (by have := q1.le; omega)⟩⟩
    · rw [hR]
      exact ⟨h.next, rfl, by omega, Hp.get_set_self, mp1.keep (Hp.get_set_ne (by omega))⟩
    · rw [Hp.get_set_ne (fun e => hF (by simp [e])), q1.same j hj]
    · simp only [List.mem_cons, List.not_mem_nil, or_false] at hj
      rcases hj with rfl | rfl
      · exact .inl (by simp)
      · exact .inr (Nat.le_refl _)
    · rw [Hp.set_next]; exact q1.le
  | true =>
    rw [ltI_eq, decide_eq_true_eq] at hc
    have hk : i < n := by omega
    refine ⟨⟨by omega, hc⟩, ?_⟩
    have ho1 : Ow 1 a n (ptrs (ms.map fun q => some (q, 0))) g1 G := (Ow.rep _ _ _ _).loc _ _ _ (fun j hj => q1.same j ((Ow.rep _ _ _ _).lt hw ho hj)) ho
    obtain ⟨q, o', r0, rfl, hr0, hr1, hld, _⟩ := ho1.ld hk
    obtain ⟨qm, hqm⟩ : ∃ qm, ms[i]? = some qm := ⟨_, List.getElem?_eq_getElem (by omega)⟩
    obtain ⟨Q, hQ⟩ : ∃ Q, Rs[i]? = some Q := ⟨_, List.getElem?_eq_getElem (by omega)⟩
    rw [List.getElem?_map, List.getElem?_map, hqm] at hr0
    obtain rfl := Option.some.inj hr0
    refine ⟨some (qm, 0), by rw [Int.toNat_natCast]; have := hld 0 (by omega); simpa using this, ?_⟩
    obtain ⟨gQ, F', mQ⟩ := hms i qm Q hqm hQ
    have mQ1 : MtR qm Q g1 F' := (MtR.rep _ _).loc _ _ _ (fun j hj => q1.same j ((MtR.rep _ _).lt hw mQ hj)) mQ
    refine (all_spec q1.wf mQ1 gQ).mono ?_
    rintro _ g2 ⟨a2, f2, G2, rfl, hoQ, qa, hG2⟩
    refine ⟨_, _, _, rfl, ?_⟩
    have hQl := gQ.len
    have hdrop : Rs.drop i = Q :: Rs.drop (i + 1) := by
      rw [List.drop_eq_getElem_cons (by omega)]
      congr 1
      rw [List.getElem?_eq_getElem (by omega)] at hQ
      exact Option.some.inj hQ
    rw [hdrop] at hJ
    refine ⟨fun vs g' => match vs with
      | [.int _ k] => ∃ (u : Nat) (Y : List Row), k = (u : Int) ∧ u ≤ Q.length ∧ Quiet h g' ∧ h.next < g'.next ∧ (∀ j ∈ G2, j < g'.next ∧ j ≠ h.next) ∧ Mp h.next Y g' ∧ Good Y ∧ addL X Q = addL Y (Q.drop u) ∧ Own 3 a2 Q.length (rws Q) g' G2
      | _ => False, fun vs _ => match vs with
      | [.int _ k] => ((Q.length : Int) - k).toNat
      | _ => 0, ⟨rfl, 0, X, rfl, by omega, q1.trans qa, by have := qa.le; omega, fun j hj => ⟨(Own.rep _ _ _ _).lt qa.wf hoQ hj, by have := hG2 j hj; omega⟩, mp1.keep (qa.same _ n1), gX, rfl, hoQ⟩, ?_⟩
    rintro bs2 k g3 ⟨u, Y, rfl, hu, q3, n3, hG3, mp3, gY, hA, ho3⟩
    cases hc2 : ltI (u : Int) (Q.length : Int) with
    | false =>
      rw [ltI_eq, decide_eq_false_iff_not] at hc2
      obtain rfl : u = Q.length := by omega
      rw [List.drop_length] at hA
      refine ⟨rfl, ⟨i + 1, Y, ?_, by omega, q3, n3, mp3, gY, ?_⟩, ?_⟩
      · rw [wr (by omega) (by omega)]; rfl
      · rw [hJ]
        show (if (addL X Q).1 = 0 then joinL (addL X Q).2 (Rs.drop (i + 1)) else addL X Q) = _
        rw [hA]; rfl
      · show ((n : Int) - IntKind.i64.wrap ((i : Int) + 1)).toNat < ((n : Int) - (i : Int)).toNat
        rw [wr (by omega) (by omega)]; omega
    | true =>
      rw [ltI_eq, decide_eq_true_eq] at hc2
      have hku : u < Q.length := by omega
      refine ⟨⟨by omega, hc2⟩, ?_⟩
      obtain ⟨q4, o4, r4, rfl, hr4, _, _, hlda⟩ := ho3.ld hku
      obtain ⟨r, hrr⟩ : ∃ r, Q[u]? = some r := ⟨_, List.getElem?_eq_getElem hku⟩
      rw [rws_get hrr] at hr4
      obtain rfl := Option.some.inj hr4
      obtain ⟨b1, b2⟩ := gQ.bnd r (List.mem_of_getElem? hrr)
      have eM : MX = 4503599627370496 := rfl
      refine ⟨r.1, r.2.1, r.2.2, by rw [Int.toNat_natCast]; exact hlda, ?_⟩
      rintro h5 rfl
      have hg5 : (g3.alloc (.row [.str [], .int .i64 0, .int .i64 0] 1 false)).get g3.next = some (.row [.str [], .int .i64 0, .int .i64 0] 1 false) := Hp.get_alloc_self
      refine ⟨_, Hp.st_of hg5 (Nat.le_of_ble_eq_true rfl), ?_⟩
      have hg6 : ((g3.alloc (.row [.str [], .int .i64 0, .int .i64 0] 1 false)).set g3.next (.row (splice [.str [], .int .i64 0, .int .i64 0] 0 [.str r.1, .int .i64 r.2.1, .int .i64 r.2.2]) 1 false)).get g3.next = some (.row [.str r.1, .int .i64 r.2.1, .int .i64 r.2.2] 1 false) := Hp.get_set_self
      have q6 : Quiet g3 ((g3.alloc (.row [.str [], .int .i64 0, .int .i64 0] 1 false)).set g3.next (.row (splice [.str [], .int .i64 0, .int .i64 0] 0 [.str r.1, .int .i64 r.2.1, .int .i64 r.2.2]) 1 false)) := ⟨fun j hj => by rw [Hp.get_set_ne (by omega), Hp.get_alloc_ne (by omega)], by show g3.next ≤ g3.next + 1; omega, q3.wf.alloc.set (by show g3.next < g3.next + 1; omega)⟩
      have n6 : ((g3.alloc (.row [.str [], .int .i64 0, .int .i64 0] 1 false)).set g3.next (.row (splice [.str [], .int .i64 0, .int .i64 0] 0 [.str r.1, .int .i64 r.2.1, .int .i64 r.2.2]) 1 false)).next = g3.next + 1 := rfl
      generalize ((g3.alloc (.row [.str [], .int .i64 0, .int .i64 0] 1 false)).set g3.next _) = h6 at *
      refine ⟨r.2.1, by rw [Hp.ld_of hg6]; rfl, r.2.2, by rw [Hp.ld_of hg6]; rfl, ?_⟩
      refine (make_spec _ _).mono ?_
      rintro _ h6 ⟨rfl, rfl⟩
      have hft : (fit (r.2.1 : Int) && fit (r.2.2 : Int)) = true := by
        simp only [fit, Bool.and_eq_true, decide_eq_true_eq]; omega
      rw [if_pos hft, if_pos hft, Int.toNat_natCast, Int.toNat_natCast]
      refine ⟨_, _, _, rfl, r.1, by rw [Hp.ld_of hg6]; rfl, ?_⟩
      refine (adds_spec q6.wf (mp3.keep (q6.same _ n3)) gY r.1 (c := r.2) b1 b2).mono ?_
      rintro _ h7 ⟨rfl, mp7, s7, nn7, w7⟩
      have q7 : Quiet h h7 := ⟨fun j hj => by rw [s7 j (by omega), q6.same j (by have := q3.le; omega), q3.same j hj], by have := q3.le; omega, w7⟩
      refine ⟨_, rfl, ?_⟩
      have hQd : Q.drop u = r :: Q.drop (u + 1) := by
        rw [List.drop_eq_getElem_cons hku]
        congr 1
        rw [List.getElem?_eq_getElem hku] at hrr
        exact Option.some.inj hrr
      rw [hQd] at hA
      have hA' : addL X Q = if (addN Y r.1 r.2).1 = 0 then addL (addN Y r.1 r.2).2 (Q.drop (u + 1)) else addN Y r.1 r.2 := hA
      by_cases hz : (addN Y r.1 r.2).1 = 0
      · rw [if_pos hz] at hA'
        rw [hz]
        refine ⟨rfl, ⟨u + 1, _, ?_, by omega, q7, by omega, fun j hj => ⟨by have := (hG3 j hj).1; omega, (hG3 j hj).2⟩, mp7, addN_good gY (gQ.may r (List.mem_of_getElem? hrr)) b1 b2, hA', ?_⟩, ?_⟩
        · rw [wr (by omega) (by omega)]; rfl
        · exact (Own.rep _ _ _ _).loc _ _ _ (fun j hj => by rw [s7 j (hG3 j hj).2, q6.same j (hG3 j hj).1]) ho3
        · show ((Q.length : Int) - IntKind.i64.wrap ((u : Int) + 1)).toNat < ((Q.length : Int) - (u : Int)).toNat
          rw [wr (by omega) (by omega)]; omega
      · rw [if_neg hz] at hA'
        have hjl : joinL R Rs = addN Y r.1 r.2 := by
          rw [hJ]
          show (if (addL X Q).1 = 0 then joinL (addL X Q).2 (Rs.drop (i + 1)) else addL X Q) = _
          rw [hA', if_neg hz]
        have hR : joinR R Rs = ((addN Y r.1 r.2).1, R) := by unfold joinR; rw [hjl, if_neg hz]
        have hb : ((addN Y r.1 r.2).1 != 0) = true := by simpa using hz
        rw [hb]
        refine hK _ _ ⟨[p, m], by rw [hR], ?_, Upd.quiet _ q7.same q7.le, w7⟩
        rw [hR]
        exact ⟨m, rfl, hpm, by rw [q7.same p hpl0]; exact hg, _, L, by rw [q7.same m hml0]; exact hgm, ⟨es, clk, rfl, m1, m2, m3, m4⟩, hp⟩
end
end Go.Vex.Mtr
