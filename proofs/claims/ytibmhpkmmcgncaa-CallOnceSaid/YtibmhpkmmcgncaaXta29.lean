/-
  call.Table as statements about data: asks, its closures and what stands under (printed by VexPrint).
-/
import Derived.Test.YtibmhpkmmcgncaaVexX
import Derived.Test.YtibmhpkmmcgncaaTab29
set_option linter.unusedVariables false
set_option maxRecDepth 100000
namespace Go.Vex
open Go.Proofs
/-! 37: stevedore/call.unless -/
def jl37 : Nat → Option JT := fun r => none
def jj37 : Nat → Option JT := fun r => none
def X37 (h : Hp) (K : V → Hp → Prop) (is : Bool) (e : Int) : Prop :=
  bif is then K (V.int IntKind.i64 (0 : Int)) h else K (V.int IntKind.i64 e) h
theorem y37 (h : Hp) (K : V → Hp → Prop) (is : Bool) (e : Int) : X37 h K is e = fnX Try.prog T F jl37 jj37 Try.f37 [V.bool is, V.int IntKind.i64 e] h K := by kernel_rfl
theorem x37 {h : Hp} {K : V → Hp → Prop} (is : Bool) (e : Int) (hx : X37 h K is e) : XCalls Try.prog 37 [V.bool is, V.int IntKind.i64 e] h K :=
  XCalls.ofX tok fok mixed (JL := jl37) (JJ := jj37) Try.func37 ((y37 h K is e) ▸ hx)
/-! 36: (*stevedore/call.Table).Accept$1 -/
def jl36 : Nat → Option JT := fun r => none
def jj36 : Nat → Option JT := fun r => none
def X36 (h : Hp) (K : V → Hp → Prop) (d : Nat) : Prop :=
  ∃ (n1 : Int),
  h.ld d (1 : Nat) = some (V.int IntKind.u8 n1) ∧
    XCalls Try.prog (37 : Nat) [V.bool (n1 == (2 : Int)), V.int IntKind.i64 (3 : Int)] h fun (v1 : V) (h'1 : Hp) => ∃ (n2 : Int), v1 = V.int IntKind.i64 n2 ∧ K (V.int IntKind.i64 n2) h'1
theorem y36 (h : Hp) (K : V → Hp → Prop) (d : Nat) : X36 h K d = fnX Try.prog T F jl36 jj36 Try.f36 [V.ptr (some (d, (0 : Nat)))] h K := by kernel_rfl
theorem x36 {h : Hp} {K : V → Hp → Prop} (d : Nat) (hx : X36 h K d) : XCalls Try.prog 36 [V.ptr (some (d, (0 : Nat)))] h K :=
  XCalls.ofX tok fok mixed (JL := jl36) (JJ := jj36) Try.func36 ((y36 h K d) ▸ hx)
/-! 38: (*stevedore/call.Table).Accept$2 -/
def jl38 : Nat → Option JT := fun r => none
def jj38 : Nat → Option JT := fun r => none
def X38 (h : Hp) (K : V → Hp → Prop) (a0 : Nat) (c1 : Nat) (c2 : Nat) : Prop :=
  ∃ (n1 : Int),
  h.ld c1 (0 : Nat) = some (V.int IntKind.u64 n1) ∧
    bif ltI (0 : Int) n1 then
      ∃ (a1 : Option (Nat × Nat)),
        h.ld c2 (0 : Nat) = some (V.ptr a1) ∧
          onS a1 fun (i1 o1 : Nat) =>
            ∃ (r1 : Option Nat),
              h.ld i1 (o1 + (3 : Nat)) = some (V.map r1) ∧
                ∃ (n2 : Int),
                  h.ld c1 (0 : Nat) = some (V.int IntKind.u64 n2) ∧
                    ∃ (a2 : Option (Nat × Nat)),
                      xlook T h (81 : Nat) (V.map r1) (V.int IntKind.u64 n2) false = some (V.ptr a2) ∧
                        XCalls Try.prog (37 : Nat) [V.bool a2.isNone, V.int IntKind.i64 (2 : Int)] h fun (v1 : V) (h'1 : Hp) => ∃ (n3 : Int), v1 = V.int IntKind.i64 n3 ∧ K (V.int IntKind.i64 n3) h'1
    else XCalls Try.prog (37 : Nat) [V.bool false, V.int IntKind.i64 (2 : Int)] h fun (v2 : V) (h'2 : Hp) => ∃ (n4 : Int), v2 = V.int IntKind.i64 n4 ∧ K (V.int IntKind.i64 n4) h'2
theorem y38 (h : Hp) (K : V → Hp → Prop) (a0 : Nat) (c1 : Nat) (c2 : Nat) : X38 h K a0 c1 c2 = fnX Try.prog T F jl38 jj38 Try.f38 [V.ptr (some (a0, (0 : Nat))), V.ptr (some (c1, (0 : Nat))), V.ptr (some (c2, (0 : Nat)))] h K := by kernel_rfl
theorem x38 {h : Hp} {K : V → Hp → Prop} (a0 : Nat) (c1 : Nat) (c2 : Nat) (hx : X38 h K a0 c1 c2) : XCalls Try.prog 38 [V.ptr (some (a0, (0 : Nat))), V.ptr (some (c1, (0 : Nat))), V.ptr (some (c2, (0 : Nat)))] h K :=
  XCalls.ofX tok fok mixed (JL := jl38) (JJ := jj38) Try.func38 ((y38 h K a0 c1 c2) ▸ hx)
/-! 39: (*stevedore/call.Table).Accept$3 -/
def jl39 : Nat → Option JT := fun r => none
def jj39 : Nat → Option JT := fun r => none
def X39 (h : Hp) (K : V → Hp → Prop) (a0 : Nat) (c1 : Nat) : Prop :=
  ∃ (a1 : Option (Nat × Nat)),
  h.ld c1 (0 : Nat) = some (V.ptr a1) ∧
    onS a1 fun (i1 o1 : Nat) =>
      ∃ (r1 : Option Nat),
        h.ld i1 (o1 + (2 : Nat)) = some (V.map r1) ∧
          ∃ (n1 : Int),
            xlen T h (80 : Nat) (V.map r1) = some (V.int IntKind.i64 n1) ∧
              ∃ (a2 : Option (Nat × Nat)),
                h.ld c1 (0 : Nat) = some (V.ptr a2) ∧
                  onS a2 fun (i2 o2 : Nat) =>
                    ∃ (n2 : Int),
                      h.ld i2 (o2 + (0 : Nat)) = some (V.int IntKind.i64 n2) ∧
                        XCalls Try.prog (37 : Nat) [V.bool (ltI n1 n2), V.int IntKind.i64 (291 : Int)] h fun (v1 : V) (h'1 : Hp) =>
                          ∃ (n3 : Int), v1 = V.int IntKind.i64 n3 ∧ K (V.int IntKind.i64 n3) h'1
theorem y39 (h : Hp) (K : V → Hp → Prop) (a0 : Nat) (c1 : Nat) : X39 h K a0 c1 = fnX Try.prog T F jl39 jj39 Try.f39 [V.ptr (some (a0, (0 : Nat))), V.ptr (some (c1, (0 : Nat)))] h K := by kernel_rfl
theorem x39 {h : Hp} {K : V → Hp → Prop} (a0 : Nat) (c1 : Nat) (hx : X39 h K a0 c1) : XCalls Try.prog 39 [V.ptr (some (a0, (0 : Nat))), V.ptr (some (c1, (0 : Nat)))] h K :=
  XCalls.ofX tok fok mixed (JL := jl39) (JJ := jj39) Try.func39 ((y39 h K a0 c1) ▸ hx)
/-! 41: stevedore/call.fresh -/
def jl41 : Nat → Option JT := fun r => none
def jj41 : Nat → Option JT := fun r => none
def X41 (h : Hp) (K : V → Hp → Prop) (d : Nat) : Prop :=
  ∃ (n1 : Int),
  h.ld d (1 : Nat) = some (V.int IntKind.u8 n1) ∧
    XCalls Try.prog (37 : Nat) [V.bool (n1 == (0 : Int)), V.int IntKind.i64 (3 : Int)] h fun (v1 : V) (h'1 : Hp) => ∃ (n2 : Int), v1 = V.int IntKind.i64 n2 ∧ K (V.int IntKind.i64 n2) h'1
theorem y41 (h : Hp) (K : V → Hp → Prop) (d : Nat) : X41 h K d = fnX Try.prog T F jl41 jj41 Try.f41 [V.ptr (some (d, (0 : Nat)))] h K := by kernel_rfl
theorem x41 {h : Hp} {K : V → Hp → Prop} (d : Nat) (hx : X41 h K d) : XCalls Try.prog 41 [V.ptr (some (d, (0 : Nat)))] h K :=
  XCalls.ofX tok fok mixed (JL := jl41) (JJ := jj41) Try.func41 ((y41 h K d) ▸ hx)
/-! 42: (*stevedore/call.Table).Bind$1 -/
def jl42 : Nat → Option JT := fun r => none
def jj42 : Nat → Option JT := fun r => none
def X42 (h : Hp) (K : V → Hp → Prop) (a0 : Nat) (c1 : Nat) (c2 : Nat) : Prop :=
  ∃ (n1 : Int),
  h.ld c1 (0 : Nat) = some (V.int IntKind.u32 n1) ∧
    bif n1 == (0 : Int) then
      ∃ (n2 : Int),
        h.ld c1 (1 : Nat) = some (V.int IntKind.u16 n2) ∧
          XCalls Try.prog (37 : Nat) [V.bool (ltI (0 : Int) n2), V.int IntKind.i64 (2 : Int)] h fun (v1 : V) (h'1 : Hp) => ∃ (n3 : Int), v1 = V.int IntKind.i64 n3 ∧ K (V.int IntKind.i64 n3) h'1
    else
      ∃ (a1 : Option (Nat × Nat)),
        h.ld c2 (0 : Nat) = some (V.ptr a1) ∧
          onS a1 fun (i1 o1 : Nat) =>
            ∃ (a2 : Option (Nat × Nat)),
              ∃ (n4 : Nat),
                ∃ (f1 : Bool),
                  h.ld i1 (o1 + (1 : Nat)) = some (V.slc a2 n4 f1) ∧
                    ∃ (n5 : Int),
                      h.ld c1 (0 : Nat) = some (V.int IntKind.u32 n5) ∧
                        XCalls Try.prog (31 : Nat) [V.slc a2 n4 f1, V.int IntKind.u32 n5] h fun (v2 : V) (h'2 : Hp) =>
                          ∃ (b1 : Bool),
                            v2 = V.bool b1 ∧
                              bif b1 then
                                ∃ (n6 : Int),
                                  h'2.ld c1 (1 : Nat) = some (V.int IntKind.u16 n6) ∧
                                    XCalls Try.prog (37 : Nat) [V.bool (ltI (0 : Int) n6), V.int IntKind.i64 (2 : Int)] h'2 fun (v3 : V) (h'3 : Hp) =>
                                      ∃ (n7 : Int), v3 = V.int IntKind.i64 n7 ∧ K (V.int IntKind.i64 n7) h'3
                              else
                                XCalls Try.prog (37 : Nat) [V.bool false, V.int IntKind.i64 (2 : Int)] h'2 fun (v4 : V) (h'4 : Hp) =>
                                  ∃ (n8 : Int), v4 = V.int IntKind.i64 n8 ∧ K (V.int IntKind.i64 n8) h'4
theorem y42 (h : Hp) (K : V → Hp → Prop) (a0 : Nat) (c1 : Nat) (c2 : Nat) : X42 h K a0 c1 c2 = fnX Try.prog T F jl42 jj42 Try.f42 [V.ptr (some (a0, (0 : Nat))), V.ptr (some (c1, (0 : Nat))), V.ptr (some (c2, (0 : Nat)))] h K := by kernel_rfl
theorem x42 {h : Hp} {K : V → Hp → Prop} (a0 : Nat) (c1 : Nat) (c2 : Nat) (hx : X42 h K a0 c1 c2) : XCalls Try.prog 42 [V.ptr (some (a0, (0 : Nat))), V.ptr (some (c1, (0 : Nat))), V.ptr (some (c2, (0 : Nat)))] h K :=
  XCalls.ofX tok fok mixed (JL := jl42) (JJ := jj42) Try.func42 ((y42 h K a0 c1 c2) ▸ hx)
/-! 44: (*stevedore/call.Table).Listen$1 -/
def jl44 : Nat → Option JT := fun r => none
def jj44 : Nat → Option JT := fun r => none
def X44 (h : Hp) (K : V → Hp → Prop) (d : Nat) : Prop :=
  ∃ (n1 : Int),
  h.ld d (0 : Nat) = some (V.int IntKind.u8 n1) ∧
    XCalls Try.prog (37 : Nat) [V.bool (n1 == (2 : Int)), V.int IntKind.i64 (2 : Int)] h fun (v1 : V) (h'1 : Hp) => ∃ (n2 : Int), v1 = V.int IntKind.i64 n2 ∧ K (V.int IntKind.i64 n2) h'1
theorem y44 (h : Hp) (K : V → Hp → Prop) (d : Nat) : X44 h K d = fnX Try.prog T F jl44 jj44 Try.f44 [V.ptr (some (d, (0 : Nat)))] h K := by kernel_rfl
theorem x44 {h : Hp} {K : V → Hp → Prop} (d : Nat) (hx : X44 h K d) : XCalls Try.prog 44 [V.ptr (some (d, (0 : Nat)))] h K :=
  XCalls.ofX tok fok mixed (JL := jl44) (JJ := jj44) Try.func44 ((y44 h K d) ▸ hx)
/-! 45: (*stevedore/call.Table).Listen$2 -/
def jl45 : Nat → Option JT := fun r => none
def jj45 : Nat → Option JT := fun r => none
def X45 (h : Hp) (K : V → Hp → Prop) (d : Nat) : Prop :=
  ∃ (n1 : Int),
  h.ld d (1 : Nat) = some (V.int IntKind.u8 n1) ∧
    XCalls Try.prog (37 : Nat) [V.bool (n1 != (3 : Int)), V.int IntKind.i64 (292 : Int)] h fun (v1 : V) (h'1 : Hp) => ∃ (n2 : Int), v1 = V.int IntKind.i64 n2 ∧ K (V.int IntKind.i64 n2) h'1
theorem y45 (h : Hp) (K : V → Hp → Prop) (d : Nat) : X45 h K d = fnX Try.prog T F jl45 jj45 Try.f45 [V.ptr (some (d, (0 : Nat)))] h K := by kernel_rfl
theorem x45 {h : Hp} {K : V → Hp → Prop} (d : Nat) (hx : X45 h K d) : XCalls Try.prog 45 [V.ptr (some (d, (0 : Nat)))] h K :=
  XCalls.ofX tok fok mixed (JL := jl45) (JJ := jj45) Try.func45 ((y45 h K d) ▸ hx)
/-! 46: (*stevedore/call.Table).Listen$3 -/
def jl46 : Nat → Option JT := fun r => none
def jj46 : Nat → Option JT := fun r => none
def X46 (h : Hp) (K : V → Hp → Prop) (d : Nat) : Prop :=
  ∃ (n1 : Int),
  h.ld d (1 : Nat) = some (V.int IntKind.u8 n1) ∧
    XCalls Try.prog (37 : Nat) [V.bool (n1 != (0 : Int)), V.int IntKind.i64 (294 : Int)] h fun (v1 : V) (h'1 : Hp) => ∃ (n2 : Int), v1 = V.int IntKind.i64 n2 ∧ K (V.int IntKind.i64 n2) h'1
theorem y46 (h : Hp) (K : V → Hp → Prop) (d : Nat) : X46 h K d = fnX Try.prog T F jl46 jj46 Try.f46 [V.ptr (some (d, (0 : Nat)))] h K := by kernel_rfl
theorem x46 {h : Hp} {K : V → Hp → Prop} (d : Nat) (hx : X46 h K d) : XCalls Try.prog 46 [V.ptr (some (d, (0 : Nat)))] h K :=
  XCalls.ofX tok fok mixed (JL := jl46) (JJ := jj46) Try.func46 ((y46 h K d) ▸ hx)
/-! 35: (*stevedore/call.Table).asks -/
-- loop 8: stays f(9), d(11), (51), (52); turns (53)
def jl35 : Nat → Option JT := fun r => bif Nat.beq r 8 then some ⟨[9, 11, 51, 52], [53], [V.int IntKind.i64 (0 : Int)]⟩ else none
def jj35 : Nat → Option JT := fun r => none
def X35 (h : Hp) (K : V → Hp → Prop) (t : Nat) (fd : Int) (l : Option (Nat × Nat)) (l_n : Nat) (l_f : Bool) : Prop :=
  ∃ (r1 : Option Nat),
  h.ld t (2 : Nat) = some (V.map r1) ∧
    bif r1.isNone then K (V.tup [V.int IntKind.u64 (0 : Int), V.ptr none, V.int IntKind.i64 (1 : Int)]) h
    else
      ∃ (r2 : Option Nat),
        h.ld t (2 : Nat) = some (V.map r2) ∧
          ∃ (n1 : Int),
            ∃ (n2 : Int),
              ∃ (n3 : Int),
                ∃ (b1 : Bool),
                  ∃ (b'1 : Bool),
                    xlook T h (80 : Nat) (V.map r2) (V.int IntKind.i64 fd) true = some (V.tup [V.agg [V.int IntKind.u8 n1, V.int IntKind.u8 n2, V.int IntKind.u64 n3, V.bool b1], V.bool b'1]) ∧
                      ∀ (h'1 : Hp),
                        h'1 = h.alloc (O.row [V.int IntKind.u8 (0 : Int), V.int IntKind.u8 (0 : Int), V.int IntKind.u64 (0 : Int), V.bool false] (1 : Nat) false) →
                          ∃ (h'2 : Hp),
                            h'1.st h.next (0 : Nat) [V.int IntKind.u8 n1, V.int IntKind.u8 n2, V.int IntKind.u64 n3, V.bool b1] = some h'2 ∧
                              ∃ (r3 : Option Nat),
                                h'2.ld t (3 : Nat) = some (V.map r3) ∧
                                  ∃ (n4 : Int),
                                    h'2.ld h.next (2 : Nat) = some (V.int IntKind.u64 n4) ∧
                                      ∃ (a1 : Option (Nat × Nat)),
                                        xlook T h'2 (81 : Nat) (V.map r3) (V.int IntKind.u64 n4) false = some (V.ptr a1) ∧
                                          bif !b'1 then K (V.tup [V.int IntKind.u64 (0 : Int), V.ptr none, V.int IntKind.i64 (290 : Int)]) h'2
                                          else
                                            ∃ (n5 : Int),
                                              h'2.ld h.next (0 : Nat) = some (V.int IntKind.u8 n5) ∧
                                                bif n5 != (1 : Int) then K (V.tup [V.int IntKind.u64 (0 : Int), V.ptr none, V.int IntKind.i64 (290 : Int)]) h'2
                                                else
                                                  bif a1.isNone then K (V.tup [V.int IntKind.u64 (0 : Int), V.ptr none, V.int IntKind.i64 (290 : Int)]) h'2
                                                  else
                                                    ∃ (I1 : List V → Hp → Prop),
                                                      ∃ (x1 : List V → Hp → Nat),
                                                        ([V.ptr (some (h.next, (0 : Nat))), V.ptr a1, V.slc l l_n l_f, V.int IntKind.i64 (↑l_n : Int)] =
                                                              [V.ptr (some (h.next, (0 : Nat))), V.ptr a1, V.slc l l_n l_f, V.int IntKind.i64 (↑l_n : Int)] ∧
                                                            I1 [V.int IntKind.i64 (0 : Int)] h'2) ∧
                                                          ∀ (bs1 : Nat → Option V) (n6 : Int) (h1 : Hp),
                                                            I1 [V.int IntKind.i64 n6] h1 →
                                                              bif ltI n6 (↑l_n : Int) then
                                                                ((0 : Int) ≤ n6 ∧ n6 < (↑l_n : Int)) ∧
                                                                  onS l fun (i1 o1 : Nat) =>
                                                                    ∃ (g1 : Nat),
                                                                      ∃ (cs1 : List V),
                                                                        h1.ld i1 (o1 + n6.toNat * (1 : Nat)) = some (V.fn (Fn.func g1) [] cs1) ∧
                                                                          bif isFn F g1 then
                                                                            XCalls Try.prog g1 (V.ptr a1 :: cs1) h1 fun (v1 : V) (h'3 : Hp) =>
                                                                              ∃ (n7 : Int),
                                                                                v1 = V.int IntKind.i64 n7 ∧
                                                                                  bif n7 != (0 : Int) then K (V.tup [V.int IntKind.u64 (0 : Int), V.ptr none, V.int IntKind.i64 n7]) h'3
                                                                                  else
                                                                                    [V.ptr (some (h.next, (0 : Nat))), V.ptr a1, V.slc l l_n l_f, V.int IntKind.i64 (↑l_n : Int)] =
                                                                                        [V.ptr (some (h.next, (0 : Nat))), V.ptr a1, V.slc l l_n l_f, V.int IntKind.i64 (↑l_n : Int)] ∧
                                                                                      I1 [V.int IntKind.i64 (IntKind.i64.wrap (n6 + (1 : Int)))] h'3 ∧
                                                                                        x1 [V.int IntKind.i64 (IntKind.i64.wrap (n6 + (1 : Int)))] h'3 < x1 [V.int IntKind.i64 n6] h1
                                                                          else False
                                                              else
                                                                ∃ (n8 : Int),
                                                                  h1.ld h.next (2 : Nat) = some (V.int IntKind.u64 n8) ∧ K (V.tup [V.int IntKind.u64 n8, V.ptr a1, V.int IntKind.i64 (0 : Int)]) h1
theorem y35 (h : Hp) (K : V → Hp → Prop) (t : Nat) (fd : Int) (l : Option (Nat × Nat)) (l_n : Nat) (l_f : Bool) : X35 h K t fd l l_n l_f = fnX Try.prog T F jl35 jj35 Try.f35 [V.ptr (some (t, (0 : Nat))), V.int IntKind.i64 fd, V.slc l l_n l_f] h K := by kernel_rfl
theorem x35 {h : Hp} {K : V → Hp → Prop} (t : Nat) (fd : Int) (l : Option (Nat × Nat)) (l_n : Nat) (l_f : Bool) (hx : X35 h K t fd l l_n l_f) : XCalls Try.prog 35 [V.ptr (some (t, (0 : Nat))), V.int IntKind.i64 fd, V.slc l l_n l_f] h K :=
  XCalls.ofX tok fok mixed (JL := jl35) (JJ := jj35) Try.func35 ((y35 h K t fd l l_n l_f) ▸ hx)
/-! 31: slices.Contains[[]uint32,uint32] -/
def jl31 : Nat → Option JT := fun r => none
def jj31 : Nat → Option JT := fun r => none
def X31 (h : Hp) (K : V → Hp → Prop) (s : Option (Nat × Nat)) (s_n : Nat) (s_f : Bool) (v : Int) : Prop :=
  XCalls Try.prog (65 : Nat) [V.slc s s_n s_f, V.int IntKind.u32 v] h fun (v1 : V) (h'1 : Hp) => ∃ (n1 : Int), v1 = V.int IntKind.i64 n1 ∧ K (V.bool !ltI n1 (0 : Int)) h'1
theorem y31 (h : Hp) (K : V → Hp → Prop) (s : Option (Nat × Nat)) (s_n : Nat) (s_f : Bool) (v : Int) : X31 h K s s_n s_f v = fnX Try.prog T F jl31 jj31 Try.f31 [V.slc s s_n s_f, V.int IntKind.u32 v] h K := by kernel_rfl
theorem x31 {h : Hp} {K : V → Hp → Prop} (s : Option (Nat × Nat)) (s_n : Nat) (s_f : Bool) (v : Int) (hx : X31 h K s s_n s_f v) : XCalls Try.prog 31 [V.slc s s_n s_f, V.int IntKind.u32 v] h K :=
  XCalls.ofX tok fok mixed (JL := jl31) (JJ := jj31) Try.func31 ((y31 h K s s_n s_f v) ▸ hx)
/-! 65: slices.Index[[]uint32,uint32] -/
-- loop 2: stays s(0), v(1), (7); turns (8)
def jl65 : Nat → Option JT := fun r => bif Nat.beq r 2 then some ⟨[0, 1, 7], [8], [V.int IntKind.i64 (0 : Int)]⟩ else none
def jj65 : Nat → Option JT := fun r => none
def X65 (h : Hp) (K : V → Hp → Prop) (s : Option (Nat × Nat)) (s_n : Nat) (s_f : Bool) (v : Int) : Prop :=
  ∃ (I1 : List V → Hp → Prop),
  ∃ (x1 : List V → Hp → Nat),
    ([V.slc s s_n s_f, V.int IntKind.u32 v, V.int IntKind.i64 (↑s_n : Int)] = [V.slc s s_n s_f, V.int IntKind.u32 v, V.int IntKind.i64 (↑s_n : Int)] ∧ I1 [V.int IntKind.i64 (0 : Int)] h) ∧
      ∀ (bs1 : Nat → Option V) (n1 : Int) (h1 : Hp),
        I1 [V.int IntKind.i64 n1] h1 →
          bif ltI n1 (↑s_n : Int) then
            ((0 : Int) ≤ n1 ∧ n1 < (↑s_n : Int)) ∧
              onS s fun (i1 o1 : Nat) =>
                ∃ (n2 : Int),
                  h1.ld i1 (o1 + n1.toNat * (1 : Nat)) = some (V.int IntKind.u32 n2) ∧
                    bif v == n2 then K (V.int IntKind.i64 n1) h1
                    else
                      [V.slc s s_n s_f, V.int IntKind.u32 v, V.int IntKind.i64 (↑s_n : Int)] = [V.slc s s_n s_f, V.int IntKind.u32 v, V.int IntKind.i64 (↑s_n : Int)] ∧
                        I1 [V.int IntKind.i64 (IntKind.i64.wrap (n1 + (1 : Int)))] h1 ∧ x1 [V.int IntKind.i64 (IntKind.i64.wrap (n1 + (1 : Int)))] h1 < x1 [V.int IntKind.i64 n1] h1
          else K (V.int IntKind.i64 (-1 : Int)) h1
theorem y65 (h : Hp) (K : V → Hp → Prop) (s : Option (Nat × Nat)) (s_n : Nat) (s_f : Bool) (v : Int) : X65 h K s s_n s_f v = fnX Try.prog T F jl65 jj65 Try.f65 [V.slc s s_n s_f, V.int IntKind.u32 v] h K := by kernel_rfl
theorem x65 {h : Hp} {K : V → Hp → Prop} (s : Option (Nat × Nat)) (s_n : Nat) (s_f : Bool) (v : Int) (hx : X65 h K s s_n s_f v) : XCalls Try.prog 65 [V.slc s s_n s_f, V.int IntKind.u32 v] h K :=
  XCalls.ofX tok fok mixed (JL := jl65) (JJ := jj65) Try.func65 ((y65 h K s s_n s_f v) ▸ hx)
/-! 32: slices.Clone[[]uint32,uint32] -/
def jl32 : Nat → Option JT := fun r => none
def jj32 : Nat → Option JT := fun r => none
def X32 (h : Hp) (K : V → Hp → Prop) (s : Option (Nat × Nat)) (s_n : Nat) (s_f : Bool) : Prop :=
  bif s.isNone then K (V.slc none (0 : Nat) true) h
else
  ∀ (h'1 : Hp),
    h'1 = h.alloc (O.row [] (1 : Nat) false) →
      ∃ (p1 : Option (Nat × Nat)),
        ∃ (n1 : Nat),
          ∃ (f1 : Bool), ∃ (h'2 : Hp), xapp T h'1 (77 : Nat) (77 : Nat) (V.slc (some (h.next, (0 : Nat))) (0 : Nat) true) (V.slc s s_n s_f) = some (V.slc p1 n1 f1, h'2) ∧ K (V.slc p1 n1 f1) h'2
theorem y32 (h : Hp) (K : V → Hp → Prop) (s : Option (Nat × Nat)) (s_n : Nat) (s_f : Bool) : X32 h K s s_n s_f = fnX Try.prog T F jl32 jj32 Try.f32 [V.slc s s_n s_f] h K := by kernel_rfl
theorem x32 {h : Hp} {K : V → Hp → Prop} (s : Option (Nat × Nat)) (s_n : Nat) (s_f : Bool) (hx : X32 h K s s_n s_f) : XCalls Try.prog 32 [V.slc s s_n s_f] h K :=
  XCalls.ofX tok fok mixed (JL := jl32) (JJ := jj32) Try.func32 ((y32 h K s s_n s_f) ▸ hx)
/-! 12: (*stevedore/call.Table).Born -/
def jl12 : Nat → Option JT := fun r => none
def jj12 : Nat → Option JT := fun r => none
def X12 (h : Hp) (K : V → Hp → Prop) (t : Nat) : Prop :=
  ∃ (r1 : Option Nat),
  h.ld t (2 : Nat) = some (V.map r1) ∧
    bif r1.isNone then K (V.int IntKind.u64 (0 : Int)) h
    else
      ∃ (n1 : Int),
        h.ld t (5 : Nat) = some (V.int IntKind.u64 n1) ∧
          ∃ (h'1 : Hp),
            h.st t (5 : Nat) [V.int IntKind.u64 (IntKind.u64.wrap (n1 + (1 : Int)))] = some h'1 ∧ ∃ (n2 : Int), h'1.ld t (5 : Nat) = some (V.int IntKind.u64 n2) ∧ K (V.int IntKind.u64 n2) h'1
theorem y12 (h : Hp) (K : V → Hp → Prop) (t : Nat) : X12 h K t = fnX Try.prog T F jl12 jj12 Try.f12 [V.ptr (some (t, (0 : Nat)))] h K := by kernel_rfl
theorem x12 {h : Hp} {K : V → Hp → Prop} (t : Nat) (hx : X12 h K t) : XCalls Try.prog 12 [V.ptr (some (t, (0 : Nat)))] h K :=
  XCalls.ofX tok fok mixed (JL := jl12) (JJ := jj12) Try.func12 ((y12 h K t) ▸ hx)
/-! 34: (*stevedore/call.Table).opens -/
def jl34 : Nat → Option JT := fun r => none
def jj34 : Nat → Option JT := fun r => none
def X34 (h : Hp) (K : V → Hp → Prop) (t : Nat) (f_0 : Int) (f_1 : Int) (f_2 : Int) (f_3 : Bool) : Prop :=
  ∀ (h'1 : Hp),
  h'1 = h.alloc (O.row [V.int IntKind.u8 f_0, V.int IntKind.u8 f_1, V.int IntKind.u64 f_2, V.bool f_3] (1 : Nat) false) →
    ∃ (r1 : Option Nat),
      h'1.ld t (2 : Nat) = some (V.map r1) ∧
        ∃ (n1 : Int),
          xlen T h'1 (80 : Nat) (V.map r1) = some (V.int IntKind.i64 n1) ∧
            ∃ (n2 : Int),
              h'1.ld t (0 : Nat) = some (V.int IntKind.i64 n2) ∧
                bif !ltI n1 n2 then K (V.tup [V.int IntKind.i64 (0 : Int), V.int IntKind.u64 (0 : Int), V.int IntKind.i64 (291 : Int)]) h'1
                else
                  XCalls Try.prog (12 : Nat) [V.ptr (some (t, (0 : Nat)))] h'1 fun (v1 : V) (h'2 : Hp) =>
                    ∃ (n3 : Int),
                      v1 = V.int IntKind.u64 n3 ∧
                        ∃ (h'3 : Hp),
                          h'2.st h.next (2 : Nat) [V.int IntKind.u64 n3] = some h'3 ∧
                            ∃ (n4 : Int),
                              ∃ (n5 : Int),
                                ∃ (n6 : Int),
                                  ∃ (b1 : Bool),
                                    h'3.lda h.next (0 : Nat) (4 : Nat) = some (V.agg [V.int IntKind.u8 n4, V.int IntKind.u8 n5, V.int IntKind.u64 n6, V.bool b1]) ∧
                                      ∃ (n7 : Int),
                                        h'3.ld h.next (2 : Nat) = some (V.int IntKind.u64 n7) ∧
                                          XCalls Try.prog (40 : Nat) [V.ptr (some (t, (0 : Nat))), V.agg [V.int IntKind.u8 n4, V.int IntKind.u8 n5, V.int IntKind.u64 n6, V.bool b1]] h'3
                                            fun (v2 : V) (h'4 : Hp) =>
                                            ∃ (n8 : Int),
                                              v2 = V.int IntKind.i64 n8 ∧
                                                (∃ (n9 : Int), h'4.ld h.next (2 : Nat) = some (V.int IntKind.u64 n9) ∧ V.int IntKind.u64 n9 = V.int IntKind.u64 n7) ∧
                                                  V.ptr (some (h.next, (2 : Nat))) = V.ptr (some (h.next, (2 : Nat))) ∧
                                                    K (V.tup [V.int IntKind.i64 n8, V.int IntKind.u64 n7, V.int IntKind.i64 (0 : Int)]) h'4
theorem y34 (h : Hp) (K : V → Hp → Prop) (t : Nat) (f_0 : Int) (f_1 : Int) (f_2 : Int) (f_3 : Bool) : X34 h K t f_0 f_1 f_2 f_3 = fnX Try.prog T F jl34 jj34 Try.f34 [V.ptr (some (t, (0 : Nat))), V.agg [V.int IntKind.u8 f_0, V.int IntKind.u8 f_1, V.int IntKind.u64 f_2, V.bool f_3]] h K := by kernel_rfl
theorem x34 {h : Hp} {K : V → Hp → Prop} (t : Nat) (f_0 : Int) (f_1 : Int) (f_2 : Int) (f_3 : Bool) (hx : X34 h K t f_0 f_1 f_2 f_3) : XCalls Try.prog 34 [V.ptr (some (t, (0 : Nat))), V.agg [V.int IntKind.u8 f_0, V.int IntKind.u8 f_1, V.int IntKind.u64 f_2, V.bool f_3]] h K :=
  XCalls.ofX tok fok mixed (JL := jl34) (JJ := jj34) Try.func34 ((y34 h K t f_0 f_1 f_2 f_3) ▸ hx)
/-! 40: (*stevedore/call.Table).puts -/
-- loop 2: stays t(0), f(3); turns fd(5)
def jl40 : Nat → Option JT := fun r => bif Nat.beq r 2 then some ⟨[0, 3], [5], [V.int IntKind.i64 (0 : Int)]⟩ else none
def jj40 : Nat → Option JT := fun r => none
def X40 (h : Hp) (K : V → Hp → Prop) (t : Nat) (f_0 : Int) (f_1 : Int) (f_2 : Int) (f_3 : Bool) : Prop :=
  ∀ (h'1 : Hp),
  h'1 = h.alloc (O.row [V.int IntKind.u8 f_0, V.int IntKind.u8 f_1, V.int IntKind.u64 f_2, V.bool f_3] (1 : Nat) false) →
    ∃ (I1 : List V → Hp → Prop),
      ∃ (x1 : List V → Hp → Nat),
        ([V.ptr (some (t, (0 : Nat))), V.ptr (some (h.next, (0 : Nat)))] = [V.ptr (some (t, (0 : Nat))), V.ptr (some (h.next, (0 : Nat)))] ∧ I1 [V.int IntKind.i64 (0 : Int)] h'1) ∧
          ∀ (bs1 : Nat → Option V) (n1 : Int) (h1 : Hp),
            I1 [V.int IntKind.i64 n1] h1 →
              ∃ (r1 : Option Nat),
                h1.ld t (2 : Nat) = some (V.map r1) ∧
                  ∃ (n2 : Int),
                    ∃ (n3 : Int),
                      ∃ (n4 : Int),
                        ∃ (b1 : Bool),
                          ∃ (b'1 : Bool),
                            xlook T h1 (80 : Nat) (V.map r1) (V.int IntKind.i64 n1) true =
                                some (V.tup [V.agg [V.int IntKind.u8 n2, V.int IntKind.u8 n3, V.int IntKind.u64 n4, V.bool b1], V.bool b'1]) ∧
                              ∀ (h'2 : Hp),
                                h'2 = h1.alloc (O.row [V.int IntKind.u8 (0 : Int), V.int IntKind.u8 (0 : Int), V.int IntKind.u64 (0 : Int), V.bool false] (1 : Nat) false) →
                                  ∃ (h'3 : Hp),
                                    h'2.st h1.next (0 : Nat) [V.int IntKind.u8 n2, V.int IntKind.u8 n3, V.int IntKind.u64 n4, V.bool b1] = some h'3 ∧
                                      bif !b'1 then
                                        ∃ (r2 : Option Nat),
                                          h'3.ld t (2 : Nat) = some (V.map r2) ∧
                                            ∃ (n5 : Int),
                                              ∃ (n6 : Int),
                                                ∃ (n7 : Int),
                                                  ∃ (b2 : Bool),
                                                    h'3.lda h.next (0 : Nat) (4 : Nat) = some (V.agg [V.int IntKind.u8 n5, V.int IntKind.u8 n6, V.int IntKind.u64 n7, V.bool b2]) ∧
                                                      ∃ (h'4 : Hp),
                                                        xput T h'3 (80 : Nat) (V.map r2) (V.int IntKind.i64 n1) (V.agg [V.int IntKind.u8 n5, V.int IntKind.u8 n6, V.int IntKind.u64 n7, V.bool b2]) =
                                                            some h'4 ∧
                                                          K (V.int IntKind.i64 n1) h'4
                                      else
                                        [V.ptr (some (t, (0 : Nat))), V.ptr (some (h.next, (0 : Nat)))] = [V.ptr (some (t, (0 : Nat))), V.ptr (some (h.next, (0 : Nat)))] ∧
                                          I1 [V.int IntKind.i64 (IntKind.i64.wrap (n1 + (1 : Int)))] h'3 ∧ x1 [V.int IntKind.i64 (IntKind.i64.wrap (n1 + (1 : Int)))] h'3 < x1 [V.int IntKind.i64 n1] h1
theorem y40 (h : Hp) (K : V → Hp → Prop) (t : Nat) (f_0 : Int) (f_1 : Int) (f_2 : Int) (f_3 : Bool) : X40 h K t f_0 f_1 f_2 f_3 = fnX Try.prog T F jl40 jj40 Try.f40 [V.ptr (some (t, (0 : Nat))), V.agg [V.int IntKind.u8 f_0, V.int IntKind.u8 f_1, V.int IntKind.u64 f_2, V.bool f_3]] h K := by kernel_rfl
theorem x40 {h : Hp} {K : V → Hp → Prop} (t : Nat) (f_0 : Int) (f_1 : Int) (f_2 : Int) (f_3 : Bool) (hx : X40 h K t f_0 f_1 f_2 f_3) : XCalls Try.prog 40 [V.ptr (some (t, (0 : Nat))), V.agg [V.int IntKind.u8 f_0, V.int IntKind.u8 f_1, V.int IntKind.u64 f_2, V.bool f_3]] h K :=
  XCalls.ofX tok fok mixed (JL := jl40) (JJ := jj40) Try.func40 ((y40 h K t f_0 f_1 f_2 f_3) ▸ hx)
/-! 8: stevedore/call.New -/
def jl8 : Nat → Option JT := fun r => none
def jj8 : Nat → Option JT := fun r => none
def X8 (h : Hp) (K : V → Hp → Prop) (most : Int) (own : Option (Nat × Nat)) (own_n : Nat) (own_f : Bool) : Prop :=
  bif ltI most (1 : Int) then K (V.tup [V.ptr none, V.int IntKind.i64 (2 : Int)]) h
else
  bif ltI (64 : Int) most then K (V.tup [V.ptr none, V.int IntKind.i64 (2 : Int)]) h
  else
    XCalls Try.prog (31 : Nat) [V.slc own own_n own_f, V.int IntKind.u32 (0 : Int)] h fun (v1 : V) (h'1 : Hp) =>
      ∃ (b1 : Bool),
        v1 = V.bool b1 ∧
          bif b1 then K (V.tup [V.ptr none, V.int IntKind.i64 (2 : Int)]) h'1
          else
            XCalls Try.prog (32 : Nat) [V.slc own own_n own_f] h'1 fun (v2 : V) (h'2 : Hp) =>
              ∃ (a1 : Option (Nat × Nat)),
                ∃ (n1 : Nat),
                  ∃ (f1 : Bool),
                    v2 = V.slc a1 n1 f1 ∧
                      ∀ (h'3 : Hp),
                        h'3 = h'2.alloc (O.map [] (0 : Nat)) →
                          ∀ (h'4 : Hp),
                            h'4 = h'3.alloc (O.map [] (0 : Nat)) →
                              XCalls Try.prog (33 : Nat) [] h'4 fun (v3 : V) (h'5 : Hp) =>
                                ∃ (a2 : Option (Nat × Nat)),
                                  v3 = V.ptr a2 ∧
                                    ∀ (h'6 : Hp),
                                      h'6 =
                                          h'5.alloc
                                            (O.row [V.int IntKind.i64 most, V.slc a1 n1 f1, V.map (some h'2.next), V.map (some h'3.next), V.ptr a2, V.int IntKind.u64 (0 : Int)] (1 : Nat) false) →
                                        K (V.tup [V.ptr (some (h'5.next, (0 : Nat))), V.int IntKind.i64 (0 : Int)]) h'6
theorem y8 (h : Hp) (K : V → Hp → Prop) (most : Int) (own : Option (Nat × Nat)) (own_n : Nat) (own_f : Bool) : X8 h K most own own_n own_f = fnX Try.prog T F jl8 jj8 Try.f8 [V.int IntKind.i64 most, V.slc own own_n own_f] h K := by kernel_rfl
theorem x8 {h : Hp} {K : V → Hp → Prop} (most : Int) (own : Option (Nat × Nat)) (own_n : Nat) (own_f : Bool) (hx : X8 h K most own own_n own_f) : XCalls Try.prog 8 [V.int IntKind.i64 most, V.slc own own_n own_f] h K :=
  XCalls.ofX tok fok mixed (JL := jl8) (JJ := jj8) Try.func8 ((y8 h K most own own_n own_f) ▸ hx)
/-! 11: stevedore/stevedorelaw29.pair -/
def jl11 : Nat → Option JT := fun r => none
def jj11 : Nat → Option JT := fun r => none
def X11 (h : Hp) (K : V → Hp → Prop) (a_0 : Int) (a_1 : Int) : Prop :=
  ∀ (h'1 : Hp),
  h'1 = h.alloc (O.row [V.int IntKind.u32 a_0, V.int IntKind.u16 a_1] (1 : Nat) false) →
    ∀ (h'2 : Hp),
      h'2 = h'1.alloc (O.row [V.int IntKind.u32 (0 : Int), V.int IntKind.u16 (0 : Int), V.int IntKind.u32 (0 : Int), V.int IntKind.u16 (0 : Int)] (1 : Nat) false) →
        ∃ (n1 : Int),
          ∃ (n2 : Int),
            h'2.lda h.next (0 : Nat) (2 : Nat) = some (V.agg [V.int IntKind.u32 n1, V.int IntKind.u16 n2]) ∧
              ∃ (h'3 : Hp),
                h'2.st h'1.next (0 : Nat) [V.int IntKind.u32 (7 : Int), V.int IntKind.u16 (80 : Int), V.int IntKind.u32 n1, V.int IntKind.u16 n2] = some h'3 ∧
                  ∃ (n3 : Int),
                    ∃ (n4 : Int),
                      ∃ (n5 : Int),
                        ∃ (n6 : Int),
                          h'3.lda h'1.next (0 : Nat) (4 : Nat) = some (V.agg [V.int IntKind.u32 n3, V.int IntKind.u16 n4, V.int IntKind.u32 n5, V.int IntKind.u16 n6]) ∧
                            K (V.agg [V.int IntKind.u32 n3, V.int IntKind.u16 n4, V.int IntKind.u32 n5, V.int IntKind.u16 n6]) h'3
theorem y11 (h : Hp) (K : V → Hp → Prop) (a_0 : Int) (a_1 : Int) : X11 h K a_0 a_1 = fnX Try.prog T F jl11 jj11 Try.f11 [V.agg [V.int IntKind.u32 a_0, V.int IntKind.u16 a_1]] h K := by kernel_rfl
theorem x11 {h : Hp} {K : V → Hp → Prop} (a_0 : Int) (a_1 : Int) (hx : X11 h K a_0 a_1) : XCalls Try.prog 11 [V.agg [V.int IntKind.u32 a_0, V.int IntKind.u16 a_1]] h K :=
  XCalls.ofX tok fok mixed (JL := jl11) (JJ := jj11) Try.func11 ((y11 h K a_0 a_1) ▸ hx)
end Go.Vex
