/- The functions of Open and Answer as statements about data (printed by VexPrint).
-/
import Derived.Test.YtkfnokgfgcfldaaGreatVexX
import Derived.Test.YtkfnokgfgcfldaaGreatTab27
set_option linter.unusedVariables false
set_option maxRecDepth 100000
namespace Go.Vex
open Go.Proofs
/-! 89: stevedore/tcb.may -/
-- join 4: stays a(5), b(6), c(2), now(1); turns d(7)
-- join 3: stays c(2), a(5), now(1); turns b(6)
-- join 2: stays c(2), now(1); turns a(5)
def jl89 : Nat → Option JT := fun r => none
def jj89 : Nat → Option JT := fun r => bif Nat.beq r 4 then some ⟨[5, 6, 2, 1], [7], [V.bool false]⟩ else bif Nat.beq r 3 then some ⟨[2, 5, 1], [6], [V.bool false]⟩ else bif Nat.beq r 2 then some ⟨[2, 1], [5], [V.bool false]⟩ else none
def X89 (h : Hp) (K : V → Hp → Prop) (c_0 : Int) (c_1 : Int) (c_2 : Int) (c_3 : Int) (c_4 : Int) (c_5 : Int) (c_6 : Int) (c_7 : Int) (c_8 : Int) (c_9 : Bool) (c_10 : Int) (c_11 : Int) (c_12 : Int) (c_13 : Int) (now : Int) : Prop := ∀ (h'1 :
  Hp), h'1 = h.alloc (O.row [V.int IntKind.u32 c_0, V.int IntKind.u16 c_1, V.int IntKind.u32 c_2, V.int IntKind.u16 c_3, V.int IntKind.u32 c_4, V.int IntKind.i64 c_5, V.int IntKind.i64 c_6, V.int IntKind.i64 c_7, V.int IntKind.i64 c_8,
  V.bool c_9, V.int IntKind.i64 c_10, V.int IntKind.i64 c_11, V.int IntKind.i64 c_12, V.int IntKind.i64 c_13] (1 : Nat) false) → ∃ (Q1 : List V → Hp → Prop), (∃ (n1 : Int), h'1.ld h.next (5 : Nat) = some (V.int IntKind.i64 n1) ∧ bif !ltI n1
  (64 : Int) then ∃ (n2 : Int), h'1.ld h.next (5 : Nat) = some (V.int IntKind.i64 n2) ∧ bif !ltI (1460 : Int) n2 then ∃ (n3 : Int), h'1.ld h.next (6 : Nat) = some (V.int IntKind.i64 n3) ∧ bif !ltI n3 (-1 : Int) then ∃ (n4 : Int), h'1.ld
  h.next (6 : Nat) = some (V.int IntKind.i64 n4) ∧ [V.ptr (some (h.next, (0 : Nat))), V.int IntKind.i64 now] = [V.ptr (some (h.next, (0 : Nat))), V.int IntKind.i64 now] ∧ Q1 [V.bool !ltI (14 : Int) n4] h'1 else [V.ptr (some (h.next, (0 :
  Nat))), V.int IntKind.i64 now] = [V.ptr (some (h.next, (0 : Nat))), V.int IntKind.i64 now] ∧ Q1 [V.bool false] h'1 else [V.ptr (some (h.next, (0 : Nat))), V.int IntKind.i64 now] = [V.ptr (some (h.next, (0 : Nat))), V.int IntKind.i64 now] ∧
  Q1 [V.bool false] h'1 else [V.ptr (some (h.next, (0 : Nat))), V.int IntKind.i64 now] = [V.ptr (some (h.next, (0 : Nat))), V.int IntKind.i64 now] ∧ Q1 [V.bool false] h'1) ∧ ∀ (bs1 : Nat → Option V) (b1 : Bool) (h1 : Hp), Q1 [V.bool b1] h1 →
  ∃ (Q2 : List V → Hp → Prop), (∃ (n5 : Int), h1.ld h.next (7 : Nat) = some (V.int IntKind.i64 n5) ∧ bif !ltI n5 (1 : Int) then ∃ (n6 : Int), h1.ld h.next (7 : Nat) = some (V.int IntKind.i64 n6) ∧ bif !ltI (16384 : Int) n6 then ∃ (n7 : Int),
  h1.ld h.next (8 : Nat) = some (V.int IntKind.i64 n7) ∧ bif !ltI n7 (1 : Int) then ∃ (n8 : Int), h1.ld h.next (8 : Nat) = some (V.int IntKind.i64 n8) ∧ bif !ltI (16384 : Int) n8 then ∃ (n9 : Int), h1.ld h.next (12 : Nat) = some (V.int
  IntKind.i64 n9) ∧ bif !ltI n9 (1 : Int) then ∃ (n10 : Int), h1.ld h.next (12 : Nat) = some (V.int IntKind.i64 n10) ∧ [V.ptr (some (h.next, (0 : Nat))), V.bool b1, V.int IntKind.i64 now] = [V.ptr (some (h.next, (0 : Nat))), V.bool b1, V.int
  IntKind.i64 now] ∧ Q2 [V.bool !ltI (16 : Int) n10] h1 else [V.ptr (some (h.next, (0 : Nat))), V.bool b1, V.int IntKind.i64 now] = [V.ptr (some (h.next, (0 : Nat))), V.bool b1, V.int IntKind.i64 now] ∧ Q2 [V.bool false] h1 else [V.ptr (some
  (h.next, (0 : Nat))), V.bool b1, V.int IntKind.i64 now] = [V.ptr (some (h.next, (0 : Nat))), V.bool b1, V.int IntKind.i64 now] ∧ Q2 [V.bool false] h1 else [V.ptr (some (h.next, (0 : Nat))), V.bool b1, V.int IntKind.i64 now] = [V.ptr (some
  (h.next, (0 : Nat))), V.bool b1, V.int IntKind.i64 now] ∧ Q2 [V.bool false] h1 else [V.ptr (some (h.next, (0 : Nat))), V.bool b1, V.int IntKind.i64 now] = [V.ptr (some (h.next, (0 : Nat))), V.bool b1, V.int IntKind.i64 now] ∧ Q2 [V.bool
  false] h1 else [V.ptr (some (h.next, (0 : Nat))), V.bool b1, V.int IntKind.i64 now] = [V.ptr (some (h.next, (0 : Nat))), V.bool b1, V.int IntKind.i64 now] ∧ Q2 [V.bool false] h1) ∧ ∀ (bs2 : Nat → Option V) (b2 : Bool) (h2 : Hp), Q2 [V.bool
  b2] h2 → ∃ (Q3 : List V → Hp → Prop), (∃ (n11 : Int), h2.ld h.next (10 : Nat) = some (V.int IntKind.i64 n11) ∧ bif !ltI n11 (0 : Int) then ∃ (n12 : Int), h2.ld h.next (10 : Nat) = some (V.int IntKind.i64 n12) ∧ bif !ltI (1073741824 : Int)
  n12 then ∃ (n13 : Int), h2.ld h.next (11 : Nat) = some (V.int IntKind.i64 n13) ∧ bif !ltI n13 (0 : Int) then ∃ (n14 : Int), h2.ld h.next (11 : Nat) = some (V.int IntKind.i64 n14) ∧ bif !ltI (1073741824 : Int) n14 then ∃ (n15 : Int), h2.ld
  h.next (13 : Nat) = some (V.int IntKind.i64 n15) ∧ bif !ltI n15 (1 : Int) then ∃ (n16 : Int), h2.ld h.next (13 : Nat) = some (V.int IntKind.i64 n16) ∧ [V.bool b1, V.bool b2, V.ptr (some (h.next, (0 : Nat))), V.int IntKind.i64 now] =
  [V.bool b1, V.bool b2, V.ptr (some (h.next, (0 : Nat))), V.int IntKind.i64 now] ∧ Q3 [V.bool !ltI (1073741824 : Int) n16] h2 else [V.bool b1, V.bool b2, V.ptr (some (h.next, (0 : Nat))), V.int IntKind.i64 now] = [V.bool b1, V.bool b2,
  V.ptr (some (h.next, (0 : Nat))), V.int IntKind.i64 now] ∧ Q3 [V.bool false] h2 else [V.bool b1, V.bool b2, V.ptr (some (h.next, (0 : Nat))), V.int IntKind.i64 now] = [V.bool b1, V.bool b2, V.ptr (some (h.next, (0 : Nat))), V.int
  IntKind.i64 now] ∧ Q3 [V.bool false] h2 else [V.bool b1, V.bool b2, V.ptr (some (h.next, (0 : Nat))), V.int IntKind.i64 now] = [V.bool b1, V.bool b2, V.ptr (some (h.next, (0 : Nat))), V.int IntKind.i64 now] ∧ Q3 [V.bool false] h2 else
  [V.bool b1, V.bool b2, V.ptr (some (h.next, (0 : Nat))), V.int IntKind.i64 now] = [V.bool b1, V.bool b2, V.ptr (some (h.next, (0 : Nat))), V.int IntKind.i64 now] ∧ Q3 [V.bool false] h2 else [V.bool b1, V.bool b2, V.ptr (some (h.next, (0 :
  Nat))), V.int IntKind.i64 now] = [V.bool b1, V.bool b2, V.ptr (some (h.next, (0 : Nat))), V.int IntKind.i64 now] ∧ Q3 [V.bool false] h2) ∧ ∀ (bs3 : Nat → Option V) (b3 : Bool) (h3 : Hp), Q3 [V.bool b3] h3 → bif b1 then bif b2 then bif b3
  then ∃ (n17 : Int), h3.ld h.next (6 : Nat) = some (V.int IntKind.i64 n17) ∧ bif ltI n17 (0 : Int) then bif !ltI now (0 : Int) then K (V.bool !ltI (17592186044416 : Int) now) h3 else K (V.bool false) h3 else ∃ (n18 : Int), h3.ld h.next (8 :
  Nat) = some (V.int IntKind.i64 n18) ∧ ∃ (n19 : Int), h3.ld h.next (6 : Nat) = some (V.int IntKind.i64 n19) ∧ ¬n19 < (0 : Int) ∧ bif ltI (0 : Int) (n18.fdiv ((2 : Int) ^ min n19.toNat IntKind.i64.bits)) then bif !ltI now (0 : Int) then K
  (V.bool !ltI (17592186044416 : Int) now) h3 else K (V.bool false) h3 else K (V.bool false) h3 else K (V.bool false) h3 else K (V.bool false) h3 else K (V.bool false) h3
theorem x89 {h : Hp} {K : V → Hp → Prop} (c_0 : Int) (c_1 : Int) (c_2 : Int) (c_3 : Int) (c_4 : Int) (c_5 : Int) (c_6 : Int) (c_7 : Int) (c_8 : Int) (c_9 : Bool) (c_10 : Int) (c_11 : Int) (c_12 : Int) (c_13 : Int) (now : Int) (hx : X89 h K
  c_0 c_1 c_2 c_3 c_4 c_5 c_6 c_7 c_8 c_9 c_10 c_11 c_12 c_13 now) : XCalls Tryz.prog 89 [V.agg [V.int IntKind.u32 c_0, V.int IntKind.u16 c_1, V.int IntKind.u32 c_2, V.int IntKind.u16 c_3, V.int IntKind.u32 c_4, V.int IntKind.i64 c_5, V.int
  IntKind.i64 c_6, V.int IntKind.i64 c_7, V.int IntKind.i64 c_8, V.bool c_9, V.int IntKind.i64 c_10, V.int IntKind.i64 c_11, V.int IntKind.i64 c_12, V.int IntKind.i64 c_13], V.int IntKind.i64 now] h K :=
  XCalls.ofX tok fok mixed (JL := jl89) (JJ := jj89) Tryz.func89 (cast (by kernel_rfl) hx)
/-! 38: stevedore/rto.New -/
def jl38 : Nat → Option JT := fun r => none
def jj38 : Nat → Option JT := fun r => none
def X38 (h : Hp) (K : V → Hp → Prop)  : Prop := ∀ (h'1 : Hp), h'1 = h.alloc (O.row [V.int IntKind.i64 (0 : Int), V.int IntKind.i64 (0 : Int), V.bool false, V.int IntKind.i64 (0 : Int)] (1 : Nat) false) → K (V.ptr (some (h.next, (0 : Nat)))) h'1
theorem y38 (h : Hp) (K : V → Hp → Prop)  : X38 h K  = fnX Tryz.prog T F jl38 jj38 Tryz.f38 [] h K := by kernel_rfl
theorem x38 {h : Hp} {K : V → Hp → Prop}  (hx : X38 h K ) : XCalls Tryz.prog 38 [] h K :=
  XCalls.ofX tok fok mixed (JL := jl38) (JJ := jj38) Tryz.func38 ((y38 h K ) ▸ hx)
/-! 39: (*stevedore/rto.Rto).Time -/
-- join 6: stays r(0); turns t(3)
def jl39 : Nat → Option JT := fun r => none
def jj39 : Nat → Option JT := fun r => bif Nat.beq r 6 then some ⟨[0], [3], [V.int IntKind.i64 (0 : Int)]⟩ else none
def X39 (h : Hp) (K : V → Hp → Prop) (r : Nat) : Prop := ∃ (Q1 : List V → Hp → Prop), (∃ (b1 : Bool), h.ld r (2 : Nat) = some (V.bool b1) ∧ bif b1 then ∃ (n1 : Int), h.ld r (0 : Nat) = some (V.int IntKind.i64 n1) ∧ ¬(8 : Int) = (0 : Int) ∧ ∃
  (n2 : Int), h.ld r (1 : Nat) = some (V.int IntKind.i64 n2) ∧ [V.ptr (some (r, (0 : Nat)))] = [V.ptr (some (r, (0 : Nat)))] ∧ Q1 [V.int IntKind.i64 (IntKind.i64.wrap (IntKind.i64.wrap (n1.tdiv (8 : Int)) + bif ltI n2 (1 : Int) then (1 :
  Int) else n2))] h else [V.ptr (some (r, (0 : Nat)))] = [V.ptr (some (r, (0 : Nat)))] ∧ Q1 [V.int IntKind.i64 (1000 : Int)] h) ∧ ∀ (bs1 : Nat → Option V) (n3 : Int) (h1 : Hp), Q1 [V.int IntKind.i64 n3] h1 → ∃ (n4 : Int), h1.ld r (3 : Nat) =
  some (V.int IntKind.i64 n4) ∧ XCalls Tryz.prog (81 : Nat) [V.int IntKind.i64 (bif ltI n3 (200 : Int) then (200 : Int) else n3), V.int IntKind.i64 n4, V.fn (Fn.func (80 : Nat)) [] [], V.fn (Fn.func (82 : Nat)) [] []] h1 fun (v1 : V) (h'1 :
  Hp) => ∃ (n5 : Int), v1 = V.int IntKind.i64 n5 ∧ K (V.int IntKind.i64 (bif ltI (60000 : Int) n5 then (60000 : Int) else n5)) h'1
theorem y39 (h : Hp) (K : V → Hp → Prop) (r : Nat) : X39 h K r = fnX Tryz.prog T F jl39 jj39 Tryz.f39 [V.ptr (some (r, (0 : Nat)))] h K := by kernel_rfl
theorem x39 {h : Hp} {K : V → Hp → Prop} (r : Nat) (hx : X39 h K r) : XCalls Tryz.prog 39 [V.ptr (some (r, (0 : Nat)))] h K :=
  XCalls.ofX tok fok mixed (JL := jl39) (JJ := jj39) Tryz.func39 ((y39 h K r) ▸ hx)
/-! 80: (*stevedore/rto.Rto).Time$1 -/
def jl80 : Nat → Option JT := fun r => none
def jj80 : Nat → Option JT := fun r => none
def X80 (h : Hp) (K : V → Hp → Prop) (t : Int) : Prop := K (V.bool (ltI t (60000 : Int))) h
theorem y80 (h : Hp) (K : V → Hp → Prop) (t : Int) : X80 h K t = fnX Tryz.prog T F jl80 jj80 Tryz.f80 [V.int IntKind.i64 t] h K := by kernel_rfl
theorem x80 {h : Hp} {K : V → Hp → Prop} (t : Int) (hx : X80 h K t) : XCalls Tryz.prog 80 [V.int IntKind.i64 t] h K :=
  XCalls.ofX tok fok mixed (JL := jl80) (JJ := jj80) Tryz.func80 ((y80 h K t) ▸ hx)
/-! 82: (*stevedore/rto.Rto).Time$2 -/
def jl82 : Nat → Option JT := fun r => none
def jj82 : Nat → Option JT := fun r => none
def X82 (h : Hp) (K : V → Hp → Prop) (t : Int) : Prop := K (V.int IntKind.i64 (IntKind.i64.wrap ((2 : Int) * t))) h
theorem y82 (h : Hp) (K : V → Hp → Prop) (t : Int) : X82 h K t = fnX Tryz.prog T F jl82 jj82 Tryz.f82 [V.int IntKind.i64 t] h K := by kernel_rfl
theorem x82 {h : Hp} {K : V → Hp → Prop} (t : Int) (hx : X82 h K t) : XCalls Tryz.prog 82 [V.int IntKind.i64 t] h K :=
  XCalls.ofX tok fok mixed (JL := jl82) (JJ := jj82) Tryz.func82 ((y82 h K t) ▸ hx)
/-! 81: stevedore/rto.again[int64] -/
-- loop 1: stays may(2), turn(3); turns x(0), times(1)
def jl81 : Nat → Option JT := fun r => bif Nat.beq r 1 then some ⟨[2, 3], [0, 1], [V.int IntKind.i64 (0 : Int), V.int IntKind.i64 (0 : Int)]⟩ else none
def jj81 : Nat → Option JT := fun r => none
def X81 (h : Hp) (K : V → Hp → Prop) (x : Int) (times : Int) : Prop := ∃ (I1 : List V → Hp → Prop), ∃ (x1 : List V → Hp → Nat), ([V.fn (Fn.func (80 : Nat)) [] [], V.fn (Fn.func (82 : Nat)) [] []] = [V.fn (Fn.func (80 : Nat)) [] [], V.fn
  (Fn.func (82 : Nat)) [] []] ∧ I1 [V.int IntKind.i64 x, V.int IntKind.i64 times] h) ∧ ∀ (bs1 : Nat → Option V) (n1 n2 : Int) (h1 : Hp), I1 [V.int IntKind.i64 n1, V.int IntKind.i64 n2] h1 → bif ltI (0 : Int) n2 then XCalls Tryz.prog (80 :
  Nat) [V.int IntKind.i64 n1] h1 fun (v1 : V) (h'1 : Hp) => ∃ (b1 : Bool), v1 = V.bool b1 ∧ bif b1 then XCalls Tryz.prog (82 : Nat) [V.int IntKind.i64 n1] h'1 fun (v2 : V) (h'2 : Hp) => ∃ (n3 : Int), v2 = V.int IntKind.i64 n3 ∧ [V.fn
  (Fn.func (80 : Nat)) [] [], V.fn (Fn.func (82 : Nat)) [] []] = [V.fn (Fn.func (80 : Nat)) [] [], V.fn (Fn.func (82 : Nat)) [] []] ∧ I1 [V.int IntKind.i64 n3, V.int IntKind.i64 (IntKind.i64.wrap (n2 - (1 : Int)))] h'2 ∧ x1 [V.int
  IntKind.i64 n3, V.int IntKind.i64 (IntKind.i64.wrap (n2 - (1 : Int)))] h'2 < x1 [V.int IntKind.i64 n1, V.int IntKind.i64 n2] h1 else K (V.int IntKind.i64 n1) h'1 else K (V.int IntKind.i64 n1) h1
theorem y81 (h : Hp) (K : V → Hp → Prop) (x : Int) (times : Int) : X81 h K x times = fnX Tryz.prog T F jl81 jj81 Tryz.f81 [V.int IntKind.i64 x, V.int IntKind.i64 times, V.fn (Fn.func (80 : Nat)) [] [], V.fn (Fn.func (82 : Nat)) [] []] h K := by kernel_rfl
theorem x81 {h : Hp} {K : V → Hp → Prop} (x : Int) (times : Int) (hx : X81 h K x times) : XCalls Tryz.prog 81 [V.int IntKind.i64 x, V.int IntKind.i64 times, V.fn (Fn.func (80 : Nat)) [] [], V.fn (Fn.func (82 : Nat)) [] []] h K :=
  XCalls.ofX tok fok mixed (JL := jl81) (JJ := jj81) Tryz.func81 ((y81 h K x times) ▸ hx)
/-! 90: stevedore/flow.NewOut -/
def jl90 : Nat → Option JT := fun r => none
def jj90 : Nat → Option JT := fun r => none
def X90 (h : Hp) (K : V → Hp → Prop) (a0 : Int) (most : Int) : Prop := bif ltI most (1 : Int) then K (V.tup [V.ptr none, V.int IntKind.i64 (2 : Int)]) h else bif ltI (16384 : Int) most then K (V.tup [V.ptr none, V.int IntKind.i64 (2 : Int)])
  h else ∀ (h'1 : Hp), h'1 = h.alloc (O.row [V.int IntKind.u32 a0, V.slc none (0 : Nat) true, V.int IntKind.i64 (0 : Int), V.int IntKind.i64 most] (1 : Nat) false) → K (V.tup [V.ptr (some (h.next, (0 : Nat))), V.int IntKind.i64 (0 : Int)])
  h'1
theorem y90 (h : Hp) (K : V → Hp → Prop) (a0 : Int) (most : Int) : X90 h K a0 most = fnX Tryz.prog T F jl90 jj90 Tryz.f90 [V.int IntKind.u32 a0, V.int IntKind.i64 most] h K := by kernel_rfl
theorem x90 {h : Hp} {K : V → Hp → Prop} (a0 : Int) (most : Int) (hx : X90 h K a0 most) : XCalls Tryz.prog 90 [V.int IntKind.u32 a0, V.int IntKind.i64 most] h K :=
  XCalls.ofX tok fok mixed (JL := jl90) (JJ := jj90) Tryz.func90 ((y90 h K a0 most) ▸ hx)
/-! 91: stevedore/cong.New -/
def jl91 : Nat → Option JT := fun r => none
def jj91 : Nat → Option JT := fun r => none
def X91 (h : Hp) (K : V → Hp → Prop) (mss : Int) : Prop := bif ltI mss (1 : Int) then K (V.tup [V.ptr none, V.int IntKind.i64 (2 : Int)]) h else bif ltI (65535 : Int) mss then K (V.tup [V.ptr none, V.int IntKind.i64 (2 : Int)]) h else ∀ (h'1
  : Hp), h'1 = h.alloc (O.row [V.int IntKind.i64 mss, V.int IntKind.i64 (bif ltI (bif ltI (4380 : Int) (IntKind.i64.wrap ((2 : Int) * mss)) then IntKind.i64.wrap ((2 : Int) * mss) else (4380 : Int)) (IntKind.i64.wrap ((4 : Int) * mss)) then
  bif ltI (4380 : Int) (IntKind.i64.wrap ((2 : Int) * mss)) then IntKind.i64.wrap ((2 : Int) * mss) else (4380 : Int) else IntKind.i64.wrap ((4 : Int) * mss)), V.int IntKind.i64 (1073741824 : Int), V.int IntKind.u8 (0 : Int), V.int
  IntKind.i64 (0 : Int), V.int IntKind.i64 (0 : Int), V.ptr none] (1 : Nat) false) → K (V.tup [V.ptr (some (h.next, (0 : Nat))), V.int IntKind.i64 (0 : Int)]) h'1
theorem y91 (h : Hp) (K : V → Hp → Prop) (mss : Int) : X91 h K mss = fnX Tryz.prog T F jl91 jj91 Tryz.f91 [V.int IntKind.i64 mss] h K := by kernel_rfl
theorem x91 {h : Hp} {K : V → Hp → Prop} (mss : Int) (hx : X91 h K mss) : XCalls Tryz.prog 91 [V.int IntKind.i64 mss] h K :=
  XCalls.ofX tok fok mixed (JL := jl91) (JJ := jj91) Tryz.func91 ((y91 h K mss) ▸ hx)
/-! 57: stevedore/tcb.begun -/
def jl57 : Nat → Option JT := fun r => none
def jj57 : Nat → Option JT := fun r => none
def X57 (h : Hp) (K : V → Hp → Prop) (c_0 : Int) (c_1 : Int) (c_2 : Int) (c_3 : Int) (c_4 : Int) (c_5 : Int) (c_6 : Int) (c_7 : Int) (c_8 : Int) (c_9 : Bool) (c_10 : Int) (c_11 : Int) (c_12 : Int) (c_13 : Int) (now : Int) : Prop := ∀ (h'1 :
  Hp), h'1 = h.alloc (O.row [V.int IntKind.u32 c_0, V.int IntKind.u16 c_1, V.int IntKind.u32 c_2, V.int IntKind.u16 c_3, V.int IntKind.u32 c_4, V.int IntKind.i64 c_5, V.int IntKind.i64 c_6, V.int IntKind.i64 c_7, V.int IntKind.i64 c_8,
  V.bool c_9, V.int IntKind.i64 c_10, V.int IntKind.i64 c_11, V.int IntKind.i64 c_12, V.int IntKind.i64 c_13] (1 : Nat) false) → ∃ (n1 : Int), ∃ (n2 : Int), ∃ (n3 : Int), ∃ (n4 : Int), ∃ (n5 : Int), ∃ (n6 : Int), ∃ (n7 : Int), ∃ (n8 : Int),
  ∃ (n9 : Int), ∃ (b1 : Bool), ∃ (n10 : Int), ∃ (n11 : Int), ∃ (n12 : Int), ∃ (n13 : Int), h'1.lda h.next (0 : Nat) (14 : Nat) = some (V.agg [V.int IntKind.u32 n1, V.int IntKind.u16 n2, V.int IntKind.u32 n3, V.int IntKind.u16 n4, V.int
  IntKind.u32 n5, V.int IntKind.i64 n6, V.int IntKind.i64 n7, V.int IntKind.i64 n8, V.int IntKind.i64 n9, V.bool b1, V.int IntKind.i64 n10, V.int IntKind.i64 n11, V.int IntKind.i64 n12, V.int IntKind.i64 n13]) ∧ XCalls Tryz.prog (89 : Nat)
  [V.agg [V.int IntKind.u32 n1, V.int IntKind.u16 n2, V.int IntKind.u32 n3, V.int IntKind.u16 n4, V.int IntKind.u32 n5, V.int IntKind.i64 n6, V.int IntKind.i64 n7, V.int IntKind.i64 n8, V.int IntKind.i64 n9, V.bool b1, V.int IntKind.i64 n10,
  V.int IntKind.i64 n11, V.int IntKind.i64 n12, V.int IntKind.i64 n13], V.int IntKind.i64 now] h'1 fun (v1 : V) (h'2 : Hp) => ∃ (b2 : Bool), v1 = V.bool b2 ∧ bif !b2 then K (V.tup [V.ptr none, V.int IntKind.i64 (2 : Int)]) h'2 else ∃ (n14 :
  Int), ∃ (n15 : Int), ∃ (n16 : Int), ∃ (n17 : Int), ∃ (n18 : Int), ∃ (n19 : Int), ∃ (n20 : Int), ∃ (n21 : Int), ∃ (n22 : Int), ∃ (b3 : Bool), ∃ (n23 : Int), ∃ (n24 : Int), ∃ (n25 : Int), ∃ (n26 : Int), h'2.lda h.next (0 : Nat) (14 : Nat) =
  some (V.agg [V.int IntKind.u32 n14, V.int IntKind.u16 n15, V.int IntKind.u32 n16, V.int IntKind.u16 n17, V.int IntKind.u32 n18, V.int IntKind.i64 n19, V.int IntKind.i64 n20, V.int IntKind.i64 n21, V.int IntKind.i64 n22, V.bool b3, V.int
  IntKind.i64 n23, V.int IntKind.i64 n24, V.int IntKind.i64 n25, V.int IntKind.i64 n26]) ∧ ∃ (n27 : Int), h'2.ld h.next (5 : Nat) = some (V.int IntKind.i64 n27) ∧ XCalls Tryz.prog (38 : Nat) [] h'2 fun (v2 : V) (h'3 : Hp) => ∃ (a1 : Option
  (Nat × Nat)), v2 = V.ptr a1 ∧ V.int IntKind.i64 (bif ltI (536 : Int) n27 then (536 : Int) else n27) = V.int IntKind.i64 (bif ltI (536 : Int) n27 then (536 : Int) else n27) ∧ (∃ (n28 : Int), h'3.ld h.next (5 : Nat) = some (V.int IntKind.i64
  n28) ∧ V.int IntKind.i64 n28 = V.int IntKind.i64 n27) ∧ V.ptr (some (h.next, (5 : Nat))) = V.ptr (some (h.next, (5 : Nat))) ∧ V.int IntKind.i64 now = V.int IntKind.i64 now ∧ (∃ (n29 : Int), ∃ (n30 : Int), ∃ (n31 : Int), ∃ (n32 : Int), ∃
  (n33 : Int), ∃ (n34 : Int), ∃ (n35 : Int), ∃ (n36 : Int), ∃ (n37 : Int), ∃ (b4 : Bool), ∃ (n38 : Int), ∃ (n39 : Int), ∃ (n40 : Int), ∃ (n41 : Int), h'3.lda h.next (0 : Nat) (14 : Nat) = some (V.agg [V.int IntKind.u32 n29, V.int IntKind.u16
  n30, V.int IntKind.u32 n31, V.int IntKind.u16 n32, V.int IntKind.u32 n33, V.int IntKind.i64 n34, V.int IntKind.i64 n35, V.int IntKind.i64 n36, V.int IntKind.i64 n37, V.bool b4, V.int IntKind.i64 n38, V.int IntKind.i64 n39, V.int
  IntKind.i64 n40, V.int IntKind.i64 n41]) ∧ V.agg [V.int IntKind.u32 n29, V.int IntKind.u16 n30, V.int IntKind.u32 n31, V.int IntKind.u16 n32, V.int IntKind.u32 n33, V.int IntKind.i64 n34, V.int IntKind.i64 n35, V.int IntKind.i64 n36, V.int
  IntKind.i64 n37, V.bool b4, V.int IntKind.i64 n38, V.int IntKind.i64 n39, V.int IntKind.i64 n40, V.int IntKind.i64 n41] = V.agg [V.int IntKind.u32 n14, V.int IntKind.u16 n15, V.int IntKind.u32 n16, V.int IntKind.u16 n17, V.int IntKind.u32
  n18, V.int IntKind.i64 n19, V.int IntKind.i64 n20, V.int IntKind.i64 n21, V.int IntKind.i64 n22, V.bool b3, V.int IntKind.i64 n23, V.int IntKind.i64 n24, V.int IntKind.i64 n25, V.int IntKind.i64 n26]) ∧ ∀ (h'4 : Hp), h'4 = h'3.alloc (O.row
  [V.int IntKind.u32 n14, V.int IntKind.u16 n15, V.int IntKind.u32 n16, V.int IntKind.u16 n17, V.int IntKind.u32 n18, V.int IntKind.i64 n19, V.int IntKind.i64 n20, V.int IntKind.i64 n21, V.int IntKind.i64 n22, V.bool b3, V.int IntKind.i64
  n23, V.int IntKind.i64 n24, V.int IntKind.i64 n25, V.int IntKind.i64 n26, V.int IntKind.i64 now, V.int IntKind.u8 (0 : Int), V.int IntKind.u8 (0 : Int), V.bool false, V.ptr none, V.ptr none, V.ptr a1, V.ptr none, V.bool false, V.bool
  false, V.bool false, V.bool false, V.bool false, V.bool false, V.bool false, V.int IntKind.u32 (0 : Int), V.bool false, V.int IntKind.i64 (bif ltI (536 : Int) n27 then (536 : Int) else n27), V.int IntKind.i64 (0 : Int), V.int IntKind.u32
  (0 : Int), V.int IntKind.u32 (0 : Int), V.int IntKind.u32 (0 : Int), V.bool false, V.int IntKind.i64 (0 : Int), V.int IntKind.i64 (-1 : Int), V.int IntKind.i64 (-1 : Int), V.int IntKind.i64 (-1 : Int), V.int IntKind.i64 (-1 : Int), V.int
  IntKind.i64 (-1 : Int), V.int IntKind.i64 (0 : Int), V.int IntKind.i64 (0 : Int), V.bool false, V.int IntKind.u32 (0 : Int), V.int IntKind.i64 (0 : Int), V.slc none (0 : Nat) true] (1 : Nat) false) → ∃ (n42 : Int), h'4.ld h.next (4 : Nat)
  = some (V.int IntKind.u32 n42) ∧ ∃ (n43 : Int), h'4.ld h.next (7 : Nat) = some (V.int IntKind.i64 n43) ∧ XCalls Tryz.prog (90 : Nat) [V.int IntKind.u32 (IntKind.u32.wrap (n42 + (1 : Int))), V.int IntKind.i64 n43] h'4 fun (v3 : V) (h'5 :
  Hp) => ∃ (a2 : Option (Nat × Nat)), ∃ (n44 : Int), v3 = V.tup [V.ptr a2, V.int IntKind.i64 n44] ∧ ∃ (h'6 : Hp), h'5.st h'3.next (18 : Nat) [V.ptr a2] = some h'6 ∧ ∃ (n45 : Int), h'6.ld h'3.next (31 : Nat) = some (V.int IntKind.i64 n45) ∧
  XCalls Tryz.prog (91 : Nat) [V.int IntKind.i64 n45] h'6 fun (v4 : V) (h'7 : Hp) => ∃ (a3 : Option (Nat × Nat)), ∃ (n46 : Int), v4 = V.tup [V.ptr a3, V.int IntKind.i64 n46] ∧ ∃ (h'8 : Hp), h'7.st h'3.next (21 : Nat) [V.ptr a3] = some h'8 ∧
  K (V.tup [V.ptr (some (h'3.next, (0 : Nat))), V.int IntKind.i64 (0 : Int)]) h'8
theorem x57 {h : Hp} {K : V → Hp → Prop} (c_0 : Int) (c_1 : Int) (c_2 : Int) (c_3 : Int) (c_4 : Int) (c_5 : Int) (c_6 : Int) (c_7 : Int) (c_8 : Int) (c_9 : Bool) (c_10 : Int) (c_11 : Int) (c_12 : Int) (c_13 : Int) (now : Int) (hx : X57 h K
  c_0 c_1 c_2 c_3 c_4 c_5 c_6 c_7 c_8 c_9 c_10 c_11 c_12 c_13 now) : XCalls Tryz.prog 57 [V.agg [V.int IntKind.u32 c_0, V.int IntKind.u16 c_1, V.int IntKind.u32 c_2, V.int IntKind.u16 c_3, V.int IntKind.u32 c_4, V.int IntKind.i64 c_5, V.int
  IntKind.i64 c_6, V.int IntKind.i64 c_7, V.int IntKind.i64 c_8, V.bool c_9, V.int IntKind.i64 c_10, V.int IntKind.i64 c_11, V.int IntKind.i64 c_12, V.int IntKind.i64 c_13], V.int IntKind.i64 now] h K :=
  XCalls.ofX tok fok mixed (JL := jl57) (JJ := jj57) Tryz.func57 (cast (by kernel_rfl) hx)
/-! 92: (*stevedore/tcb.Tcb).say -/
-- join 9: stays t(0), x(8); turns 
-- join 5: stays t(0), x(8); turns 
def jl92 : Nat → Option JT := fun r => none
def jj92 : Nat → Option JT := fun r => bif Nat.beq r 9 then some ⟨[0, 8], [], []⟩ else bif Nat.beq r 5 then some ⟨[0, 8], [], []⟩ else none
def X92 (h : Hp) (K : V → Hp → Prop) (t : Nat) (flags : Int) (number : Int) (data : List UInt8) : Prop := ∃ (n1 : Int), ∃ (n2 : Int), ∃ (n3 : Int), ∃ (n4 : Int), h.lda t (0 : Nat) (4 : Nat) = some (V.agg [V.int IntKind.u32 n1, V.int
  IntKind.u16 n2, V.int IntKind.u32 n3, V.int IntKind.u16 n4]) ∧ (XCalls Tryz.prog (117 : Nat) [V.ptr (some (t, (0 : Nat))), V.bool (ltI (0 : Int) (bits BinOp.and IntKind.u8 flags (2 : Int)))] h fun (v1 : V) (h'1 : Hp) => ∃ (n5 : Int), v1 =
  V.int IntKind.u16 n5 ∧ V.str data = V.str data ∧ V.int IntKind.u8 flags = V.int IntKind.u8 flags ∧ V.int IntKind.u32 number = V.int IntKind.u32 number ∧ (∃ (n6 : Int), ∃ (n7 : Int), ∃ (n8 : Int), ∃ (n9 : Int), h'1.lda t (0 : Nat) (4 : Nat)
  = some (V.agg [V.int IntKind.u32 n6, V.int IntKind.u16 n7, V.int IntKind.u32 n8, V.int IntKind.u16 n9]) ∧ V.agg [V.int IntKind.u32 n6, V.int IntKind.u16 n7, V.int IntKind.u32 n8, V.int IntKind.u16 n9] = V.agg [V.int IntKind.u32 n1, V.int
  IntKind.u16 n2, V.int IntKind.u32 n3, V.int IntKind.u16 n4]) ∧ V.ptr (some (t, (0 : Nat))) = V.ptr (some (t, (0 : Nat))) ∧ V.ptr (some (t, (0 : Nat))) = V.ptr (some (t, (0 : Nat))) ∧ V.ptr (some (t, (0 : Nat))) = V.ptr (some (t, (0 :
  Nat))) ∧ V.ptr (some (t, (0 : Nat))) = V.ptr (some (t, (0 : Nat))) ∧ ∀ (h'2 : Hp), h'2 = h'1.alloc (O.row [V.int IntKind.u32 (0 : Int), V.int IntKind.u16 (0 : Int), V.int IntKind.u32 (0 : Int), V.int IntKind.u16 (0 : Int), V.int
  IntKind.u32 (0 : Int), V.int IntKind.u32 (0 : Int), V.int IntKind.u8 (0 : Int), V.int IntKind.u16 (0 : Int), V.int IntKind.u16 (0 : Int), V.int IntKind.u16 (0 : Int), V.int IntKind.i64 (0 : Int), V.str []] (1 : Nat) false) → V.agg [V.int
  IntKind.u32 n1, V.int IntKind.u16 n2, V.int IntKind.u32 n3, V.int IntKind.u16 n4, V.int IntKind.u32 number, V.int IntKind.u32 (0 : Int), V.int IntKind.u8 flags, V.int IntKind.u16 n5, V.int IntKind.u16 (0 : Int), V.int IntKind.u16 (0 :
  Int), V.int IntKind.i64 (-1 : Int), V.str data] = V.agg [V.int IntKind.u32 n1, V.int IntKind.u16 n2, V.int IntKind.u32 n3, V.int IntKind.u16 n4, V.int IntKind.u32 number, V.int IntKind.u32 (0 : Int), V.int IntKind.u8 flags, V.int
  IntKind.u16 n5, V.int IntKind.u16 (0 : Int), V.int IntKind.u16 (0 : Int), V.int IntKind.i64 (-1 : Int), V.str data] ∧ V.str data = V.str data ∧ V.int IntKind.u8 flags = V.int IntKind.u8 flags ∧ V.int IntKind.u32 number = V.int IntKind.u32
  number ∧ (∃ (n10 : Int), ∃ (n11 : Int), ∃ (n12 : Int), ∃ (n13 : Int), h'2.lda t (0 : Nat) (4 : Nat) = some (V.agg [V.int IntKind.u32 n10, V.int IntKind.u16 n11, V.int IntKind.u32 n12, V.int IntKind.u16 n13]) ∧ V.agg [V.int IntKind.u32 n10,
  V.int IntKind.u16 n11, V.int IntKind.u32 n12, V.int IntKind.u16 n13] = V.agg [V.int IntKind.u32 n1, V.int IntKind.u16 n2, V.int IntKind.u32 n3, V.int IntKind.u16 n4]) ∧ V.ptr (some (t, (0 : Nat))) = V.ptr (some (t, (0 : Nat))) ∧ V.ptr
  (some (t, (0 : Nat))) = V.ptr (some (t, (0 : Nat))) ∧ V.ptr (some (t, (0 : Nat))) = V.ptr (some (t, (0 : Nat))) ∧ V.ptr (some (t, (0 : Nat))) = V.ptr (some (t, (0 : Nat))) ∧ ∃ (h'3 : Hp), h'2.st h'1.next (0 : Nat) [V.int IntKind.u32 n1,
  V.int IntKind.u16 n2, V.int IntKind.u32 n3, V.int IntKind.u16 n4, V.int IntKind.u32 number, V.int IntKind.u32 (0 : Int), V.int IntKind.u8 flags, V.int IntKind.u16 n5, V.int IntKind.u16 (0 : Int), V.int IntKind.u16 (0 : Int), V.int
  IntKind.i64 (-1 : Int), V.str data] = some h'3 ∧ ∃ (Q1 : List V → Hp → Prop), (bif ltI (0 : Int) (bits BinOp.and IntKind.u8 flags (2 : Int)) then ∃ (n14 : Int), h'3.ld t (5 : Nat) = some (V.int IntKind.i64 n14) ∧ ∃ (h'4 : Hp), h'3.st
  h'1.next (9 : Nat) [V.int IntKind.u16 (IntKind.u16.wrap n14)] = some h'4 ∧ ∃ (a1 : Option (Nat × Nat)), h'4.ld t (19 : Nat) = some (V.ptr a1) ∧ bif a1.isNone then ∃ (n15 : Int), h'4.ld t (6 : Nat) = some (V.int IntKind.i64 n15) ∧ ∃ (h'5 :
  Hp), h'4.st h'1.next (10 : Nat) [V.int IntKind.i64 n15] = some h'5 ∧ [V.ptr (some (t, (0 : Nat))), V.ptr (some (h'1.next, (0 : Nat)))] = [V.ptr (some (t, (0 : Nat))), V.ptr (some (h'1.next, (0 : Nat)))] ∧ Q1 [] h'5 else ∃ (b1 : Bool),
  h'4.ld t (30 : Nat) = some (V.bool b1) ∧ bif b1 then ∃ (n16 : Int), h'4.ld t (6 : Nat) = some (V.int IntKind.i64 n16) ∧ ∃ (h'6 : Hp), h'4.st h'1.next (10 : Nat) [V.int IntKind.i64 n16] = some h'6 ∧ [V.ptr (some (t, (0 : Nat))), V.ptr (some
  (h'1.next, (0 : Nat)))] = [V.ptr (some (t, (0 : Nat))), V.ptr (some (h'1.next, (0 : Nat)))] ∧ Q1 [] h'6 else [V.ptr (some (t, (0 : Nat))), V.ptr (some (h'1.next, (0 : Nat)))] = [V.ptr (some (t, (0 : Nat))), V.ptr (some (h'1.next, (0 :
  Nat)))] ∧ Q1 [] h'4 else [V.ptr (some (t, (0 : Nat))), V.ptr (some (h'1.next, (0 : Nat)))] = [V.ptr (some (t, (0 : Nat))), V.ptr (some (h'1.next, (0 : Nat)))] ∧ Q1 [] h'3) ∧ ∀ (bs1 : Nat → Option V) (h1 : Hp), Q1 [] h1 → ∃ (Q2 : List V →
  Hp → Prop), (∃ (a2 : Option (Nat × Nat)), h1.ld t (19 : Nat) = some (V.ptr a2) ∧ bif !a2.isNone then ∃ (n17 : Int), h1.ld h'1.next (6 : Nat) = some (V.int IntKind.u8 n17) ∧ ∃ (h'7 : Hp), h1.st h'1.next (6 : Nat) [V.int IntKind.u8 (bits
  BinOp.or IntKind.u8 n17 (16 : Int))] = some h'7 ∧ XCalls Tryz.prog (79 : Nat) [V.ptr (some (t, (0 : Nat)))] h'7 fun (v2 : V) (h'8 : Hp) => ∃ (n18 : Int), v2 = V.int IntKind.u32 n18 ∧ ∃ (h'9 : Hp), h'8.st h'1.next (5 : Nat) [V.int
  IntKind.u32 n18] = some h'9 ∧ ∃ (h'10 : Hp), h'9.st t (36 : Nat) [V.bool false] = some h'10 ∧ ∃ (h'11 : Hp), h'10.st t (37 : Nat) [V.int IntKind.i64 (0 : Int)] = some h'11 ∧ ∃ (h'12 : Hp), h'11.st t (40 : Nat) [V.int IntKind.i64 (-1 :
  Int)] = some h'12 ∧ [V.ptr (some (t, (0 : Nat))), V.ptr (some (h'1.next, (0 : Nat)))] = [V.ptr (some (t, (0 : Nat))), V.ptr (some (h'1.next, (0 : Nat)))] ∧ Q2 [] h'12 else [V.ptr (some (t, (0 : Nat))), V.ptr (some (h'1.next, (0 : Nat)))] =
  [V.ptr (some (t, (0 : Nat))), V.ptr (some (h'1.next, (0 : Nat)))] ∧ Q2 [] h1) ∧ ∀ (bs2 : Nat → Option V) (h2 : Hp), Q2 [] h2 → ∃ (a3 : Option (Nat × Nat)), ∃ (n19 : Nat), ∃ (f1 : Bool), h2.ld t (48 : Nat) = some (V.slc a3 n19 f1) ∧ ∃ (n20
  : Int), ∃ (n21 : Int), ∃ (n22 : Int), ∃ (n23 : Int), ∃ (n24 : Int), ∃ (n25 : Int), ∃ (n26 : Int), ∃ (n27 : Int), ∃ (n28 : Int), ∃ (n29 : Int), ∃ (n30 : Int), ∃ (s1 : List UInt8), h2.lda h'1.next (0 : Nat) (12 : Nat) = some (V.agg [V.int
  IntKind.u32 n20, V.int IntKind.u16 n21, V.int IntKind.u32 n22, V.int IntKind.u16 n23, V.int IntKind.u32 n24, V.int IntKind.u32 n25, V.int IntKind.u8 n26, V.int IntKind.u16 n27, V.int IntKind.u16 n28, V.int IntKind.u16 n29, V.int
  IntKind.i64 n30, V.str s1]) ∧ ∀ (h'13 : Hp), h'13 = h2.alloc (O.row [V.int IntKind.u32 n20, V.int IntKind.u16 n21, V.int IntKind.u32 n22, V.int IntKind.u16 n23, V.int IntKind.u32 n24, V.int IntKind.u32 n25, V.int IntKind.u8 n26, V.int
  IntKind.u16 n27, V.int IntKind.u16 n28, V.int IntKind.u16 n29, V.int IntKind.i64 n30, V.str s1] (12 : Nat) false) → (∃ (a4 : Option (Nat × Nat)), ∃ (n31 : Nat), ∃ (f2 : Bool), h'13.ld t (48 : Nat) = some (V.slc a4 n31 f2) ∧ V.slc a4 n31 f2
  = V.slc a3 n19 f1) ∧ V.ptr (some (t, (48 : Nat))) = V.ptr (some (t, (48 : Nat))) ∧ V.ptr (some (t, (0 : Nat))) = V.ptr (some (t, (0 : Nat))) ∧ V.ptr (some (t, (0 : Nat))) = V.ptr (some (t, (0 : Nat))) ∧ V.ptr (some (t, (0 : Nat))) = V.ptr
  (some (t, (0 : Nat))) ∧ ∃ (p1 : Option (Nat × Nat)), ∃ (n32 : Nat), ∃ (f3 : Bool), ∃ (h'14 : Hp), xapp T h'13 (58 : Nat) (58 : Nat) (V.slc a3 n19 f1) (V.slc (some (h2.next, (0 : Nat))) (1 : Nat) true) = some (V.slc p1 n32 f3, h'14) ∧ V.ptr
  (some (t, (0 : Nat))) = V.ptr (some (t, (0 : Nat))) ∧ ∃ (h'15 : Hp), h'14.st t (48 : Nat) [V.slc p1 n32 f3] = some h'15 ∧ K (V.tup []) h'15) ∧ (∀ (h'16 : Hp), h'16 = h.alloc (O.row [V.int IntKind.u32 (0 : Int), V.int IntKind.u16 (0 : Int),
  V.int IntKind.u32 (0 : Int), V.int IntKind.u16 (0 : Int), V.int IntKind.u32 (0 : Int), V.int IntKind.u32 (0 : Int), V.int IntKind.u8 (0 : Int), V.int IntKind.u16 (0 : Int), V.int IntKind.u16 (0 : Int), V.int IntKind.u16 (0 : Int), V.int
  IntKind.i64 (0 : Int), V.str []] (1 : Nat) false) → V.str data = V.str data ∧ V.bool (ltI (0 : Int) (bits BinOp.and IntKind.u8 flags (2 : Int))) = V.bool (ltI (0 : Int) (bits BinOp.and IntKind.u8 flags (2 : Int))) ∧ V.int IntKind.u8 (bits
  BinOp.and IntKind.u8 flags (2 : Int)) = V.int IntKind.u8 (bits BinOp.and IntKind.u8 flags (2 : Int)) ∧ V.int IntKind.u8 flags = V.int IntKind.u8 flags ∧ V.ptr (some (t, (0 : Nat))) = V.ptr (some (t, (0 : Nat))) ∧ V.int IntKind.u8 flags =
  V.int IntKind.u8 flags ∧ V.int IntKind.u32 number = V.int IntKind.u32 number ∧ (∃ (n33 : Int), ∃ (n34 : Int), ∃ (n35 : Int), ∃ (n36 : Int), h'16.lda t (0 : Nat) (4 : Nat) = some (V.agg [V.int IntKind.u32 n33, V.int IntKind.u16 n34, V.int
  IntKind.u32 n35, V.int IntKind.u16 n36]) ∧ V.agg [V.int IntKind.u32 n33, V.int IntKind.u16 n34, V.int IntKind.u32 n35, V.int IntKind.u16 n36] = V.agg [V.int IntKind.u32 n1, V.int IntKind.u16 n2, V.int IntKind.u32 n3, V.int IntKind.u16 n4])
  ∧ V.ptr (some (t, (0 : Nat))) = V.ptr (some (t, (0 : Nat))) ∧ V.ptr (some (t, (0 : Nat))) = V.ptr (some (t, (0 : Nat))) ∧ V.ptr (some (t, (0 : Nat))) = V.ptr (some (t, (0 : Nat))) ∧ V.ptr (some (t, (0 : Nat))) = V.ptr (some (t, (0 : Nat)))
  ∧ XCalls Tryz.prog (117 : Nat) [V.ptr (some (t, (0 : Nat))), V.bool (ltI (0 : Int) (bits BinOp.and IntKind.u8 flags (2 : Int)))] h'16 fun (v3 : V) (h'17 : Hp) => ∃ (n37 : Int), v3 = V.int IntKind.u16 n37 ∧ V.str data = V.str data ∧ V.int
  IntKind.u8 flags = V.int IntKind.u8 flags ∧ V.int IntKind.u32 number = V.int IntKind.u32 number ∧ (∃ (n38 : Int), ∃ (n39 : Int), ∃ (n40 : Int), ∃ (n41 : Int), h'17.lda t (0 : Nat) (4 : Nat) = some (V.agg [V.int IntKind.u32 n38, V.int
  IntKind.u16 n39, V.int IntKind.u32 n40, V.int IntKind.u16 n41]) ∧ V.agg [V.int IntKind.u32 n38, V.int IntKind.u16 n39, V.int IntKind.u32 n40, V.int IntKind.u16 n41] = V.agg [V.int IntKind.u32 n1, V.int IntKind.u16 n2, V.int IntKind.u32 n3,
  V.int IntKind.u16 n4]) ∧ V.ptr (some (t, (0 : Nat))) = V.ptr (some (t, (0 : Nat))) ∧ V.ptr (some (t, (0 : Nat))) = V.ptr (some (t, (0 : Nat))) ∧ V.ptr (some (t, (0 : Nat))) = V.ptr (some (t, (0 : Nat))) ∧ V.ptr (some (t, (0 : Nat))) =
  V.ptr (some (t, (0 : Nat))) ∧ ∃ (h'18 : Hp), h'17.st h.next (0 : Nat) [V.int IntKind.u32 n1, V.int IntKind.u16 n2, V.int IntKind.u32 n3, V.int IntKind.u16 n4, V.int IntKind.u32 number, V.int IntKind.u32 (0 : Int), V.int IntKind.u8 flags,
  V.int IntKind.u16 n37, V.int IntKind.u16 (0 : Int), V.int IntKind.u16 (0 : Int), V.int IntKind.i64 (-1 : Int), V.str data] = some h'18 ∧ ∃ (Q3 : List V → Hp → Prop), (bif ltI (0 : Int) (bits BinOp.and IntKind.u8 flags (2 : Int)) then ∃
  (n42 : Int), h'18.ld t (5 : Nat) = some (V.int IntKind.i64 n42) ∧ ∃ (h'19 : Hp), h'18.st h.next (9 : Nat) [V.int IntKind.u16 (IntKind.u16.wrap n42)] = some h'19 ∧ ∃ (a5 : Option (Nat × Nat)), h'19.ld t (19 : Nat) = some (V.ptr a5) ∧ bif
  a5.isNone then ∃ (n43 : Int), h'19.ld t (6 : Nat) = some (V.int IntKind.i64 n43) ∧ ∃ (h'20 : Hp), h'19.st h.next (10 : Nat) [V.int IntKind.i64 n43] = some h'20 ∧ [V.ptr (some (t, (0 : Nat))), V.ptr (some (h.next, (0 : Nat)))] = [V.ptr
  (some (t, (0 : Nat))), V.ptr (some (h.next, (0 : Nat)))] ∧ Q3 [] h'20 else ∃ (b2 : Bool), h'19.ld t (30 : Nat) = some (V.bool b2) ∧ bif b2 then ∃ (n44 : Int), h'19.ld t (6 : Nat) = some (V.int IntKind.i64 n44) ∧ ∃ (h'21 : Hp), h'19.st
  h.next (10 : Nat) [V.int IntKind.i64 n44] = some h'21 ∧ [V.ptr (some (t, (0 : Nat))), V.ptr (some (h.next, (0 : Nat)))] = [V.ptr (some (t, (0 : Nat))), V.ptr (some (h.next, (0 : Nat)))] ∧ Q3 [] h'21 else [V.ptr (some (t, (0 : Nat))), V.ptr
  (some (h.next, (0 : Nat)))] = [V.ptr (some (t, (0 : Nat))), V.ptr (some (h.next, (0 : Nat)))] ∧ Q3 [] h'19 else [V.ptr (some (t, (0 : Nat))), V.ptr (some (h.next, (0 : Nat)))] = [V.ptr (some (t, (0 : Nat))), V.ptr (some (h.next, (0 :
  Nat)))] ∧ Q3 [] h'18) ∧ ∀ (bs3 : Nat → Option V) (h3 : Hp), Q3 [] h3 → ∃ (Q4 : List V → Hp → Prop), (∃ (a6 : Option (Nat × Nat)), h3.ld t (19 : Nat) = some (V.ptr a6) ∧ bif !a6.isNone then ∃ (n45 : Int), h3.ld h.next (6 : Nat) = some
  (V.int IntKind.u8 n45) ∧ ∃ (h'22 : Hp), h3.st h.next (6 : Nat) [V.int IntKind.u8 (bits BinOp.or IntKind.u8 n45 (16 : Int))] = some h'22 ∧ XCalls Tryz.prog (79 : Nat) [V.ptr (some (t, (0 : Nat)))] h'22 fun (v4 : V) (h'23 : Hp) => ∃ (n46 :
  Int), v4 = V.int IntKind.u32 n46 ∧ ∃ (h'24 : Hp), h'23.st h.next (5 : Nat) [V.int IntKind.u32 n46] = some h'24 ∧ ∃ (h'25 : Hp), h'24.st t (36 : Nat) [V.bool false] = some h'25 ∧ ∃ (h'26 : Hp), h'25.st t (37 : Nat) [V.int IntKind.i64 (0 :
  Int)] = some h'26 ∧ ∃ (h'27 : Hp), h'26.st t (40 : Nat) [V.int IntKind.i64 (-1 : Int)] = some h'27 ∧ [V.ptr (some (t, (0 : Nat))), V.ptr (some (h.next, (0 : Nat)))] = [V.ptr (some (t, (0 : Nat))), V.ptr (some (h.next, (0 : Nat)))] ∧ Q4 []
  h'27 else [V.ptr (some (t, (0 : Nat))), V.ptr (some (h.next, (0 : Nat)))] = [V.ptr (some (t, (0 : Nat))), V.ptr (some (h.next, (0 : Nat)))] ∧ Q4 [] h3) ∧ ∀ (bs4 : Nat → Option V) (h4 : Hp), Q4 [] h4 → ∃ (a7 : Option (Nat × Nat)), ∃ (n47 :
  Nat), ∃ (f4 : Bool), h4.ld t (48 : Nat) = some (V.slc a7 n47 f4) ∧ ∃ (n48 : Int), ∃ (n49 : Int), ∃ (n50 : Int), ∃ (n51 : Int), ∃ (n52 : Int), ∃ (n53 : Int), ∃ (n54 : Int), ∃ (n55 : Int), ∃ (n56 : Int), ∃ (n57 : Int), ∃ (n58 : Int), ∃ (s2 :
  List UInt8), h4.lda h.next (0 : Nat) (12 : Nat) = some (V.agg [V.int IntKind.u32 n48, V.int IntKind.u16 n49, V.int IntKind.u32 n50, V.int IntKind.u16 n51, V.int IntKind.u32 n52, V.int IntKind.u32 n53, V.int IntKind.u8 n54, V.int
  IntKind.u16 n55, V.int IntKind.u16 n56, V.int IntKind.u16 n57, V.int IntKind.i64 n58, V.str s2]) ∧ ∀ (h'28 : Hp), h'28 = h4.alloc (O.row [V.int IntKind.u32 n48, V.int IntKind.u16 n49, V.int IntKind.u32 n50, V.int IntKind.u16 n51, V.int
  IntKind.u32 n52, V.int IntKind.u32 n53, V.int IntKind.u8 n54, V.int IntKind.u16 n55, V.int IntKind.u16 n56, V.int IntKind.u16 n57, V.int IntKind.i64 n58, V.str s2] (12 : Nat) false) → (∃ (a8 : Option (Nat × Nat)), ∃ (n59 : Nat), ∃ (f5 :
  Bool), h'28.ld t (48 : Nat) = some (V.slc a8 n59 f5) ∧ V.slc a8 n59 f5 = V.slc a7 n47 f4) ∧ V.ptr (some (t, (48 : Nat))) = V.ptr (some (t, (48 : Nat))) ∧ V.ptr (some (t, (0 : Nat))) = V.ptr (some (t, (0 : Nat))) ∧ V.ptr (some (t, (0 :
  Nat))) = V.ptr (some (t, (0 : Nat))) ∧ V.ptr (some (t, (0 : Nat))) = V.ptr (some (t, (0 : Nat))) ∧ ∃ (p2 : Option (Nat × Nat)), ∃ (n60 : Nat), ∃ (f6 : Bool), ∃ (h'29 : Hp), xapp T h'28 (58 : Nat) (58 : Nat) (V.slc a7 n47 f4) (V.slc (some
  (h4.next, (0 : Nat))) (1 : Nat) true) = some (V.slc p2 n60 f6, h'29) ∧ V.ptr (some (t, (0 : Nat))) = V.ptr (some (t, (0 : Nat))) ∧ ∃ (h'30 : Hp), h'29.st t (48 : Nat) [V.slc p2 n60 f6] = some h'30 ∧ K (V.tup []) h'30) ∧ True
theorem y92 (h : Hp) (K : V → Hp → Prop) (t : Nat) (flags : Int) (number : Int) (data : List UInt8) : X92 h K t flags number data = fnX Tryz.prog T F jl92 jj92 Tryz.f92 [V.ptr (some (t, (0 : Nat))), V.int IntKind.u8 flags, V.int IntKind.u32 number, V.str data] h K := by kernel_rfl
theorem x92 {h : Hp} {K : V → Hp → Prop} (t : Nat) (flags : Int) (number : Int) (data : List UInt8) (hx : X92 h K t flags number data) : XCalls Tryz.prog 92 [V.ptr (some (t, (0 : Nat))), V.int IntKind.u8 flags, V.int IntKind.u32 number, V.str data] h K :=
  XCalls.ofX tok fok mixed (JL := jl92) (JJ := jj92) Tryz.func92 ((y92 h K t flags number data) ▸ hx)
/-! 117: (*stevedore/tcb.Tcb).room -/
-- join 4: stays t(0), syn(1); turns n(5)
def jl117 : Nat → Option JT := fun r => none
def jj117 : Nat → Option JT := fun r => bif Nat.beq r 4 then some ⟨[0, 1], [5], [V.int IntKind.i64 (0 : Int)]⟩ else none
def X117 (h : Hp) (K : V → Hp → Prop) (t : Nat) (syn : Bool) : Prop := ∃ (n1 : Int), h.ld t (8 : Nat) = some (V.int IntKind.i64 n1) ∧ ∃ (Q1 : List V → Hp → Prop), (∃ (a1 : Option (Nat × Nat)), h.ld t (19 : Nat) = some (V.ptr a1) ∧ bif
  !a1.isNone then ∃ (a2 : Option (Nat × Nat)), h.ld t (19 : Nat) = some (V.ptr a2) ∧ XCalls Tryz.prog (75 : Nat) [V.ptr a2] h fun (v1 : V) (h'1 : Hp) => ∃ (n2 : Int), v1 = V.int IntKind.i64 n2 ∧ [V.ptr (some (t, (0 : Nat))), V.bool syn] =
  [V.ptr (some (t, (0 : Nat))), V.bool syn] ∧ Q1 [V.int IntKind.i64 n2] h'1 else [V.ptr (some (t, (0 : Nat))), V.bool syn] = [V.ptr (some (t, (0 : Nat))), V.bool syn] ∧ Q1 [V.int IntKind.i64 n1] h) ∧ ∀ (bs1 : Nat → Option V) (n3 : Int) (h1 :
  Hp), Q1 [V.int IntKind.i64 n3] h1 → ∃ (b1 : Bool), h1.ld t (30 : Nat) = some (V.bool b1) ∧ bif b1 then bif !syn then ∃ (n4 : Int), h1.ld t (6 : Nat) = some (V.int IntKind.i64 n4) ∧ ¬n4 < (0 : Int) ∧ K (V.int IntKind.u16 (IntKind.u16.wrap
  (bif ltI (65535 : Int) (n3.fdiv ((2 : Int) ^ min n4.toNat IntKind.i64.bits)) then (65535 : Int) else n3.fdiv ((2 : Int) ^ min n4.toNat IntKind.i64.bits)))) h1 else K (V.int IntKind.u16 (IntKind.u16.wrap (bif ltI (65535 : Int) n3 then
  (65535 : Int) else n3))) h1 else K (V.int IntKind.u16 (IntKind.u16.wrap (bif ltI (65535 : Int) n3 then (65535 : Int) else n3))) h1
theorem y117 (h : Hp) (K : V → Hp → Prop) (t : Nat) (syn : Bool) : X117 h K t syn = fnX Tryz.prog T F jl117 jj117 Tryz.f117 [V.ptr (some (t, (0 : Nat))), V.bool syn] h K := by kernel_rfl
theorem x117 {h : Hp} {K : V → Hp → Prop} (t : Nat) (syn : Bool) (hx : X117 h K t syn) : XCalls Tryz.prog 117 [V.ptr (some (t, (0 : Nat))), V.bool syn] h K :=
  XCalls.ofX tok fok mixed (JL := jl117) (JJ := jj117) Tryz.func117 ((y117 h K t syn) ▸ hx)
/-! 77: (*stevedore/tcb.Tcb).una -/
def jl77 : Nat → Option JT := fun r => none
def jj77 : Nat → Option JT := fun r => none
def X77 (h : Hp) (K : V → Hp → Prop) (t : Nat) : Prop := ∃ (b1 : Bool), h.ld t (22 : Nat) = some (V.bool b1) ∧ bif !b1 then ∃ (n1 : Int), h.ld t (4 : Nat) = some (V.int IntKind.u32 n1) ∧ K (V.int IntKind.u32 n1) h else ∃ (b2 : Bool), h.ld t
  (25 : Nat) = some (V.bool b2) ∧ bif b2 then ∃ (a1 : Option (Nat × Nat)), h.ld t (18 : Nat) = some (V.ptr a1) ∧ XCalls Tryz.prog (99 : Nat) [V.ptr a1] h fun (v1 : V) (h'1 : Hp) => ∃ (n2 : Int), v1 = V.int IntKind.u32 n2 ∧ K (V.int
  IntKind.u32 (IntKind.u32.wrap (n2 + (1 : Int)))) h'1 else ∃ (a2 : Option (Nat × Nat)), h.ld t (18 : Nat) = some (V.ptr a2) ∧ XCalls Tryz.prog (113 : Nat) [V.ptr a2] h fun (v2 : V) (h'2 : Hp) => ∃ (n3 : Int), v2 = V.int IntKind.u32 n3 ∧ K
  (V.int IntKind.u32 n3) h'2
theorem y77 (h : Hp) (K : V → Hp → Prop) (t : Nat) : X77 h K t = fnX Tryz.prog T F jl77 jj77 Tryz.f77 [V.ptr (some (t, (0 : Nat)))] h K := by kernel_rfl
theorem x77 {h : Hp} {K : V → Hp → Prop} (t : Nat) (hx : X77 h K t) : XCalls Tryz.prog 77 [V.ptr (some (t, (0 : Nat)))] h K :=
  XCalls.ofX tok fok mixed (JL := jl77) (JJ := jj77) Tryz.func77 ((y77 h K t) ▸ hx)
/-! 78: (*stevedore/tcb.Tcb).nxt -/
def jl78 : Nat → Option JT := fun r => none
def jj78 : Nat → Option JT := fun r => none
def X78 (h : Hp) (K : V → Hp → Prop) (t : Nat) : Prop := ∃ (b1 : Bool), h.ld t (22 : Nat) = some (V.bool b1) ∧ bif !b1 then ∃ (n1 : Int), h.ld t (4 : Nat) = some (V.int IntKind.u32 n1) ∧ K (V.int IntKind.u32 (IntKind.u32.wrap (n1 + (1 :
  Int)))) h else ∃ (b2 : Bool), h.ld t (24 : Nat) = some (V.bool b2) ∧ bif b2 then ∃ (a1 : Option (Nat × Nat)), h.ld t (18 : Nat) = some (V.ptr a1) ∧ XCalls Tryz.prog (99 : Nat) [V.ptr a1] h fun (v1 : V) (h'1 : Hp) => ∃ (n2 : Int), v1 =
  V.int IntKind.u32 n2 ∧ K (V.int IntKind.u32 (IntKind.u32.wrap (n2 + (1 : Int)))) h'1 else ∃ (a2 : Option (Nat × Nat)), h.ld t (18 : Nat) = some (V.ptr a2) ∧ XCalls Tryz.prog (100 : Nat) [V.ptr a2] h fun (v2 : V) (h'2 : Hp) => ∃ (n3 : Int),
  v2 = V.int IntKind.u32 n3 ∧ K (V.int IntKind.u32 n3) h'2
theorem y78 (h : Hp) (K : V → Hp → Prop) (t : Nat) : X78 h K t = fnX Tryz.prog T F jl78 jj78 Tryz.f78 [V.ptr (some (t, (0 : Nat)))] h K := by kernel_rfl
theorem x78 {h : Hp} {K : V → Hp → Prop} (t : Nat) (hx : X78 h K t) : XCalls Tryz.prog 78 [V.ptr (some (t, (0 : Nat)))] h K :=
  XCalls.ofX tok fok mixed (JL := jl78) (JJ := jj78) Tryz.func78 ((y78 h K t) ▸ hx)
/-! 79: (*stevedore/tcb.Tcb).next -/
def jl79 : Nat → Option JT := fun r => none
def jj79 : Nat → Option JT := fun r => none
def X79 (h : Hp) (K : V → Hp → Prop) (t : Nat) : Prop := ∃ (a1 : Option (Nat × Nat)), h.ld t (19 : Nat) = some (V.ptr a1) ∧ bif a1.isNone then K (V.int IntKind.u32 (0 : Int)) h else ∃ (b1 : Bool), h.ld t (27 : Nat) = some (V.bool b1) ∧ bif
  b1 then ∃ (a2 : Option (Nat × Nat)), h.ld t (19 : Nat) = some (V.ptr a2) ∧ XCalls Tryz.prog (114 : Nat) [V.ptr a2] h fun (v1 : V) (h'1 : Hp) => ∃ (n1 : Int), v1 = V.int IntKind.u32 n1 ∧ K (V.int IntKind.u32 (IntKind.u32.wrap (n1 + (1 :
  Int)))) h'1 else ∃ (a3 : Option (Nat × Nat)), h.ld t (19 : Nat) = some (V.ptr a3) ∧ XCalls Tryz.prog (114 : Nat) [V.ptr a3] h fun (v2 : V) (h'2 : Hp) => ∃ (n2 : Int), v2 = V.int IntKind.u32 n2 ∧ K (V.int IntKind.u32 n2) h'2
theorem y79 (h : Hp) (K : V → Hp → Prop) (t : Nat) : X79 h K t = fnX Tryz.prog T F jl79 jj79 Tryz.f79 [V.ptr (some (t, (0 : Nat)))] h K := by kernel_rfl
theorem x79 {h : Hp} {K : V → Hp → Prop} (t : Nat) (hx : X79 h K t) : XCalls Tryz.prog 79 [V.ptr (some (t, (0 : Nat)))] h K :=
  XCalls.ofX tok fok mixed (JL := jl79) (JJ := jj79) Tryz.func79 ((y79 h K t) ▸ hx)
/-! 93: (*stevedore/tcb.Tcb).flight -/
def jl93 : Nat → Option JT := fun r => none
def jj93 : Nat → Option JT := fun r => none
def X93 (h : Hp) (K : V → Hp → Prop) (t : Nat) : Prop := XCalls Tryz.prog (78 : Nat) [V.ptr (some (t, (0 : Nat)))] h fun (v1 : V) (h'1 : Hp) => ∃ (n1 : Int), v1 = V.int IntKind.u32 n1 ∧ XCalls Tryz.prog (77 : Nat) [V.ptr (some (t, (0 :
  Nat)))] h'1 fun (v2 : V) (h'2 : Hp) => ∃ (n2 : Int), v2 = V.int IntKind.u32 n2 ∧ K (V.int IntKind.i64 (IntKind.i64.wrap (IntKind.u32.wrap (n1 - n2)))) h'2
theorem y93 (h : Hp) (K : V → Hp → Prop) (t : Nat) : X93 h K t = fnX Tryz.prog T F jl93 jj93 Tryz.f93 [V.ptr (some (t, (0 : Nat)))] h K := by kernel_rfl
theorem x93 {h : Hp} {K : V → Hp → Prop} (t : Nat) (hx : X93 h K t) : XCalls Tryz.prog 93 [V.ptr (some (t, (0 : Nat)))] h K :=
  XCalls.ofX tok fok mixed (JL := jl93) (JJ := jj93) Tryz.func93 ((y93 h K t) ▸ hx)
/-! 94: (*stevedore/tcb.Tcb).sends -/
def jl94 : Nat → Option JT := fun r => none
def jj94 : Nat → Option JT := fun r => none
def X94 (h : Hp) (K : V → Hp → Prop) (t : Nat) : Prop := ∃ (n1 : Int), h.ld t (15 : Nat) = some (V.int IntKind.u8 n1) ∧ bif n1 == (4 : Int) then bif n1 == (4 : Int) then K (V.bool true) h else bif n1 == (5 : Int) then bif n1 == (5 : Int)
  then ∃ (b1 : Bool), h.ld t (24 : Nat) = some (V.bool b1) ∧ K (V.bool !b1) h else K (V.bool false) h else bif n1 == (8 : Int) then bif n1 == (8 : Int) then ∃ (b2 : Bool), h.ld t (24 : Nat) = some (V.bool b2) ∧ K (V.bool !b2) h else K
  (V.bool false) h else bif n1 == (9 : Int) then ∃ (b3 : Bool), h.ld t (24 : Nat) = some (V.bool b3) ∧ K (V.bool !b3) h else K (V.bool false) h else bif n1 == (7 : Int) then K (V.bool true) h else bif n1 == (5 : Int) then bif n1 == (5 : Int)
  then ∃ (b4 : Bool), h.ld t (24 : Nat) = some (V.bool b4) ∧ K (V.bool !b4) h else K (V.bool false) h else bif n1 == (8 : Int) then bif n1 == (8 : Int) then ∃ (b5 : Bool), h.ld t (24 : Nat) = some (V.bool b5) ∧ K (V.bool !b5) h else K
  (V.bool false) h else bif n1 == (9 : Int) then ∃ (b6 : Bool), h.ld t (24 : Nat) = some (V.bool b6) ∧ K (V.bool !b6) h else K (V.bool false) h
theorem y94 (h : Hp) (K : V → Hp → Prop) (t : Nat) : X94 h K t = fnX Tryz.prog T F jl94 jj94 Tryz.f94 [V.ptr (some (t, (0 : Nat)))] h K := by kernel_rfl
theorem x94 {h : Hp} {K : V → Hp → Prop} (t : Nat) (hx : X94 h K t) : XCalls Tryz.prog 94 [V.ptr (some (t, (0 : Nat)))] h K :=
  XCalls.ofX tok fok mixed (JL := jl94) (JJ := jj94) Tryz.func94 ((y94 h K t) ▸ hx)
/-! 96: (*stevedore/tcb.Tcb).runs -/
-- join 10: stays t(0); turns idle(5)
-- join 9: stays t(0); turns 
-- join 5: stays t(0), waits(4); turns 
-- join 1: stays t(0), before(1); turns waits(4)
def jl96 : Nat → Option JT := fun r => none
def jj96 : Nat → Option JT := fun r => bif Nat.beq r 10 then some ⟨[0], [5], [V.bool false]⟩ else bif Nat.beq r 9 then some ⟨[0], [], []⟩ else bif Nat.beq r 5 then some ⟨[0, 4], [], []⟩ else bif Nat.beq r 1 then some ⟨[0, 1], [4], [V.bool false]⟩ else none
def X96 (h : Hp) (K : V → Hp → Prop) (t : Nat) (before : Int) : Prop := ∃ (Q1 : List V → Hp → Prop), (XCalls Tryz.prog (94 : Nat) [V.ptr (some (t, (0 : Nat)))] h fun (v1 : V) (h'1 : Hp) => ∃ (b1 : Bool), v1 = V.bool b1 ∧ bif b1 then ∃ (a1 :
  Option (Nat × Nat)), h'1.ld t (18 : Nat) = some (V.ptr a1) ∧ ∃ (a2 : Option (Nat × Nat)), h'1.ld t (18 : Nat) = some (V.ptr a2) ∧ XCalls Tryz.prog (99 : Nat) [V.ptr a1] h'1 fun (v2 : V) (h'2 : Hp) => ∃ (n1 : Int), v2 = V.int IntKind.u32 n1
  ∧ (∃ (a3 : Option (Nat × Nat)), h'2.ld t (18 : Nat) = some (V.ptr a3) ∧ V.ptr a3 = V.ptr a2) ∧ V.ptr (some (t, (18 : Nat))) = V.ptr (some (t, (18 : Nat))) ∧ V.ptr (some (t, (0 : Nat))) = V.ptr (some (t, (0 : Nat))) ∧ V.ptr (some (t, (0 :
  Nat))) = V.ptr (some (t, (0 : Nat))) ∧ XCalls Tryz.prog (100 : Nat) [V.ptr a2] h'2 fun (v3 : V) (h'3 : Hp) => ∃ (n2 : Int), v3 = V.int IntKind.u32 n2 ∧ bif n1 != n2 then [V.ptr (some (t, (0 : Nat))), V.int IntKind.i64 before] = [V.ptr
  (some (t, (0 : Nat))), V.int IntKind.i64 before] ∧ Q1 [V.bool true] h'3 else ∃ (b2 : Bool), h'3.ld t (23 : Nat) = some (V.bool b2) ∧ bif b2 then ∃ (b3 : Bool), h'3.ld t (24 : Nat) = some (V.bool b3) ∧ [V.ptr (some (t, (0 : Nat))), V.int
  IntKind.i64 before] = [V.ptr (some (t, (0 : Nat))), V.int IntKind.i64 before] ∧ Q1 [V.bool !b3] h'3 else [V.ptr (some (t, (0 : Nat))), V.int IntKind.i64 before] = [V.ptr (some (t, (0 : Nat))), V.int IntKind.i64 before] ∧ Q1 [V.bool false]
  h'3 else [V.ptr (some (t, (0 : Nat))), V.int IntKind.i64 before] = [V.ptr (some (t, (0 : Nat))), V.int IntKind.i64 before] ∧ Q1 [V.bool false] h'1) ∧ ∀ (bs1 : Nat → Option V) (b4 : Bool) (h1 : Hp), Q1 [V.bool b4] h1 → ∃ (Q2 : List V → Hp →
  Prop), (XCalls Tryz.prog (93 : Nat) [V.ptr (some (t, (0 : Nat)))] h1 fun (v4 : V) (h'4 : Hp) => ∃ (n3 : Int), v4 = V.int IntKind.i64 n3 ∧ bif n3 == (0 : Int) then ∃ (h'5 : Hp), h'4.st t (38 : Nat) [V.int IntKind.i64 (-1 : Int)] = some h'5
  ∧ [V.ptr (some (t, (0 : Nat))), V.bool b4] = [V.ptr (some (t, (0 : Nat))), V.bool b4] ∧ Q2 [] h'5 else bif before == (0 : Int) then ∃ (n4 : Int), h'4.ld t (14 : Nat) = some (V.int IntKind.i64 n4) ∧ ∃ (a4 : Option (Nat × Nat)), h'4.ld t (20
  : Nat) = some (V.ptr a4) ∧ XCalls Tryz.prog (39 : Nat) [V.ptr a4] h'4 fun (v5 : V) (h'6 : Hp) => ∃ (n5 : Int), v5 = V.int IntKind.i64 n5 ∧ (∃ (n6 : Int), h'6.ld t (14 : Nat) = some (V.int IntKind.i64 n6) ∧ V.int IntKind.i64 n6 = V.int
  IntKind.i64 n4) ∧ V.ptr (some (t, (14 : Nat))) = V.ptr (some (t, (14 : Nat))) ∧ V.ptr (some (t, (0 : Nat))) = V.ptr (some (t, (0 : Nat))) ∧ V.ptr (some (t, (0 : Nat))) = V.ptr (some (t, (0 : Nat))) ∧ V.ptr (some (t, (0 : Nat))) = V.ptr
  (some (t, (0 : Nat))) ∧ ∃ (h'7 : Hp), h'6.st t (38 : Nat) [V.int IntKind.i64 (IntKind.i64.wrap (n4 + n5))] = some h'7 ∧ [V.ptr (some (t, (0 : Nat))), V.bool b4] = [V.ptr (some (t, (0 : Nat))), V.bool b4] ∧ Q2 [] h'7 else ∃ (n7 : Int),
  h'4.ld t (38 : Nat) = some (V.int IntKind.i64 n7) ∧ bif n7 == (-1 : Int) then ∃ (n8 : Int), h'4.ld t (14 : Nat) = some (V.int IntKind.i64 n8) ∧ ∃ (a5 : Option (Nat × Nat)), h'4.ld t (20 : Nat) = some (V.ptr a5) ∧ XCalls Tryz.prog (39 :
  Nat) [V.ptr a5] h'4 fun (v6 : V) (h'8 : Hp) => ∃ (n9 : Int), v6 = V.int IntKind.i64 n9 ∧ (∃ (n10 : Int), h'8.ld t (14 : Nat) = some (V.int IntKind.i64 n10) ∧ V.int IntKind.i64 n10 = V.int IntKind.i64 n8) ∧ V.ptr (some (t, (14 : Nat))) =
  V.ptr (some (t, (14 : Nat))) ∧ V.ptr (some (t, (0 : Nat))) = V.ptr (some (t, (0 : Nat))) ∧ V.ptr (some (t, (0 : Nat))) = V.ptr (some (t, (0 : Nat))) ∧ V.ptr (some (t, (0 : Nat))) = V.ptr (some (t, (0 : Nat))) ∧ ∃ (h'9 : Hp), h'8.st t (38 :
  Nat) [V.int IntKind.i64 (IntKind.i64.wrap (n8 + n9))] = some h'9 ∧ [V.ptr (some (t, (0 : Nat))), V.bool b4] = [V.ptr (some (t, (0 : Nat))), V.bool b4] ∧ Q2 [] h'9 else [V.ptr (some (t, (0 : Nat))), V.bool b4] = [V.ptr (some (t, (0 :
  Nat))), V.bool b4] ∧ Q2 [] h'4) ∧ ∀ (bs2 : Nat → Option V) (h2 : Hp), Q2 [] h2 → ∃ (Q3 : List V → Hp → Prop), (XCalls Tryz.prog (93 : Nat) [V.ptr (some (t, (0 : Nat)))] h2 fun (v7 : V) (h'10 : Hp) => ∃ (n11 : Int), v7 = V.int IntKind.i64
  n11 ∧ bif ltI (0 : Int) n11 then ∃ (h'11 : Hp), h'10.st t (39 : Nat) [V.int IntKind.i64 (-1 : Int)] = some h'11 ∧ [V.ptr (some (t, (0 : Nat)))] = [V.ptr (some (t, (0 : Nat)))] ∧ Q3 [] h'11 else bif !b4 then ∃ (h'12 : Hp), h'10.st t (39 :
  Nat) [V.int IntKind.i64 (-1 : Int)] = some h'12 ∧ [V.ptr (some (t, (0 : Nat)))] = [V.ptr (some (t, (0 : Nat)))] ∧ Q3 [] h'12 else ∃ (n12 : Int), h'10.ld t (39 : Nat) = some (V.int IntKind.i64 n12) ∧ bif n12 == (-1 : Int) then ∃ (n13 :
  Int), h'10.ld t (14 : Nat) = some (V.int IntKind.i64 n13) ∧ ∃ (a6 : Option (Nat × Nat)), h'10.ld t (20 : Nat) = some (V.ptr a6) ∧ XCalls Tryz.prog (39 : Nat) [V.ptr a6] h'10 fun (v8 : V) (h'13 : Hp) => ∃ (n14 : Int), v8 = V.int IntKind.i64
  n14 ∧ (∃ (n15 : Int), h'13.ld t (14 : Nat) = some (V.int IntKind.i64 n15) ∧ V.int IntKind.i64 n15 = V.int IntKind.i64 n13) ∧ V.ptr (some (t, (14 : Nat))) = V.ptr (some (t, (14 : Nat))) ∧ V.ptr (some (t, (0 : Nat))) = V.ptr (some (t, (0 :
  Nat))) ∧ V.ptr (some (t, (0 : Nat))) = V.ptr (some (t, (0 : Nat))) ∧ V.ptr (some (t, (0 : Nat))) = V.ptr (some (t, (0 : Nat))) ∧ ∃ (h'14 : Hp), h'13.st t (39 : Nat) [V.int IntKind.i64 (IntKind.i64.wrap (n13 + n14))] = some h'14 ∧ [V.ptr
  (some (t, (0 : Nat)))] = [V.ptr (some (t, (0 : Nat)))] ∧ Q3 [] h'14 else [V.ptr (some (t, (0 : Nat)))] = [V.ptr (some (t, (0 : Nat)))] ∧ Q3 [] h'10) ∧ ∀ (bs3 : Nat → Option V) (h3 : Hp), Q3 [] h3 → ∃ (Q4 : List V → Hp → Prop), (∃ (n16 :
  Int), h3.ld t (11 : Nat) = some (V.int IntKind.i64 n16) ∧ bif ltI (0 : Int) n16 then ∃ (n17 : Int), h3.ld t (15 : Nat) = some (V.int IntKind.u8 n17) ∧ bif n17 == (4 : Int) then XCalls Tryz.prog (93 : Nat) [V.ptr (some (t, (0 : Nat)))] h3
  fun (v9 : V) (h'15 : Hp) => ∃ (n18 : Int), v9 = V.int IntKind.i64 n18 ∧ [V.ptr (some (t, (0 : Nat)))] = [V.ptr (some (t, (0 : Nat)))] ∧ Q4 [V.bool (n18 == (0 : Int))] h'15 else ∃ (n19 : Int), h3.ld t (15 : Nat) = some (V.int IntKind.u8
  n19) ∧ bif n19 == (7 : Int) then XCalls Tryz.prog (93 : Nat) [V.ptr (some (t, (0 : Nat)))] h3 fun (v10 : V) (h'16 : Hp) => ∃ (n20 : Int), v10 = V.int IntKind.i64 n20 ∧ [V.ptr (some (t, (0 : Nat)))] = [V.ptr (some (t, (0 : Nat)))] ∧ Q4
  [V.bool (n20 == (0 : Int))] h'16 else [V.ptr (some (t, (0 : Nat)))] = [V.ptr (some (t, (0 : Nat)))] ∧ Q4 [V.bool false] h3 else [V.ptr (some (t, (0 : Nat)))] = [V.ptr (some (t, (0 : Nat)))] ∧ Q4 [V.bool false] h3) ∧ ∀ (bs4 : Nat → Option
  V) (b5 : Bool) (h4 : Hp), Q4 [V.bool b5] h4 → bif !b5 then ∃ (h'17 : Hp), h4.st t (41 : Nat) [V.int IntKind.i64 (-1 : Int)] = some h'17 ∧ K (V.tup []) h'17 else ∃ (n21 : Int), h4.ld t (41 : Nat) = some (V.int IntKind.i64 n21) ∧ bif n21 ==
  (-1 : Int) then ∃ (n22 : Int), h4.ld t (14 : Nat) = some (V.int IntKind.i64 n22) ∧ ∃ (n23 : Int), h4.ld t (11 : Nat) = some (V.int IntKind.i64 n23) ∧ ∃ (h'18 : Hp), h4.st t (41 : Nat) [V.int IntKind.i64 (IntKind.i64.wrap (n22 + n23))] =
  some h'18 ∧ K (V.tup []) h'18 else K (V.tup []) h4
theorem y96 (h : Hp) (K : V → Hp → Prop) (t : Nat) (before : Int) : X96 h K t before = fnX Tryz.prog T F jl96 jj96 Tryz.f96 [V.ptr (some (t, (0 : Nat))), V.int IntKind.i64 before] h K := by kernel_rfl
theorem x96 {h : Hp} {K : V → Hp → Prop} (t : Nat) (before : Int) (hx : X96 h K t before) : XCalls Tryz.prog 96 [V.ptr (some (t, (0 : Nat))), V.int IntKind.i64 before] h K :=
  XCalls.ofX tok fok mixed (JL := jl96) (JJ := jj96) Tryz.func96 ((y96 h K t before) ▸ hx)
/-! 59: (*stevedore/tcb.Tcb).settles -/
-- loop 2: stays t(0), before(2); turns 
-- join 3: stays t(0), before(2); turns 
def jl59 : Nat → Option JT := fun r => bif Nat.beq r 2 then some ⟨[0, 2], [], []⟩ else none
def jj59 : Nat → Option JT := fun r => bif Nat.beq r 3 then some ⟨[0, 2], [], []⟩ else none
def X59 (h : Hp) (K : V → Hp → Prop) (t : Nat) : Prop := ∃ (n1 : Int), h.ld t (16 : Nat) = some (V.int IntKind.u8 n1) ∧ bif n1 != (0 : Int) then K (V.tup []) h else XCalls Tryz.prog (93 : Nat) [V.ptr (some (t, (0 : Nat)))] h fun (v1 : V)
  (h'1 : Hp) => ∃ (n2 : Int), v1 = V.int IntKind.i64 n2 ∧ ∃ (Q1 : List V → Hp → Prop), (∃ (I1 : List V → Hp → Prop), ∃ (x1 : List V → Hp → Nat), ([V.ptr (some (t, (0 : Nat))), V.int IntKind.i64 n2] = [V.ptr (some (t, (0 : Nat))), V.int
  IntKind.i64 n2] ∧ I1 [] h'1) ∧ ∀ (bs1 : Nat → Option V) (h1 : Hp), I1 [] h1 → XCalls Tryz.prog (94 : Nat) [V.ptr (some (t, (0 : Nat)))] h1 fun (v2 : V) (h'2 : Hp) => ∃ (b1 : Bool), v2 = V.bool b1 ∧ bif b1 then ∃ (n3 : Int), h'2.ld t (33 :
  Nat) = some (V.int IntKind.u32 n3) ∧ XCalls Tryz.prog (95 : Nat) [V.ptr (some (t, (0 : Nat))), V.int IntKind.i64 (IntKind.i64.wrap n3)] h'2 fun (v3 : V) (h'3 : Hp) => ∃ (b2 : Bool), v3 = V.bool b2 ∧ bif b2 then [V.ptr (some (t, (0 :
  Nat))), V.int IntKind.i64 n2] = [V.ptr (some (t, (0 : Nat))), V.int IntKind.i64 n2] ∧ I1 [] h'3 ∧ x1 [] h'3 < x1 [] h1 else [V.ptr (some (t, (0 : Nat))), V.int IntKind.i64 n2] = [V.ptr (some (t, (0 : Nat))), V.int IntKind.i64 n2] ∧ Q1 []
  h'3 else [V.ptr (some (t, (0 : Nat))), V.int IntKind.i64 n2] = [V.ptr (some (t, (0 : Nat))), V.int IntKind.i64 n2] ∧ Q1 [] h'2) ∧ ∀ (bs2 : Nat → Option V) (h2 : Hp), Q1 [] h2 → ∃ (b3 : Bool), h2.ld t (36 : Nat) = some (V.bool b3) ∧ bif b3
  then XCalls Tryz.prog (78 : Nat) [V.ptr (some (t, (0 : Nat)))] h2 fun (v4 : V) (h'4 : Hp) => ∃ (n4 : Int), v4 = V.int IntKind.u32 n4 ∧ XCalls Tryz.prog (92 : Nat) [V.ptr (some (t, (0 : Nat))), V.int IntKind.u8 (0 : Int), V.int IntKind.u32
  n4, V.str []] h'4 fun (v5 : V) (h'5 : Hp) => XCalls Tryz.prog (96 : Nat) [V.ptr (some (t, (0 : Nat))), V.int IntKind.i64 n2] h'5 fun (v6 : V) (h'6 : Hp) => K (V.tup []) h'6 else XCalls Tryz.prog (96 : Nat) [V.ptr (some (t, (0 : Nat))),
  V.int IntKind.i64 n2] h2 fun (v7 : V) (h'7 : Hp) => K (V.tup []) h'7
theorem y59 (h : Hp) (K : V → Hp → Prop) (t : Nat) : X59 h K t = fnX Tryz.prog T F jl59 jj59 Tryz.f59 [V.ptr (some (t, (0 : Nat)))] h K := by kernel_rfl
theorem x59 {h : Hp} {K : V → Hp → Prop} (t : Nat) (hx : X59 h K t) : XCalls Tryz.prog 59 [V.ptr (some (t, (0 : Nat)))] h K :=
  XCalls.ofX tok fok mixed (JL := jl59) (JJ := jj59) Tryz.func59 ((y59 h K t) ▸ hx)
/-! 58: (*stevedore/tcb.Tcb).syn -/
def jl58 : Nat → Option JT := fun r => none
def jj58 : Nat → Option JT := fun r => none
def X58 (h : Hp) (K : V → Hp → Prop) (t : Nat) : Prop := ∃ (n1 : Int), h.ld t (4 : Nat) = some (V.int IntKind.u32 n1) ∧ XCalls Tryz.prog (92 : Nat) [V.ptr (some (t, (0 : Nat))), V.int IntKind.u8 (2 : Int), V.int IntKind.u32 n1, V.str []] h fun (v1 : V) (h'1 : Hp) => K (V.tup []) h'1
theorem y58 (h : Hp) (K : V → Hp → Prop) (t : Nat) : X58 h K t = fnX Tryz.prog T F jl58 jj58 Tryz.f58 [V.ptr (some (t, (0 : Nat)))] h K := by kernel_rfl
theorem x58 {h : Hp} {K : V → Hp → Prop} (t : Nat) (hx : X58 h K t) : XCalls Tryz.prog 58 [V.ptr (some (t, (0 : Nat)))] h K :=
  XCalls.ofX tok fok mixed (JL := jl58) (JJ := jj58) Tryz.func58 ((y58 h K t) ▸ hx)
/-! 75: (*stevedore/flow.In).Window -/
def jl75 : Nat → Option JT := fun r => none
def jj75 : Nat → Option JT := fun r => none
def X75 (h : Hp) (K : V → Hp → Prop) (i : Nat) : Prop := ∃ (n1 : Int), h.ld i (4 : Nat) = some (V.int IntKind.i64 n1) ∧ ∃ (a1 : Option (Nat × Nat)), ∃ (n2 : Nat), ∃ (f1 : Bool), h.ld i (1 : Nat) = some (V.slc a1 n2 f1) ∧ K (V.int IntKind.i64 (IntKind.i64.wrap (n1 - (↑n2 : Int)))) h
theorem y75 (h : Hp) (K : V → Hp → Prop) (i : Nat) : X75 h K i = fnX Tryz.prog T F jl75 jj75 Tryz.f75 [V.ptr (some (i, (0 : Nat)))] h K := by kernel_rfl
theorem x75 {h : Hp} {K : V → Hp → Prop} (i : Nat) (hx : X75 h K i) : XCalls Tryz.prog 75 [V.ptr (some (i, (0 : Nat)))] h K :=
  XCalls.ofX tok fok mixed (JL := jl75) (JJ := jj75) Tryz.func75 ((y75 h K i) ▸ hx)
/-! 114: (*stevedore/flow.In).Next -/
def jl114 : Nat → Option JT := fun r => none
def jj114 : Nat → Option JT := fun r => none
def X114 (h : Hp) (K : V → Hp → Prop) (i : Nat) : Prop := ∃ (n1 : Int), h.ld i (0 : Nat) = some (V.int IntKind.u32 n1) ∧ K (V.int IntKind.u32 n1) h
theorem y114 (h : Hp) (K : V → Hp → Prop) (i : Nat) : X114 h K i = fnX Tryz.prog T F jl114 jj114 Tryz.f114 [V.ptr (some (i, (0 : Nat)))] h K := by kernel_rfl
theorem x114 {h : Hp} {K : V → Hp → Prop} (i : Nat) (hx : X114 h K i) : XCalls Tryz.prog 114 [V.ptr (some (i, (0 : Nat)))] h K :=
  XCalls.ofX tok fok mixed (JL := jl114) (JJ := jj114) Tryz.func114 ((y114 h K i) ▸ hx)
/-! 116: stevedore/flow.NewIn -/
def jl116 : Nat → Option JT := fun r => none
def jj116 : Nat → Option JT := fun r => none
def X116 (h : Hp) (K : V → Hp → Prop) (a0 : Int) (most : Int) : Prop := bif ltI most (1 : Int) then K (V.tup [V.ptr none, V.int IntKind.i64 (2 : Int)]) h else bif ltI (16384 : Int) most then K (V.tup [V.ptr none, V.int IntKind.i64 (2 :
  Int)]) h else ∀ (h'1 : Hp), h'1 = h.alloc (O.map [] (0 : Nat)) → ∀ (h'2 : Hp), h'2 = h'1.alloc (O.row [V.int IntKind.u32 a0, V.slc none (0 : Nat) true, V.map (some h.next), V.int IntKind.i64 (0 : Int), V.int IntKind.i64 most, V.bool false,
  V.int IntKind.u32 (0 : Int)] (1 : Nat) false) → K (V.tup [V.ptr (some (h'1.next, (0 : Nat))), V.int IntKind.i64 (0 : Int)]) h'2
theorem y116 (h : Hp) (K : V → Hp → Prop) (a0 : Int) (most : Int) : X116 h K a0 most = fnX Tryz.prog T F jl116 jj116 Tryz.f116 [V.int IntKind.u32 a0, V.int IntKind.i64 most] h K := by kernel_rfl
theorem x116 {h : Hp} {K : V → Hp → Prop} (a0 : Int) (most : Int) (hx : X116 h K a0 most) : XCalls Tryz.prog 116 [V.int IntKind.u32 a0, V.int IntKind.i64 most] h K :=
  XCalls.ofX tok fok mixed (JL := jl116) (JJ := jj116) Tryz.func116 ((y116 h K a0 most) ▸ hx)
/-! 99: (*stevedore/flow.Out).End -/
def jl99 : Nat → Option JT := fun r => none
def jj99 : Nat → Option JT := fun r => none
def X99 (h : Hp) (K : V → Hp → Prop) (o : Nat) : Prop := ∃ (n1 : Int), h.ld o (0 : Nat) = some (V.int IntKind.u32 n1) ∧ ∃ (a1 : Option (Nat × Nat)), ∃ (n2 : Nat), ∃ (f1 : Bool), h.ld o (1 : Nat) = some (V.slc a1 n2 f1) ∧ K (V.int IntKind.u32 (IntKind.u32.wrap (n1 + IntKind.u32.wrap (↑n2 : Int)))) h
theorem y99 (h : Hp) (K : V → Hp → Prop) (o : Nat) : X99 h K o = fnX Tryz.prog T F jl99 jj99 Tryz.f99 [V.ptr (some (o, (0 : Nat)))] h K := by kernel_rfl
theorem x99 {h : Hp} {K : V → Hp → Prop} (o : Nat) (hx : X99 h K o) : XCalls Tryz.prog 99 [V.ptr (some (o, (0 : Nat)))] h K :=
  XCalls.ofX tok fok mixed (JL := jl99) (JJ := jj99) Tryz.func99 ((y99 h K o) ▸ hx)
/-! 100: (*stevedore/flow.Out).Nxt -/
def jl100 : Nat → Option JT := fun r => none
def jj100 : Nat → Option JT := fun r => none
def X100 (h : Hp) (K : V → Hp → Prop) (o : Nat) : Prop := ∃ (n1 : Int), h.ld o (0 : Nat) = some (V.int IntKind.u32 n1) ∧ ∃ (n2 : Int), h.ld o (2 : Nat) = some (V.int IntKind.i64 n2) ∧ K (V.int IntKind.u32 (IntKind.u32.wrap (n1 + IntKind.u32.wrap n2))) h
theorem y100 (h : Hp) (K : V → Hp → Prop) (o : Nat) : X100 h K o = fnX Tryz.prog T F jl100 jj100 Tryz.f100 [V.ptr (some (o, (0 : Nat)))] h K := by kernel_rfl
theorem x100 {h : Hp} {K : V → Hp → Prop} (o : Nat) (hx : X100 h K o) : XCalls Tryz.prog 100 [V.ptr (some (o, (0 : Nat)))] h K :=
  XCalls.ofX tok fok mixed (JL := jl100) (JJ := jj100) Tryz.func100 ((y100 h K o) ▸ hx)
/-! 113: (*stevedore/flow.Out).Una -/
def jl113 : Nat → Option JT := fun r => none
def jj113 : Nat → Option JT := fun r => none
def X113 (h : Hp) (K : V → Hp → Prop) (o : Nat) : Prop := ∃ (n1 : Int), h.ld o (0 : Nat) = some (V.int IntKind.u32 n1) ∧ K (V.int IntKind.u32 n1) h
theorem y113 (h : Hp) (K : V → Hp → Prop) (o : Nat) : X113 h K o = fnX Tryz.prog T F jl113 jj113 Tryz.f113 [V.ptr (some (o, (0 : Nat)))] h K := by kernel_rfl
theorem x113 {h : Hp} {K : V → Hp → Prop} (o : Nat) (hx : X113 h K o) : XCalls Tryz.prog 113 [V.ptr (some (o, (0 : Nat)))] h K :=
  XCalls.ofX tok fok mixed (JL := jl113) (JJ := jj113) Tryz.func113 ((y113 h K o) ▸ hx)
/-! 86: (*stevedore/tcb.Tcb).learns -/
-- join 7: stays t(0), x(3); turns 
-- join 5: stays t(0), x(3); turns 
def jl86 : Nat → Option JT := fun r => none
def jj86 : Nat → Option JT := fun r => bif Nat.beq r 7 then some ⟨[0, 3], [], []⟩ else bif Nat.beq r 5 then some ⟨[0, 3], [], []⟩ else none
def X86 (h : Hp) (K : V → Hp → Prop) (t : Nat) (x_0 : Int) (x_1 : Int) (x_2 : Int) (x_3 : Int) (x_4 : Int) (x_5 : Int) (x_6 : Int) (x_7 : Int) (x_8 : Int) (x_9 : Int) (x_10 : Int) (x_11 : List UInt8) : Prop := ∀ (h'1 : Hp), h'1 = h.alloc
  (O.row [V.int IntKind.u32 x_0, V.int IntKind.u16 x_1, V.int IntKind.u32 x_2, V.int IntKind.u16 x_3, V.int IntKind.u32 x_4, V.int IntKind.u32 x_5, V.int IntKind.u8 x_6, V.int IntKind.u16 x_7, V.int IntKind.u16 x_8, V.int IntKind.u16 x_9,
  V.int IntKind.i64 x_10, V.str x_11] (1 : Nat) false) → ∃ (n1 : Int), h'1.ld h.next (4 : Nat) = some (V.int IntKind.u32 n1) ∧ ∃ (n2 : Int), h'1.ld t (8 : Nat) = some (V.int IntKind.i64 n2) ∧ XCalls Tryz.prog (116 : Nat) [V.int IntKind.u32
  (IntKind.u32.wrap (n1 + (1 : Int))), V.int IntKind.i64 n2] h'1 fun (v1 : V) (h'2 : Hp) => ∃ (a1 : Option (Nat × Nat)), ∃ (n3 : Int), v1 = V.tup [V.ptr a1, V.int IntKind.i64 n3] ∧ V.ptr (some (t, (0 : Nat))) = V.ptr (some (t, (0 : Nat))) ∧
  ∃ (h'3 : Hp), h'2.st t (19 : Nat) [V.ptr a1] = some h'3 ∧ V.int IntKind.i64 n3 = V.int IntKind.i64 n3 ∧ ∃ (n4 : Int), h'3.ld t (5 : Nat) = some (V.int IntKind.i64 n4) ∧ ∃ (h'4 : Hp), h'3.st t (31 : Nat) [V.int IntKind.i64 (bif ltI (536 :
  Int) n4 then (536 : Int) else n4)] = some h'4 ∧ ∃ (Q1 : List V → Hp → Prop), (∃ (n5 : Int), h'4.ld h.next (9 : Nat) = some (V.int IntKind.u16 n5) ∧ bif ltI (0 : Int) n5 then ∃ (n6 : Int), h'4.ld t (5 : Nat) = some (V.int IntKind.i64 n6) ∧
  ∃ (n7 : Int), h'4.ld h.next (9 : Nat) = some (V.int IntKind.u16 n7) ∧ ∃ (h'5 : Hp), h'4.st t (31 : Nat) [V.int IntKind.i64 (bif ltI (bif ltI (IntKind.i64.wrap n7) (64 : Int) then (64 : Int) else IntKind.i64.wrap n7) n6 then bif ltI
  (IntKind.i64.wrap n7) (64 : Int) then (64 : Int) else IntKind.i64.wrap n7 else n6)] = some h'5 ∧ [V.ptr (some (t, (0 : Nat))), V.ptr (some (h.next, (0 : Nat)))] = [V.ptr (some (t, (0 : Nat))), V.ptr (some (h.next, (0 : Nat)))] ∧ Q1 [] h'5
  else [V.ptr (some (t, (0 : Nat))), V.ptr (some (h.next, (0 : Nat)))] = [V.ptr (some (t, (0 : Nat))), V.ptr (some (h.next, (0 : Nat)))] ∧ Q1 [] h'4) ∧ ∀ (bs1 : Nat → Option V) (h1 : Hp), Q1 [] h1 → ∃ (n8 : Int), h1.ld t (31 : Nat) = some
  (V.int IntKind.i64 n8) ∧ XCalls Tryz.prog (91 : Nat) [V.int IntKind.i64 n8] h1 fun (v2 : V) (h'6 : Hp) => ∃ (a2 : Option (Nat × Nat)), ∃ (n9 : Int), v2 = V.tup [V.ptr a2, V.int IntKind.i64 n9] ∧ ∃ (h'7 : Hp), h'6.st t (21 : Nat) [V.ptr a2]
  = some h'7 ∧ ∃ (Q2 : List V → Hp → Prop), (∃ (n10 : Int), h'7.ld t (6 : Nat) = some (V.int IntKind.i64 n10) ∧ bif !ltI n10 (0 : Int) then ∃ (n11 : Int), h'7.ld h.next (10 : Nat) = some (V.int IntKind.i64 n11) ∧ ∃ (h'8 : Hp), h'7.st t (30 :
  Nat) [V.bool !ltI n11 (0 : Int)] = some h'8 ∧ [V.ptr (some (t, (0 : Nat))), V.ptr (some (h.next, (0 : Nat)))] = [V.ptr (some (t, (0 : Nat))), V.ptr (some (h.next, (0 : Nat)))] ∧ Q2 [] h'8 else ∃ (h'9 : Hp), h'7.st t (30 : Nat) [V.bool
  false] = some h'9 ∧ [V.ptr (some (t, (0 : Nat))), V.ptr (some (h.next, (0 : Nat)))] = [V.ptr (some (t, (0 : Nat))), V.ptr (some (h.next, (0 : Nat)))] ∧ Q2 [] h'9) ∧ ∀ (bs2 : Nat → Option V) (h2 : Hp), Q2 [] h2 → ∃ (n12 : Int), h2.ld h.next
  (10 : Nat) = some (V.int IntKind.i64 n12) ∧ ∃ (h'10 : Hp), h2.st t (32 : Nat) [V.int IntKind.i64 n12] = some h'10 ∧ ∃ (n13 : Int), h'10.ld h.next (7 : Nat) = some (V.int IntKind.u16 n13) ∧ ∃ (n14 : Int), h'10.ld h.next (4 : Nat) = some
  (V.int IntKind.u32 n14) ∧ ∃ (n15 : Int), h'10.ld h.next (5 : Nat) = some (V.int IntKind.u32 n15) ∧ ∃ (h'11 : Hp), h'10.st t (33 : Nat) [V.int IntKind.u32 (IntKind.u32.wrap n13)] = some h'11 ∧ (∃ (n16 : Int), h'11.ld h.next (5 : Nat) = some
  (V.int IntKind.u32 n16) ∧ V.int IntKind.u32 n16 = V.int IntKind.u32 n15) ∧ V.ptr (some (h.next, (5 : Nat))) = V.ptr (some (h.next, (5 : Nat))) ∧ (∃ (n17 : Int), h'11.ld h.next (4 : Nat) = some (V.int IntKind.u32 n17) ∧ V.int IntKind.u32
  n17 = V.int IntKind.u32 n14) ∧ V.ptr (some (h.next, (4 : Nat))) = V.ptr (some (h.next, (4 : Nat))) ∧ V.ptr (some (t, (0 : Nat))) = V.ptr (some (t, (0 : Nat))) ∧ V.ptr (some (t, (0 : Nat))) = V.ptr (some (t, (0 : Nat))) ∧ ∃ (h'12 : Hp),
  h'11.st t (34 : Nat) [V.int IntKind.u32 n14] = some h'12 ∧ (∃ (n18 : Int), h'12.ld h.next (5 : Nat) = some (V.int IntKind.u32 n18) ∧ V.int IntKind.u32 n18 = V.int IntKind.u32 n15) ∧ V.ptr (some (h.next, (5 : Nat))) = V.ptr (some (h.next,
  (5 : Nat))) ∧ V.ptr (some (t, (0 : Nat))) = V.ptr (some (t, (0 : Nat))) ∧ ∃ (h'13 : Hp), h'12.st t (35 : Nat) [V.int IntKind.u32 n15] = some h'13 ∧ K (V.tup []) h'13
theorem x86 {h : Hp} {K : V → Hp → Prop} (t : Nat) (x_0 : Int) (x_1 : Int) (x_2 : Int) (x_3 : Int) (x_4 : Int) (x_5 : Int) (x_6 : Int) (x_7 : Int) (x_8 : Int) (x_9 : Int) (x_10 : Int) (x_11 : List UInt8) (hx : X86 h K t x_0 x_1 x_2 x_3 x_4
  x_5 x_6 x_7 x_8 x_9 x_10 x_11) : XCalls Tryz.prog 86 [V.ptr (some (t, (0 : Nat))), V.agg [V.int IntKind.u32 x_0, V.int IntKind.u16 x_1, V.int IntKind.u32 x_2, V.int IntKind.u16 x_3, V.int IntKind.u32 x_4, V.int IntKind.u32 x_5, V.int
  IntKind.u8 x_6, V.int IntKind.u16 x_7, V.int IntKind.u16 x_8, V.int IntKind.u16 x_9, V.int IntKind.i64 x_10, V.str x_11]] h K :=
  XCalls.ofX tok fok mixed (JL := jl86) (JJ := jj86) Tryz.func86 (cast (by kernel_rfl) hx)
/-! 44: stevedore/tcp.May -/
-- join 2: stays x(1); turns options(3)
def jl44 : Nat → Option JT := fun r => none
def jj44 : Nat → Option JT := fun r => bif Nat.beq r 2 then some ⟨[1], [3], [V.bool false]⟩ else none
def X44 (h : Hp) (K : V → Hp → Prop) (x_0 : Int) (x_1 : Int) (x_2 : Int) (x_3 : Int) (x_4 : Int) (x_5 : Int) (x_6 : Int) (x_7 : Int) (x_8 : Int) (x_9 : Int) (x_10 : Int) (x_11 : List UInt8) : Prop := ∀ (h'1 : Hp), h'1 = h.alloc (O.row [V.int
  IntKind.u32 x_0, V.int IntKind.u16 x_1, V.int IntKind.u32 x_2, V.int IntKind.u16 x_3, V.int IntKind.u32 x_4, V.int IntKind.u32 x_5, V.int IntKind.u8 x_6, V.int IntKind.u16 x_7, V.int IntKind.u16 x_8, V.int IntKind.u16 x_9, V.int
  IntKind.i64 x_10, V.str x_11] (1 : Nat) false) → ∃ (Q1 : List V → Hp → Prop), (∃ (n1 : Int), ∃ (n2 : Int), ∃ (n3 : Int), ∃ (n4 : Int), ∃ (n5 : Int), ∃ (n6 : Int), ∃ (n7 : Int), ∃ (n8 : Int), ∃ (n9 : Int), ∃ (n10 : Int), ∃ (n11 : Int), ∃
  (s1 : List UInt8), h'1.lda h.next (0 : Nat) (12 : Nat) = some (V.agg [V.int IntKind.u32 n1, V.int IntKind.u16 n2, V.int IntKind.u32 n3, V.int IntKind.u16 n4, V.int IntKind.u32 n5, V.int IntKind.u32 n6, V.int IntKind.u8 n7, V.int
  IntKind.u16 n8, V.int IntKind.u16 n9, V.int IntKind.u16 n10, V.int IntKind.i64 n11, V.str s1]) ∧ XCalls Tryz.prog (84 : Nat) [V.agg [V.int IntKind.u32 n1, V.int IntKind.u16 n2, V.int IntKind.u32 n3, V.int IntKind.u16 n4, V.int IntKind.u32
  n5, V.int IntKind.u32 n6, V.int IntKind.u8 n7, V.int IntKind.u16 n8, V.int IntKind.u16 n9, V.int IntKind.u16 n10, V.int IntKind.i64 n11, V.str s1]] h'1 fun (v1 : V) (h'2 : Hp) => ∃ (c1 : Nat), v1 = V.fn (Fn.func (115 : Nat)) [] [V.ptr
  (some (c1, (0 : Nat)))] ∧ XCalls Tryz.prog (115 : Nat) [V.int IntKind.u8 (2 : Int), V.ptr (some (c1, (0 : Nat)))] h'2 fun (v2 : V) (h'3 : Hp) => ∃ (b1 : Bool), v2 = V.bool b1 ∧ bif b1 then [V.ptr (some (h.next, (0 : Nat)))] = [V.ptr (some
  (h.next, (0 : Nat)))] ∧ Q1 [V.bool true] h'3 else ∃ (n12 : Int), h'3.ld h.next (9 : Nat) = some (V.int IntKind.u16 n12) ∧ bif n12 == (0 : Int) then ∃ (n13 : Int), h'3.ld h.next (10 : Nat) = some (V.int IntKind.i64 n13) ∧ [V.ptr (some
  (h.next, (0 : Nat)))] = [V.ptr (some (h.next, (0 : Nat)))] ∧ Q1 [V.bool (n13 == (-1 : Int))] h'3 else [V.ptr (some (h.next, (0 : Nat)))] = [V.ptr (some (h.next, (0 : Nat)))] ∧ Q1 [V.bool false] h'3) ∧ ∀ (bs1 : Nat → Option V) (b2 : Bool)
  (h1 : Hp), Q1 [V.bool b2] h1 → ∃ (n14 : Int), h1.ld h.next (6 : Nat) = some (V.int IntKind.u8 n14) ∧ bif !ltI (63 : Int) n14 then bif b2 then ∃ (n15 : Int), h1.ld h.next (10 : Nat) = some (V.int IntKind.i64 n15) ∧ bif !ltI n15 (-1 : Int)
  then ∃ (n16 : Int), h1.ld h.next (10 : Nat) = some (V.int IntKind.i64 n16) ∧ K (V.bool !ltI (14 : Int) n16) h1 else K (V.bool false) h1 else K (V.bool false) h1 else K (V.bool false) h1
theorem x44 {h : Hp} {K : V → Hp → Prop} (x_0 : Int) (x_1 : Int) (x_2 : Int) (x_3 : Int) (x_4 : Int) (x_5 : Int) (x_6 : Int) (x_7 : Int) (x_8 : Int) (x_9 : Int) (x_10 : Int) (x_11 : List UInt8) (hx : X44 h K x_0 x_1 x_2 x_3 x_4 x_5 x_6 x_7
  x_8 x_9 x_10 x_11) : XCalls Tryz.prog 44 [V.agg [V.int IntKind.u32 x_0, V.int IntKind.u16 x_1, V.int IntKind.u32 x_2, V.int IntKind.u16 x_3, V.int IntKind.u32 x_4, V.int IntKind.u32 x_5, V.int IntKind.u8 x_6, V.int IntKind.u16 x_7, V.int
  IntKind.u16 x_8, V.int IntKind.u16 x_9, V.int IntKind.i64 x_10, V.str x_11]] h K :=
  XCalls.ofX tok fok mixed (JL := jl44) (JJ := jj44) Tryz.func44 (cast (by kernel_rfl) hx)
/-! 84: stevedore/tcp.has -/
def jl84 : Nat → Option JT := fun r => none
def jj84 : Nat → Option JT := fun r => none
def X84 (h : Hp) (K : V → Hp → Prop) (x_0 : Int) (x_1 : Int) (x_2 : Int) (x_3 : Int) (x_4 : Int) (x_5 : Int) (x_6 : Int) (x_7 : Int) (x_8 : Int) (x_9 : Int) (x_10 : Int) (x_11 : List UInt8) : Prop := ∀ (h'1 : Hp), h'1 = h.alloc (O.row [V.int
  IntKind.u32 x_0, V.int IntKind.u16 x_1, V.int IntKind.u32 x_2, V.int IntKind.u16 x_3, V.int IntKind.u32 x_4, V.int IntKind.u32 x_5, V.int IntKind.u8 x_6, V.int IntKind.u16 x_7, V.int IntKind.u16 x_8, V.int IntKind.u16 x_9, V.int
  IntKind.i64 x_10, V.str x_11] (1 : Nat) false) → K (V.fn (Fn.func (115 : Nat)) [] [V.ptr (some (h.next, (0 : Nat)))]) h'1
theorem x84 {h : Hp} {K : V → Hp → Prop} (x_0 : Int) (x_1 : Int) (x_2 : Int) (x_3 : Int) (x_4 : Int) (x_5 : Int) (x_6 : Int) (x_7 : Int) (x_8 : Int) (x_9 : Int) (x_10 : Int) (x_11 : List UInt8) (hx : X84 h K x_0 x_1 x_2 x_3 x_4 x_5 x_6 x_7
  x_8 x_9 x_10 x_11) : XCalls Tryz.prog 84 [V.agg [V.int IntKind.u32 x_0, V.int IntKind.u16 x_1, V.int IntKind.u32 x_2, V.int IntKind.u16 x_3, V.int IntKind.u32 x_4, V.int IntKind.u32 x_5, V.int IntKind.u8 x_6, V.int IntKind.u16 x_7, V.int
  IntKind.u16 x_8, V.int IntKind.u16 x_9, V.int IntKind.i64 x_10, V.str x_11]] h K :=
  XCalls.ofX tok fok mixed (JL := jl84) (JJ := jj84) Tryz.func84 (cast (by kernel_rfl) hx)
/-! 115: stevedore/tcp.has$1 -/
def jl115 : Nat → Option JT := fun r => none
def jj115 : Nat → Option JT := fun r => none
def X115 (h : Hp) (K : V → Hp → Prop) (flag : Int) (c1 : Nat) : Prop := ∃ (n1 : Int), h.ld c1 (6 : Nat) = some (V.int IntKind.u8 n1) ∧ K (V.bool (bits BinOp.and IntKind.u8 n1 flag != (0 : Int))) h
theorem y115 (h : Hp) (K : V → Hp → Prop) (flag : Int) (c1 : Nat) : X115 h K flag c1 = fnX Tryz.prog T F jl115 jj115 Tryz.f115 [V.int IntKind.u8 flag, V.ptr (some (c1, (0 : Nat)))] h K := by kernel_rfl
theorem x115 {h : Hp} {K : V → Hp → Prop} (flag : Int) (c1 : Nat) (hx : X115 h K flag c1) : XCalls Tryz.prog 115 [V.int IntKind.u8 flag, V.ptr (some (c1, (0 : Nat)))] h K :=
  XCalls.ofX tok fok mixed (JL := jl115) (JJ := jj115) Tryz.func115 ((y115 h K flag c1) ▸ hx)
/-! 32: stevedore/addr.Turn -/
def jl32 : Nat → Option JT := fun r => none
def jj32 : Nat → Option JT := fun r => none
def X32 (h : Hp) (K : V → Hp → Prop) (p_0 : Int) (p_1 : Int) (p_2 : Int) (p_3 : Int) : Prop := ∀ (h'1 : Hp), h'1 = h.alloc (O.row [V.int IntKind.u32 p_0, V.int IntKind.u16 p_1, V.int IntKind.u32 p_2, V.int IntKind.u16 p_3] (1 : Nat) false) →
  ∀ (h'2 : Hp), h'2 = h'1.alloc (O.row [V.int IntKind.u32 (0 : Int), V.int IntKind.u16 (0 : Int), V.int IntKind.u32 (0 : Int), V.int IntKind.u16 (0 : Int)] (1 : Nat) false) → ∃ (n1 : Int), ∃ (n2 : Int), h'2.lda h.next (2 : Nat) (2 : Nat) =
  some (V.agg [V.int IntKind.u32 n1, V.int IntKind.u16 n2]) ∧ ∃ (n3 : Int), ∃ (n4 : Int), h'2.lda h.next (0 : Nat) (2 : Nat) = some (V.agg [V.int IntKind.u32 n3, V.int IntKind.u16 n4]) ∧ ∃ (h'3 : Hp), h'2.st h'1.next (0 : Nat) [V.int
  IntKind.u32 n1, V.int IntKind.u16 n2, V.int IntKind.u32 n3, V.int IntKind.u16 n4] = some h'3 ∧ ∃ (n5 : Int), ∃ (n6 : Int), ∃ (n7 : Int), ∃ (n8 : Int), h'3.lda h'1.next (0 : Nat) (4 : Nat) = some (V.agg [V.int IntKind.u32 n5, V.int
  IntKind.u16 n6, V.int IntKind.u32 n7, V.int IntKind.u16 n8]) ∧ K (V.agg [V.int IntKind.u32 n5, V.int IntKind.u16 n6, V.int IntKind.u32 n7, V.int IntKind.u16 n8]) h'3
theorem y32 (h : Hp) (K : V → Hp → Prop) (p_0 : Int) (p_1 : Int) (p_2 : Int) (p_3 : Int) : X32 h K p_0 p_1 p_2 p_3 = fnX Tryz.prog T F jl32 jj32 Tryz.f32 [V.agg [V.int IntKind.u32 p_0, V.int IntKind.u16 p_1, V.int IntKind.u32 p_2, V.int IntKind.u16 p_3]] h K := by kernel_rfl
theorem x32 {h : Hp} {K : V → Hp → Prop} (p_0 : Int) (p_1 : Int) (p_2 : Int) (p_3 : Int) (hx : X32 h K p_0 p_1 p_2 p_3) : XCalls Tryz.prog 32 [V.agg [V.int IntKind.u32 p_0, V.int IntKind.u16 p_1, V.int IntKind.u32 p_2, V.int IntKind.u16 p_3]] h K :=
  XCalls.ofX tok fok mixed (JL := jl32) (JJ := jj32) Tryz.func32 ((y32 h K p_0 p_1 p_2 p_3) ▸ hx)
/-! 21: stevedore/tcb.Open -/
def jl21 : Nat → Option JT := fun r => none
def jj21 : Nat → Option JT := fun r => none
def X21 (h : Hp) (K : V → Hp → Prop) (c_0 : Int) (c_1 : Int) (c_2 : Int) (c_3 : Int) (c_4 : Int) (c_5 : Int) (c_6 : Int) (c_7 : Int) (c_8 : Int) (c_9 : Bool) (c_10 : Int) (c_11 : Int) (c_12 : Int) (c_13 : Int) (now : Int) : Prop := ∀ (h'1 :
  Hp), h'1 = h.alloc (O.row [V.int IntKind.u32 c_0, V.int IntKind.u16 c_1, V.int IntKind.u32 c_2, V.int IntKind.u16 c_3, V.int IntKind.u32 c_4, V.int IntKind.i64 c_5, V.int IntKind.i64 c_6, V.int IntKind.i64 c_7, V.int IntKind.i64 c_8,
  V.bool c_9, V.int IntKind.i64 c_10, V.int IntKind.i64 c_11, V.int IntKind.i64 c_12, V.int IntKind.i64 c_13] (1 : Nat) false) → ∃ (n1 : Int), ∃ (n2 : Int), ∃ (n3 : Int), ∃ (n4 : Int), ∃ (n5 : Int), ∃ (n6 : Int), ∃ (n7 : Int), ∃ (n8 : Int),
  ∃ (n9 : Int), ∃ (b1 : Bool), ∃ (n10 : Int), ∃ (n11 : Int), ∃ (n12 : Int), ∃ (n13 : Int), h'1.lda h.next (0 : Nat) (14 : Nat) = some (V.agg [V.int IntKind.u32 n1, V.int IntKind.u16 n2, V.int IntKind.u32 n3, V.int IntKind.u16 n4, V.int
  IntKind.u32 n5, V.int IntKind.i64 n6, V.int IntKind.i64 n7, V.int IntKind.i64 n8, V.int IntKind.i64 n9, V.bool b1, V.int IntKind.i64 n10, V.int IntKind.i64 n11, V.int IntKind.i64 n12, V.int IntKind.i64 n13]) ∧ XCalls Tryz.prog (57 : Nat)
  [V.agg [V.int IntKind.u32 n1, V.int IntKind.u16 n2, V.int IntKind.u32 n3, V.int IntKind.u16 n4, V.int IntKind.u32 n5, V.int IntKind.i64 n6, V.int IntKind.i64 n7, V.int IntKind.i64 n8, V.int IntKind.i64 n9, V.bool b1, V.int IntKind.i64 n10,
  V.int IntKind.i64 n11, V.int IntKind.i64 n12, V.int IntKind.i64 n13], V.int IntKind.i64 now] h'1 fun (v1 : V) (h'2 : Hp) => ∃ (a1 : Option (Nat × Nat)), ∃ (n14 : Int), v1 = V.tup [V.ptr a1, V.int IntKind.i64 n14] ∧ bif n14 != (0 : Int)
  then K (V.tup [V.ptr none, V.int IntKind.i64 n14]) h'2 else onS a1 fun (i1 o1 : Nat) => ∃ (h'3 : Hp), h'2.st i1 (o1 + (15 : Nat)) [V.int IntKind.u8 (2 : Int)] = some h'3 ∧ XCalls Tryz.prog (58 : Nat) [V.ptr a1] h'3 fun (v2 : V) (h'4 : Hp)
  => XCalls Tryz.prog (59 : Nat) [V.ptr a1] h'4 fun (v3 : V) (h'5 : Hp) => K (V.tup [V.ptr a1, V.int IntKind.i64 (0 : Int)]) h'5
theorem x21 {h : Hp} {K : V → Hp → Prop} (c_0 : Int) (c_1 : Int) (c_2 : Int) (c_3 : Int) (c_4 : Int) (c_5 : Int) (c_6 : Int) (c_7 : Int) (c_8 : Int) (c_9 : Bool) (c_10 : Int) (c_11 : Int) (c_12 : Int) (c_13 : Int) (now : Int) (hx : X21 h K
  c_0 c_1 c_2 c_3 c_4 c_5 c_6 c_7 c_8 c_9 c_10 c_11 c_12 c_13 now) : XCalls Tryz.prog 21 [V.agg [V.int IntKind.u32 c_0, V.int IntKind.u16 c_1, V.int IntKind.u32 c_2, V.int IntKind.u16 c_3, V.int IntKind.u32 c_4, V.int IntKind.i64 c_5, V.int
  IntKind.i64 c_6, V.int IntKind.i64 c_7, V.int IntKind.i64 c_8, V.bool c_9, V.int IntKind.i64 c_10, V.int IntKind.i64 c_11, V.int IntKind.i64 c_12, V.int IntKind.i64 c_13], V.int IntKind.i64 now] h K :=
  XCalls.ofX tok fok mixed (JL := jl21) (JJ := jj21) Tryz.func21 (cast (by kernel_rfl) hx)
/-! 47: stevedore/tcb.Answer -/
def jl47 : Nat → Option JT := fun r => none
def jj47 : Nat → Option JT := fun r => none
def X47 (h : Hp) (K : V → Hp → Prop) (c_0 : Int) (c_1 : Int) (c_2 : Int) (c_3 : Int) (c_4 : Int) (c_5 : Int) (c_6 : Int) (c_7 : Int) (c_8 : Int) (c_9 : Bool) (c_10 : Int) (c_11 : Int) (c_12 : Int) (c_13 : Int) (syn_0 : Int) (syn_1 : Int)
  (syn_2 : Int) (syn_3 : Int) (syn_4 : Int) (syn_5 : Int) (syn_6 : Int) (syn_7 : Int) (syn_8 : Int) (syn_9 : Int) (syn_10 : Int) (syn_11 : List UInt8) (now : Int) : Prop := ∀ (h'1 : Hp), h'1 = h.alloc (O.row [V.int IntKind.u32 c_0, V.int
  IntKind.u16 c_1, V.int IntKind.u32 c_2, V.int IntKind.u16 c_3, V.int IntKind.u32 c_4, V.int IntKind.i64 c_5, V.int IntKind.i64 c_6, V.int IntKind.i64 c_7, V.int IntKind.i64 c_8, V.bool c_9, V.int IntKind.i64 c_10, V.int IntKind.i64 c_11,
  V.int IntKind.i64 c_12, V.int IntKind.i64 c_13] (1 : Nat) false) → ∀ (h'2 : Hp), h'2 = h'1.alloc (O.row [V.int IntKind.u32 syn_0, V.int IntKind.u16 syn_1, V.int IntKind.u32 syn_2, V.int IntKind.u16 syn_3, V.int IntKind.u32 syn_4, V.int
  IntKind.u32 syn_5, V.int IntKind.u8 syn_6, V.int IntKind.u16 syn_7, V.int IntKind.u16 syn_8, V.int IntKind.u16 syn_9, V.int IntKind.i64 syn_10, V.str syn_11] (1 : Nat) false) → ∃ (n1 : Int), ∃ (n2 : Int), ∃ (n3 : Int), ∃ (n4 : Int), ∃ (n5
  : Int), ∃ (n6 : Int), ∃ (n7 : Int), ∃ (n8 : Int), ∃ (n9 : Int), ∃ (b1 : Bool), ∃ (n10 : Int), ∃ (n11 : Int), ∃ (n12 : Int), ∃ (n13 : Int), h'2.lda h.next (0 : Nat) (14 : Nat) = some (V.agg [V.int IntKind.u32 n1, V.int IntKind.u16 n2, V.int
  IntKind.u32 n3, V.int IntKind.u16 n4, V.int IntKind.u32 n5, V.int IntKind.i64 n6, V.int IntKind.i64 n7, V.int IntKind.i64 n8, V.int IntKind.i64 n9, V.bool b1, V.int IntKind.i64 n10, V.int IntKind.i64 n11, V.int IntKind.i64 n12, V.int
  IntKind.i64 n13]) ∧ XCalls Tryz.prog (57 : Nat) [V.agg [V.int IntKind.u32 n1, V.int IntKind.u16 n2, V.int IntKind.u32 n3, V.int IntKind.u16 n4, V.int IntKind.u32 n5, V.int IntKind.i64 n6, V.int IntKind.i64 n7, V.int IntKind.i64 n8, V.int
  IntKind.i64 n9, V.bool b1, V.int IntKind.i64 n10, V.int IntKind.i64 n11, V.int IntKind.i64 n12, V.int IntKind.i64 n13], V.int IntKind.i64 now] h'2 fun (v1 : V) (h'3 : Hp) => ∃ (a1 : Option (Nat × Nat)), ∃ (n14 : Int), v1 = V.tup [V.ptr a1,
  V.int IntKind.i64 n14] ∧ bif n14 != (0 : Int) then K (V.tup [V.ptr none, V.int IntKind.i64 (2 : Int)]) h'3 else ∃ (n15 : Int), ∃ (n16 : Int), ∃ (n17 : Int), ∃ (n18 : Int), ∃ (n19 : Int), ∃ (n20 : Int), ∃ (n21 : Int), ∃ (n22 : Int), ∃ (n23
  : Int), ∃ (n24 : Int), ∃ (n25 : Int), ∃ (s1 : List UInt8), h'3.lda h'1.next (0 : Nat) (12 : Nat) = some (V.agg [V.int IntKind.u32 n15, V.int IntKind.u16 n16, V.int IntKind.u32 n17, V.int IntKind.u16 n18, V.int IntKind.u32 n19, V.int
  IntKind.u32 n20, V.int IntKind.u8 n21, V.int IntKind.u16 n22, V.int IntKind.u16 n23, V.int IntKind.u16 n24, V.int IntKind.i64 n25, V.str s1]) ∧ XCalls Tryz.prog (44 : Nat) [V.agg [V.int IntKind.u32 n15, V.int IntKind.u16 n16, V.int
  IntKind.u32 n17, V.int IntKind.u16 n18, V.int IntKind.u32 n19, V.int IntKind.u32 n20, V.int IntKind.u8 n21, V.int IntKind.u16 n22, V.int IntKind.u16 n23, V.int IntKind.u16 n24, V.int IntKind.i64 n25, V.str s1]] h'3 fun (v2 : V) (h'4 : Hp)
  => ∃ (b2 : Bool), v2 = V.bool b2 ∧ bif !b2 then K (V.tup [V.ptr none, V.int IntKind.i64 (2 : Int)]) h'4 else ∃ (n26 : Int), ∃ (n27 : Int), ∃ (n28 : Int), ∃ (n29 : Int), h'4.lda h'1.next (0 : Nat) (4 : Nat) = some (V.agg [V.int IntKind.u32
  n26, V.int IntKind.u16 n27, V.int IntKind.u32 n28, V.int IntKind.u16 n29]) ∧ ∃ (n30 : Int), ∃ (n31 : Int), ∃ (n32 : Int), ∃ (n33 : Int), h'4.lda h.next (0 : Nat) (4 : Nat) = some (V.agg [V.int IntKind.u32 n30, V.int IntKind.u16 n31, V.int
  IntKind.u32 n32, V.int IntKind.u16 n33]) ∧ XCalls Tryz.prog (32 : Nat) [V.agg [V.int IntKind.u32 n30, V.int IntKind.u16 n31, V.int IntKind.u32 n32, V.int IntKind.u16 n33]] h'4 fun (v3 : V) (h'5 : Hp) => ∃ (n34 : Int), ∃ (n35 : Int), ∃ (n36
  : Int), ∃ (n37 : Int), v3 = V.agg [V.int IntKind.u32 n34, V.int IntKind.u16 n35, V.int IntKind.u32 n36, V.int IntKind.u16 n37] ∧ (∃ (n38 : Int), ∃ (n39 : Int), ∃ (n40 : Int), ∃ (n41 : Int), h'5.lda h'1.next (0 : Nat) (4 : Nat) = some
  (V.agg [V.int IntKind.u32 n38, V.int IntKind.u16 n39, V.int IntKind.u32 n40, V.int IntKind.u16 n41]) ∧ V.agg [V.int IntKind.u32 n38, V.int IntKind.u16 n39, V.int IntKind.u32 n40, V.int IntKind.u16 n41] = V.agg [V.int IntKind.u32 n26, V.int
  IntKind.u16 n27, V.int IntKind.u32 n28, V.int IntKind.u16 n29]) ∧ V.ptr (some (h'1.next, (0 : Nat))) = V.ptr (some (h'1.next, (0 : Nat))) ∧ bif !(n26 == n34 && (n27 == n35 && true) && (n28 == n36 && (n29 == n37 && true) && true)) then K
  (V.tup [V.ptr none, V.int IntKind.i64 (2 : Int)]) h'5 else ∃ (n42 : Int), h'5.ld h'1.next (6 : Nat) = some (V.int IntKind.u8 n42) ∧ bif bits BinOp.and IntKind.u8 n42 (23 : Int) != (2 : Int) then K (V.tup [V.ptr none, V.int IntKind.i64 (2 :
  Int)]) h'5 else onS a1 fun (i1 o1 : Nat) => ∃ (h'6 : Hp), h'5.st i1 (o1 + (15 : Nat)) [V.int IntKind.u8 (3 : Int)] = some h'6 ∧ ∃ (n43 : Int), ∃ (n44 : Int), ∃ (n45 : Int), ∃ (n46 : Int), ∃ (n47 : Int), ∃ (n48 : Int), ∃ (n49 : Int), ∃ (n50
  : Int), ∃ (n51 : Int), ∃ (n52 : Int), ∃ (n53 : Int), ∃ (s2 : List UInt8), h'6.lda h'1.next (0 : Nat) (12 : Nat) = some (V.agg [V.int IntKind.u32 n43, V.int IntKind.u16 n44, V.int IntKind.u32 n45, V.int IntKind.u16 n46, V.int IntKind.u32
  n47, V.int IntKind.u32 n48, V.int IntKind.u8 n49, V.int IntKind.u16 n50, V.int IntKind.u16 n51, V.int IntKind.u16 n52, V.int IntKind.i64 n53, V.str s2]) ∧ XCalls Tryz.prog (86 : Nat) [V.ptr a1, V.agg [V.int IntKind.u32 n43, V.int
  IntKind.u16 n44, V.int IntKind.u32 n45, V.int IntKind.u16 n46, V.int IntKind.u32 n47, V.int IntKind.u32 n48, V.int IntKind.u8 n49, V.int IntKind.u16 n50, V.int IntKind.u16 n51, V.int IntKind.u16 n52, V.int IntKind.i64 n53, V.str s2]] h'6
  fun (v4 : V) (h'7 : Hp) => XCalls Tryz.prog (58 : Nat) [V.ptr a1] h'7 fun (v5 : V) (h'8 : Hp) => XCalls Tryz.prog (59 : Nat) [V.ptr a1] h'8 fun (v6 : V) (h'9 : Hp) => K (V.tup [V.ptr a1, V.int IntKind.i64 (0 : Int)]) h'9
theorem x47 {h : Hp} {K : V → Hp → Prop} (c_0 : Int) (c_1 : Int) (c_2 : Int) (c_3 : Int) (c_4 : Int) (c_5 : Int) (c_6 : Int) (c_7 : Int) (c_8 : Int) (c_9 : Bool) (c_10 : Int) (c_11 : Int) (c_12 : Int) (c_13 : Int) (syn_0 : Int) (syn_1 : Int)
  (syn_2 : Int) (syn_3 : Int) (syn_4 : Int) (syn_5 : Int) (syn_6 : Int) (syn_7 : Int) (syn_8 : Int) (syn_9 : Int) (syn_10 : Int) (syn_11 : List UInt8) (now : Int) (hx : X47 h K c_0 c_1 c_2 c_3 c_4 c_5 c_6 c_7 c_8 c_9 c_10 c_11 c_12 c_13
  syn_0 syn_1 syn_2 syn_3 syn_4 syn_5 syn_6 syn_7 syn_8 syn_9 syn_10 syn_11 now) : XCalls Tryz.prog 47 [V.agg [V.int IntKind.u32 c_0, V.int IntKind.u16 c_1, V.int IntKind.u32 c_2, V.int IntKind.u16 c_3, V.int IntKind.u32 c_4, V.int
  IntKind.i64 c_5, V.int IntKind.i64 c_6, V.int IntKind.i64 c_7, V.int IntKind.i64 c_8, V.bool c_9, V.int IntKind.i64 c_10, V.int IntKind.i64 c_11, V.int IntKind.i64 c_12, V.int IntKind.i64 c_13], V.agg [V.int IntKind.u32 syn_0, V.int
  IntKind.u16 syn_1, V.int IntKind.u32 syn_2, V.int IntKind.u16 syn_3, V.int IntKind.u32 syn_4, V.int IntKind.u32 syn_5, V.int IntKind.u8 syn_6, V.int IntKind.u16 syn_7, V.int IntKind.u16 syn_8, V.int IntKind.u16 syn_9, V.int IntKind.i64
  syn_10, V.str syn_11], V.int IntKind.i64 now] h K :=
  XCalls.ofX tok fok mixed (JL := jl47) (JJ := jj47) Tryz.func47 (cast (by kernel_rfl) hx) 
end Go.Vex
