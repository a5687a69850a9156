/-
  the reference pool (layer 17) as statements about data (printed by VexPrint).
-/
import Derived.Test.YteblfacfbmlceaaVexX
import Derived.Test.YteblfacfbmlceaaTab17
set_option linter.unusedVariables false
set_option maxRecDepth 100000
namespace Go.Vex
open Go.Proofs
/-! 16: stevedore/stevedorelaw17.told -/
def jl16 : Nat → Option JT := fun r => none
def jj16 : Nat → Option JT := fun r => none
def X16 (h : Hp) (K : V → Hp → Prop) (r : Nat) (s_0 : Int) (s_1 : List UInt8) (s_2 : List UInt8) (s_3 : List UInt8) (s_4 : Int) (s_5 : Option (Nat × Nat)) (s_5_n : Nat) (s_5_f : Bool) : Prop :=
  ∀ (h'1 : Hp),
  h'1 = h.alloc (O.row [V.int IntKind.i64 s_0, V.str s_1, V.str s_2, V.str s_3, V.int IntKind.u64 s_4, V.slc s_5 s_5_n s_5_f] (1 : Nat) false) →
    ∃ (n1 : Int),
      h'1.ld h.next (0 : Nat) = some (V.int IntKind.i64 n1) ∧
        bif n1 == (0 : Int) then
          ∃ (s1 : List UInt8),
            h'1.ld h.next (1 : Nat) = some (V.str s1) ∧
              ∃ (s2 : List UInt8),
                h'1.ld h.next (3 : Nat) = some (V.str s2) ∧
                  XCalls Try.prog (22 : Nat) [V.ptr (some (r, (0 : Nat))), V.str s1, V.str s2] h'1 fun (v1 : V) (h'2 : Hp) =>
                    ∃ (n2 : Int), ∃ (n3 : Int), v1 = V.tup [V.int IntKind.u64 n2, V.int IntKind.i64 n3] ∧ K (V.tup [V.int IntKind.u64 n2, V.int IntKind.i64 n3]) h'2
        else
          bif n1 == (1 : Int) then
            ∃ (s3 : List UInt8),
              h'1.ld h.next (1 : Nat) = some (V.str s3) ∧
                ∃ (a1 : Option (Nat × Nat)),
                  ∃ (n4 : Nat),
                    ∃ (f1 : Bool),
                      h'1.ld h.next (5 : Nat) = some (V.slc a1 n4 f1) ∧
                        XCalls Try.prog (23 : Nat) [V.ptr (some (r, (0 : Nat))), V.str s3, V.slc a1 n4 f1] h'1 fun (v2 : V) (h'3 : Hp) =>
                          ∃ (n5 : Int), v2 = V.int IntKind.i64 n5 ∧ K (V.tup [V.int IntKind.u64 (0 : Int), V.int IntKind.i64 n5]) h'3
          else
            bif n1 == (2 : Int) then
              ∃ (n6 : Int),
                h'1.ld h.next (4 : Nat) = some (V.int IntKind.u64 n6) ∧
                  ∃ (s4 : List UInt8),
                    h'1.ld h.next (1 : Nat) = some (V.str s4) ∧
                      ∃ (s5 : List UInt8),
                        h'1.ld h.next (2 : Nat) = some (V.str s5) ∧
                          XCalls Try.prog (24 : Nat) [V.ptr (some (r, (0 : Nat))), V.int IntKind.u64 n6, V.str s4, V.str s5] h'1 fun (v3 : V) (h'4 : Hp) =>
                            ∃ (n7 : Int), v3 = V.int IntKind.i64 n7 ∧ K (V.tup [V.int IntKind.u64 (0 : Int), V.int IntKind.i64 n7]) h'4
            else
              bif n1 == (3 : Int) then
                ∃ (n8 : Int),
                  h'1.ld h.next (4 : Nat) = some (V.int IntKind.u64 n8) ∧
                    ∃ (s6 : List UInt8),
                      h'1.ld h.next (1 : Nat) = some (V.str s6) ∧
                        ∃ (s7 : List UInt8),
                          h'1.ld h.next (3 : Nat) = some (V.str s7) ∧
                            XCalls Try.prog (25 : Nat) [V.ptr (some (r, (0 : Nat))), V.int IntKind.u64 n8, V.str s6, V.str s7] h'1 fun (v4 : V) (h'5 : Hp) =>
                              ∃ (n9 : Int), v4 = V.int IntKind.i64 n9 ∧ K (V.tup [V.int IntKind.u64 (0 : Int), V.int IntKind.i64 n9]) h'5
              else K (V.tup [V.int IntKind.u64 (0 : Int), V.int IntKind.i64 (0 : Int)]) h'1
theorem y16 (h : Hp) (K : V → Hp → Prop) (r : Nat) (s_0 : Int) (s_1 : List UInt8) (s_2 : List UInt8) (s_3 : List UInt8) (s_4 : Int) (s_5 : Option (Nat × Nat)) (s_5_n : Nat) (s_5_f : Bool) : X16 h K r s_0 s_1 s_2 s_3 s_4 s_5 s_5_n s_5_f = fnX Try.prog T F jl16 jj16 Try.f16 [V.ptr (some (r, (0 : Nat))), V.agg [V.int IntKind.i64 s_0, V.str s_1, V.str s_2, V.str s_3, V.int IntKind.u64 s_4, V.slc s_5 s_5_n s_5_f]] h K := by kernel_rfl
theorem x16 {h : Hp} {K : V → Hp → Prop} (r : Nat) (s_0 : Int) (s_1 : List UInt8) (s_2 : List UInt8) (s_3 : List UInt8) (s_4 : Int) (s_5 : Option (Nat × Nat)) (s_5_n : Nat) (s_5_f : Bool) (hx : X16 h K r s_0 s_1 s_2 s_3 s_4 s_5 s_5_n s_5_f) : XCalls Try.prog 16 [V.ptr (some (r, (0 : Nat))), V.agg [V.int IntKind.i64 s_0, V.str s_1, V.str s_2, V.str s_3, V.int IntKind.u64 s_4, V.slc s_5 s_5_n s_5_f]] h K :=
  XCalls.ofX tok fok mixed (JL := jl16) (JJ := jj16) Try.func16 ((y16 h K r s_0 s_1 s_2 s_3 s_4 s_5 s_5_n s_5_f) ▸ hx)
/-! 18: (*stevedore/stevedoreref17.Pool).At -/
-- loop 2: stays p(0), id(1); turns i(5)
def jl18 : Nat → Option JT := fun r => bif Nat.beq r 2 then some ⟨[0, 1], [5], [V.int IntKind.i64 (0 : Int)]⟩ else none
def jj18 : Nat → Option JT := fun r => none
def X18 (h : Hp) (K : V → Hp → Prop) (p : Nat) (id : Int) : Prop :=
  ∃ (I1 : List V → Hp → Prop),
  ∃ (x1 : List V → Hp → Nat),
    ([V.ptr (some (p, (0 : Nat))), V.int IntKind.u64 id] = [V.ptr (some (p, (0 : Nat))), V.int IntKind.u64 id] ∧ I1 [V.int IntKind.i64 (0 : Int)] h) ∧
      ∀ (bs1 : Nat → Option V) (n1 : Int) (h1 : Hp),
        I1 [V.int IntKind.i64 n1] h1 →
          ∃ (a1 : Option (Nat × Nat)),
            ∃ (n2 : Nat),
              ∃ (f1 : Bool),
                h1.ld p (2 : Nat) = some (V.slc a1 n2 f1) ∧
                  bif ltI n1 (↑n2 : Int) then
                    ∃ (a2 : Option (Nat × Nat)),
                      ∃ (n3 : Nat),
                        ∃ (f2 : Bool),
                          h1.ld p (2 : Nat) = some (V.slc a2 n3 f2) ∧
                            ((0 : Int) ≤ n1 ∧ n1 < (↑n3 : Int)) ∧
                              onS a2 fun (i1 o1 : Nat) =>
                                ∃ (n4 : Int),
                                  h1.ld i1 (o1 + n1.toNat * (3 : Nat) + (0 : Nat)) = some (V.int IntKind.u64 n4) ∧
                                    bif n4 == id then K (V.int IntKind.i64 n1) h1
                                    else
                                      [V.ptr (some (p, (0 : Nat))), V.int IntKind.u64 id] = [V.ptr (some (p, (0 : Nat))), V.int IntKind.u64 id] ∧
                                        I1 [V.int IntKind.i64 (IntKind.i64.wrap (n1 + (1 : Int)))] h1 ∧ x1 [V.int IntKind.i64 (IntKind.i64.wrap (n1 + (1 : Int)))] h1 < x1 [V.int IntKind.i64 n1] h1
                  else K (V.int IntKind.i64 (-1 : Int)) h1
theorem y18 (h : Hp) (K : V → Hp → Prop) (p : Nat) (id : Int) : X18 h K p id = fnX Try.prog T F jl18 jj18 Try.f18 [V.ptr (some (p, (0 : Nat))), V.int IntKind.u64 id] h K := by kernel_rfl
theorem x18 {h : Hp} {K : V → Hp → Prop} (p : Nat) (id : Int) (hx : X18 h K p id) : XCalls Try.prog 18 [V.ptr (some (p, (0 : Nat))), V.int IntKind.u64 id] h K :=
  XCalls.ofX tok fok mixed (JL := jl18) (JJ := jj18) Try.func18 ((y18 h K p id) ▸ hx)
/-! 22: (*stevedore/stevedoreref17.Pool).Take -/
def jl22 : Nat → Option JT := fun r => none
def jj22 : Nat → Option JT := fun r => none
def X22 (h : Hp) (K : V → Hp → Prop) (p : Nat) (holder : List UInt8) (text : List UInt8) : Prop :=
  bif holder == [] then K (V.tup [V.int IntKind.u64 (0 : Int), V.int IntKind.i64 (2 : Int)]) h
else
  bif ltI (65549 : Int) (↑text.length : Int) then K (V.tup [V.int IntKind.u64 (0 : Int), V.int IntKind.i64 (4 : Int)]) h
  else
    ∃ (a1 : Option (Nat × Nat)),
      ∃ (n1 : Nat),
        ∃ (f1 : Bool),
          h.ld p (2 : Nat) = some (V.slc a1 n1 f1) ∧
            ∃ (n2 : Int),
              h.ld p (0 : Nat) = some (V.int IntKind.i64 n2) ∧
                bif !ltI (↑n1 : Int) n2 then K (V.tup [V.int IntKind.u64 (0 : Int), V.int IntKind.i64 (6 : Int)]) h
                else
                  ∃ (n3 : Int),
                    h.ld p (1 : Nat) = some (V.int IntKind.u64 n3) ∧
                      ∃ (h'1 : Hp),
                        h.st p (1 : Nat) [V.int IntKind.u64 (IntKind.u64.wrap (n3 + (1 : Int)))] = some h'1 ∧
                          ∃ (a2 : Option (Nat × Nat)),
                            ∃ (n4 : Nat),
                              ∃ (f2 : Bool),
                                h'1.ld p (2 : Nat) = some (V.slc a2 n4 f2) ∧
                                  ∃ (n5 : Int),
                                    h'1.ld p (1 : Nat) = some (V.int IntKind.u64 n5) ∧
                                      ∀ (h'2 : Hp),
                                        h'2 = h'1.alloc (O.row [V.int IntKind.u64 n5, V.str holder, V.str text] (3 : Nat) false) →
                                          (∃ (a3 : Option (Nat × Nat)), ∃ (n6 : Nat), ∃ (f3 : Bool), h'2.ld p (2 : Nat) = some (V.slc a3 n6 f3) ∧ V.slc a3 n6 f3 = V.slc a2 n4 f2) ∧
                                            V.ptr (some (p, (2 : Nat))) = V.ptr (some (p, (2 : Nat))) ∧
                                              V.ptr (some (p, (0 : Nat))) = V.ptr (some (p, (0 : Nat))) ∧
                                                V.ptr (some (p, (0 : Nat))) = V.ptr (some (p, (0 : Nat))) ∧
                                                  V.ptr (some (p, (0 : Nat))) = V.ptr (some (p, (0 : Nat))) ∧
                                                    ∃ (p1 : Option (Nat × Nat)),
                                                      ∃ (n7 : Nat),
                                                        ∃ (f4 : Bool),
                                                          ∃ (h'3 : Hp),
                                                            xapp T h'2 (40 : Nat) (40 : Nat) (V.slc a2 n4 f2) (V.slc (some (h'1.next, (0 : Nat))) (1 : Nat) true) = some (V.slc p1 n7 f4, h'3) ∧
                                                              V.ptr (some (p, (0 : Nat))) = V.ptr (some (p, (0 : Nat))) ∧
                                                                ∃ (h'4 : Hp),
                                                                  h'3.st p (2 : Nat) [V.slc p1 n7 f4] = some h'4 ∧
                                                                    ∃ (n8 : Int), h'4.ld p (1 : Nat) = some (V.int IntKind.u64 n8) ∧ K (V.tup [V.int IntKind.u64 n8, V.int IntKind.i64 (0 : Int)]) h'4
theorem y22 (h : Hp) (K : V → Hp → Prop) (p : Nat) (holder : List UInt8) (text : List UInt8) : X22 h K p holder text = fnX Try.prog T F jl22 jj22 Try.f22 [V.ptr (some (p, (0 : Nat))), V.str holder, V.str text] h K := by kernel_rfl
theorem x22 {h : Hp} {K : V → Hp → Prop} (p : Nat) (holder : List UInt8) (text : List UInt8) (hx : X22 h K p holder text) : XCalls Try.prog 22 [V.ptr (some (p, (0 : Nat))), V.str holder, V.str text] h K :=
  XCalls.ofX tok fok mixed (JL := jl22) (JJ := jj22) Try.func22 ((y22 h K p holder text) ▸ hx)
/-! 23: (*stevedore/stevedoreref17.Pool).Give -/
-- loop 8: stays p(0), holder(1), ids(2), l(7), i(8); turns at(9), k(10)
-- loop 4: stays p(0), holder(1), ids(2); turns l(7), i(8)
def jl23 : Nat → Option JT := fun r => bif Nat.beq r 8 then some ⟨[0, 1, 2, 7, 8], [9, 10], [V.int IntKind.i64 (0 : Int), V.int IntKind.i64 (0 : Int)]⟩ else bif Nat.beq r 4 then some ⟨[0, 1, 2], [7, 8], [V.slc none (0 : Nat) true, V.int IntKind.i64 (0 : Int)]⟩ else none
def jj23 : Nat → Option JT := fun r => none
def X23 (h : Hp) (K : V → Hp → Prop) (p : Nat) (holder : List UInt8) (ids : Option (Nat × Nat)) (ids_n : Nat) (ids_f : Bool) : Prop :=
  ∃ (a1 : Option (Nat × Nat)),
  ∃ (n1 : Nat),
    ∃ (f1 : Bool),
      h.ld p (2 : Nat) = some (V.slc a1 n1 f1) ∧
        ∃ (p1 : Option (Nat × Nat)),
          ∃ (n2 : Nat),
            ∃ (f2 : Bool),
              ∃ (h'1 : Hp),
                xapp T h (40 : Nat) (40 : Nat) (V.slc none (0 : Nat) true) (V.slc a1 n1 f1) = some (V.slc p1 n2 f2, h'1) ∧
                  ∃ (I1 : List V → Hp → Prop),
                    ∃ (x1 : List V → Hp → Nat),
                      ([V.ptr (some (p, (0 : Nat))), V.str holder, V.slc ids ids_n ids_f] = [V.ptr (some (p, (0 : Nat))), V.str holder, V.slc ids ids_n ids_f] ∧
                          I1 [V.slc p1 n2 f2, V.int IntKind.i64 (0 : Int)] h'1) ∧
                        ∀ (bs1 : Nat → Option V) (a2 : Option (Nat × Nat)) (n3 : Nat) (f3 : Bool) (n4 : Int) (h1 : Hp),
                          I1 [V.slc a2 n3 f3, V.int IntKind.i64 n4] h1 →
                            bif ltI n4 (↑ids_n : Int) then
                              ∃ (I2 : List V → Hp → Prop),
                                ∃ (x2 : List V → Hp → Nat),
                                  ([V.ptr (some (p, (0 : Nat))), V.str holder, V.slc ids ids_n ids_f, V.slc a2 n3 f3, V.int IntKind.i64 n4] =
                                        [V.ptr (some (p, (0 : Nat))), V.str holder, V.slc ids ids_n ids_f, V.slc a2 n3 f3, V.int IntKind.i64 n4] ∧
                                      I2 [V.int IntKind.i64 (-1 : Int), V.int IntKind.i64 (0 : Int)] h1) ∧
                                    ∀ (bs2 : Nat → Option V) (n5 n6 : Int) (h2 : Hp),
                                      I2 [V.int IntKind.i64 n5, V.int IntKind.i64 n6] h2 →
                                        bif ltI n6 (↑n3 : Int) then
                                          ((0 : Int) ≤ n6 ∧ n6 < (↑n3 : Int)) ∧
                                            onS a2 fun (i1 o1 : Nat) =>
                                              ∃ (n7 : Int),
                                                h2.ld i1 (o1 + n6.toNat * (3 : Nat) + (0 : Nat)) = some (V.int IntKind.u64 n7) ∧
                                                  ((0 : Int) ≤ n4 ∧ n4 < (↑ids_n : Int)) ∧
                                                    onS ids fun (i2 o2 : Nat) =>
                                                      ∃ (n8 : Int),
                                                        h2.ld i2 (o2 + n4.toNat * (1 : Nat)) = some (V.int IntKind.u64 n8) ∧
                                                          bif n7 == n8 then
                                                            [V.ptr (some (p, (0 : Nat))), V.str holder, V.slc ids ids_n ids_f, V.slc a2 n3 f3, V.int IntKind.i64 n4] =
                                                                [V.ptr (some (p, (0 : Nat))), V.str holder, V.slc ids ids_n ids_f, V.slc a2 n3 f3, V.int IntKind.i64 n4] ∧
                                                              I2 [V.int IntKind.i64 n6, V.int IntKind.i64 (IntKind.i64.wrap (n6 + (1 : Int)))] h2 ∧
                                                                x2 [V.int IntKind.i64 n6, V.int IntKind.i64 (IntKind.i64.wrap (n6 + (1 : Int)))] h2 < x2 [V.int IntKind.i64 n5, V.int IntKind.i64 n6] h2
                                                          else
                                                            [V.ptr (some (p, (0 : Nat))), V.str holder, V.slc ids ids_n ids_f, V.slc a2 n3 f3, V.int IntKind.i64 n4] =
                                                                [V.ptr (some (p, (0 : Nat))), V.str holder, V.slc ids ids_n ids_f, V.slc a2 n3 f3, V.int IntKind.i64 n4] ∧
                                                              I2 [V.int IntKind.i64 n5, V.int IntKind.i64 (IntKind.i64.wrap (n6 + (1 : Int)))] h2 ∧
                                                                x2 [V.int IntKind.i64 n5, V.int IntKind.i64 (IntKind.i64.wrap (n6 + (1 : Int)))] h2 < x2 [V.int IntKind.i64 n5, V.int IntKind.i64 n6] h2
                                        else
                                          bif ltI n5 (0 : Int) then K (V.int IntKind.i64 (5 : Int)) h2
                                          else
                                            ((0 : Int) ≤ n5 ∧ n5 < (↑n3 : Int)) ∧
                                              onS a2 fun (i3 o3 : Nat) =>
                                                ∃ (s1 : List UInt8),
                                                  h2.ld i3 (o3 + n5.toNat * (3 : Nat) + (1 : Nat)) = some (V.str s1) ∧
                                                    bif !s1 == holder then K (V.int IntKind.i64 (3 : Int)) h2
                                                    else
                                                      ∃ (a3 : Option (Nat × Nat)),
                                                        ∃ (n9 : Nat),
                                                          ∃ (f4 : Bool),
                                                            xslice T h2 (40 : Nat) (V.slc a2 n3 f3) none (some (V.int IntKind.i64 n5)) none = some (V.slc a3 n9 f4) ∧
                                                              ∃ (p2 : Option (Nat × Nat)),
                                                                ∃ (n10 : Nat),
                                                                  ∃ (f5 : Bool),
                                                                    ∃ (h'2 : Hp),
                                                                      xapp T h2 (40 : Nat) (40 : Nat) (V.slc none (0 : Nat) true) (V.slc a3 n9 f4) = some (V.slc p2 n10 f5, h'2) ∧
                                                                        ∃ (a4 : Option (Nat × Nat)),
                                                                          ∃ (n11 : Nat),
                                                                            ∃ (f6 : Bool),
                                                                              xslice T h'2 (40 : Nat) (V.slc a2 n3 f3) (some (V.int IntKind.i64 (IntKind.i64.wrap (n5 + (1 : Int))))) none none =
                                                                                  some (V.slc a4 n11 f6) ∧
                                                                                ∃ (p3 : Option (Nat × Nat)),
                                                                                  ∃ (n12 : Nat),
                                                                                    ∃ (f7 : Bool),
                                                                                      ∃ (h'3 : Hp),
                                                                                        xapp T h'2 (40 : Nat) (40 : Nat) (V.slc p2 n10 f5) (V.slc a4 n11 f6) = some (V.slc p3 n12 f7, h'3) ∧
                                                                                          [V.ptr (some (p, (0 : Nat))), V.str holder, V.slc ids ids_n ids_f] =
                                                                                              [V.ptr (some (p, (0 : Nat))), V.str holder, V.slc ids ids_n ids_f] ∧
                                                                                            I1 [V.slc p3 n12 f7, V.int IntKind.i64 (IntKind.i64.wrap (n4 + (1 : Int)))] h'3 ∧
                                                                                              x1 [V.slc p3 n12 f7, V.int IntKind.i64 (IntKind.i64.wrap (n4 + (1 : Int)))] h'3 <
                                                                                                x1 [V.slc a2 n3 f3, V.int IntKind.i64 n4] h1
                            else ∃ (h'4 : Hp), h1.st p (2 : Nat) [V.slc a2 n3 f3] = some h'4 ∧ K (V.int IntKind.i64 (0 : Int)) h'4
theorem y23 (h : Hp) (K : V → Hp → Prop) (p : Nat) (holder : List UInt8) (ids : Option (Nat × Nat)) (ids_n : Nat) (ids_f : Bool) : X23 h K p holder ids ids_n ids_f = fnX Try.prog T F jl23 jj23 Try.f23 [V.ptr (some (p, (0 : Nat))), V.str holder, V.slc ids ids_n ids_f] h K := by kernel_rfl
theorem x23 {h : Hp} {K : V → Hp → Prop} (p : Nat) (holder : List UInt8) (ids : Option (Nat × Nat)) (ids_n : Nat) (ids_f : Bool) (hx : X23 h K p holder ids ids_n ids_f) : XCalls Try.prog 23 [V.ptr (some (p, (0 : Nat))), V.str holder, V.slc ids ids_n ids_f] h K :=
  XCalls.ofX tok fok mixed (JL := jl23) (JJ := jj23) Try.func23 ((y23 h K p holder ids ids_n ids_f) ▸ hx)
/-! 24: (*stevedore/stevedoreref17.Pool).Move -/
def jl24 : Nat → Option JT := fun r => none
def jj24 : Nat → Option JT := fun r => none
def X24 (h : Hp) (K : V → Hp → Prop) (p : Nat) (id : Int) (a2 : List UInt8) (to : List UInt8) : Prop :=
  XCalls Try.prog (18 : Nat) [V.ptr (some (p, (0 : Nat))), V.int IntKind.u64 id] h fun (v1 : V) (h'1 : Hp) =>
  ∃ (n1 : Int),
    v1 = V.int IntKind.i64 n1 ∧
      bif to == [] then K (V.int IntKind.i64 (2 : Int)) h'1
      else
        bif ltI n1 (0 : Int) then K (V.int IntKind.i64 (5 : Int)) h'1
        else
          ∃ (a1 : Option (Nat × Nat)),
            ∃ (n2 : Nat),
              ∃ (f1 : Bool),
                h'1.ld p (2 : Nat) = some (V.slc a1 n2 f1) ∧
                  ((0 : Int) ≤ n1 ∧ n1 < (↑n2 : Int)) ∧
                    onS a1 fun (i1 o1 : Nat) =>
                      ∃ (n3 : Int),
                        ∃ (s1 : List UInt8),
                          ∃ (s2 : List UInt8),
                            h'1.lda i1 (o1 + n1.toNat * (3 : Nat)) (3 : Nat) = some (V.agg [V.int IntKind.u64 n3, V.str s1, V.str s2]) ∧
                              ∀ (h'2 : Hp),
                                h'2 = h'1.alloc (O.row [V.int IntKind.u64 (0 : Int), V.str [], V.str []] (1 : Nat) false) →
                                  ∃ (h'3 : Hp),
                                    h'2.st h'1.next (0 : Nat) [V.int IntKind.u64 n3, V.str s1, V.str s2] = some h'3 ∧
                                      ∃ (s3 : List UInt8),
                                        h'3.ld h'1.next (1 : Nat) = some (V.str s3) ∧
                                          bif !s3 == a2 then K (V.int IntKind.i64 (3 : Int)) h'3
                                          else
                                            ∃ (h'4 : Hp),
                                              h'3.st h'1.next (1 : Nat) [V.str to] = some h'4 ∧
                                                ∃ (a2 : Option (Nat × Nat)),
                                                  ∃ (n4 : Nat),
                                                    ∃ (f2 : Bool),
                                                      h'4.ld p (2 : Nat) = some (V.slc a2 n4 f2) ∧
                                                        ∃ (n5 : Int),
                                                          ∃ (s4 : List UInt8),
                                                            ∃ (s5 : List UInt8),
                                                              h'4.lda h'1.next (0 : Nat) (3 : Nat) = some (V.agg [V.int IntKind.u64 n5, V.str s4, V.str s5]) ∧
                                                                ((0 : Int) ≤ n1 ∧ n1 < (↑n4 : Int)) ∧
                                                                  onS a2 fun (i2 o2 : Nat) =>
                                                                    ∃ (h'5 : Hp),
                                                                      h'4.st i2 (o2 + n1.toNat * (3 : Nat)) [V.int IntKind.u64 n5, V.str s4, V.str s5] = some h'5 ∧ K (V.int IntKind.i64 (0 : Int)) h'5
theorem y24 (h : Hp) (K : V → Hp → Prop) (p : Nat) (id : Int) (a2 : List UInt8) (to : List UInt8) : X24 h K p id a2 to = fnX Try.prog T F jl24 jj24 Try.f24 [V.ptr (some (p, (0 : Nat))), V.int IntKind.u64 id, V.str a2, V.str to] h K := by kernel_rfl
theorem x24 {h : Hp} {K : V → Hp → Prop} (p : Nat) (id : Int) (a2 : List UInt8) (to : List UInt8) (hx : X24 h K p id a2 to) : XCalls Try.prog 24 [V.ptr (some (p, (0 : Nat))), V.int IntKind.u64 id, V.str a2, V.str to] h K :=
  XCalls.ofX tok fok mixed (JL := jl24) (JJ := jj24) Try.func24 ((y24 h K p id a2 to) ▸ hx)
/-! 25: (*stevedore/stevedoreref17.Pool).Set -/
def jl25 : Nat → Option JT := fun r => none
def jj25 : Nat → Option JT := fun r => none
def X25 (h : Hp) (K : V → Hp → Prop) (p : Nat) (id : Int) (holder : List UInt8) (text : List UInt8) : Prop :=
  XCalls Try.prog (18 : Nat) [V.ptr (some (p, (0 : Nat))), V.int IntKind.u64 id] h fun (v1 : V) (h'1 : Hp) =>
  ∃ (n1 : Int),
    v1 = V.int IntKind.i64 n1 ∧
      bif ltI n1 (0 : Int) then K (V.int IntKind.i64 (5 : Int)) h'1
      else
        ∃ (a1 : Option (Nat × Nat)),
          ∃ (n2 : Nat),
            ∃ (f1 : Bool),
              h'1.ld p (2 : Nat) = some (V.slc a1 n2 f1) ∧
                ((0 : Int) ≤ n1 ∧ n1 < (↑n2 : Int)) ∧
                  onS a1 fun (i1 o1 : Nat) =>
                    ∃ (n3 : Int),
                      ∃ (s1 : List UInt8),
                        ∃ (s2 : List UInt8),
                          h'1.lda i1 (o1 + n1.toNat * (3 : Nat)) (3 : Nat) = some (V.agg [V.int IntKind.u64 n3, V.str s1, V.str s2]) ∧
                            ∀ (h'2 : Hp),
                              h'2 = h'1.alloc (O.row [V.int IntKind.u64 (0 : Int), V.str [], V.str []] (1 : Nat) false) →
                                ∃ (h'3 : Hp),
                                  h'2.st h'1.next (0 : Nat) [V.int IntKind.u64 n3, V.str s1, V.str s2] = some h'3 ∧
                                    ∃ (s3 : List UInt8),
                                      h'3.ld h'1.next (1 : Nat) = some (V.str s3) ∧
                                        bif !s3 == holder then K (V.int IntKind.i64 (3 : Int)) h'3
                                        else
                                          bif ltI (65549 : Int) (↑text.length : Int) then K (V.int IntKind.i64 (4 : Int)) h'3
                                          else
                                            ∃ (h'4 : Hp),
                                              h'3.st h'1.next (2 : Nat) [V.str text] = some h'4 ∧
                                                ∃ (a2 : Option (Nat × Nat)),
                                                  ∃ (n4 : Nat),
                                                    ∃ (f2 : Bool),
                                                      h'4.ld p (2 : Nat) = some (V.slc a2 n4 f2) ∧
                                                        ∃ (n5 : Int),
                                                          ∃ (s4 : List UInt8),
                                                            ∃ (s5 : List UInt8),
                                                              h'4.lda h'1.next (0 : Nat) (3 : Nat) = some (V.agg [V.int IntKind.u64 n5, V.str s4, V.str s5]) ∧
                                                                ((0 : Int) ≤ n1 ∧ n1 < (↑n4 : Int)) ∧
                                                                  onS a2 fun (i2 o2 : Nat) =>
                                                                    ∃ (h'5 : Hp),
                                                                      h'4.st i2 (o2 + n1.toNat * (3 : Nat)) [V.int IntKind.u64 n5, V.str s4, V.str s5] = some h'5 ∧ K (V.int IntKind.i64 (0 : Int)) h'5
theorem y25 (h : Hp) (K : V → Hp → Prop) (p : Nat) (id : Int) (holder : List UInt8) (text : List UInt8) : X25 h K p id holder text = fnX Try.prog T F jl25 jj25 Try.f25 [V.ptr (some (p, (0 : Nat))), V.int IntKind.u64 id, V.str holder, V.str text] h K := by kernel_rfl
theorem x25 {h : Hp} {K : V → Hp → Prop} (p : Nat) (id : Int) (holder : List UInt8) (text : List UInt8) (hx : X25 h K p id holder text) : XCalls Try.prog 25 [V.ptr (some (p, (0 : Nat))), V.int IntKind.u64 id, V.str holder, V.str text] h K :=
  XCalls.ofX tok fok mixed (JL := jl25) (JJ := jj25) Try.func25 ((y25 h K p id holder text) ▸ hx)
end Go.Vex
