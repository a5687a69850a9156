/-
  functions of PoolPlays (layer 17) as statements about data: the pool (printed by VexPrint).
-/
import Derived.Test.YteblfacfbmlceaaVexX
import Derived.Test.YteblfacfbmlceaaTab17
set_option linter.unusedVariables false
set_option maxRecDepth 100000
namespace Go.Vex
open Go.Proofs
/-! 14: stevedore/stevedorelaw17.heavy -/
-- loop 3: stays l(0); turns n(3), i(4)
-- join 10: stays l(0); turns n(3)
-- join 8: stays l(0), i(4); turns n(3)
def jl14 : Nat → Option JT := fun r => bif Nat.beq r 3 then some ⟨[0], [3, 4], [V.int IntKind.i64 (0 : Int), V.int IntKind.i64 (0 : Int)]⟩ else none
def jj14 : Nat → Option JT := fun r => bif Nat.beq r 10 then some ⟨[0], [3], [V.int IntKind.i64 (0 : Int)]⟩ else bif Nat.beq r 8 then some ⟨[0, 4], [3], [V.int IntKind.i64 (0 : Int)]⟩ else none
def X14 (h : Hp) (K : V → Hp → Prop) (l : Option (Nat × Nat)) (l_n : Nat) (l_f : Bool) : Prop :=
  ∃ (Q1 : List V → Hp → Prop),
  (∃ (I1 : List V → Hp → Prop),
      ∃ (x1 : List V → Hp → Nat),
        ([V.slc l l_n l_f] = [V.slc l l_n l_f] ∧ I1 [V.int IntKind.i64 (0 : Int), V.int IntKind.i64 (0 : Int)] h) ∧
          ∀ (bs1 : Nat → Option V) (n1 n2 : Int) (h1 : Hp),
            I1 [V.int IntKind.i64 n1, V.int IntKind.i64 n2] h1 →
              bif ltI n2 (↑l_n : Int) then
                bif ltI n2 (500 : Int) then
                  ((0 : Int) ≤ n2 ∧ n2 < (↑l_n : Int)) ∧
                    onS l fun (i1 o1 : Nat) =>
                      ∃ (s1 : List UInt8),
                        h1.ld i1 (o1 + n2.toNat * (6 : Nat) + (1 : Nat)) = some (V.str s1) ∧
                          ((0 : Int) ≤ n2 ∧ n2 < (↑l_n : Int)) ∧
                            onS l fun (i2 o2 : Nat) =>
                              ∃ (s2 : List UInt8),
                                h1.ld i2 (o2 + n2.toNat * (6 : Nat) + (2 : Nat)) = some (V.str s2) ∧
                                  ((0 : Int) ≤ n2 ∧ n2 < (↑l_n : Int)) ∧
                                    onS l fun (i3 o3 : Nat) =>
                                      ∃ (a1 : Option (Nat × Nat)),
                                        ∃ (n3 : Nat),
                                          ∃ (f1 : Bool),
                                            h1.ld i3 (o3 + n2.toNat * (6 : Nat) + (5 : Nat)) = some (V.slc a1 n3 f1) ∧
                                              ∃ (Q2 : List V → Hp → Prop),
                                                (((0 : Int) ≤ n2 ∧ n2 < (↑l_n : Int)) ∧
                                                    onS l fun (i4 o4 : Nat) =>
                                                      ∃ (s3 : List UInt8),
                                                        h1.ld i4 (o4 + n2.toNat * (6 : Nat) + (3 : Nat)) = some (V.str s3) ∧
                                                          bif !ltI (65549 : Int) (↑s3.length : Int) then
                                                            ((0 : Int) ≤ n2 ∧ n2 < (↑l_n : Int)) ∧
                                                              onS l fun (i5 o5 : Nat) =>
                                                                ∃ (s4 : List UInt8),
                                                                  h1.ld i5 (o5 + n2.toNat * (6 : Nat) + (3 : Nat)) = some (V.str s4) ∧
                                                                    [V.slc l l_n l_f, V.int IntKind.i64 n2] = [V.slc l l_n l_f, V.int IntKind.i64 n2] ∧
                                                                      Q2
                                                                        [V.int IntKind.i64
                                                                            (IntKind.i64.wrap
                                                                              (IntKind.i64.wrap (IntKind.i64.wrap (IntKind.i64.wrap (n1 + (↑s1.length : Int)) + (↑s2.length : Int)) + (↑n3 : Int)) +
                                                                                (↑s4.length : Int)))]
                                                                        h1
                                                          else
                                                            [V.slc l l_n l_f, V.int IntKind.i64 n2] = [V.slc l l_n l_f, V.int IntKind.i64 n2] ∧
                                                              Q2
                                                                [V.int IntKind.i64
                                                                    (IntKind.i64.wrap (IntKind.i64.wrap (IntKind.i64.wrap (n1 + (↑s1.length : Int)) + (↑s2.length : Int)) + (↑n3 : Int)))]
                                                                h1) ∧
                                                  ∀ (bs2 : Nat → Option V) (n4 : Int) (h2 : Hp),
                                                    Q2 [V.int IntKind.i64 n4] h2 →
                                                      ((0 : Int) ≤ n2 ∧ n2 < (↑l_n : Int)) ∧
                                                        onS l fun (i6 o6 : Nat) =>
                                                          ∃ (s5 : List UInt8),
                                                            h2.ld i6 (o6 + n2.toNat * (6 : Nat) + (3 : Nat)) = some (V.str s5) ∧
                                                              bif ltI (65559 : Int) (↑s5.length : Int) then K (V.bool true) h2
                                                              else
                                                                [V.slc l l_n l_f] = [V.slc l l_n l_f] ∧
                                                                  I1 [V.int IntKind.i64 n4, V.int IntKind.i64 (IntKind.i64.wrap (n2 + (1 : Int)))] h2 ∧
                                                                    x1 [V.int IntKind.i64 n4, V.int IntKind.i64 (IntKind.i64.wrap (n2 + (1 : Int)))] h2 <
                                                                      x1 [V.int IntKind.i64 n1, V.int IntKind.i64 n2] h1
                else [V.slc l l_n l_f] = [V.slc l l_n l_f] ∧ Q1 [V.int IntKind.i64 n1] h1
              else [V.slc l l_n l_f] = [V.slc l l_n l_f] ∧ Q1 [V.int IntKind.i64 n1] h1) ∧
    ∀ (bs3 : Nat → Option V) (n5 : Int) (h3 : Hp), Q1 [V.int IntKind.i64 n5] h3 → bif ltI (200 : Int) (↑l_n : Int) then K (V.bool true) h3 else K (V.bool (ltI (8192 : Int) n5)) h3
theorem y14 (h : Hp) (K : V → Hp → Prop) (l : Option (Nat × Nat)) (l_n : Nat) (l_f : Bool) : X14 h K l l_n l_f = fnX Try.prog T F jl14 jj14 Try.f14 [V.slc l l_n l_f] h K := by kernel_rfl
theorem x14 {h : Hp} {K : V → Hp → Prop} (l : Option (Nat × Nat)) (l_n : Nat) (l_f : Bool) (hx : X14 h K l l_n l_f) : XCalls Try.prog 14 [V.slc l l_n l_f] h K :=
  XCalls.ofX tok fok mixed (JL := jl14) (JJ := jj14) Try.func14 ((y14 h K l l_n l_f) ▸ hx)
/-! 15: stevedore/stevedorelaw17.does -/
def jl15 : Nat → Option JT := fun r => none
def jj15 : Nat → Option JT := fun r => none
def X15 (h : Hp) (K : V → Hp → Prop) (p : Nat) (s_0 : Int) (s_1 : List UInt8) (s_2 : List UInt8) (s_3 : List UInt8) (s_4 : Int) (s_5 : Option (Nat × Nat)) (s_5_n : Nat) (s_5_f : Bool) : Prop :=
  ∀ (h'1 : Hp),
  h'1 = h.alloc (O.row [V.int IntKind.i64 s_0, V.str s_1, V.str s_2, V.str s_3, V.int IntKind.u64 s_4, V.slc s_5 s_5_n s_5_f] (1 : Nat) false) →
    ∃ (n1 : Int),
      h'1.ld h.next (0 : Nat) = some (V.int IntKind.i64 n1) ∧
        bif n1 == (0 : Int) then
          ∃ (s1 : List UInt8),
            h'1.ld h.next (1 : Nat) = some (V.str s1) ∧
              ∃ (s2 : List UInt8),
                h'1.ld h.next (3 : Nat) = some (V.str s2) ∧
                  XCalls Try.prog (10 : Nat) [V.ptr (some (p, (0 : Nat))), V.str s1, V.str s2] h'1 fun (v1 : V) (h'2 : Hp) =>
                    ∃ (n2 : Int), ∃ (n3 : Int), v1 = V.tup [V.int IntKind.u64 n2, V.int IntKind.i64 n3] ∧ K (V.tup [V.int IntKind.u64 n2, V.int IntKind.i64 n3]) h'2
        else
          bif n1 == (1 : Int) then
            ∃ (s3 : List UInt8),
              h'1.ld h.next (1 : Nat) = some (V.str s3) ∧
                ∃ (a1 : Option (Nat × Nat)),
                  ∃ (n4 : Nat),
                    ∃ (f1 : Bool),
                      h'1.ld h.next (5 : Nat) = some (V.slc a1 n4 f1) ∧
                        ∃ (p1 : Option (Nat × Nat)),
                          ∃ (n5 : Nat),
                            ∃ (f2 : Bool),
                              ∃ (h'3 : Hp),
                                xapp T h'1 (31 : Nat) (31 : Nat) (V.slc none (0 : Nat) true) (V.slc a1 n4 f1) = some (V.slc p1 n5 f2, h'3) ∧
                                  (∃ (s4 : List UInt8), h'3.ld h.next (1 : Nat) = some (V.str s4) ∧ V.str s4 = V.str s3) ∧
                                    V.ptr (some (h.next, (1 : Nat))) = V.ptr (some (h.next, (1 : Nat))) ∧
                                      V.ptr (some (p, (0 : Nat))) = V.ptr (some (p, (0 : Nat))) ∧
                                        XCalls Try.prog (12 : Nat) [V.ptr (some (p, (0 : Nat))), V.str s3, V.slc p1 n5 f2] h'3 fun (v2 : V) (h'4 : Hp) =>
                                          ∃ (n6 : Int), v2 = V.int IntKind.i64 n6 ∧ K (V.tup [V.int IntKind.u64 (0 : Int), V.int IntKind.i64 n6]) h'4
          else
            bif n1 == (2 : Int) then
              ∃ (n7 : Int),
                h'1.ld h.next (4 : Nat) = some (V.int IntKind.u64 n7) ∧
                  ∃ (s5 : List UInt8),
                    h'1.ld h.next (1 : Nat) = some (V.str s5) ∧
                      ∃ (s6 : List UInt8),
                        h'1.ld h.next (2 : Nat) = some (V.str s6) ∧
                          XCalls Try.prog (11 : Nat) [V.ptr (some (p, (0 : Nat))), V.int IntKind.u64 n7, V.str s5, V.str s6] h'1 fun (v3 : V) (h'5 : Hp) =>
                            ∃ (n8 : Int), v3 = V.int IntKind.i64 n8 ∧ K (V.tup [V.int IntKind.u64 (0 : Int), V.int IntKind.i64 n8]) h'5
            else
              bif n1 == (3 : Int) then
                ∃ (n9 : Int),
                  h'1.ld h.next (4 : Nat) = some (V.int IntKind.u64 n9) ∧
                    ∃ (s7 : List UInt8),
                      h'1.ld h.next (1 : Nat) = some (V.str s7) ∧
                        ∃ (s8 : List UInt8),
                          h'1.ld h.next (3 : Nat) = some (V.str s8) ∧
                            XCalls Try.prog (19 : Nat) [V.ptr (some (p, (0 : Nat))), V.int IntKind.u64 n9, V.str s7, V.str s8] h'1 fun (v4 : V) (h'6 : Hp) =>
                              ∃ (n10 : Int), v4 = V.int IntKind.i64 n10 ∧ K (V.tup [V.int IntKind.u64 (0 : Int), V.int IntKind.i64 n10]) h'6
              else K (V.tup [V.int IntKind.u64 (0 : Int), V.int IntKind.i64 (0 : Int)]) h'1
theorem y15 (h : Hp) (K : V → Hp → Prop) (p : Nat) (s_0 : Int) (s_1 : List UInt8) (s_2 : List UInt8) (s_3 : List UInt8) (s_4 : Int) (s_5 : Option (Nat × Nat)) (s_5_n : Nat) (s_5_f : Bool) : X15 h K p s_0 s_1 s_2 s_3 s_4 s_5 s_5_n s_5_f = fnX Try.prog T F jl15 jj15 Try.f15 [V.ptr (some (p, (0 : Nat))), V.agg [V.int IntKind.i64 s_0, V.str s_1, V.str s_2, V.str s_3, V.int IntKind.u64 s_4, V.slc s_5 s_5_n s_5_f]] h K := by kernel_rfl
theorem x15 {h : Hp} {K : V → Hp → Prop} (p : Nat) (s_0 : Int) (s_1 : List UInt8) (s_2 : List UInt8) (s_3 : List UInt8) (s_4 : Int) (s_5 : Option (Nat × Nat)) (s_5_n : Nat) (s_5_f : Bool) (hx : X15 h K p s_0 s_1 s_2 s_3 s_4 s_5 s_5_n s_5_f) : XCalls Try.prog 15 [V.ptr (some (p, (0 : Nat))), V.agg [V.int IntKind.i64 s_0, V.str s_1, V.str s_2, V.str s_3, V.int IntKind.u64 s_4, V.slc s_5 s_5_n s_5_f]] h K :=
  XCalls.ofX tok fok mixed (JL := jl15) (JJ := jj15) Try.func15 ((y15 h K p s_0 s_1 s_2 s_3 s_4 s_5 s_5_n s_5_f) ▸ hx)
end Go.Vex
