/-
  InWhole (printed by VexPrint).
-/
import Derived.Test.YtkdjjjpfkdkgoaaVexX
import Derived.Test.YtkdjjjpfkdkgoaaTab26
set_option linter.unusedVariables false
set_option maxRecDepth 100000
namespace Go.Vex
open Go.Proofs
/-! 24: stevedore/stevedorelaw26.pieces -/
-- loop 3: stays l(0); turns n(3), i(4)
-- join 6: stays l(0); turns n(3)
def jl24 : Nat → Option JT := fun r => bif Nat.beq r 3 then some ⟨[0], [3, 4], [V.int IntKind.i64 (0 : Int), V.int IntKind.i64 (0 : Int)]⟩ else none
def jj24 : Nat → Option JT := fun r => bif Nat.beq r 6 then some ⟨[0], [3], [V.int IntKind.i64 (0 : Int)]⟩ else none
def X24 (h : Hp) (K : V → Hp → Prop) (l : Option (Nat × Nat)) (l_n : Nat) (l_f : Bool) : Prop :=
  ∃ (Q1 : List V → Hp → Prop),
  (∃ (I1 : List V → Hp → Prop),
      ∃ (x1 : List V → Hp → Nat),
        ([V.slc l l_n l_f] = [V.slc l l_n l_f] ∧ I1 [V.int IntKind.i64 (0 : Int), V.int IntKind.i64 (0 : Int)] h) ∧
          ∀ (bs1 : Nat → Option V) (n1 n2 : Int) (h1 : Hp),
            I1 [V.int IntKind.i64 n1, V.int IntKind.i64 n2] h1 →
              bif ltI n2 (↑l_n : Int) then
                bif ltI n2 (500 : Int) then
                  ((0 : Int) ≤ n2 ∧ n2 < (↑l_n : Int)) ∧
                    onS l fun (i1 o1 : Nat) =>
                      ∃ (s1 : List UInt8),
                        h1.ld i1 (o1 + n2.toNat * (5 : Nat) + (4 : Nat)) = some (V.str s1) ∧
                          [V.slc l l_n l_f] = [V.slc l l_n l_f] ∧
                            I1 [V.int IntKind.i64 (IntKind.i64.wrap (n1 + (↑s1.length : Int))), V.int IntKind.i64 (IntKind.i64.wrap (n2 + (1 : Int)))] h1 ∧
                              x1 [V.int IntKind.i64 (IntKind.i64.wrap (n1 + (↑s1.length : Int))), V.int IntKind.i64 (IntKind.i64.wrap (n2 + (1 : Int)))] h1 <
                                x1 [V.int IntKind.i64 n1, V.int IntKind.i64 n2] h1
                else [V.slc l l_n l_f] = [V.slc l l_n l_f] ∧ Q1 [V.int IntKind.i64 n1] h1
              else [V.slc l l_n l_f] = [V.slc l l_n l_f] ∧ Q1 [V.int IntKind.i64 n1] h1) ∧
    ∀ (bs2 : Nat → Option V) (n3 : Int) (h2 : Hp), Q1 [V.int IntKind.i64 n3] h2 → bif ltI (200 : Int) (↑l_n : Int) then K (V.bool true) h2 else K (V.bool (ltI (4096 : Int) n3)) h2
theorem y24 (h : Hp) (K : V → Hp → Prop) (l : Option (Nat × Nat)) (l_n : Nat) (l_f : Bool) : X24 h K l l_n l_f = fnX Try.prog T F jl24 jj24 Try.f24 [V.slc l l_n l_f] h K := by kernel_rfl
theorem x24 {h : Hp} {K : V → Hp → Prop} (l : Option (Nat × Nat)) (l_n : Nat) (l_f : Bool) (hx : X24 h K l l_n l_f) : XCalls Try.prog 24 [V.slc l l_n l_f] h K :=
  XCalls.ofX tok fok mixed (JL := jl24) (JJ := jj24) Try.func24 ((y24 h K l l_n l_f) ▸ hx)
/-! 33: (*stevedore/flow.In).Gaps -/
-- loop 10: stays i(0), (31), (32); turns l(2), (33)
-- loop 5: stays i(0), l(2), (15); turns all(3)
-- join 16: stays l(2), at(7), (33), (32), (31), i(0); turns 
def jl33 : Nat → Option JT := fun r => bif Nat.beq r 10 then some ⟨[0, 31, 32], [2, 33], [V.slc none (0 : Nat) true, V.int IntKind.i64 (0 : Int)]⟩ else bif Nat.beq r 5 then some ⟨[0, 2, 15], [3], [V.slc none (0 : Nat) true]⟩ else none
def jj33 : Nat → Option JT := fun r => bif Nat.beq r 16 then some ⟨[2, 7, 33, 32, 31, 0], [], []⟩ else none
def X33 (h : Hp) (K : V → Hp → Prop) (i : Nat) : Prop :=
  ∃ (r1 : Option Nat),
  h.ld i (2 : Nat) = some (V.map r1) ∧
    ∃ (h'1 : Hp),
      xrange T h (73 : Nat) (V.map r1) = some (V.ptr (some (h.next, (0 : Nat))), h'1) ∧
        ∃ (I1 : List V → Hp → Prop),
          ∃ (x1 : List V → Hp → Nat),
            ([V.ptr (some (i, (0 : Nat))), V.slc none (0 : Nat) true, V.ptr (some (h.next, (0 : Nat)))] = [V.ptr (some (i, (0 : Nat))), V.slc none (0 : Nat) true, V.ptr (some (h.next, (0 : Nat)))] ∧
                I1 [V.slc none (0 : Nat) true] h'1) ∧
              ∀ (bs1 : Nat → Option V) (a1 : Option (Nat × Nat)) (n1 : Nat) (f1 : Bool) (h1 : Hp),
                I1 [V.slc a1 n1 f1] h1 →
                  ∃ (l1 : List (V × Hp)),
                    xnext h1 (V.ptr (some (h.next, (0 : Nat)))) = some l1 ∧
                      (List.Mem (V.tup [V.bool false], h1) l1 →
                          XCalls Try.prog (45 : Nat) [V.slc a1 n1 f1] h1 fun (v1 : V) (h'2 : Hp) =>
                            ∃ (I2 : List V → Hp → Prop),
                              ∃ (x2 : List V → Hp → Nat),
                                ([V.ptr (some (i, (0 : Nat))), V.slc a1 n1 f1, V.int IntKind.i64 (↑n1 : Int)] = [V.ptr (some (i, (0 : Nat))), V.slc a1 n1 f1, V.int IntKind.i64 (↑n1 : Int)] ∧
                                    I2 [V.slc none (0 : Nat) true, V.int IntKind.i64 (0 : Int)] h'2) ∧
                                  ∀ (bs2 : Nat → Option V) (a2 : Option (Nat × Nat)) (n2 : Nat) (f2 : Bool) (n3 : Int) (h2 : Hp),
                                    I2 [V.slc a2 n2 f2, V.int IntKind.i64 n3] h2 →
                                      bif ltI n3 (↑n1 : Int) then
                                        ((0 : Int) ≤ n3 ∧ n3 < (↑n1 : Int)) ∧
                                          onS a1 fun (i1 o1 : Nat) =>
                                            ∃ (n4 : Int),
                                              h2.ld i1 (o1 + n3.toNat * (1 : Nat)) = some (V.int IntKind.u32 n4) ∧
                                                ∃ (n5 : Int),
                                                  h2.ld i (0 : Nat) = some (V.int IntKind.u32 n5) ∧
                                                    ∃ (Q1 : List V → Hp → Prop),
                                                      (bif ltI (0 : Int) (↑n2 : Int) then
                                                          ((0 : Int) ≤ IntKind.i64.wrap ((↑n2 : Int) - (1 : Int)) ∧ IntKind.i64.wrap ((↑n2 : Int) - (1 : Int)) < (↑n2 : Int)) ∧
                                                            onS a2 fun (i2 o2 : Nat) =>
                                                              ∃ (n6 : Int),
                                                                h2.ld i2 (o2 + (IntKind.i64.wrap ((↑n2 : Int) - (1 : Int))).toNat * (2 : Nat) + (1 : Nat)) = some (V.int IntKind.u32 n6) ∧
                                                                  bif n6 == IntKind.u32.wrap (n5 + n4) then
                                                                    ((0 : Int) ≤ IntKind.i64.wrap ((↑n2 : Int) - (1 : Int)) ∧ IntKind.i64.wrap ((↑n2 : Int) - (1 : Int)) < (↑n2 : Int)) ∧
                                                                      onS a2 fun (i3 o3 : Nat) =>
                                                                        ∃ (n7 : Int),
                                                                          h2.ld i3 (o3 + (IntKind.i64.wrap ((↑n2 : Int) - (1 : Int))).toNat * (2 : Nat) + (1 : Nat)) = some (V.int IntKind.u32 n7) ∧
                                                                            ((0 : Int) ≤ IntKind.i64.wrap ((↑n2 : Int) - (1 : Int)) ∧ IntKind.i64.wrap ((↑n2 : Int) - (1 : Int)) < (↑n2 : Int)) ∧
                                                                              onS a2 fun (i4 o4 : Nat) =>
                                                                                ∃ (h'3 : Hp),
                                                                                  h2.st i4 (o4 + (IntKind.i64.wrap ((↑n2 : Int) - (1 : Int))).toNat * (2 : Nat) + (1 : Nat))
                                                                                        [V.int IntKind.u32 (IntKind.u32.wrap (n7 + (1 : Int)))] =
                                                                                      some h'3 ∧
                                                                                    [V.ptr (some (i, (0 : Nat))), V.slc a1 n1 f1, V.int IntKind.i64 (↑n1 : Int)] =
                                                                                        [V.ptr (some (i, (0 : Nat))), V.slc a1 n1 f1, V.int IntKind.i64 (↑n1 : Int)] ∧
                                                                                      I2 [V.slc a2 n2 f2, V.int IntKind.i64 (IntKind.i64.wrap (n3 + (1 : Int)))] h'3 ∧
                                                                                        x2 [V.slc a2 n2 f2, V.int IntKind.i64 (IntKind.i64.wrap (n3 + (1 : Int)))] h'3 <
                                                                                          x2 [V.slc a2 n2 f2, V.int IntKind.i64 n3] h2
                                                                  else
                                                                    [V.slc a2 n2 f2, V.int IntKind.u32 (IntKind.u32.wrap (n5 + n4)), V.int IntKind.i64 n3, V.int IntKind.i64 (↑n1 : Int),
                                                                          V.slc a1 n1 f1, V.ptr (some (i, (0 : Nat)))] =
                                                                        [V.slc a2 n2 f2, V.int IntKind.u32 (IntKind.u32.wrap (n5 + n4)), V.int IntKind.i64 n3, V.int IntKind.i64 (↑n1 : Int),
                                                                          V.slc a1 n1 f1, V.ptr (some (i, (0 : Nat)))] ∧
                                                                      Q1 [] h2
                                                        else
                                                          [V.slc a2 n2 f2, V.int IntKind.u32 (IntKind.u32.wrap (n5 + n4)), V.int IntKind.i64 n3, V.int IntKind.i64 (↑n1 : Int), V.slc a1 n1 f1,
                                                                V.ptr (some (i, (0 : Nat)))] =
                                                              [V.slc a2 n2 f2, V.int IntKind.u32 (IntKind.u32.wrap (n5 + n4)), V.int IntKind.i64 n3, V.int IntKind.i64 (↑n1 : Int), V.slc a1 n1 f1,
                                                                V.ptr (some (i, (0 : Nat)))] ∧
                                                            Q1 [] h2) ∧
                                                        ∀ (bs3 : Nat → Option V) (h3 : Hp),
                                                          Q1 [] h3 →
                                                            ∀ (h'4 : Hp),
                                                              h'4 =
                                                                  h3.alloc
                                                                    (O.row
                                                                      [V.int IntKind.u32 (IntKind.u32.wrap (n5 + n4)), V.int IntKind.u32 (IntKind.u32.wrap (IntKind.u32.wrap (n5 + n4) + (1 : Int)))]
                                                                      (2 : Nat) false) →
                                                                ∃ (p1 : Option (Nat × Nat)),
                                                                  ∃ (n8 : Nat),
                                                                    ∃ (f3 : Bool),
                                                                      ∃ (h'5 : Hp),
                                                                        xapp T h'4 (57 : Nat) (57 : Nat) (V.slc a2 n2 f2) (V.slc (some (h3.next, (0 : Nat))) (1 : Nat) true) =
                                                                            some (V.slc p1 n8 f3, h'5) ∧
                                                                          [V.ptr (some (i, (0 : Nat))), V.slc a1 n1 f1, V.int IntKind.i64 (↑n1 : Int)] =
                                                                              [V.ptr (some (i, (0 : Nat))), V.slc a1 n1 f1, V.int IntKind.i64 (↑n1 : Int)] ∧
                                                                            I2 [V.slc p1 n8 f3, V.int IntKind.i64 (IntKind.i64.wrap (n3 + (1 : Int)))] h'5 ∧
                                                                              x2 [V.slc p1 n8 f3, V.int IntKind.i64 (IntKind.i64.wrap (n3 + (1 : Int)))] h'5 <
                                                                                x2 [V.slc a2 n2 f2, V.int IntKind.i64 n3] h2
                                      else K (V.slc a2 n2 f2) h2) ∧
                        (∀ (r2 : V × Hp), List.Mem r2 l1 → r2 = (V.tup [V.bool false], h1) ∨ ∃ (a3 : V), ∃ (b1 : V), r2.1 = V.tup [V.bool true, a3, b1]) ∧
                          ∀ (a4 b2 : V) (h'6 : Hp),
                            List.Mem (V.tup [V.bool true, a4, b2], h'6) l1 →
                              ∃ (n9 : Int),
                                ∃ (v2 : V),
                                  xentry h'6 (V.ptr (some (h.next, (0 : Nat)))) = some (V.tup [V.int IntKind.u32 n9, v2]) ∧
                                    ∃ (n10 : Int),
                                      h'6.ld i (0 : Nat) = some (V.int IntKind.u32 n10) ∧
                                        ∀ (h'7 : Hp),
                                          h'7 = h'6.alloc (O.row [V.int IntKind.u32 (IntKind.u32.wrap (n9 - n10))] (1 : Nat) false) →
                                            ∃ (p2 : Option (Nat × Nat)),
                                              ∃ (n11 : Nat),
                                                ∃ (f4 : Bool),
                                                  ∃ (h'8 : Hp),
                                                    xapp T h'7 (77 : Nat) (77 : Nat) (V.slc a1 n1 f1) (V.slc (some (h'6.next, (0 : Nat))) (1 : Nat) true) = some (V.slc p2 n11 f4, h'8) ∧
                                                      [V.ptr (some (i, (0 : Nat))), V.slc none (0 : Nat) true, V.ptr (some (h.next, (0 : Nat)))] =
                                                          [V.ptr (some (i, (0 : Nat))), V.slc none (0 : Nat) true, V.ptr (some (h.next, (0 : Nat)))] ∧
                                                        I1 [V.slc p2 n11 f4] h'8 ∧ x1 [V.slc p2 n11 f4] h'8 < x1 [V.slc a1 n1 f1] h1
theorem y33 (h : Hp) (K : V → Hp → Prop) (i : Nat) : X33 h K i = fnX Try.prog T F jl33 jj33 Try.f33 [V.ptr (some (i, (0 : Nat)))] h K := by kernel_rfl
theorem x33 {h : Hp} {K : V → Hp → Prop} (i : Nat) (hx : X33 h K i) : XCalls Try.prog 33 [V.ptr (some (i, (0 : Nat)))] h K :=
  XCalls.ofX tok fok mixed (JL := jl33) (JJ := jj33) Try.func33 ((y33 h K i) ▸ hx)
/-! 6: stevedore/stevedorelaw26.InWhole -/
-- loop 14: stays from(0), stream(2), n(9), i(10); turns got(14), k(15)
-- loop 8: stays from(0), stream(2), l(3), n(9), i(10); turns k(12)
-- join 21: stays i(10), from(0), stream(2); turns got(14)
-- join 12: stays i(10), n(9), stream(2), from(0); turns 
def jl6 : Nat → Option JT := fun r => bif Nat.beq r 14 then some ⟨[0, 2, 9, 10], [14, 15], [V.str [], V.int IntKind.i64 (0 : Int)]⟩ else bif Nat.beq r 8 then some ⟨[0, 2, 3, 9, 10], [12], [V.int IntKind.i64 (0 : Int)]⟩ else none
def jj6 : Nat → Option JT := fun r => bif Nat.beq r 21 then some ⟨[10, 0, 2], [14], [V.str []]⟩ else bif Nat.beq r 12 then some ⟨[10, 9, 2, 0], [], []⟩ else none
def X6 (h : Hp) (K : V → Hp → Prop) (a0 : Int) (most : Int) (stream : List UInt8) (l : Option (Nat × Nat)) (l_n : Nat) (l_f : Bool) : Prop :=
  bif ltI (1024 : Int) (↑stream.length : Int) then XCalls Try.prog (10 : Nat) [] h fun (v1 : V) (h'1 : Hp) => ∃ (b1 : Bool), v1 = V.bool b1 ∧ K (V.bool b1) h'1
else
  XCalls Try.prog (24 : Nat) [V.slc l l_n l_f] h fun (v2 : V) (h'2 : Hp) =>
    ∃ (b2 : Bool),
      v2 = V.bool b2 ∧
        bif b2 then XCalls Try.prog (10 : Nat) [] h'2 fun (v3 : V) (h'3 : Hp) => ∃ (b3 : Bool), v3 = V.bool b3 ∧ K (V.bool b3) h'3
        else
          XCalls Try.prog (25 : Nat) [V.int IntKind.u32 a0, V.int IntKind.i64 (IntKind.i64.wrap (IntKind.i64.wrap most + (1 : Int)))] h'2 fun (v4 : V) (h'4 : Hp) =>
            ∃ (a1 : Option (Nat × Nat)),
              ∃ (n1 : Int),
                v4 = V.tup [V.ptr a1, V.int IntKind.i64 n1] ∧
                  bif n1 != (0 : Int) then K (V.bool false) h'4
                  else
                    bif a1.isNone then K (V.bool false) h'4
                    else
                      ∃ (Q1 : List V → Hp → Prop),
                        (∃ (I1 : List V → Hp → Prop),
                            ∃ (x1 : List V → Hp → Nat),
                              ([V.int IntKind.u32 a0, V.str stream, V.slc l l_n l_f, V.int IntKind.i64 (IntKind.i64.wrap (IntKind.i64.wrap most + (1 : Int))), V.ptr a1] =
                                    [V.int IntKind.u32 a0, V.str stream, V.slc l l_n l_f, V.int IntKind.i64 (IntKind.i64.wrap (IntKind.i64.wrap most + (1 : Int))), V.ptr a1] ∧
                                  I1 [V.int IntKind.i64 (0 : Int)] h'4) ∧
                                ∀ (bs1 : Nat → Option V) (n2 : Int) (h1 : Hp),
                                  I1 [V.int IntKind.i64 n2] h1 →
                                    bif ltI n2 (↑l_n : Int) then
                                      bif ltI (0 : Int) (↑stream.length : Int) then
                                        ((0 : Int) ≤ n2 ∧ n2 < (↑l_n : Int)) ∧
                                          onS l fun (i1 o1 : Nat) =>
                                            ∃ (n3 : Int),
                                              h1.ld i1 (o1 + n2.toNat * (5 : Nat) + (2 : Nat)) = some (V.int IntKind.i64 n3) ∧
                                                ¬(↑stream.length : Int) = (0 : Int) ∧
                                                  ¬(↑stream.length : Int) = (0 : Int) ∧
                                                    ((0 : Int) ≤ n2 ∧ n2 < (↑l_n : Int)) ∧
                                                      onS l fun (i2 o2 : Nat) =>
                                                        ∃ (n4 : Int),
                                                          h1.ld i2 (o2 + n2.toNat * (5 : Nat) + (3 : Nat)) = some (V.int IntKind.i64 n4) ∧
                                                            (0 : Int) ≤ (IntKind.i64.wrap (n3.tmod (↑stream.length : Int) + (↑stream.length : Int))).tmod (↑stream.length : Int) ∧
                                                              ((0 : Int) ≤
                                                                  bif
                                                                      ltI
                                                                        (IntKind.i64.wrap
                                                                          ((IntKind.i64.wrap (n3.tmod (↑stream.length : Int) + (↑stream.length : Int))).tmod (↑stream.length : Int) +
                                                                            bif ltI (300 : Int) (bif ltI n4 (0 : Int) then (0 : Int) else n4) then (300 : Int)
                                                                            else bif ltI n4 (0 : Int) then (0 : Int) else n4))
                                                                        (↑stream.length : Int) then
                                                                    IntKind.i64.wrap
                                                                      ((IntKind.i64.wrap (n3.tmod (↑stream.length : Int) + (↑stream.length : Int))).tmod (↑stream.length : Int) +
                                                                        bif ltI (300 : Int) (bif ltI n4 (0 : Int) then (0 : Int) else n4) then (300 : Int)
                                                                        else bif ltI n4 (0 : Int) then (0 : Int) else n4)
                                                                  else (↑stream.length : Int)) ∧
                                                                (((IntKind.i64.wrap (n3.tmod (↑stream.length : Int) + (↑stream.length : Int))).tmod (↑stream.length : Int)).toNat ≤
                                                                      (bif
                                                                            ltI
                                                                              (IntKind.i64.wrap
                                                                                ((IntKind.i64.wrap (n3.tmod (↑stream.length : Int) + (↑stream.length : Int))).tmod (↑stream.length : Int) +
                                                                                  bif ltI (300 : Int) (bif ltI n4 (0 : Int) then (0 : Int) else n4) then (300 : Int)
                                                                                  else bif ltI n4 (0 : Int) then (0 : Int) else n4))
                                                                              (↑stream.length : Int) then
                                                                          IntKind.i64.wrap
                                                                            ((IntKind.i64.wrap (n3.tmod (↑stream.length : Int) + (↑stream.length : Int))).tmod (↑stream.length : Int) +
                                                                              bif ltI (300 : Int) (bif ltI n4 (0 : Int) then (0 : Int) else n4) then (300 : Int)
                                                                              else bif ltI n4 (0 : Int) then (0 : Int) else n4)
                                                                        else (↑stream.length : Int)).toNat ∧
                                                                    (bif
                                                                            ltI
                                                                              (IntKind.i64.wrap
                                                                                ((IntKind.i64.wrap (n3.tmod (↑stream.length : Int) + (↑stream.length : Int))).tmod (↑stream.length : Int) +
                                                                                  bif ltI (300 : Int) (bif ltI n4 (0 : Int) then (0 : Int) else n4) then (300 : Int)
                                                                                  else bif ltI n4 (0 : Int) then (0 : Int) else n4))
                                                                              (↑stream.length : Int) then
                                                                          IntKind.i64.wrap
                                                                            ((IntKind.i64.wrap (n3.tmod (↑stream.length : Int) + (↑stream.length : Int))).tmod (↑stream.length : Int) +
                                                                              bif ltI (300 : Int) (bif ltI n4 (0 : Int) then (0 : Int) else n4) then (300 : Int)
                                                                              else bif ltI n4 (0 : Int) then (0 : Int) else n4)
                                                                        else (↑stream.length : Int)).toNat ≤
                                                                      stream.length) ∧
                                                                  XCalls Try.prog (28 : Nat)
                                                                    [V.ptr a1,
                                                                      V.int IntKind.u32
                                                                        (IntKind.u32.wrap
                                                                          (a0 +
                                                                            IntKind.u32.wrap
                                                                              ((IntKind.i64.wrap (n3.tmod (↑stream.length : Int) + (↑stream.length : Int))).tmod (↑stream.length : Int)))),
                                                                      V.str
                                                                        (List.take
                                                                          ((bif
                                                                                  ltI
                                                                                    (IntKind.i64.wrap
                                                                                      ((IntKind.i64.wrap (n3.tmod (↑stream.length : Int) + (↑stream.length : Int))).tmod (↑stream.length : Int) +
                                                                                        bif ltI (300 : Int) (bif ltI n4 (0 : Int) then (0 : Int) else n4) then (300 : Int)
                                                                                        else bif ltI n4 (0 : Int) then (0 : Int) else n4))
                                                                                    (↑stream.length : Int) then
                                                                                IntKind.i64.wrap
                                                                                  ((IntKind.i64.wrap (n3.tmod (↑stream.length : Int) + (↑stream.length : Int))).tmod (↑stream.length : Int) +
                                                                                    bif ltI (300 : Int) (bif ltI n4 (0 : Int) then (0 : Int) else n4) then (300 : Int)
                                                                                    else bif ltI n4 (0 : Int) then (0 : Int) else n4)
                                                                              else (↑stream.length : Int)).toNat -
                                                                            ((IntKind.i64.wrap (n3.tmod (↑stream.length : Int) + (↑stream.length : Int))).tmod (↑stream.length : Int)).toNat)
                                                                          (List.drop ((IntKind.i64.wrap (n3.tmod (↑stream.length : Int) + (↑stream.length : Int))).tmod (↑stream.length : Int)).toNat
                                                                            stream))]
                                                                    h1 fun (v5 : V) (h'5 : Hp) =>
                                                                    ∃ (n5 : Int),
                                                                      v5 = V.int IntKind.i64 n5 ∧
                                                                        [V.int IntKind.u32 a0, V.str stream, V.slc l l_n l_f, V.int IntKind.i64 (IntKind.i64.wrap (IntKind.i64.wrap most + (1 : Int))),
                                                                              V.ptr a1] =
                                                                            [V.int IntKind.u32 a0, V.str stream, V.slc l l_n l_f,
                                                                              V.int IntKind.i64 (IntKind.i64.wrap (IntKind.i64.wrap most + (1 : Int))), V.ptr a1] ∧
                                                                          I1 [V.int IntKind.i64 (IntKind.i64.wrap (n2 + (1 : Int)))] h'5 ∧
                                                                            x1 [V.int IntKind.i64 (IntKind.i64.wrap (n2 + (1 : Int)))] h'5 < x1 [V.int IntKind.i64 n2] h1
                                      else
                                        [V.ptr a1, V.int IntKind.i64 (IntKind.i64.wrap (IntKind.i64.wrap most + (1 : Int))), V.str stream, V.int IntKind.u32 a0] =
                                            [V.ptr a1, V.int IntKind.i64 (IntKind.i64.wrap (IntKind.i64.wrap most + (1 : Int))), V.str stream, V.int IntKind.u32 a0] ∧
                                          Q1 [] h1
                                    else
                                      [V.ptr a1, V.int IntKind.i64 (IntKind.i64.wrap (IntKind.i64.wrap most + (1 : Int))), V.str stream, V.int IntKind.u32 a0] =
                                          [V.ptr a1, V.int IntKind.i64 (IntKind.i64.wrap (IntKind.i64.wrap most + (1 : Int))), V.str stream, V.int IntKind.u32 a0] ∧
                                        Q1 [] h1) ∧
                          ∀ (bs2 : Nat → Option V) (h2 : Hp),
                            Q1 [] h2 →
                              XCalls Try.prog (26 : Nat) [V.ptr a1, V.int IntKind.i64 (IntKind.i64.wrap (IntKind.i64.wrap most + (1 : Int)))] h2 fun (v6 : V) (h'6 : Hp) =>
                                ∃ (s1 : List UInt8),
                                  v6 = V.str s1 ∧
                                    ∃ (Q2 : List V → Hp → Prop),
                                      (∃ (I2 : List V → Hp → Prop),
                                          ∃ (x2 : List V → Hp → Nat),
                                            ([V.int IntKind.u32 a0, V.str stream, V.int IntKind.i64 (IntKind.i64.wrap (IntKind.i64.wrap most + (1 : Int))), V.ptr a1] =
                                                  [V.int IntKind.u32 a0, V.str stream, V.int IntKind.i64 (IntKind.i64.wrap (IntKind.i64.wrap most + (1 : Int))), V.ptr a1] ∧
                                                I2 [V.str s1, V.int IntKind.i64 (0 : Int)] h'6) ∧
                                              ∀ (bs3 : Nat → Option V) (s2 : List UInt8) (n6 : Int) (h3 : Hp),
                                                I2 [V.str s2, V.int IntKind.i64 n6] h3 →
                                                  bif ltI n6 (IntKind.i64.wrap (IntKind.i64.wrap ((2 : Int) * (↑stream.length : Int)) + (2 : Int))) then
                                                    XCalls Try.prog (31 : Nat) [V.ptr a1] h3 fun (v7 : V) (h'7 : Hp) =>
                                                      ∃ (n7 : Int),
                                                        v7 = V.int IntKind.u32 n7 ∧
                                                          bif !ltI (IntKind.i64.wrap (IntKind.u32.wrap (n7 - a0))) (↑stream.length : Int) then
                                                            [V.ptr a1, V.int IntKind.u32 a0, V.str stream] = [V.ptr a1, V.int IntKind.u32 a0, V.str stream] ∧ Q2 [V.str s2] h'7
                                                          else
                                                            (0 : Int) ≤ IntKind.i64.wrap (IntKind.u32.wrap (n7 - a0)) ∧
                                                              (0 : Int) ≤ IntKind.i64.wrap (IntKind.i64.wrap (IntKind.u32.wrap (n7 - a0)) + (1 : Int)) ∧
                                                                ((IntKind.i64.wrap (IntKind.u32.wrap (n7 - a0))).toNat ≤
                                                                      (IntKind.i64.wrap (IntKind.i64.wrap (IntKind.u32.wrap (n7 - a0)) + (1 : Int))).toNat ∧
                                                                    (IntKind.i64.wrap (IntKind.i64.wrap (IntKind.u32.wrap (n7 - a0)) + (1 : Int))).toNat ≤ stream.length) ∧
                                                                  XCalls Try.prog (31 : Nat) [V.ptr a1] h'7 fun (v8 : V) (h'8 : Hp) =>
                                                                    ∃ (n8 : Int),
                                                                      v8 = V.int IntKind.u32 n8 ∧
                                                                        ((0 : Int) ≤ IntKind.i64.wrap (IntKind.u32.wrap (n7 - a0)) ∧
                                                                            (0 : Int) ≤ IntKind.i64.wrap (IntKind.i64.wrap (IntKind.u32.wrap (n7 - a0)) + (1 : Int)) ∧
                                                                              ((IntKind.i64.wrap (IntKind.u32.wrap (n7 - a0))).toNat ≤
                                                                                    (IntKind.i64.wrap (IntKind.i64.wrap (IntKind.u32.wrap (n7 - a0)) + (1 : Int))).toNat ∧
                                                                                  (IntKind.i64.wrap (IntKind.i64.wrap (IntKind.u32.wrap (n7 - a0)) + (1 : Int))).toNat ≤ stream.length) ∧
                                                                                V.str
                                                                                    (List.take
                                                                                      ((IntKind.i64.wrap (IntKind.i64.wrap (IntKind.u32.wrap (n7 - a0)) + (1 : Int))).toNat -
                                                                                        (IntKind.i64.wrap (IntKind.u32.wrap (n7 - a0))).toNat)
                                                                                      (List.drop (IntKind.i64.wrap (IntKind.u32.wrap (n7 - a0))).toNat stream)) =
                                                                                  V.str
                                                                                    (List.take
                                                                                      ((IntKind.i64.wrap (IntKind.i64.wrap (IntKind.u32.wrap (n7 - a0)) + (1 : Int))).toNat -
                                                                                        (IntKind.i64.wrap (IntKind.u32.wrap (n7 - a0))).toNat)
                                                                                      (List.drop (IntKind.i64.wrap (IntKind.u32.wrap (n7 - a0))).toNat stream))) ∧
                                                                          V.int IntKind.i64 (IntKind.i64.wrap (IntKind.i64.wrap (IntKind.u32.wrap (n7 - a0)) + (1 : Int))) =
                                                                              V.int IntKind.i64 (IntKind.i64.wrap (IntKind.i64.wrap (IntKind.u32.wrap (n7 - a0)) + (1 : Int))) ∧
                                                                            V.int IntKind.i64 (IntKind.i64.wrap (IntKind.u32.wrap (n7 - a0))) =
                                                                                V.int IntKind.i64 (IntKind.i64.wrap (IntKind.u32.wrap (n7 - a0))) ∧
                                                                              V.int IntKind.i64 (IntKind.i64.wrap (IntKind.u32.wrap (n7 - a0))) =
                                                                                  V.int IntKind.i64 (IntKind.i64.wrap (IntKind.u32.wrap (n7 - a0))) ∧
                                                                                V.str stream = V.str stream ∧
                                                                                  V.ptr a1 = V.ptr a1 ∧
                                                                                    XCalls Try.prog (28 : Nat)
                                                                                      [V.ptr a1, V.int IntKind.u32 n8,
                                                                                        V.str
                                                                                          (List.take
                                                                                            ((IntKind.i64.wrap (IntKind.i64.wrap (IntKind.u32.wrap (n7 - a0)) + (1 : Int))).toNat -
                                                                                              (IntKind.i64.wrap (IntKind.u32.wrap (n7 - a0))).toNat)
                                                                                            (List.drop (IntKind.i64.wrap (IntKind.u32.wrap (n7 - a0))).toNat stream))]
                                                                                      h'8 fun (v9 : V) (h'9 : Hp) =>
                                                                                      ∃ (n9 : Int),
                                                                                        v9 = V.int IntKind.i64 n9 ∧
                                                                                          bif n9 == (0 : Int) then K (V.bool false) h'9
                                                                                          else
                                                                                            XCalls Try.prog (26 : Nat)
                                                                                              [V.ptr a1, V.int IntKind.i64 (IntKind.i64.wrap (IntKind.i64.wrap most + (1 : Int)))] h'9
                                                                                              fun (v10 : V) (h'10 : Hp) =>
                                                                                              ∃ (s3 : List UInt8),
                                                                                                v10 = V.str s3 ∧
                                                                                                  s2.length + s3.length ≤ (9223372036854775807 : Nat) ∧
                                                                                                    [V.int IntKind.u32 a0, V.str stream,
                                                                                                          V.int IntKind.i64 (IntKind.i64.wrap (IntKind.i64.wrap most + (1 : Int))), V.ptr a1] =
                                                                                                        [V.int IntKind.u32 a0, V.str stream,
                                                                                                          V.int IntKind.i64 (IntKind.i64.wrap (IntKind.i64.wrap most + (1 : Int))), V.ptr a1] ∧
                                                                                                      I2 [V.str (s2 ++ s3), V.int IntKind.i64 (IntKind.i64.wrap (n6 + (1 : Int)))] h'10 ∧
                                                                                                        x2 [V.str (s2 ++ s3), V.int IntKind.i64 (IntKind.i64.wrap (n6 + (1 : Int)))] h'10 <
                                                                                                          x2 [V.str s2, V.int IntKind.i64 n6] h3
                                                  else [V.ptr a1, V.int IntKind.u32 a0, V.str stream] = [V.ptr a1, V.int IntKind.u32 a0, V.str stream] ∧ Q2 [V.str s2] h3) ∧
                                        ∀ (bs4 : Nat → Option V) (s4 : List UInt8) (h4 : Hp),
                                          Q2 [V.str s4] h4 →
                                            XCalls Try.prog (27 : Nat) [V.ptr a1, V.int IntKind.u32 (IntKind.u32.wrap (a0 + IntKind.u32.wrap (↑stream.length : Int)))] h4 fun (v11 : V) (h'11 : Hp) =>
                                              ∃ (b4 : Bool),
                                                v11 = V.bool b4 ∧
                                                  bif s4 == stream then
                                                    bif b4 then
                                                      XCalls Try.prog (32 : Nat) [V.ptr a1] h'11 fun (v12 : V) (h'12 : Hp) =>
                                                        ∃ (b5 : Bool),
                                                          v12 = V.bool b5 ∧
                                                            bif b5 then
                                                              XCalls Try.prog (33 : Nat) [V.ptr a1] h'12 fun (v13 : V) (h'13 : Hp) =>
                                                                ∃ (a2 : Option (Nat × Nat)),
                                                                  ∃ (n10 : Nat),
                                                                    ∃ (f1 : Bool),
                                                                      v13 = V.slc a2 n10 f1 ∧
                                                                        bif (↑n10 : Int) == (0 : Int) then
                                                                          XCalls Try.prog (10 : Nat) [] h'13 fun (v14 : V) (h'14 : Hp) => ∃ (b6 : Bool), v14 = V.bool b6 ∧ K (V.bool b6) h'14
                                                                        else K (V.bool false) h'13
                                                            else K (V.bool false) h'12
                                                    else K (V.bool false) h'11
                                                  else K (V.bool false) h'11
theorem y6 (h : Hp) (K : V → Hp → Prop) (a0 : Int) (most : Int) (stream : List UInt8) (l : Option (Nat × Nat)) (l_n : Nat) (l_f : Bool) : X6 h K a0 most stream l l_n l_f = fnX Try.prog T F jl6 jj6 Try.f6 [V.int IntKind.u32 a0, V.int IntKind.u8 most, V.str stream, V.slc l l_n l_f] h K := by kernel_rfl
theorem x6 {h : Hp} {K : V → Hp → Prop} (a0 : Int) (most : Int) (stream : List UInt8) (l : Option (Nat × Nat)) (l_n : Nat) (l_f : Bool) (hx : X6 h K a0 most stream l l_n l_f) : XCalls Try.prog 6 [V.int IntKind.u32 a0, V.int IntKind.u8 most, V.str stream, V.slc l l_n l_f] h K :=
  XCalls.ofX tok fok mixed (JL := jl6) (JJ := jj6) Try.func6 ((y6 h K a0 most stream l l_n l_f) ▸ hx)
end Go.Vex
