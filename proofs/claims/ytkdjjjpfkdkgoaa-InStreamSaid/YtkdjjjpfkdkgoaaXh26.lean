/-
  InStream (printed by VexPrint).
-/
import Derived.Test.YtkdjjjpfkdkgoaaVexX
import Derived.Test.YtkdjjjpfkdkgoaaTab26
set_option linter.unusedVariables false
set_option maxRecDepth 100000
namespace Go.Vex
open Go.Proofs
/-! 24: stevedore/stevedorelaw26.pieces -/
-- loop 3: stays l(0); turns n(3), i(4)
-- join 6: stays l(0); turns n(3)
def jl24 : Nat → Option JT := fun r => bif Nat.beq r 3 then some ⟨[0], [3, 4], [V.int IntKind.i64 (0 : Int), V.int IntKind.i64 (0 : Int)]⟩ else none
def jj24 : Nat → Option JT := fun r => bif Nat.beq r 6 then some ⟨[0], [3], [V.int IntKind.i64 (0 : Int)]⟩ else none
def X24 (h : Hp) (K : V → Hp → Prop) (l : Option (Nat × Nat)) (l_n : Nat) (l_f : Bool) : Prop :=
  ∃ (Q1 : List V → Hp → Prop),
  (∃ (I1 : List V → Hp → Prop),
      ∃ (x1 : List V → Hp → Nat),
        ([V.slc l l_n l_f] = [V.slc l l_n l_f] ∧ I1 [V.int IntKind.i64 (0 : Int), V.int IntKind.i64 (0 : Int)] h) ∧
          ∀ (bs1 : Nat → Option V) (n1 n2 : Int) (h1 : Hp),
            I1 [V.int IntKind.i64 n1, V.int IntKind.i64 n2] h1 →
              bif ltI n2 (↑l_n : Int) then
                bif ltI n2 (500 : Int) then
                  ((0 : Int) ≤ n2 ∧ n2 < (↑l_n : Int)) ∧
                    onS l fun (i1 o1 : Nat) =>
                      ∃ (s1 : List UInt8),
                        h1.ld i1 (o1 + n2.toNat * (5 : Nat) + (4 : Nat)) = some (V.str s1) ∧
                          [V.slc l l_n l_f] = [V.slc l l_n l_f] ∧
                            I1 [V.int IntKind.i64 (IntKind.i64.wrap (n1 + (↑s1.length : Int))), V.int IntKind.i64 (IntKind.i64.wrap (n2 + (1 : Int)))] h1 ∧
                              x1 [V.int IntKind.i64 (IntKind.i64.wrap (n1 + (↑s1.length : Int))), V.int IntKind.i64 (IntKind.i64.wrap (n2 + (1 : Int)))] h1 <
                                x1 [V.int IntKind.i64 n1, V.int IntKind.i64 n2] h1
                else [V.slc l l_n l_f] = [V.slc l l_n l_f] ∧ Q1 [V.int IntKind.i64 n1] h1
              else [V.slc l l_n l_f] = [V.slc l l_n l_f] ∧ Q1 [V.int IntKind.i64 n1] h1) ∧
    ∀ (bs2 : Nat → Option V) (n3 : Int) (h2 : Hp), Q1 [V.int IntKind.i64 n3] h2 → bif ltI (200 : Int) (↑l_n : Int) then K (V.bool true) h2 else K (V.bool (ltI (4096 : Int) n3)) h2
theorem y24 (h : Hp) (K : V → Hp → Prop) (l : Option (Nat × Nat)) (l_n : Nat) (l_f : Bool) : X24 h K l l_n l_f = fnX Try.prog T F jl24 jj24 Try.f24 [V.slc l l_n l_f] h K := by kernel_rfl
theorem x24 {h : Hp} {K : V → Hp → Prop} (l : Option (Nat × Nat)) (l_n : Nat) (l_f : Bool) (hx : X24 h K l l_n l_f) : XCalls Try.prog 24 [V.slc l l_n l_f] h K :=
  XCalls.ofX tok fok mixed (JL := jl24) (JJ := jj24) Try.func24 ((y24 h K l l_n l_f) ▸ hx)
/-! 5: stevedore/stevedorelaw26.InStream -/
-- loop 9: stays from(0), stream(2), l(3), n(9), i(10); turns got(12), k(13)
-- join 21: stays stream(2), i(10), n(9), from(0), k(13), l(3); turns got(12)
-- join 15: stays stream(2), p(14), got(12), i(10), n(9), from(0), k(13), l(3); turns at(15)
def jl5 : Nat → Option JT := fun r => bif Nat.beq r 9 then some ⟨[0, 2, 3, 9, 10], [12, 13], [V.str [], V.int IntKind.i64 (0 : Int)]⟩ else none
def jj5 : Nat → Option JT := fun r => bif Nat.beq r 21 then some ⟨[2, 10, 9, 0, 13, 3], [12], [V.str []]⟩ else bif Nat.beq r 15 then some ⟨[2, 14, 12, 10, 9, 0, 13, 3], [15], [V.int IntKind.i64 (0 : Int)]⟩ else none
def X5 (h : Hp) (K : V → Hp → Prop) (a0 : Int) (most : Int) (stream : List UInt8) (l : Option (Nat × Nat)) (l_n : Nat) (l_f : Bool) : Prop :=
  bif ltI (4096 : Int) (↑stream.length : Int) then XCalls Try.prog (10 : Nat) [] h fun (v1 : V) (h'1 : Hp) => ∃ (b1 : Bool), v1 = V.bool b1 ∧ K (V.bool b1) h'1
else
  XCalls Try.prog (24 : Nat) [V.slc l l_n l_f] h fun (v2 : V) (h'2 : Hp) =>
    ∃ (b2 : Bool),
      v2 = V.bool b2 ∧
        bif b2 then XCalls Try.prog (10 : Nat) [] h'2 fun (v3 : V) (h'3 : Hp) => ∃ (b3 : Bool), v3 = V.bool b3 ∧ K (V.bool b3) h'3
        else
          XCalls Try.prog (25 : Nat) [V.int IntKind.u32 a0, V.int IntKind.i64 (IntKind.i64.wrap (IntKind.i64.wrap most + (1 : Int)))] h'2 fun (v4 : V) (h'4 : Hp) =>
            ∃ (a1 : Option (Nat × Nat)),
              ∃ (n1 : Int),
                v4 = V.tup [V.ptr a1, V.int IntKind.i64 n1] ∧
                  bif n1 != (0 : Int) then K (V.bool false) h'4
                  else
                    bif a1.isNone then K (V.bool false) h'4
                    else
                      ∃ (I1 : List V → Hp → Prop),
                        ∃ (x1 : List V → Hp → Nat),
                          ([V.int IntKind.u32 a0, V.str stream, V.slc l l_n l_f, V.int IntKind.i64 (IntKind.i64.wrap (IntKind.i64.wrap most + (1 : Int))), V.ptr a1] =
                                [V.int IntKind.u32 a0, V.str stream, V.slc l l_n l_f, V.int IntKind.i64 (IntKind.i64.wrap (IntKind.i64.wrap most + (1 : Int))), V.ptr a1] ∧
                              I1 [V.str [], V.int IntKind.i64 (0 : Int)] h'4) ∧
                            ∀ (bs1 : Nat → Option V) (s1 : List UInt8) (n2 : Int) (h1 : Hp),
                              I1 [V.str s1, V.int IntKind.i64 n2] h1 →
                                bif ltI n2 (↑l_n : Int) then
                                  ((0 : Int) ≤ n2 ∧ n2 < (↑l_n : Int)) ∧
                                    onS l fun (i1 o1 : Nat) =>
                                      ∃ (b4 : Bool),
                                        ∃ (b5 : Bool),
                                          ∃ (n3 : Int),
                                            ∃ (n4 : Int),
                                              ∃ (s2 : List UInt8),
                                                h1.lda i1 (o1 + n2.toNat * (5 : Nat)) (5 : Nat) = some (V.agg [V.bool b4, V.bool b5, V.int IntKind.i64 n3, V.int IntKind.i64 n4, V.str s2]) ∧
                                                  ∀ (h'5 : Hp),
                                                    h'5 = h1.alloc (O.row [V.bool false, V.bool false, V.int IntKind.i64 (0 : Int), V.int IntKind.i64 (0 : Int), V.str []] (1 : Nat) false) →
                                                      ∃ (h'6 : Hp),
                                                        h'5.st h1.next (0 : Nat) [V.bool b4, V.bool b5, V.int IntKind.i64 n3, V.int IntKind.i64 n4, V.str s2] = some h'6 ∧
                                                          ∃ (Q1 : List V → Hp → Prop),
                                                            (bif ltI (0 : Int) (↑stream.length : Int) then
                                                                ∃ (n5 : Int),
                                                                  h'6.ld h1.next (2 : Nat) = some (V.int IntKind.i64 n5) ∧
                                                                    ¬(↑stream.length : Int) = (0 : Int) ∧
                                                                      ¬(↑stream.length : Int) = (0 : Int) ∧
                                                                        [V.str stream, V.ptr (some (h1.next, (0 : Nat))), V.str s1, V.ptr a1,
                                                                              V.int IntKind.i64 (IntKind.i64.wrap (IntKind.i64.wrap most + (1 : Int))), V.int IntKind.u32 a0, V.int IntKind.i64 n2,
                                                                              V.slc l l_n l_f] =
                                                                            [V.str stream, V.ptr (some (h1.next, (0 : Nat))), V.str s1, V.ptr a1,
                                                                              V.int IntKind.i64 (IntKind.i64.wrap (IntKind.i64.wrap most + (1 : Int))), V.int IntKind.u32 a0, V.int IntKind.i64 n2,
                                                                              V.slc l l_n l_f] ∧
                                                                          Q1
                                                                            [V.int IntKind.i64
                                                                                ((IntKind.i64.wrap (n5.tmod (↑stream.length : Int) + (↑stream.length : Int))).tmod (↑stream.length : Int))]
                                                                            h'6
                                                              else
                                                                [V.str stream, V.ptr (some (h1.next, (0 : Nat))), V.str s1, V.ptr a1,
                                                                      V.int IntKind.i64 (IntKind.i64.wrap (IntKind.i64.wrap most + (1 : Int))), V.int IntKind.u32 a0, V.int IntKind.i64 n2,
                                                                      V.slc l l_n l_f] =
                                                                    [V.str stream, V.ptr (some (h1.next, (0 : Nat))), V.str s1, V.ptr a1,
                                                                      V.int IntKind.i64 (IntKind.i64.wrap (IntKind.i64.wrap most + (1 : Int))), V.int IntKind.u32 a0, V.int IntKind.i64 n2,
                                                                      V.slc l l_n l_f] ∧
                                                                  Q1 [V.int IntKind.i64 (0 : Int)] h'6) ∧
                                                              ∀ (bs2 : Nat → Option V) (n6 : Int) (h2 : Hp),
                                                                Q1 [V.int IntKind.i64 n6] h2 →
                                                                  ∃ (n7 : Int),
                                                                    h2.ld h1.next (3 : Nat) = some (V.int IntKind.i64 n7) ∧
                                                                      ∃ (Q2 : List V → Hp → Prop),
                                                                        (∃ (b6 : Bool),
                                                                            h2.ld h1.next (0 : Nat) = some (V.bool b6) ∧
                                                                              bif b6 then
                                                                                ∃ (n8 : Int),
                                                                                  h2.ld h1.next (3 : Nat) = some (V.int IntKind.i64 n8) ∧
                                                                                    XCalls Try.prog (26 : Nat) [V.ptr a1, V.int IntKind.i64 n8] h2 fun (v5 : V) (h'7 : Hp) =>
                                                                                      ∃ (s3 : List UInt8),
                                                                                        v5 = V.str s3 ∧
                                                                                          s1.length + s3.length ≤ (9223372036854775807 : Nat) ∧
                                                                                            [V.str stream, V.ptr a1, V.int IntKind.i64 (IntKind.i64.wrap (IntKind.i64.wrap most + (1 : Int))),
                                                                                                  V.int IntKind.u32 a0, V.int IntKind.i64 n2, V.slc l l_n l_f] =
                                                                                                [V.str stream, V.ptr a1, V.int IntKind.i64 (IntKind.i64.wrap (IntKind.i64.wrap most + (1 : Int))),
                                                                                                  V.int IntKind.u32 a0, V.int IntKind.i64 n2, V.slc l l_n l_f] ∧
                                                                                              Q2 [V.str (s1 ++ s3)] h'7
                                                                              else
                                                                                ∃ (b7 : Bool),
                                                                                  h2.ld h1.next (1 : Nat) = some (V.bool b7) ∧
                                                                                    bif b7 then
                                                                                      XCalls Try.prog (27 : Nat)
                                                                                        [V.ptr a1, V.int IntKind.u32 (IntKind.u32.wrap (a0 + IntKind.u32.wrap (↑stream.length : Int)))] h2
                                                                                        fun (v6 : V) (h'8 : Hp) =>
                                                                                        ∃ (b8 : Bool),
                                                                                          v6 = V.bool b8 ∧
                                                                                            [V.str stream, V.ptr a1, V.int IntKind.i64 (IntKind.i64.wrap (IntKind.i64.wrap most + (1 : Int))),
                                                                                                  V.int IntKind.u32 a0, V.int IntKind.i64 n2, V.slc l l_n l_f] =
                                                                                                [V.str stream, V.ptr a1, V.int IntKind.i64 (IntKind.i64.wrap (IntKind.i64.wrap most + (1 : Int))),
                                                                                                  V.int IntKind.u32 a0, V.int IntKind.i64 n2, V.slc l l_n l_f] ∧
                                                                                              Q2 [V.str s1] h'8
                                                                                    else
                                                                                      (0 : Int) ≤ n6 ∧
                                                                                        ((0 : Int) ≤
                                                                                            bif
                                                                                                ltI
                                                                                                  (IntKind.i64.wrap
                                                                                                    (n6 +
                                                                                                      bif ltI (300 : Int) (bif ltI n7 (0 : Int) then (0 : Int) else n7) then (300 : Int)
                                                                                                      else bif ltI n7 (0 : Int) then (0 : Int) else n7))
                                                                                                  (↑stream.length : Int) then
                                                                                              IntKind.i64.wrap
                                                                                                (n6 +
                                                                                                  bif ltI (300 : Int) (bif ltI n7 (0 : Int) then (0 : Int) else n7) then (300 : Int)
                                                                                                  else bif ltI n7 (0 : Int) then (0 : Int) else n7)
                                                                                            else (↑stream.length : Int)) ∧
                                                                                          (n6.toNat ≤
                                                                                                (bif
                                                                                                      ltI
                                                                                                        (IntKind.i64.wrap
                                                                                                          (n6 +
                                                                                                            bif ltI (300 : Int) (bif ltI n7 (0 : Int) then (0 : Int) else n7) then (300 : Int)
                                                                                                            else bif ltI n7 (0 : Int) then (0 : Int) else n7))
                                                                                                        (↑stream.length : Int) then
                                                                                                    IntKind.i64.wrap
                                                                                                      (n6 +
                                                                                                        bif ltI (300 : Int) (bif ltI n7 (0 : Int) then (0 : Int) else n7) then (300 : Int)
                                                                                                        else bif ltI n7 (0 : Int) then (0 : Int) else n7)
                                                                                                  else (↑stream.length : Int)).toNat ∧
                                                                                              (bif
                                                                                                      ltI
                                                                                                        (IntKind.i64.wrap
                                                                                                          (n6 +
                                                                                                            bif ltI (300 : Int) (bif ltI n7 (0 : Int) then (0 : Int) else n7) then (300 : Int)
                                                                                                            else bif ltI n7 (0 : Int) then (0 : Int) else n7))
                                                                                                        (↑stream.length : Int) then
                                                                                                    IntKind.i64.wrap
                                                                                                      (n6 +
                                                                                                        bif ltI (300 : Int) (bif ltI n7 (0 : Int) then (0 : Int) else n7) then (300 : Int)
                                                                                                        else bif ltI n7 (0 : Int) then (0 : Int) else n7)
                                                                                                  else (↑stream.length : Int)).toNat ≤
                                                                                                stream.length) ∧
                                                                                            XCalls Try.prog (28 : Nat)
                                                                                              [V.ptr a1, V.int IntKind.u32 (IntKind.u32.wrap (a0 + IntKind.u32.wrap n6)),
                                                                                                V.str
                                                                                                  (List.take
                                                                                                    ((bif
                                                                                                            ltI
                                                                                                              (IntKind.i64.wrap
                                                                                                                (n6 +
                                                                                                                  bif ltI (300 : Int) (bif ltI n7 (0 : Int) then (0 : Int) else n7) then (300 : Int)
                                                                                                                  else bif ltI n7 (0 : Int) then (0 : Int) else n7))
                                                                                                              (↑stream.length : Int) then
                                                                                                          IntKind.i64.wrap
                                                                                                            (n6 +
                                                                                                              bif ltI (300 : Int) (bif ltI n7 (0 : Int) then (0 : Int) else n7) then (300 : Int)
                                                                                                              else bif ltI n7 (0 : Int) then (0 : Int) else n7)
                                                                                                        else (↑stream.length : Int)).toNat -
                                                                                                      n6.toNat)
                                                                                                    (List.drop n6.toNat stream))]
                                                                                              h2 fun (v7 : V) (h'9 : Hp) =>
                                                                                              ∃ (n9 : Int),
                                                                                                v7 = V.int IntKind.i64 n9 ∧
                                                                                                  [V.str stream, V.ptr a1, V.int IntKind.i64 (IntKind.i64.wrap (IntKind.i64.wrap most + (1 : Int))),
                                                                                                        V.int IntKind.u32 a0, V.int IntKind.i64 n2, V.slc l l_n l_f] =
                                                                                                      [V.str stream, V.ptr a1, V.int IntKind.i64 (IntKind.i64.wrap (IntKind.i64.wrap most + (1 : Int))),
                                                                                                        V.int IntKind.u32 a0, V.int IntKind.i64 n2, V.slc l l_n l_f] ∧
                                                                                                    Q2 [V.str s1] h'9) ∧
                                                                          ∀ (bs3 : Nat → Option V) (s4 : List UInt8) (h3 : Hp),
                                                                            Q2 [V.str s4] h3 →
                                                                              bif ltI (↑stream.length : Int) (↑s4.length : Int) then K (V.bool false) h3
                                                                              else
                                                                                (0 : Int) ≤ (↑s4.length : Int) ∧
                                                                                  ((0 : Nat) ≤ (↑s4.length : Int).toNat ∧ (↑s4.length : Int).toNat ≤ stream.length) ∧
                                                                                    bif !s4 == List.take ((↑s4.length : Int).toNat - (0 : Nat)) (List.drop (0 : Nat) stream) then K (V.bool false) h3
                                                                                    else
                                                                                      XCalls Try.prog (29 : Nat) [V.ptr a1] h3 fun (v8 : V) (h'10 : Hp) =>
                                                                                        ∃ (n10 : Int),
                                                                                          v8 = V.int IntKind.i64 n10 ∧
                                                                                            bif ltI (IntKind.i64.wrap (IntKind.i64.wrap most + (1 : Int))) n10 then K (V.bool false) h'10
                                                                                            else
                                                                                              XCalls Try.prog (30 : Nat) [V.ptr a1] h'10 fun (v9 : V) (h'11 : Hp) =>
                                                                                                ∃ (n11 : Int),
                                                                                                  v9 = V.int IntKind.i64 n11 ∧
                                                                                                    XCalls Try.prog (29 : Nat) [V.ptr a1] h'11 fun (v10 : V) (h'12 : Hp) =>
                                                                                                      ∃ (n12 : Int),
                                                                                                        v10 = V.int IntKind.i64 n12 ∧
                                                                                                          bif n11 != IntKind.i64.wrap (IntKind.i64.wrap (IntKind.i64.wrap most + (1 : Int)) - n12) then
                                                                                                            K (V.bool false) h'12
                                                                                                          else
                                                                                                            XCalls Try.prog (31 : Nat) [V.ptr a1] h'12 fun (v11 : V) (h'13 : Hp) =>
                                                                                                              ∃ (n13 : Int),
                                                                                                                v11 = V.int IntKind.u32 n13 ∧
                                                                                                                  XCalls Try.prog (29 : Nat) [V.ptr a1] h'13 fun (v12 : V) (h'14 : Hp) =>
                                                                                                                    ∃ (n14 : Int),
                                                                                                                      v12 = V.int IntKind.i64 n14 ∧
                                                                                                                        bif
                                                                                                                            n13 !=
                                                                                                                              IntKind.u32.wrap
                                                                                                                                (a0 +
                                                                                                                                  IntKind.u32.wrap (IntKind.i64.wrap ((↑s4.length : Int) + n14))) then
                                                                                                                          K (V.bool false) h'14
                                                                                                                        else
                                                                                                                          XCalls Try.prog (32 : Nat) [V.ptr a1] h'14 fun (v13 : V) (h'15 : Hp) =>
                                                                                                                            ∃ (b9 : Bool),
                                                                                                                              v13 = V.bool b9 ∧
                                                                                                                                bif b9 then
                                                                                                                                  bif !s4 == stream then K (V.bool false) h'15
                                                                                                                                  else
                                                                                                                                    [V.int IntKind.u32 a0, V.str stream, V.slc l l_n l_f,
                                                                                                                                          V.int IntKind.i64
                                                                                                                                            (IntKind.i64.wrap (IntKind.i64.wrap most + (1 : Int))),
                                                                                                                                          V.ptr a1] =
                                                                                                                                        [V.int IntKind.u32 a0, V.str stream, V.slc l l_n l_f,
                                                                                                                                          V.int IntKind.i64
                                                                                                                                            (IntKind.i64.wrap (IntKind.i64.wrap most + (1 : Int))),
                                                                                                                                          V.ptr a1] ∧
                                                                                                                                      I1
                                                                                                                                          [V.str s4,
                                                                                                                                            V.int IntKind.i64 (IntKind.i64.wrap (n2 + (1 : Int)))]
                                                                                                                                          h'15 ∧
                                                                                                                                        x1
                                                                                                                                            [V.str s4,
                                                                                                                                              V.int IntKind.i64 (IntKind.i64.wrap (n2 + (1 : Int)))]
                                                                                                                                            h'15 <
                                                                                                                                          x1 [V.str s1, V.int IntKind.i64 n2] h1
                                                                                                                                else
                                                                                                                                  [V.int IntKind.u32 a0, V.str stream, V.slc l l_n l_f,
                                                                                                                                        V.int IntKind.i64
                                                                                                                                          (IntKind.i64.wrap (IntKind.i64.wrap most + (1 : Int))),
                                                                                                                                        V.ptr a1] =
                                                                                                                                      [V.int IntKind.u32 a0, V.str stream, V.slc l l_n l_f,
                                                                                                                                        V.int IntKind.i64
                                                                                                                                          (IntKind.i64.wrap (IntKind.i64.wrap most + (1 : Int))),
                                                                                                                                        V.ptr a1] ∧
                                                                                                                                    I1 [V.str s4, V.int IntKind.i64 (IntKind.i64.wrap (n2 + (1 : Int)))]
                                                                                                                                        h'15 ∧
                                                                                                                                      x1
                                                                                                                                          [V.str s4,
                                                                                                                                            V.int IntKind.i64 (IntKind.i64.wrap (n2 + (1 : Int)))]
                                                                                                                                          h'15 <
                                                                                                                                        x1 [V.str s1, V.int IntKind.i64 n2] h1
                                else XCalls Try.prog (10 : Nat) [] h1 fun (v14 : V) (h'16 : Hp) => ∃ (b10 : Bool), v14 = V.bool b10 ∧ K (V.bool b10) h'16
theorem y5 (h : Hp) (K : V → Hp → Prop) (a0 : Int) (most : Int) (stream : List UInt8) (l : Option (Nat × Nat)) (l_n : Nat) (l_f : Bool) : X5 h K a0 most stream l l_n l_f = fnX Try.prog T F jl5 jj5 Try.f5 [V.int IntKind.u32 a0, V.int IntKind.u8 most, V.str stream, V.slc l l_n l_f] h K := by kernel_rfl
theorem x5 {h : Hp} {K : V → Hp → Prop} (a0 : Int) (most : Int) (stream : List UInt8) (l : Option (Nat × Nat)) (l_n : Nat) (l_f : Bool) (hx : X5 h K a0 most stream l l_n l_f) : XCalls Try.prog 5 [V.int IntKind.u32 a0, V.int IntKind.u8 most, V.str stream, V.slc l l_n l_f] h K :=
  XCalls.ofX tok fok mixed (JL := jl5) (JJ := jj5) Try.func5 ((y5 h K a0 most stream l l_n l_f) ▸ hx)
end Go.Vex
