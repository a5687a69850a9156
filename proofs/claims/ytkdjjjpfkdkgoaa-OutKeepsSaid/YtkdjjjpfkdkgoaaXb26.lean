/-
  Functions of layer 26 as statements about data (printed by VexPrint).
-/
import Derived.Test.YtkdjjjpfkdkgoaaVexX
import Derived.Test.YtkdjjjpfkdkgoaaTab26
set_option linter.unusedVariables false
set_option maxRecDepth 100000
namespace Go.Vex
open Go.Proofs
/-! 4: stevedore/stevedorelaw26.OutKeeps -/
-- loop 11: stays from(0), script(2), n(7), o(8); turns all(10), gone(11), sent(12), i(13)
-- join 28: stays o(8), from(0), n(7), i(13), script(2); turns gone(11), all(10), sent(12)
def jl4 : Nat → Option JT := fun r => bif Nat.beq r 11 then some ⟨[0, 2, 7, 8], [10, 11, 12, 13], [V.str [], V.int IntKind.i64 (0 : Int), V.int IntKind.i64 (0 : Int), V.int IntKind.i64 (0 : Int)]⟩ else none
def jj4 : Nat → Option JT := fun r => bif Nat.beq r 28 then some ⟨[8, 0, 7, 13, 2], [11, 10, 12], [V.int IntKind.i64 (0 : Int), V.str [], V.int IntKind.i64 (0 : Int)]⟩ else none
def X4 (h : Hp) (K : V → Hp → Prop) (a0 : Int) (most : Int) (script : Option (Nat × Nat)) (script_n : Nat) (script_f : Bool) : Prop :=
  XCalls Try.prog (9 : Nat) [V.slc script script_n script_f] h fun (v1 : V) (h'1 : Hp) =>
  ∃ (b1 : Bool),
    v1 = V.bool b1 ∧
      bif b1 then XCalls Try.prog (10 : Nat) [] h'1 fun (v2 : V) (h'2 : Hp) => ∃ (b2 : Bool), v2 = V.bool b2 ∧ K (V.bool b2) h'2
      else
        ¬(16384 : Int) = (0 : Int) ∧
          XCalls Try.prog (11 : Nat) [V.int IntKind.u32 a0, V.int IntKind.i64 (IntKind.i64.wrap ((IntKind.i64.wrap most).tmod (16384 : Int) + (1 : Int)))] h'1 fun (v3 : V) (h'3 : Hp) =>
            ∃ (a1 : Option (Nat × Nat)),
              ∃ (n1 : Int),
                v3 = V.tup [V.ptr a1, V.int IntKind.i64 n1] ∧
                  bif n1 != (0 : Int) then K (V.bool false) h'3
                  else
                    bif a1.isNone then K (V.bool false) h'3
                    else
                      ∃ (I1 : List V → Hp → Prop),
                        ∃ (x1 : List V → Hp → Nat),
                          ([V.int IntKind.u32 a0, V.slc script script_n script_f, V.int IntKind.i64 (IntKind.i64.wrap ((IntKind.i64.wrap most).tmod (16384 : Int) + (1 : Int))), V.ptr a1] =
                                [V.int IntKind.u32 a0, V.slc script script_n script_f, V.int IntKind.i64 (IntKind.i64.wrap ((IntKind.i64.wrap most).tmod (16384 : Int) + (1 : Int))), V.ptr a1] ∧
                              I1 [V.str [], V.int IntKind.i64 (0 : Int), V.int IntKind.i64 (0 : Int), V.int IntKind.i64 (0 : Int)] h'3) ∧
                            ∀ (bs1 : Nat → Option V) (s1 : List UInt8) (n2 n3 n4 : Int) (h1 : Hp),
                              I1 [V.str s1, V.int IntKind.i64 n2, V.int IntKind.i64 n3, V.int IntKind.i64 n4] h1 →
                                bif ltI n4 (↑script_n : Int) then
                                  ((0 : Int) ≤ n4 ∧ n4 < (↑script_n : Int)) ∧
                                    onS script fun (i1 o1 : Nat) =>
                                      ∃ (n5 : Int),
                                        ∃ (s2 : List UInt8),
                                          ∃ (n6 : Int),
                                            ∃ (n7 : Int),
                                              h1.lda i1 (o1 + n4.toNat * (4 : Nat)) (4 : Nat) = some (V.agg [V.int IntKind.i64 n5, V.str s2, V.int IntKind.u32 n6, V.int IntKind.i64 n7]) ∧
                                                ∀ (h'4 : Hp),
                                                  h'4 = h1.alloc (O.row [V.int IntKind.i64 (0 : Int), V.str [], V.int IntKind.u32 (0 : Int), V.int IntKind.i64 (0 : Int)] (1 : Nat) false) →
                                                    ∃ (h'5 : Hp),
                                                      h'4.st h1.next (0 : Nat) [V.int IntKind.i64 n5, V.str s2, V.int IntKind.u32 n6, V.int IntKind.i64 n7] = some h'5 ∧
                                                        ∃ (Q1 : List V → Hp → Prop),
                                                          (∃ (n8 : Int),
                                                              h'5.ld h1.next (0 : Nat) = some (V.int IntKind.i64 n8) ∧
                                                                bif n8 == (0 : Int) then
                                                                  ∃ (s3 : List UInt8),
                                                                    h'5.ld h1.next (1 : Nat) = some (V.str s3) ∧
                                                                      XCalls Try.prog (12 : Nat) [V.ptr a1, V.str s3] h'5 fun (v4 : V) (h'6 : Hp) =>
                                                                        ∃ (n9 : Int),
                                                                          v4 = V.int IntKind.i64 n9 ∧
                                                                            bif ltI n9 (0 : Int) then K (V.bool false) h'6
                                                                            else
                                                                              ∃ (s4 : List UInt8),
                                                                                h'6.ld h1.next (1 : Nat) = some (V.str s4) ∧
                                                                                  bif ltI (↑s4.length : Int) n9 then K (V.bool false) h'6
                                                                                  else
                                                                                    ∃ (s5 : List UInt8),
                                                                                      h'6.ld h1.next (1 : Nat) = some (V.str s5) ∧
                                                                                        (0 : Int) ≤ n9 ∧
                                                                                          ((0 : Nat) ≤ n9.toNat ∧ n9.toNat ≤ s5.length) ∧
                                                                                            s1.length + (List.take (n9.toNat - (0 : Nat)) (List.drop (0 : Nat) s5)).length ≤
                                                                                                (9223372036854775807 : Nat) ∧
                                                                                              [V.ptr a1, V.int IntKind.u32 a0,
                                                                                                    V.int IntKind.i64 (IntKind.i64.wrap ((IntKind.i64.wrap most).tmod (16384 : Int) + (1 : Int))),
                                                                                                    V.int IntKind.i64 n4, V.slc script script_n script_f] =
                                                                                                  [V.ptr a1, V.int IntKind.u32 a0,
                                                                                                    V.int IntKind.i64 (IntKind.i64.wrap ((IntKind.i64.wrap most).tmod (16384 : Int) + (1 : Int))),
                                                                                                    V.int IntKind.i64 n4, V.slc script script_n script_f] ∧
                                                                                                Q1
                                                                                                  [V.int IntKind.i64 n2, V.str (s1 ++ List.take (n9.toNat - (0 : Nat)) (List.drop (0 : Nat) s5)),
                                                                                                    V.int IntKind.i64 n3]
                                                                                                  h'6
                                                                else
                                                                  bif n8 == (1 : Int) then
                                                                    ∃ (n10 : Int),
                                                                      h'5.ld h1.next (2 : Nat) = some (V.int IntKind.u32 n10) ∧
                                                                        XCalls Try.prog (18 : Nat) [V.ptr a1] h'5 fun (v5 : V) (h'7 : Hp) =>
                                                                          ∃ (n11 : Int),
                                                                            v5 = V.int IntKind.u32 n11 ∧
                                                                              (∃ (n12 : Int), h'7.ld h1.next (2 : Nat) = some (V.int IntKind.u32 n12) ∧ V.int IntKind.u32 n12 = V.int IntKind.u32 n10) ∧
                                                                                V.ptr (some (h1.next, (2 : Nat))) = V.ptr (some (h1.next, (2 : Nat))) ∧
                                                                                  V.ptr a1 = V.ptr a1 ∧
                                                                                    XCalls Try.prog (14 : Nat) [V.ptr a1, V.int IntKind.u32 (IntKind.u32.wrap (n11 + n10))] h'7
                                                                                      fun (v6 : V) (h'8 : Hp) =>
                                                                                      ∃ (n13 : Int),
                                                                                        v6 = V.int IntKind.i64 n13 ∧
                                                                                          bif n13 == (0 : Int) then
                                                                                            ∃ (n14 : Int),
                                                                                              h'8.ld h1.next (2 : Nat) = some (V.int IntKind.u32 n14) ∧
                                                                                                [V.ptr a1, V.int IntKind.u32 a0,
                                                                                                      V.int IntKind.i64 (IntKind.i64.wrap ((IntKind.i64.wrap most).tmod (16384 : Int) + (1 : Int))),
                                                                                                      V.int IntKind.i64 n4, V.slc script script_n script_f] =
                                                                                                    [V.ptr a1, V.int IntKind.u32 a0,
                                                                                                      V.int IntKind.i64 (IntKind.i64.wrap ((IntKind.i64.wrap most).tmod (16384 : Int) + (1 : Int))),
                                                                                                      V.int IntKind.i64 n4, V.slc script script_n script_f] ∧
                                                                                                  Q1
                                                                                                    [V.int IntKind.i64 n2, V.str s1,
                                                                                                      V.int IntKind.i64
                                                                                                        (bif ltI n3 (IntKind.i64.wrap (n2 + IntKind.i64.wrap n14)) then
                                                                                                          IntKind.i64.wrap (n2 + IntKind.i64.wrap n14)
                                                                                                        else n3)]
                                                                                                    h'8
                                                                                          else
                                                                                            [V.ptr a1, V.int IntKind.u32 a0,
                                                                                                  V.int IntKind.i64 (IntKind.i64.wrap ((IntKind.i64.wrap most).tmod (16384 : Int) + (1 : Int))),
                                                                                                  V.int IntKind.i64 n4, V.slc script script_n script_f] =
                                                                                                [V.ptr a1, V.int IntKind.u32 a0,
                                                                                                  V.int IntKind.i64 (IntKind.i64.wrap ((IntKind.i64.wrap most).tmod (16384 : Int) + (1 : Int))),
                                                                                                  V.int IntKind.i64 n4, V.slc script script_n script_f] ∧
                                                                                              Q1 [V.int IntKind.i64 n2, V.str s1, V.int IntKind.i64 n3] h'8
                                                                  else
                                                                    bif n8 == (2 : Int) then
                                                                      ∃ (n15 : Int),
                                                                        h'5.ld h1.next (2 : Nat) = some (V.int IntKind.u32 n15) ∧
                                                                          XCalls Try.prog (18 : Nat) [V.ptr a1] h'5 fun (v7 : V) (h'9 : Hp) =>
                                                                            ∃ (n16 : Int),
                                                                              v7 = V.int IntKind.u32 n16 ∧
                                                                                (∃ (n17 : Int),
                                                                                    h'9.ld h1.next (2 : Nat) = some (V.int IntKind.u32 n17) ∧ V.int IntKind.u32 n17 = V.int IntKind.u32 n15) ∧
                                                                                  V.ptr (some (h1.next, (2 : Nat))) = V.ptr (some (h1.next, (2 : Nat))) ∧
                                                                                    V.ptr a1 = V.ptr a1 ∧
                                                                                      XCalls Try.prog (16 : Nat) [V.ptr a1, V.int IntKind.u32 (IntKind.u32.wrap (n16 + n15))] h'9
                                                                                        fun (v8 : V) (h'10 : Hp) =>
                                                                                        ∃ (n18 : Int),
                                                                                          ∃ (b3 : Bool),
                                                                                            v8 = V.tup [V.int IntKind.i64 n18, V.bool b3] ∧
                                                                                              ∃ (n19 : Int),
                                                                                                h'10.ld h1.next (2 : Nat) = some (V.int IntKind.u32 n19) ∧
                                                                                                  bif ltI (0 : Int) n19 then
                                                                                                    ∃ (n20 : Int),
                                                                                                      h'10.ld h1.next (2 : Nat) = some (V.int IntKind.u32 n20) ∧
                                                                                                        bif !b3 == !ltI (IntKind.u64.wrap (IntKind.i64.wrap (n3 - n2))) (IntKind.u64.wrap n20) then
                                                                                                          K (V.bool false) h'10
                                                                                                        else
                                                                                                          bif b3 then
                                                                                                            ∃ (n21 : Int),
                                                                                                              h'10.ld h1.next (2 : Nat) = some (V.int IntKind.u32 n21) ∧
                                                                                                                bif n18 != IntKind.i64.wrap n21 then K (V.bool false) h'10
                                                                                                                else
                                                                                                                  bif !b3 then
                                                                                                                    bif n18 != (0 : Int) then K (V.bool false) h'10
                                                                                                                    else
                                                                                                                      [V.ptr a1, V.int IntKind.u32 a0,
                                                                                                                            V.int IntKind.i64
                                                                                                                              (IntKind.i64.wrap
                                                                                                                                ((IntKind.i64.wrap most).tmod (16384 : Int) + (1 : Int))),
                                                                                                                            V.int IntKind.i64 n4, V.slc script script_n script_f] =
                                                                                                                          [V.ptr a1, V.int IntKind.u32 a0,
                                                                                                                            V.int IntKind.i64
                                                                                                                              (IntKind.i64.wrap
                                                                                                                                ((IntKind.i64.wrap most).tmod (16384 : Int) + (1 : Int))),
                                                                                                                            V.int IntKind.i64 n4, V.slc script script_n script_f] ∧
                                                                                                                        Q1
                                                                                                                          [V.int IntKind.i64 (IntKind.i64.wrap (n2 + n18)), V.str s1,
                                                                                                                            V.int IntKind.i64 n3]
                                                                                                                          h'10
                                                                                                                  else
                                                                                                                    [V.ptr a1, V.int IntKind.u32 a0,
                                                                                                                          V.int IntKind.i64
                                                                                                                            (IntKind.i64.wrap ((IntKind.i64.wrap most).tmod (16384 : Int) + (1 : Int))),
                                                                                                                          V.int IntKind.i64 n4, V.slc script script_n script_f] =
                                                                                                                        [V.ptr a1, V.int IntKind.u32 a0,
                                                                                                                          V.int IntKind.i64
                                                                                                                            (IntKind.i64.wrap ((IntKind.i64.wrap most).tmod (16384 : Int) + (1 : Int))),
                                                                                                                          V.int IntKind.i64 n4, V.slc script script_n script_f] ∧
                                                                                                                      Q1
                                                                                                                        [V.int IntKind.i64 (IntKind.i64.wrap (n2 + n18)), V.str s1,
                                                                                                                          V.int IntKind.i64 n3]
                                                                                                                        h'10
                                                                                                          else
                                                                                                            bif !b3 then
                                                                                                              bif n18 != (0 : Int) then K (V.bool false) h'10
                                                                                                              else
                                                                                                                [V.ptr a1, V.int IntKind.u32 a0,
                                                                                                                      V.int IntKind.i64
                                                                                                                        (IntKind.i64.wrap ((IntKind.i64.wrap most).tmod (16384 : Int) + (1 : Int))),
                                                                                                                      V.int IntKind.i64 n4, V.slc script script_n script_f] =
                                                                                                                    [V.ptr a1, V.int IntKind.u32 a0,
                                                                                                                      V.int IntKind.i64
                                                                                                                        (IntKind.i64.wrap ((IntKind.i64.wrap most).tmod (16384 : Int) + (1 : Int))),
                                                                                                                      V.int IntKind.i64 n4, V.slc script script_n script_f] ∧
                                                                                                                  Q1 [V.int IntKind.i64 (IntKind.i64.wrap (n2 + n18)), V.str s1, V.int IntKind.i64 n3]
                                                                                                                    h'10
                                                                                                            else
                                                                                                              [V.ptr a1, V.int IntKind.u32 a0,
                                                                                                                    V.int IntKind.i64
                                                                                                                      (IntKind.i64.wrap ((IntKind.i64.wrap most).tmod (16384 : Int) + (1 : Int))),
                                                                                                                    V.int IntKind.i64 n4, V.slc script script_n script_f] =
                                                                                                                  [V.ptr a1, V.int IntKind.u32 a0,
                                                                                                                    V.int IntKind.i64
                                                                                                                      (IntKind.i64.wrap ((IntKind.i64.wrap most).tmod (16384 : Int) + (1 : Int))),
                                                                                                                    V.int IntKind.i64 n4, V.slc script script_n script_f] ∧
                                                                                                                Q1 [V.int IntKind.i64 (IntKind.i64.wrap (n2 + n18)), V.str s1, V.int IntKind.i64 n3]
                                                                                                                  h'10
                                                                                                  else
                                                                                                    bif !b3 == false then K (V.bool false) h'10
                                                                                                    else
                                                                                                      bif b3 then
                                                                                                        ∃ (n22 : Int),
                                                                                                          h'10.ld h1.next (2 : Nat) = some (V.int IntKind.u32 n22) ∧
                                                                                                            bif n18 != IntKind.i64.wrap n22 then K (V.bool false) h'10
                                                                                                            else
                                                                                                              bif !b3 then
                                                                                                                bif n18 != (0 : Int) then K (V.bool false) h'10
                                                                                                                else
                                                                                                                  [V.ptr a1, V.int IntKind.u32 a0,
                                                                                                                        V.int IntKind.i64
                                                                                                                          (IntKind.i64.wrap ((IntKind.i64.wrap most).tmod (16384 : Int) + (1 : Int))),
                                                                                                                        V.int IntKind.i64 n4, V.slc script script_n script_f] =
                                                                                                                      [V.ptr a1, V.int IntKind.u32 a0,
                                                                                                                        V.int IntKind.i64
                                                                                                                          (IntKind.i64.wrap ((IntKind.i64.wrap most).tmod (16384 : Int) + (1 : Int))),
                                                                                                                        V.int IntKind.i64 n4, V.slc script script_n script_f] ∧
                                                                                                                    Q1 [V.int IntKind.i64 (IntKind.i64.wrap (n2 + n18)), V.str s1, V.int IntKind.i64 n3]
                                                                                                                      h'10
                                                                                                              else
                                                                                                                [V.ptr a1, V.int IntKind.u32 a0,
                                                                                                                      V.int IntKind.i64
                                                                                                                        (IntKind.i64.wrap ((IntKind.i64.wrap most).tmod (16384 : Int) + (1 : Int))),
                                                                                                                      V.int IntKind.i64 n4, V.slc script script_n script_f] =
                                                                                                                    [V.ptr a1, V.int IntKind.u32 a0,
                                                                                                                      V.int IntKind.i64
                                                                                                                        (IntKind.i64.wrap ((IntKind.i64.wrap most).tmod (16384 : Int) + (1 : Int))),
                                                                                                                      V.int IntKind.i64 n4, V.slc script script_n script_f] ∧
                                                                                                                  Q1 [V.int IntKind.i64 (IntKind.i64.wrap (n2 + n18)), V.str s1, V.int IntKind.i64 n3]
                                                                                                                    h'10
                                                                                                      else
                                                                                                        bif !b3 then
                                                                                                          bif n18 != (0 : Int) then K (V.bool false) h'10
                                                                                                          else
                                                                                                            [V.ptr a1, V.int IntKind.u32 a0,
                                                                                                                  V.int IntKind.i64
                                                                                                                    (IntKind.i64.wrap ((IntKind.i64.wrap most).tmod (16384 : Int) + (1 : Int))),
                                                                                                                  V.int IntKind.i64 n4, V.slc script script_n script_f] =
                                                                                                                [V.ptr a1, V.int IntKind.u32 a0,
                                                                                                                  V.int IntKind.i64
                                                                                                                    (IntKind.i64.wrap ((IntKind.i64.wrap most).tmod (16384 : Int) + (1 : Int))),
                                                                                                                  V.int IntKind.i64 n4, V.slc script script_n script_f] ∧
                                                                                                              Q1 [V.int IntKind.i64 (IntKind.i64.wrap (n2 + n18)), V.str s1, V.int IntKind.i64 n3] h'10
                                                                                                        else
                                                                                                          [V.ptr a1, V.int IntKind.u32 a0,
                                                                                                                V.int IntKind.i64
                                                                                                                  (IntKind.i64.wrap ((IntKind.i64.wrap most).tmod (16384 : Int) + (1 : Int))),
                                                                                                                V.int IntKind.i64 n4, V.slc script script_n script_f] =
                                                                                                              [V.ptr a1, V.int IntKind.u32 a0,
                                                                                                                V.int IntKind.i64
                                                                                                                  (IntKind.i64.wrap ((IntKind.i64.wrap most).tmod (16384 : Int) + (1 : Int))),
                                                                                                                V.int IntKind.i64 n4, V.slc script script_n script_f] ∧
                                                                                                            Q1 [V.int IntKind.i64 (IntKind.i64.wrap (n2 + n18)), V.str s1, V.int IntKind.i64 n3] h'10
                                                                    else
                                                                      [V.ptr a1, V.int IntKind.u32 a0, V.int IntKind.i64 (IntKind.i64.wrap ((IntKind.i64.wrap most).tmod (16384 : Int) + (1 : Int))),
                                                                            V.int IntKind.i64 n4, V.slc script script_n script_f] =
                                                                          [V.ptr a1, V.int IntKind.u32 a0,
                                                                            V.int IntKind.i64 (IntKind.i64.wrap ((IntKind.i64.wrap most).tmod (16384 : Int) + (1 : Int))), V.int IntKind.i64 n4,
                                                                            V.slc script script_n script_f] ∧
                                                                        Q1 [V.int IntKind.i64 n2, V.str s1, V.int IntKind.i64 n3] h'5) ∧
                                                            ∀ (bs2 : Nat → Option V) (n23 : Int) (s6 : List UInt8) (n24 : Int) (h2 : Hp),
                                                              Q1 [V.int IntKind.i64 n23, V.str s6, V.int IntKind.i64 n24] h2 →
                                                                bif ltI (↑s6.length : Int) n23 then K (V.bool false) h2
                                                                else
                                                                  XCalls Try.prog (18 : Nat) [V.ptr a1] h2 fun (v9 : V) (h'11 : Hp) =>
                                                                    ∃ (n25 : Int),
                                                                      v9 = V.int IntKind.u32 n25 ∧
                                                                        V.int IntKind.u32 (IntKind.u32.wrap (a0 + IntKind.u32.wrap n23)) =
                                                                            V.int IntKind.u32 (IntKind.u32.wrap (a0 + IntKind.u32.wrap n23)) ∧
                                                                          V.int IntKind.u32 (IntKind.u32.wrap n23) = V.int IntKind.u32 (IntKind.u32.wrap n23) ∧
                                                                            V.int IntKind.i64 n23 = V.int IntKind.i64 n23 ∧
                                                                              V.int IntKind.u32 a0 = V.int IntKind.u32 a0 ∧
                                                                                bif n25 != IntKind.u32.wrap (a0 + IntKind.u32.wrap n23) then K (V.bool false) h'11
                                                                                else
                                                                                  XCalls Try.prog (20 : Nat) [V.ptr a1] h'11 fun (v10 : V) (h'12 : Hp) =>
                                                                                    ∃ (n26 : Int),
                                                                                      v10 = V.int IntKind.u32 n26 ∧
                                                                                        V.int IntKind.u32 (IntKind.u32.wrap (a0 + IntKind.u32.wrap (↑s6.length : Int))) =
                                                                                            V.int IntKind.u32 (IntKind.u32.wrap (a0 + IntKind.u32.wrap (↑s6.length : Int))) ∧
                                                                                          V.int IntKind.u32 (IntKind.u32.wrap (↑s6.length : Int)) =
                                                                                              V.int IntKind.u32 (IntKind.u32.wrap (↑s6.length : Int)) ∧
                                                                                            V.int IntKind.i64 (↑s6.length : Int) = V.int IntKind.i64 (↑s6.length : Int) ∧
                                                                                              V.str s6 = V.str s6 ∧
                                                                                                V.int IntKind.u32 a0 = V.int IntKind.u32 a0 ∧
                                                                                                  bif n26 != IntKind.u32.wrap (a0 + IntKind.u32.wrap (↑s6.length : Int)) then K (V.bool false) h'12
                                                                                                  else
                                                                                                    XCalls Try.prog (19 : Nat) [V.ptr a1] h'12 fun (v11 : V) (h'13 : Hp) =>
                                                                                                      ∃ (n27 : Int),
                                                                                                        v11 = V.int IntKind.u32 n27 ∧
                                                                                                          V.int IntKind.u32 (IntKind.u32.wrap (a0 + IntKind.u32.wrap n24)) =
                                                                                                              V.int IntKind.u32 (IntKind.u32.wrap (a0 + IntKind.u32.wrap n24)) ∧
                                                                                                            V.int IntKind.u32 (IntKind.u32.wrap n24) = V.int IntKind.u32 (IntKind.u32.wrap n24) ∧
                                                                                                              V.int IntKind.i64 n24 = V.int IntKind.i64 n24 ∧
                                                                                                                V.int IntKind.u32 a0 = V.int IntKind.u32 a0 ∧
                                                                                                                  bif n27 != IntKind.u32.wrap (a0 + IntKind.u32.wrap n24) then K (V.bool false) h'13
                                                                                                                  else
                                                                                                                    (0 : Int) ≤ n23 ∧
                                                                                                                      (n23.toNat ≤ s6.length ∧ s6.length ≤ s6.length) ∧
                                                                                                                        XCalls Try.prog (18 : Nat) [V.ptr a1] h'13 fun (v12 : V) (h'14 : Hp) =>
                                                                                                                          ∃ (n28 : Int),
                                                                                                                            v12 = V.int IntKind.u32 n28 ∧
                                                                                                                              ((0 : Int) ≤ n23 ∧
                                                                                                                                  (n23.toNat ≤ s6.length ∧ s6.length ≤ s6.length) ∧
                                                                                                                                    V.str (List.take (s6.length - n23.toNat) (List.drop n23.toNat s6)) =
                                                                                                                                      V.str
                                                                                                                                        (List.take (s6.length - n23.toNat) (List.drop n23.toNat s6))) ∧
                                                                                                                                V.int IntKind.i64 n23 = V.int IntKind.i64 n23 ∧
                                                                                                                                  V.str s6 = V.str s6 ∧
                                                                                                                                    V.int IntKind.i64
                                                                                                                                          (IntKind.i64.wrap
                                                                                                                                            ((IntKind.i64.wrap most).tmod (16384 : Int) + (1 : Int))) =
                                                                                                                                        V.int IntKind.i64
                                                                                                                                          (IntKind.i64.wrap
                                                                                                                                            ((IntKind.i64.wrap most).tmod (16384 : Int) + (1 : Int))) ∧
                                                                                                                                      V.ptr a1 = V.ptr a1 ∧
                                                                                                                                        XCalls Try.prog (22 : Nat)
                                                                                                                                          [V.ptr a1, V.int IntKind.u32 n28,
                                                                                                                                            V.int IntKind.i64
                                                                                                                                              (IntKind.i64.wrap
                                                                                                                                                ((IntKind.i64.wrap most).tmod (16384 : Int) +
                                                                                                                                                  (1 : Int)))]
                                                                                                                                          h'14 fun (v13 : V) (h'15 : Hp) =>
                                                                                                                                          ∃ (s7 : List UInt8),
                                                                                                                                            v13 = V.str s7 ∧
                                                                                                                                              ((0 : Int) ≤ n23 ∧
                                                                                                                                                  (n23.toNat ≤ s6.length ∧ s6.length ≤ s6.length) ∧
                                                                                                                                                    V.str
                                                                                                                                                        (List.take (s6.length - n23.toNat)
                                                                                                                                                          (List.drop n23.toNat s6)) =
                                                                                                                                                      V.str
                                                                                                                                                        (List.take (s6.length - n23.toNat)
                                                                                                                                                          (List.drop n23.toNat s6))) ∧
                                                                                                                                                V.int IntKind.i64 n23 = V.int IntKind.i64 n23 ∧
                                                                                                                                                  V.str s6 = V.str s6 ∧
                                                                                                                                                    bif
                                                                                                                                                        !s7 ==
                                                                                                                                                            List.take (s6.length - n23.toNat)
                                                                                                                                                              (List.drop n23.toNat s6) then
                                                                                                                                                      K (V.bool false) h'15
                                                                                                                                                    else
                                                                                                                                                      bif
                                                                                                                                                          ltI
                                                                                                                                                            (IntKind.i64.wrap
                                                                                                                                                              ((IntKind.i64.wrap most).tmod
                                                                                                                                                                  (16384 : Int) +
                                                                                                                                                                (1 : Int)))
                                                                                                                                                            (IntKind.i64.wrap
                                                                                                                                                              ((↑s6.length : Int) - n23)) then
                                                                                                                                                        K (V.bool false) h'15
                                                                                                                                                      else
                                                                                                                                                        [V.int IntKind.u32 a0,
                                                                                                                                                              V.slc script script_n script_f,
                                                                                                                                                              V.int IntKind.i64
                                                                                                                                                                (IntKind.i64.wrap
                                                                                                                                                                  ((IntKind.i64.wrap most).tmod
                                                                                                                                                                      (16384 : Int) +
                                                                                                                                                                    (1 : Int))),
                                                                                                                                                              V.ptr a1] =
                                                                                                                                                            [V.int IntKind.u32 a0,
                                                                                                                                                              V.slc script script_n script_f,
                                                                                                                                                              V.int IntKind.i64
                                                                                                                                                                (IntKind.i64.wrap
                                                                                                                                                                  ((IntKind.i64.wrap most).tmod
                                                                                                                                                                      (16384 : Int) +
                                                                                                                                                                    (1 : Int))),
                                                                                                                                                              V.ptr a1] ∧
                                                                                                                                                          I1
                                                                                                                                                              [V.str s6, V.int IntKind.i64 n23,
                                                                                                                                                                V.int IntKind.i64 n24,
                                                                                                                                                                V.int IntKind.i64
                                                                                                                                                                  (IntKind.i64.wrap (n4 + (1 : Int)))]
                                                                                                                                                              h'15 ∧
                                                                                                                                                            x1
                                                                                                                                                                [V.str s6, V.int IntKind.i64 n23,
                                                                                                                                                                  V.int IntKind.i64 n24,
                                                                                                                                                                  V.int IntKind.i64
                                                                                                                                                                    (IntKind.i64.wrap (n4 + (1 : Int)))]
                                                                                                                                                                h'15 <
                                                                                                                                                              x1
                                                                                                                                                                [V.str s1, V.int IntKind.i64 n2,
                                                                                                                                                                  V.int IntKind.i64 n3,
                                                                                                                                                                  V.int IntKind.i64 n4]
                                                                                                                                                                h1
                                else XCalls Try.prog (10 : Nat) [] h1 fun (v14 : V) (h'16 : Hp) => ∃ (b4 : Bool), v14 = V.bool b4 ∧ K (V.bool b4) h'16
theorem x4 {h : Hp} {K : V → Hp → Prop} (a0 : Int) (most : Int) (script : Option (Nat × Nat)) (script_n : Nat) (script_f : Bool) (hx : X4 h K a0 most script script_n script_f) : XCalls Try.prog 4 [V.int IntKind.u32 a0, V.int IntKind.u16 most, V.slc script script_n script_f] h K :=
  XCalls.ofX tok fok mixed (JL := jl4) (JJ := jj4) Try.func4 (cast (by kernel_rfl) hx)
end Go.Vex
