/-
  Functions of layer 26 as statements about data (printed by VexPrint).
-/
import Derived.Test.YtkdjjjpfkdkgoaaVexX
import Derived.Test.YtkdjjjpfkdkgoaaTab26
set_option linter.unusedVariables false
set_option maxRecDepth 100000
namespace Go.Vex
open Go.Proofs
/-! 3: stevedore/stevedorelaw26.OutPlays -/
-- loop 10: stays most(1), script(2), o(7), r(9); turns i(10)
-- join 24: stays o(7), r(9), most(1), at(12), s(11), i(10), script(2); turns fine(13)
def jl3 : Nat → Option JT := fun r => bif Nat.beq r 10 then some ⟨[1, 2, 7, 9], [10], [V.int IntKind.i64 (0 : Int)]⟩ else none
def jj3 : Nat → Option JT := fun r => bif Nat.beq r 24 then some ⟨[7, 9, 1, 12, 11, 10, 2], [13], [V.bool false]⟩ else none
def X3 (h : Hp) (K : V → Hp → Prop) (a0 : Int) (most : Int) (script : Option (Nat × Nat)) (script_n : Nat) (script_f : Bool) : Prop :=
  XCalls Try.prog (9 : Nat) [V.slc script script_n script_f] h fun (v1 : V) (h'1 : Hp) =>
  ∃ (b1 : Bool),
    v1 = V.bool b1 ∧
      bif b1 then XCalls Try.prog (10 : Nat) [] h'1 fun (v2 : V) (h'2 : Hp) => ∃ (b2 : Bool), v2 = V.bool b2 ∧ K (V.bool b2) h'2
      else
        XCalls Try.prog (11 : Nat) [V.int IntKind.u32 a0, V.int IntKind.i64 most] h'1 fun (v3 : V) (h'3 : Hp) =>
          ∃ (a1 : Option (Nat × Nat)),
            ∃ (n1 : Int),
              v3 = V.tup [V.ptr a1, V.int IntKind.i64 n1] ∧
                bif ltI most (1 : Int) then
                  bif a1.isNone then bif n1 == (2 : Int) then XCalls Try.prog (10 : Nat) [] h'3 fun (v4 : V) (h'4 : Hp) => ∃ (b3 : Bool), v4 = V.bool b3 ∧ K (V.bool b3) h'4 else K (V.bool false) h'3
                  else K (V.bool false) h'3
                else
                  bif ltI (16384 : Int) most then
                    bif a1.isNone then bif n1 == (2 : Int) then XCalls Try.prog (10 : Nat) [] h'3 fun (v5 : V) (h'5 : Hp) => ∃ (b4 : Bool), v5 = V.bool b4 ∧ K (V.bool b4) h'5 else K (V.bool false) h'3
                    else K (V.bool false) h'3
                  else
                    bif a1.isNone then K (V.bool false) h'3
                    else
                      bif n1 != (0 : Int) then K (V.bool false) h'3
                      else
                        ∀ (h'6 : Hp),
                          h'6 = h'3.alloc (O.row [V.int IntKind.u32 a0, V.str [], V.int IntKind.i64 (0 : Int), V.int IntKind.i64 most] (1 : Nat) false) →
                            ∃ (I1 : List V → Hp → Prop),
                              ∃ (x1 : List V → Hp → Nat),
                                ([V.int IntKind.i64 most, V.slc script script_n script_f, V.ptr a1, V.ptr (some (h'3.next, (0 : Nat)))] =
                                      [V.int IntKind.i64 most, V.slc script script_n script_f, V.ptr a1, V.ptr (some (h'3.next, (0 : Nat)))] ∧
                                    I1 [V.int IntKind.i64 (0 : Int)] h'6) ∧
                                  ∀ (bs1 : Nat → Option V) (n2 : Int) (h1 : Hp),
                                    I1 [V.int IntKind.i64 n2] h1 →
                                      bif ltI n2 (↑script_n : Int) then
                                        ((0 : Int) ≤ n2 ∧ n2 < (↑script_n : Int)) ∧
                                          onS script fun (i1 o1 : Nat) =>
                                            ∃ (n3 : Int),
                                              ∃ (s1 : List UInt8),
                                                ∃ (n4 : Int),
                                                  ∃ (n5 : Int),
                                                    h1.lda i1 (o1 + n2.toNat * (4 : Nat)) (4 : Nat) = some (V.agg [V.int IntKind.i64 n3, V.str s1, V.int IntKind.u32 n4, V.int IntKind.i64 n5]) ∧
                                                      ∀ (h'7 : Hp),
                                                        h'7 = h1.alloc (O.row [V.int IntKind.i64 (0 : Int), V.str [], V.int IntKind.u32 (0 : Int), V.int IntKind.i64 (0 : Int)] (1 : Nat) false) →
                                                          ∃ (h'8 : Hp),
                                                            h'7.st h1.next (0 : Nat) [V.int IntKind.i64 n3, V.str s1, V.int IntKind.u32 n4, V.int IntKind.i64 n5] = some h'8 ∧
                                                              ∃ (n6 : Int),
                                                                h'8.ld h'3.next (0 : Nat) = some (V.int IntKind.u32 n6) ∧
                                                                  ∃ (n7 : Int),
                                                                    h'8.ld h1.next (2 : Nat) = some (V.int IntKind.u32 n7) ∧
                                                                      ∃ (Q1 : List V → Hp → Prop),
                                                                        (∃ (n8 : Int),
                                                                            h'8.ld h1.next (0 : Nat) = some (V.int IntKind.i64 n8) ∧
                                                                              bif n8 == (0 : Int) then
                                                                                ∃ (s2 : List UInt8),
                                                                                  h'8.ld h1.next (1 : Nat) = some (V.str s2) ∧
                                                                                    ∃ (s3 : List UInt8),
                                                                                      h'8.ld h1.next (1 : Nat) = some (V.str s3) ∧
                                                                                        XCalls Try.prog (12 : Nat) [V.ptr a1, V.str s2] h'8 fun (v6 : V) (h'9 : Hp) =>
                                                                                          ∃ (n9 : Int),
                                                                                            v6 = V.int IntKind.i64 n9 ∧
                                                                                              (∃ (s4 : List UInt8), h'9.ld h1.next (1 : Nat) = some (V.str s4) ∧ V.str s4 = V.str s3) ∧
                                                                                                V.ptr (some (h1.next, (1 : Nat))) = V.ptr (some (h1.next, (1 : Nat))) ∧
                                                                                                  V.ptr (some (h'3.next, (0 : Nat))) = V.ptr (some (h'3.next, (0 : Nat))) ∧
                                                                                                    XCalls Try.prog (13 : Nat) [V.ptr (some (h'3.next, (0 : Nat))), V.str s3] h'9
                                                                                                      fun (v7 : V) (h'10 : Hp) =>
                                                                                                      ∃ (n10 : Int),
                                                                                                        v7 = V.int IntKind.i64 n10 ∧
                                                                                                          [V.ptr a1, V.ptr (some (h'3.next, (0 : Nat))), V.int IntKind.i64 most,
                                                                                                                V.int IntKind.u32 (IntKind.u32.wrap (n6 + n7)), V.ptr (some (h1.next, (0 : Nat))),
                                                                                                                V.int IntKind.i64 n2, V.slc script script_n script_f] =
                                                                                                              [V.ptr a1, V.ptr (some (h'3.next, (0 : Nat))), V.int IntKind.i64 most,
                                                                                                                V.int IntKind.u32 (IntKind.u32.wrap (n6 + n7)), V.ptr (some (h1.next, (0 : Nat))),
                                                                                                                V.int IntKind.i64 n2, V.slc script script_n script_f] ∧
                                                                                                            Q1 [V.bool (n9 == n10)] h'10
                                                                              else
                                                                                bif n8 == (1 : Int) then
                                                                                  XCalls Try.prog (14 : Nat) [V.ptr a1, V.int IntKind.u32 (IntKind.u32.wrap (n6 + n7))] h'8 fun (v8 : V) (h'11 : Hp) =>
                                                                                    ∃ (n11 : Int),
                                                                                      v8 = V.int IntKind.i64 n11 ∧
                                                                                        XCalls Try.prog (15 : Nat) [V.ptr (some (h'3.next, (0 : Nat))), V.int IntKind.u32 (IntKind.u32.wrap (n6 + n7))]
                                                                                          h'11 fun (v9 : V) (h'12 : Hp) =>
                                                                                          ∃ (n12 : Int),
                                                                                            v9 = V.int IntKind.i64 n12 ∧
                                                                                              [V.ptr a1, V.ptr (some (h'3.next, (0 : Nat))), V.int IntKind.i64 most,
                                                                                                    V.int IntKind.u32 (IntKind.u32.wrap (n6 + n7)), V.ptr (some (h1.next, (0 : Nat))),
                                                                                                    V.int IntKind.i64 n2, V.slc script script_n script_f] =
                                                                                                  [V.ptr a1, V.ptr (some (h'3.next, (0 : Nat))), V.int IntKind.i64 most,
                                                                                                    V.int IntKind.u32 (IntKind.u32.wrap (n6 + n7)), V.ptr (some (h1.next, (0 : Nat))),
                                                                                                    V.int IntKind.i64 n2, V.slc script script_n script_f] ∧
                                                                                                Q1 [V.bool (n11 == n12)] h'12
                                                                                else
                                                                                  bif n8 == (2 : Int) then
                                                                                    XCalls Try.prog (16 : Nat) [V.ptr a1, V.int IntKind.u32 (IntKind.u32.wrap (n6 + n7))] h'8
                                                                                      fun (v10 : V) (h'13 : Hp) =>
                                                                                      ∃ (n13 : Int),
                                                                                        ∃ (b5 : Bool),
                                                                                          v10 = V.tup [V.int IntKind.i64 n13, V.bool b5] ∧
                                                                                            XCalls Try.prog (17 : Nat)
                                                                                              [V.ptr (some (h'3.next, (0 : Nat))), V.int IntKind.u32 (IntKind.u32.wrap (n6 + n7))] h'13
                                                                                              fun (v11 : V) (h'14 : Hp) =>
                                                                                              ∃ (n14 : Int),
                                                                                                ∃ (b6 : Bool),
                                                                                                  v11 = V.tup [V.int IntKind.i64 n14, V.bool b6] ∧
                                                                                                    bif n13 == n14 then
                                                                                                      [V.ptr a1, V.ptr (some (h'3.next, (0 : Nat))), V.int IntKind.i64 most,
                                                                                                            V.int IntKind.u32 (IntKind.u32.wrap (n6 + n7)), V.ptr (some (h1.next, (0 : Nat))),
                                                                                                            V.int IntKind.i64 n2, V.slc script script_n script_f] =
                                                                                                          [V.ptr a1, V.ptr (some (h'3.next, (0 : Nat))), V.int IntKind.i64 most,
                                                                                                            V.int IntKind.u32 (IntKind.u32.wrap (n6 + n7)), V.ptr (some (h1.next, (0 : Nat))),
                                                                                                            V.int IntKind.i64 n2, V.slc script script_n script_f] ∧
                                                                                                        Q1 [V.bool (b5 == b6)] h'14
                                                                                                    else
                                                                                                      [V.ptr a1, V.ptr (some (h'3.next, (0 : Nat))), V.int IntKind.i64 most,
                                                                                                            V.int IntKind.u32 (IntKind.u32.wrap (n6 + n7)), V.ptr (some (h1.next, (0 : Nat))),
                                                                                                            V.int IntKind.i64 n2, V.slc script script_n script_f] =
                                                                                                          [V.ptr a1, V.ptr (some (h'3.next, (0 : Nat))), V.int IntKind.i64 most,
                                                                                                            V.int IntKind.u32 (IntKind.u32.wrap (n6 + n7)), V.ptr (some (h1.next, (0 : Nat))),
                                                                                                            V.int IntKind.i64 n2, V.slc script script_n script_f] ∧
                                                                                                        Q1 [V.bool false] h'14
                                                                                  else
                                                                                    [V.ptr a1, V.ptr (some (h'3.next, (0 : Nat))), V.int IntKind.i64 most,
                                                                                          V.int IntKind.u32 (IntKind.u32.wrap (n6 + n7)), V.ptr (some (h1.next, (0 : Nat))), V.int IntKind.i64 n2,
                                                                                          V.slc script script_n script_f] =
                                                                                        [V.ptr a1, V.ptr (some (h'3.next, (0 : Nat))), V.int IntKind.i64 most,
                                                                                          V.int IntKind.u32 (IntKind.u32.wrap (n6 + n7)), V.ptr (some (h1.next, (0 : Nat))), V.int IntKind.i64 n2,
                                                                                          V.slc script script_n script_f] ∧
                                                                                      Q1 [V.bool true] h'8) ∧
                                                                          ∀ (bs2 : Nat → Option V) (b7 : Bool) (h2 : Hp),
                                                                            Q1 [V.bool b7] h2 →
                                                                              bif !b7 then K (V.bool false) h2
                                                                              else
                                                                                ∃ (n15 : Int),
                                                                                  h2.ld h'3.next (0 : Nat) = some (V.int IntKind.u32 n15) ∧
                                                                                    XCalls Try.prog (18 : Nat) [V.ptr a1] h2 fun (v12 : V) (h'15 : Hp) =>
                                                                                      ∃ (n16 : Int),
                                                                                        v12 = V.int IntKind.u32 n16 ∧
                                                                                          (∃ (n17 : Int),
                                                                                              h'15.ld h'3.next (0 : Nat) = some (V.int IntKind.u32 n17) ∧
                                                                                                V.int IntKind.u32 n17 = V.int IntKind.u32 n15) ∧
                                                                                            V.ptr (some (h'3.next, (0 : Nat))) = V.ptr (some (h'3.next, (0 : Nat))) ∧
                                                                                              V.ptr (some (h'3.next, (0 : Nat))) = V.ptr (some (h'3.next, (0 : Nat))) ∧
                                                                                                V.ptr (some (h'3.next, (0 : Nat))) = V.ptr (some (h'3.next, (0 : Nat))) ∧
                                                                                                  bif n16 != n15 then K (V.bool false) h'15
                                                                                                  else
                                                                                                    ∃ (n18 : Int),
                                                                                                      h'15.ld h'3.next (0 : Nat) = some (V.int IntKind.u32 n18) ∧
                                                                                                        ∃ (n19 : Int),
                                                                                                          h'15.ld h'3.next (2 : Nat) = some (V.int IntKind.i64 n19) ∧
                                                                                                            XCalls Try.prog (19 : Nat) [V.ptr a1] h'15 fun (v13 : V) (h'16 : Hp) =>
                                                                                                              ∃ (n20 : Int),
                                                                                                                v13 = V.int IntKind.u32 n20 ∧
                                                                                                                  V.int IntKind.u32 (IntKind.u32.wrap (n18 + IntKind.u32.wrap n19)) =
                                                                                                                      V.int IntKind.u32 (IntKind.u32.wrap (n18 + IntKind.u32.wrap n19)) ∧
                                                                                                                    V.int IntKind.u32 (IntKind.u32.wrap n19) =
                                                                                                                        V.int IntKind.u32 (IntKind.u32.wrap n19) ∧
                                                                                                                      (∃ (n21 : Int),
                                                                                                                          h'16.ld h'3.next (2 : Nat) = some (V.int IntKind.i64 n21) ∧
                                                                                                                            V.int IntKind.i64 n21 = V.int IntKind.i64 n19) ∧
                                                                                                                        V.ptr (some (h'3.next, (2 : Nat))) = V.ptr (some (h'3.next, (2 : Nat))) ∧
                                                                                                                          V.ptr (some (h'3.next, (0 : Nat))) = V.ptr (some (h'3.next, (0 : Nat))) ∧
                                                                                                                            V.ptr (some (h'3.next, (0 : Nat))) = V.ptr (some (h'3.next, (0 : Nat))) ∧
                                                                                                                              (∃ (n22 : Int),
                                                                                                                                  h'16.ld h'3.next (0 : Nat) = some (V.int IntKind.u32 n22) ∧
                                                                                                                                    V.int IntKind.u32 n22 = V.int IntKind.u32 n18) ∧
                                                                                                                                V.ptr (some (h'3.next, (0 : Nat))) =
                                                                                                                                    V.ptr (some (h'3.next, (0 : Nat))) ∧
                                                                                                                                  V.ptr (some (h'3.next, (0 : Nat))) =
                                                                                                                                      V.ptr (some (h'3.next, (0 : Nat))) ∧
                                                                                                                                    V.ptr (some (h'3.next, (0 : Nat))) =
                                                                                                                                        V.ptr (some (h'3.next, (0 : Nat))) ∧
                                                                                                                                      bif n20 != IntKind.u32.wrap (n18 + IntKind.u32.wrap n19) then
                                                                                                                                        K (V.bool false) h'16
                                                                                                                                      else
                                                                                                                                        ∃ (n23 : Int),
                                                                                                                                          h'16.ld h'3.next (0 : Nat) = some (V.int IntKind.u32 n23) ∧
                                                                                                                                            ∃ (s5 : List UInt8),
                                                                                                                                              h'16.ld h'3.next (1 : Nat) = some (V.str s5) ∧
                                                                                                                                                XCalls Try.prog (20 : Nat) [V.ptr a1] h'16
                                                                                                                                                  fun (v14 : V) (h'17 : Hp) =>
                                                                                                                                                  ∃ (n24 : Int),
                                                                                                                                                    v14 = V.int IntKind.u32 n24 ∧
                                                                                                                                                      V.int IntKind.u32
                                                                                                                                                            (IntKind.u32.wrap
                                                                                                                                                              (n23 +
                                                                                                                                                                IntKind.u32.wrap (↑s5.length : Int))) =
                                                                                                                                                          V.int IntKind.u32
                                                                                                                                                            (IntKind.u32.wrap
                                                                                                                                                              (n23 +
                                                                                                                                                                IntKind.u32.wrap (↑s5.length : Int))) ∧
                                                                                                                                                        V.int IntKind.u32
                                                                                                                                                              (IntKind.u32.wrap (↑s5.length : Int)) =
                                                                                                                                                            V.int IntKind.u32
                                                                                                                                                              (IntKind.u32.wrap (↑s5.length : Int)) ∧
                                                                                                                                                          V.int IntKind.i64 (↑s5.length : Int) =
                                                                                                                                                              V.int IntKind.i64 (↑s5.length : Int) ∧
                                                                                                                                                            (∃ (s6 : List UInt8),
                                                                                                                                                                h'17.ld h'3.next (1 : Nat) =
                                                                                                                                                                    some (V.str s6) ∧
                                                                                                                                                                  V.str s6 = V.str s5) ∧
                                                                                                                                                              V.ptr (some (h'3.next, (1 : Nat))) =
                                                                                                                                                                  V.ptr (some (h'3.next, (1 : Nat))) ∧
                                                                                                                                                                V.ptr (some (h'3.next, (0 : Nat))) =
                                                                                                                                                                    V.ptr (some (h'3.next, (0 : Nat))) ∧
                                                                                                                                                                  V.ptr (some (h'3.next, (0 : Nat))) =
                                                                                                                                                                      V.ptr
                                                                                                                                                                        (some (h'3.next, (0 : Nat))) ∧
                                                                                                                                                                    (∃ (n25 : Int),
                                                                                                                                                                        h'17.ld h'3.next (0 : Nat) =
                                                                                                                                                                            some
                                                                                                                                                                              (V.int IntKind.u32 n25) ∧
                                                                                                                                                                          V.int IntKind.u32 n25 =
                                                                                                                                                                            V.int IntKind.u32 n23) ∧
                                                                                                                                                                      V.ptr
                                                                                                                                                                            (some
                                                                                                                                                                              (h'3.next, (0 : Nat))) =
                                                                                                                                                                          V.ptr
                                                                                                                                                                            (some
                                                                                                                                                                              (h'3.next, (0 : Nat))) ∧
                                                                                                                                                                        V.ptr
                                                                                                                                                                              (some
                                                                                                                                                                                (h'3.next, (0 : Nat))) =
                                                                                                                                                                            V.ptr
                                                                                                                                                                              (some
                                                                                                                                                                                (h'3.next, (0 : Nat))) ∧
                                                                                                                                                                          V.ptr
                                                                                                                                                                                (some
                                                                                                                                                                                  (h'3.next,
                                                                                                                                                                                    (0 : Nat))) =
                                                                                                                                                                              V.ptr
                                                                                                                                                                                (some
                                                                                                                                                                                  (h'3.next,
                                                                                                                                                                                    (0 : Nat))) ∧
                                                                                                                                                                            bif
                                                                                                                                                                                n24 !=
                                                                                                                                                                                  IntKind.u32.wrap
                                                                                                                                                                                    (n23 +
                                                                                                                                                                                      IntKind.u32.wrap
                                                                                                                                                                                        (↑s5.length :
                                                                                                                                                                                          Int)) then
                                                                                                                                                                              K (V.bool false) h'17
                                                                                                                                                                            else
                                                                                                                                                                              ∃ (s7 : List UInt8),
                                                                                                                                                                                h'17.ld h'3.next
                                                                                                                                                                                      (1 : Nat) =
                                                                                                                                                                                    some (V.str s7) ∧
                                                                                                                                                                                  XCalls Try.prog
                                                                                                                                                                                    (21 : Nat)
                                                                                                                                                                                    [V.ptr a1] h'17
                                                                                                                                                                                    fun (v15 : V)
                                                                                                                                                                                      (h'18 : Hp) =>
                                                                                                                                                                                    ∃ (n26 : Int),
                                                                                                                                                                                      v15 =
                                                                                                                                                                                          V.int
                                                                                                                                                                                            IntKind.i64
                                                                                                                                                                                            n26 ∧
                                                                                                                                                                                        V.int
                                                                                                                                                                                              IntKind.i64
                                                                                                                                                                                              (IntKind.i64.wrap
                                                                                                                                                                                                (most -
                                                                                                                                                                                                  (↑s7.length :
                                                                                                                                                                                                    Int))) =
                                                                                                                                                                                            V.int
                                                                                                                                                                                              IntKind.i64
                                                                                                                                                                                              (IntKind.i64.wrap
                                                                                                                                                                                                (most -
                                                                                                                                                                                                  (↑s7.length :
                                                                                                                                                                                                    Int))) ∧
                                                                                                                                                                                          V.int
                                                                                                                                                                                                IntKind.i64
                                                                                                                                                                                                (↑s7.length :
                                                                                                                                                                                                  Int) =
                                                                                                                                                                                              V.int
                                                                                                                                                                                                IntKind.i64
                                                                                                                                                                                                (↑s7.length :
                                                                                                                                                                                                  Int) ∧
                                                                                                                                                                                            (∃ (s8 :
                                                                                                                                                                                                List
                                                                                                                                                                                                  UInt8),
                                                                                                                                                                                                h'18.ld
                                                                                                                                                                                                      h'3.next
                                                                                                                                                                                                      (1 :
                                                                                                                                                                                                        Nat) =
                                                                                                                                                                                                    some
                                                                                                                                                                                                      (V.str
                                                                                                                                                                                                        s8) ∧
                                                                                                                                                                                                  V.str
                                                                                                                                                                                                      s8 =
                                                                                                                                                                                                    V.str
                                                                                                                                                                                                      s7) ∧
                                                                                                                                                                                              V.ptr
                                                                                                                                                                                                    (some
                                                                                                                                                                                                      (h'3.next,
                                                                                                                                                                                                        (1 :
                                                                                                                                                                                                          Nat))) =
                                                                                                                                                                                                  V.ptr
                                                                                                                                                                                                    (some
                                                                                                                                                                                                      (h'3.next,
                                                                                                                                                                                                        (1 :
                                                                                                                                                                                                          Nat))) ∧
                                                                                                                                                                                                V.ptr
                                                                                                                                                                                                      (some
                                                                                                                                                                                                        (h'3.next,
                                                                                                                                                                                                          (0 :
                                                                                                                                                                                                            Nat))) =
                                                                                                                                                                                                    V.ptr
                                                                                                                                                                                                      (some
                                                                                                                                                                                                        (h'3.next,
                                                                                                                                                                                                          (0 :
                                                                                                                                                                                                            Nat))) ∧
                                                                                                                                                                                                  V.ptr
                                                                                                                                                                                                        (some
                                                                                                                                                                                                          (h'3.next,
                                                                                                                                                                                                            (0 :
                                                                                                                                                                                                              Nat))) =
                                                                                                                                                                                                      V.ptr
                                                                                                                                                                                                        (some
                                                                                                                                                                                                          (h'3.next,
                                                                                                                                                                                                            (0 :
                                                                                                                                                                                                              Nat))) ∧
                                                                                                                                                                                                    V.int
                                                                                                                                                                                                          IntKind.i64
                                                                                                                                                                                                          most =
                                                                                                                                                                                                        V.int
                                                                                                                                                                                                          IntKind.i64
                                                                                                                                                                                                          most ∧
                                                                                                                                                                                                      bif
                                                                                                                                                                                                          n26 !=
                                                                                                                                                                                                            IntKind.i64.wrap
                                                                                                                                                                                                              (most -
                                                                                                                                                                                                                (↑s7.length :
                                                                                                                                                                                                                  Int)) then
                                                                                                                                                                                                        K
                                                                                                                                                                                                          (V.bool
                                                                                                                                                                                                            false)
                                                                                                                                                                                                          h'18
                                                                                                                                                                                                      else
                                                                                                                                                                                                        ∃
                                                                                                                                                                                                          (n27
                                                                                                                                                                                                          :
                                                                                                                                                                                                          Int),
                                                                                                                                                                                                          h'18.ld
                                                                                                                                                                                                                h1.next
                                                                                                                                                                                                                (3 :
                                                                                                                                                                                                                  Nat) =
                                                                                                                                                                                                              some
                                                                                                                                                                                                                (V.int
                                                                                                                                                                                                                  IntKind.i64
                                                                                                                                                                                                                  n27) ∧
                                                                                                                                                                                                            ∃
                                                                                                                                                                                                              (n28
                                                                                                                                                                                                              :
                                                                                                                                                                                                              Int),
                                                                                                                                                                                                              h'18.ld
                                                                                                                                                                                                                    h1.next
                                                                                                                                                                                                                    (3 :
                                                                                                                                                                                                                      Nat) =
                                                                                                                                                                                                                  some
                                                                                                                                                                                                                    (V.int
                                                                                                                                                                                                                      IntKind.i64
                                                                                                                                                                                                                      n28) ∧
                                                                                                                                                                                                                XCalls
                                                                                                                                                                                                                  Try.prog
                                                                                                                                                                                                                  (22 :
                                                                                                                                                                                                                    Nat)
                                                                                                                                                                                                                  [V.ptr
                                                                                                                                                                                                                      a1,
                                                                                                                                                                                                                    V.int
                                                                                                                                                                                                                      IntKind.u32
                                                                                                                                                                                                                      (IntKind.u32.wrap
                                                                                                                                                                                                                        (n6 +
                                                                                                                                                                                                                          n7)),
                                                                                                                                                                                                                    V.int
                                                                                                                                                                                                                      IntKind.i64
                                                                                                                                                                                                                      n27]
                                                                                                                                                                                                                  h'18
                                                                                                                                                                                                                  fun
                                                                                                                                                                                                                    (v16 :
                                                                                                                                                                                                                      V)
                                                                                                                                                                                                                    (h'19 :
                                                                                                                                                                                                                      Hp) =>
                                                                                                                                                                                                                  ∃
                                                                                                                                                                                                                    (s9
                                                                                                                                                                                                                    :
                                                                                                                                                                                                                    List
                                                                                                                                                                                                                      UInt8),
                                                                                                                                                                                                                    v16 =
                                                                                                                                                                                                                        V.str
                                                                                                                                                                                                                          s9 ∧
                                                                                                                                                                                                                      (∃
                                                                                                                                                                                                                          (n29
                                                                                                                                                                                                                          :
                                                                                                                                                                                                                          Int),
                                                                                                                                                                                                                          h'19.ld
                                                                                                                                                                                                                                h1.next
                                                                                                                                                                                                                                (3 :
                                                                                                                                                                                                                                  Nat) =
                                                                                                                                                                                                                              some
                                                                                                                                                                                                                                (V.int
                                                                                                                                                                                                                                  IntKind.i64
                                                                                                                                                                                                                                  n29) ∧
                                                                                                                                                                                                                            V.int
                                                                                                                                                                                                                                IntKind.i64
                                                                                                                                                                                                                                n29 =
                                                                                                                                                                                                                              V.int
                                                                                                                                                                                                                                IntKind.i64
                                                                                                                                                                                                                                n28) ∧
                                                                                                                                                                                                                        V.ptr
                                                                                                                                                                                                                              (some
                                                                                                                                                                                                                                (h1.next,
                                                                                                                                                                                                                                  (3 :
                                                                                                                                                                                                                                    Nat))) =
                                                                                                                                                                                                                            V.ptr
                                                                                                                                                                                                                              (some
                                                                                                                                                                                                                                (h1.next,
                                                                                                                                                                                                                                  (3 :
                                                                                                                                                                                                                                    Nat))) ∧
                                                                                                                                                                                                                          V.int
                                                                                                                                                                                                                                IntKind.u32
                                                                                                                                                                                                                                (IntKind.u32.wrap
                                                                                                                                                                                                                                  (n6 +
                                                                                                                                                                                                                                    n7)) =
                                                                                                                                                                                                                              V.int
                                                                                                                                                                                                                                IntKind.u32
                                                                                                                                                                                                                                (IntKind.u32.wrap
                                                                                                                                                                                                                                  (n6 +
                                                                                                                                                                                                                                    n7)) ∧
                                                                                                                                                                                                                            V.ptr
                                                                                                                                                                                                                                  (some
                                                                                                                                                                                                                                    (h'3.next,
                                                                                                                                                                                                                                      (0 :
                                                                                                                                                                                                                                        Nat))) =
                                                                                                                                                                                                                                V.ptr
                                                                                                                                                                                                                                  (some
                                                                                                                                                                                                                                    (h'3.next,
                                                                                                                                                                                                                                      (0 :
                                                                                                                                                                                                                                        Nat))) ∧
                                                                                                                                                                                                                              XCalls
                                                                                                                                                                                                                                Try.prog
                                                                                                                                                                                                                                (23 :
                                                                                                                                                                                                                                  Nat)
                                                                                                                                                                                                                                [V.ptr
                                                                                                                                                                                                                                    (some
                                                                                                                                                                                                                                      (h'3.next,
                                                                                                                                                                                                                                        (0 :
                                                                                                                                                                                                                                          Nat))),
                                                                                                                                                                                                                                  V.int
                                                                                                                                                                                                                                    IntKind.u32
                                                                                                                                                                                                                                    (IntKind.u32.wrap
                                                                                                                                                                                                                                      (n6 +
                                                                                                                                                                                                                                        n7)),
                                                                                                                                                                                                                                  V.int
                                                                                                                                                                                                                                    IntKind.i64
                                                                                                                                                                                                                                    n28]
                                                                                                                                                                                                                                h'19
                                                                                                                                                                                                                                fun
                                                                                                                                                                                                                                  (v17 :
                                                                                                                                                                                                                                    V)
                                                                                                                                                                                                                                  (h'20 :
                                                                                                                                                                                                                                    Hp) =>
                                                                                                                                                                                                                                ∃
                                                                                                                                                                                                                                  (s10
                                                                                                                                                                                                                                  :
                                                                                                                                                                                                                                  List
                                                                                                                                                                                                                                    UInt8),
                                                                                                                                                                                                                                  v17 =
                                                                                                                                                                                                                                      V.str
                                                                                                                                                                                                                                        s10 ∧
                                                                                                                                                                                                                                    bif
                                                                                                                                                                                                                                        !s9 ==
                                                                                                                                                                                                                                            s10 then
                                                                                                                                                                                                                                      K
                                                                                                                                                                                                                                        (V.bool
                                                                                                                                                                                                                                          false)
                                                                                                                                                                                                                                        h'20
                                                                                                                                                                                                                                    else
                                                                                                                                                                                                                                      [V.int
                                                                                                                                                                                                                                              IntKind.i64
                                                                                                                                                                                                                                              most,
                                                                                                                                                                                                                                            V.slc
                                                                                                                                                                                                                                              script
                                                                                                                                                                                                                                              script_n
                                                                                                                                                                                                                                              script_f,
                                                                                                                                                                                                                                            V.ptr
                                                                                                                                                                                                                                              a1,
                                                                                                                                                                                                                                            V.ptr
                                                                                                                                                                                                                                              (some
                                                                                                                                                                                                                                                (h'3.next,
                                                                                                                                                                                                                                                  (0 :
                                                                                                                                                                                                                                                    Nat)))] =
                                                                                                                                                                                                                                          [V.int
                                                                                                                                                                                                                                              IntKind.i64
                                                                                                                                                                                                                                              most,
                                                                                                                                                                                                                                            V.slc
                                                                                                                                                                                                                                              script
                                                                                                                                                                                                                                              script_n
                                                                                                                                                                                                                                              script_f,
                                                                                                                                                                                                                                            V.ptr
                                                                                                                                                                                                                                              a1,
                                                                                                                                                                                                                                            V.ptr
                                                                                                                                                                                                                                              (some
                                                                                                                                                                                                                                                (h'3.next,
                                                                                                                                                                                                                                                  (0 :
                                                                                                                                                                                                                                                    Nat)))] ∧
                                                                                                                                                                                                                                        I1
                                                                                                                                                                                                                                            [V.int
                                                                                                                                                                                                                                                IntKind.i64
                                                                                                                                                                                                                                                (IntKind.i64.wrap
                                                                                                                                                                                                                                                  (n2 +
                                                                                                                                                                                                                                                    (1 :
                                                                                                                                                                                                                                                      Int)))]
                                                                                                                                                                                                                                            h'20 ∧
                                                                                                                                                                                                                                          x1
                                                                                                                                                                                                                                              [V.int
                                                                                                                                                                                                                                                  IntKind.i64
                                                                                                                                                                                                                                                  (IntKind.i64.wrap
                                                                                                                                                                                                                                                    (n2 +
                                                                                                                                                                                                                                                      (1 :
                                                                                                                                                                                                                                                        Int)))]
                                                                                                                                                                                                                                              h'20 <
                                                                                                                                                                                                                                            x1
                                                                                                                                                                                                                                              [V.int
                                                                                                                                                                                                                                                  IntKind.i64
                                                                                                                                                                                                                                                  n2]
                                                                                                                                                                                                                                              h1
                                      else XCalls Try.prog (10 : Nat) [] h1 fun (v18 : V) (h'21 : Hp) => ∃ (b8 : Bool), v18 = V.bool b8 ∧ K (V.bool b8) h'21
theorem x3 {h : Hp} {K : V → Hp → Prop} (a0 : Int) (most : Int) (script : Option (Nat × Nat)) (script_n : Nat) (script_f : Bool) (hx : X3 h K a0 most script script_n script_f) : XCalls Try.prog 3 [V.int IntKind.u32 a0, V.int IntKind.i64 most, V.slc script script_n script_f] h K :=
  XCalls.ofX tok fok mixed (JL := jl3) (JJ := jj3) Try.func3 (cast (by kernel_rfl) hx)
end Go.Vex
