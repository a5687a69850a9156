/-
  Functions of layer 28 as statements about data (printed by VexPrint).
-/
import Derived.Test.YtappaengiioblaaVexX
import Derived.Test.YtappaengiioblaaTab28
set_option linter.unusedVariables false
set_option maxRecDepth 100000
namespace Go.Vex
open Go.Proofs
/-! 6: stevedore/stevedorelaw28.BoxPlays -/
-- loop 10: stays script(2), b(7), r(9); turns i(10)
-- join 28: stays b(7), r(9), i(10), script(2); turns 
-- join 19: stays is(13), r(9), b(7), i(10), script(2); turns 
def jl6 : Nat → Option JT := fun r => bif Nat.beq r 10 then some ⟨[2, 7, 9], [10], [V.int IntKind.i64 (0 : Int)]⟩ else none
def jj6 : Nat → Option JT := fun r => bif Nat.beq r 28 then some ⟨[7, 9, 10, 2], [], []⟩ else bif Nat.beq r 19 then some ⟨[13, 9, 7, 10, 2], [], []⟩ else none
def X6 (h : Hp) (K : V → Hp → Prop) (most : Int) (bytes : Int) (script : Option (Nat × Nat)) (script_n : Nat) (script_f : Bool) : Prop :=
  XCalls Try.prog (20 : Nat) [V.slc script script_n script_f] h fun (v1 : V) (h'1 : Hp) =>
  ∃ (b1 : Bool),
    v1 = V.bool b1 ∧
      bif b1 then XCalls Try.prog (9 : Nat) [] h'1 fun (v2 : V) (h'2 : Hp) => ∃ (b2 : Bool), v2 = V.bool b2 ∧ K (V.bool b2) h'2
      else
        XCalls Try.prog (21 : Nat) [V.int IntKind.i64 most, V.int IntKind.i64 bytes] h'1 fun (v3 : V) (h'3 : Hp) =>
          ∃ (a1 : Option (Nat × Nat)),
            ∃ (n1 : Int),
              v3 = V.tup [V.ptr a1, V.int IntKind.i64 n1] ∧
                bif ltI most (1 : Int) then
                  bif a1.isNone then bif n1 == (2 : Int) then XCalls Try.prog (9 : Nat) [] h'3 fun (v4 : V) (h'4 : Hp) => ∃ (b3 : Bool), v4 = V.bool b3 ∧ K (V.bool b3) h'4 else K (V.bool false) h'3
                  else K (V.bool false) h'3
                else
                  bif ltI (256 : Int) most then
                    bif a1.isNone then bif n1 == (2 : Int) then XCalls Try.prog (9 : Nat) [] h'3 fun (v5 : V) (h'5 : Hp) => ∃ (b4 : Bool), v5 = V.bool b4 ∧ K (V.bool b4) h'5 else K (V.bool false) h'3
                    else K (V.bool false) h'3
                  else
                    bif ltI bytes (1 : Int) then
                      bif a1.isNone then
                        bif n1 == (2 : Int) then XCalls Try.prog (9 : Nat) [] h'3 fun (v6 : V) (h'6 : Hp) => ∃ (b5 : Bool), v6 = V.bool b5 ∧ K (V.bool b5) h'6 else K (V.bool false) h'3
                      else K (V.bool false) h'3
                    else
                      bif ltI (16769792 : Int) bytes then
                        bif a1.isNone then
                          bif n1 == (2 : Int) then XCalls Try.prog (9 : Nat) [] h'3 fun (v7 : V) (h'7 : Hp) => ∃ (b6 : Bool), v7 = V.bool b6 ∧ K (V.bool b6) h'7 else K (V.bool false) h'3
                        else K (V.bool false) h'3
                      else
                        bif a1.isNone then K (V.bool false) h'3
                        else
                          bif n1 != (0 : Int) then K (V.bool false) h'3
                          else
                            ∀ (h'8 : Hp),
                              h'8 =
                                  h'3.alloc
                                    (O.row [V.int IntKind.i64 most, V.int IntKind.i64 bytes, V.slc none (0 : Nat) true, V.int IntKind.i64 (0 : Int), V.int IntKind.u64 (0 : Int)] (1 : Nat) false) →
                                ∃ (I1 : List V → Hp → Prop),
                                  ∃ (x1 : List V → Hp → Nat),
                                    ([V.slc script script_n script_f, V.ptr a1, V.ptr (some (h'3.next, (0 : Nat)))] = [V.slc script script_n script_f, V.ptr a1, V.ptr (some (h'3.next, (0 : Nat)))] ∧
                                        I1 [V.int IntKind.i64 (0 : Int)] h'8) ∧
                                      ∀ (bs1 : Nat → Option V) (n2 : Int) (h1 : Hp),
                                        I1 [V.int IntKind.i64 n2] h1 →
                                          bif ltI n2 (↑script_n : Int) then
                                            ((0 : Int) ≤ n2 ∧ n2 < (↑script_n : Int)) ∧
                                              onS script fun (i1 o1 : Nat) =>
                                                ∃ (b7 : Bool),
                                                  ∃ (b8 : Bool),
                                                    ∃ (n3 : Int),
                                                      ∃ (n4 : Int),
                                                        ∃ (s1 : List UInt8),
                                                          ∃ (n5 : Int),
                                                            h1.lda i1 (o1 + n2.toNat * (6 : Nat)) (6 : Nat) =
                                                                some (V.agg [V.bool b7, V.bool b8, V.int IntKind.u32 n3, V.int IntKind.u16 n4, V.str s1, V.int IntKind.u8 n5]) ∧
                                                              ∀ (h'9 : Hp),
                                                                h'9 =
                                                                    h1.alloc
                                                                      (O.row
                                                                        [V.bool false, V.bool false, V.int IntKind.u32 (0 : Int), V.int IntKind.u16 (0 : Int), V.str [], V.int IntKind.u8 (0 : Int)]
                                                                        (1 : Nat) false) →
                                                                  ∃ (h'10 : Hp),
                                                                    h'9.st h1.next (0 : Nat) [V.bool b7, V.bool b8, V.int IntKind.u32 n3, V.int IntKind.u16 n4, V.str s1, V.int IntKind.u8 n5] =
                                                                        some h'10 ∧
                                                                      ∃ (Q1 : List V → Hp → Prop),
                                                                        (∃ (b9 : Bool),
                                                                            h'10.ld h1.next (0 : Nat) = some (V.bool b9) ∧
                                                                              bif b9 then
                                                                                XCalls Try.prog (22 : Nat) [V.ptr a1] h'10 fun (v8 : V) (h'11 : Hp) =>
                                                                                  ∃ (n6 : Int),
                                                                                    ∃ (n7 : Int),
                                                                                      ∃ (s2 : List UInt8),
                                                                                        ∃ (b10 : Bool),
                                                                                          v8 = V.tup [V.agg [V.int IntKind.u32 n6, V.int IntKind.u16 n7, V.str s2], V.bool b10] ∧
                                                                                            ∀ (h'12 : Hp),
                                                                                              h'12 =
                                                                                                  h'11.alloc
                                                                                                    (O.row [V.int IntKind.u32 (0 : Int), V.int IntKind.u16 (0 : Int), V.str []] (1 : Nat) false) →
                                                                                                ∃ (h'13 : Hp),
                                                                                                  h'12.st h'11.next (0 : Nat) [V.int IntKind.u32 n6, V.int IntKind.u16 n7, V.str s2] = some h'13 ∧
                                                                                                    ∃ (Q2 : List V → Hp → Prop),
                                                                                                      (∃ (a2 : Option (Nat × Nat)),
                                                                                                          ∃ (n8 : Nat),
                                                                                                            ∃ (f1 : Bool),
                                                                                                              h'13.ld h'3.next (2 : Nat) = some (V.slc a2 n8 f1) ∧
                                                                                                                bif !b10 == ltI (0 : Int) (↑n8 : Int) then K (V.bool false) h'13
                                                                                                                else
                                                                                                                  bif b10 then
                                                                                                                    ∃ (n9 : Int),
                                                                                                                      ∃ (n10 : Int),
                                                                                                                        ∃ (s3 : List UInt8),
                                                                                                                          h'13.lda h'11.next (0 : Nat) (3 : Nat) =
                                                                                                                              some (V.agg [V.int IntKind.u32 n9, V.int IntKind.u16 n10, V.str s3]) ∧
                                                                                                                            ∃ (a3 : Option (Nat × Nat)),
                                                                                                                              ∃ (n11 : Nat),
                                                                                                                                ∃ (f2 : Bool),
                                                                                                                                  h'13.ld h'3.next (2 : Nat) = some (V.slc a3 n11 f2) ∧
                                                                                                                                    ((0 : Int) ≤ (0 : Int) ∧ (0 : Int) < (↑n11 : Int)) ∧
                                                                                                                                      onS a3 fun (i2 o2 : Nat) =>
                                                                                                                                        ∃ (n12 : Int),
                                                                                                                                          ∃ (n13 : Int),
                                                                                                                                            ∃ (s4 : List UInt8),
                                                                                                                                              h'13.lda i2 (o2 + Int.toNat (0 : Int) * (3 : Nat))
                                                                                                                                                    (3 : Nat) =
                                                                                                                                                  some
                                                                                                                                                    (V.agg
                                                                                                                                                      [V.int IntKind.u32 n12, V.int IntKind.u16 n13,
                                                                                                                                                        V.str s4]) ∧
                                                                                                                                                bif
                                                                                                                                                    !(n9 == n12 && (n10 == n13 && true) &&
                                                                                                                                                        (s3 == s4 && true)) then
                                                                                                                                                  K (V.bool false) h'13
                                                                                                                                                else
                                                                                                                                                  bif !b10 then
                                                                                                                                                    ∃ (n14 : Int),
                                                                                                                                                      ∃ (n15 : Int),
                                                                                                                                                        ∃ (s5 : List UInt8),
                                                                                                                                                          h'13.lda h'11.next (0 : Nat) (3 : Nat) =
                                                                                                                                                              some
                                                                                                                                                                (V.agg
                                                                                                                                                                  [V.int IntKind.u32 n14,
                                                                                                                                                                    V.int IntKind.u16 n15, V.str s5]) ∧
                                                                                                                                                            bif
                                                                                                                                                                !(n14 == (0 : Int) &&
                                                                                                                                                                      (n15 == (0 : Int) && true) &&
                                                                                                                                                                    (s5 == [] && true)) then
                                                                                                                                                              K (V.bool false) h'13
                                                                                                                                                            else
                                                                                                                                                              [V.bool b10,
                                                                                                                                                                    V.ptr (some (h'3.next, (0 : Nat))),
                                                                                                                                                                    V.ptr a1, V.int IntKind.i64 n2,
                                                                                                                                                                    V.slc script script_n script_f] =
                                                                                                                                                                  [V.bool b10,
                                                                                                                                                                    V.ptr (some (h'3.next, (0 : Nat))),
                                                                                                                                                                    V.ptr a1, V.int IntKind.i64 n2,
                                                                                                                                                                    V.slc script script_n script_f] ∧
                                                                                                                                                                Q2 [] h'13
                                                                                                                                                  else
                                                                                                                                                    [V.bool b10, V.ptr (some (h'3.next, (0 : Nat))),
                                                                                                                                                          V.ptr a1, V.int IntKind.i64 n2,
                                                                                                                                                          V.slc script script_n script_f] =
                                                                                                                                                        [V.bool b10, V.ptr (some (h'3.next, (0 : Nat))),
                                                                                                                                                          V.ptr a1, V.int IntKind.i64 n2,
                                                                                                                                                          V.slc script script_n script_f] ∧
                                                                                                                                                      Q2 [] h'13
                                                                                                                  else
                                                                                                                    bif !b10 then
                                                                                                                      ∃ (n16 : Int),
                                                                                                                        ∃ (n17 : Int),
                                                                                                                          ∃ (s6 : List UInt8),
                                                                                                                            h'13.lda h'11.next (0 : Nat) (3 : Nat) =
                                                                                                                                some (V.agg [V.int IntKind.u32 n16, V.int IntKind.u16 n17, V.str s6]) ∧
                                                                                                                              bif
                                                                                                                                  !(n16 == (0 : Int) && (n17 == (0 : Int) && true) &&
                                                                                                                                      (s6 == [] && true)) then
                                                                                                                                K (V.bool false) h'13
                                                                                                                              else
                                                                                                                                [V.bool b10, V.ptr (some (h'3.next, (0 : Nat))), V.ptr a1,
                                                                                                                                      V.int IntKind.i64 n2, V.slc script script_n script_f] =
                                                                                                                                    [V.bool b10, V.ptr (some (h'3.next, (0 : Nat))), V.ptr a1,
                                                                                                                                      V.int IntKind.i64 n2, V.slc script script_n script_f] ∧
                                                                                                                                  Q2 [] h'13
                                                                                                                    else
                                                                                                                      [V.bool b10, V.ptr (some (h'3.next, (0 : Nat))), V.ptr a1, V.int IntKind.i64 n2,
                                                                                                                            V.slc script script_n script_f] =
                                                                                                                          [V.bool b10, V.ptr (some (h'3.next, (0 : Nat))), V.ptr a1,
                                                                                                                            V.int IntKind.i64 n2, V.slc script script_n script_f] ∧
                                                                                                                        Q2 [] h'13) ∧
                                                                                                        ∀ (bs2 : Nat → Option V) (h2 : Hp),
                                                                                                          Q2 [] h2 →
                                                                                                            bif b10 then
                                                                                                              ∃ (a4 : Option (Nat × Nat)),
                                                                                                                ∃ (n18 : Nat),
                                                                                                                  ∃ (f3 : Bool),
                                                                                                                    h2.ld h'3.next (2 : Nat) = some (V.slc a4 n18 f3) ∧
                                                                                                                      ∃ (a5 : Option (Nat × Nat)),
                                                                                                                        ∃ (n19 : Nat),
                                                                                                                          ∃ (f4 : Bool),
                                                                                                                            xslice T h2 (59 : Nat) (V.slc a4 n18 f3)
                                                                                                                                  (some (V.int IntKind.i64 (1 : Int))) none none =
                                                                                                                                some (V.slc a5 n19 f4) ∧
                                                                                                                              ∃ (h'14 : Hp),
                                                                                                                                h2.st h'3.next (2 : Nat) [V.slc a5 n19 f4] = some h'14 ∧
                                                                                                                                  [V.ptr a1, V.ptr (some (h'3.next, (0 : Nat))), V.int IntKind.i64 n2,
                                                                                                                                        V.slc script script_n script_f] =
                                                                                                                                      [V.ptr a1, V.ptr (some (h'3.next, (0 : Nat))),
                                                                                                                                        V.int IntKind.i64 n2, V.slc script script_n script_f] ∧
                                                                                                                                    Q1 [] h'14
                                                                                                            else
                                                                                                              [V.ptr a1, V.ptr (some (h'3.next, (0 : Nat))), V.int IntKind.i64 n2,
                                                                                                                    V.slc script script_n script_f] =
                                                                                                                  [V.ptr a1, V.ptr (some (h'3.next, (0 : Nat))), V.int IntKind.i64 n2,
                                                                                                                    V.slc script script_n script_f] ∧
                                                                                                                Q1 [] h2
                                                                              else
                                                                                ∃ (b11 : Bool),
                                                                                  h'10.ld h1.next (1 : Nat) = some (V.bool b11) ∧
                                                                                    bif b11 then
                                                                                      ∃ (n20 : Int),
                                                                                        h'10.ld h'3.next (3 : Nat) = some (V.int IntKind.i64 n20) ∧
                                                                                          XCalls Try.prog (25 : Nat) [V.ptr a1] h'10 fun (v9 : V) (h'15 : Hp) =>
                                                                                            ∃ (n21 : Int),
                                                                                              v9 = V.int IntKind.i64 n21 ∧
                                                                                                (∃ (n22 : Int),
                                                                                                    h'15.ld h'3.next (3 : Nat) = some (V.int IntKind.i64 n22) ∧
                                                                                                      V.int IntKind.i64 n22 = V.int IntKind.i64 n20) ∧
                                                                                                  V.ptr (some (h'3.next, (3 : Nat))) = V.ptr (some (h'3.next, (3 : Nat))) ∧
                                                                                                    V.ptr (some (h'3.next, (0 : Nat))) = V.ptr (some (h'3.next, (0 : Nat))) ∧
                                                                                                      V.ptr (some (h'3.next, (0 : Nat))) = V.ptr (some (h'3.next, (0 : Nat))) ∧
                                                                                                        bif n21 != n20 then K (V.bool false) h'15
                                                                                                        else
                                                                                                          ∃ (h'16 : Hp),
                                                                                                            h'15.st h'3.next (3 : Nat) [V.int IntKind.i64 (0 : Int)] = some h'16 ∧
                                                                                                              [V.ptr a1, V.ptr (some (h'3.next, (0 : Nat))), V.int IntKind.i64 n2,
                                                                                                                    V.slc script script_n script_f] =
                                                                                                                  [V.ptr a1, V.ptr (some (h'3.next, (0 : Nat))), V.int IntKind.i64 n2,
                                                                                                                    V.slc script script_n script_f] ∧
                                                                                                                Q1 [] h'16
                                                                                    else
                                                                                      ∃ (n23 : Int),
                                                                                        h'10.ld h1.next (5 : Nat) = some (V.int IntKind.u8 n23) ∧
                                                                                          bif ltI (0 : Int) n23 then
                                                                                            ∃ (n24 : Int),
                                                                                              h'10.ld h1.next (5 : Nat) = some (V.int IntKind.u8 n24) ∧
                                                                                                XCalls Try.prog (26 : Nat) [V.ptr a1, V.int IntKind.i64 (IntKind.i64.wrap n24)] h'10
                                                                                                  fun (v10 : V) (h'17 : Hp) =>
                                                                                                  ∃ (n25 : Int),
                                                                                                    h'17.ld h1.next (5 : Nat) = some (V.int IntKind.u8 n25) ∧
                                                                                                      ∃ (h'18 : Hp),
                                                                                                        h'17.st h'3.next (3 : Nat) [V.int IntKind.i64 (IntKind.i64.wrap n25)] = some h'18 ∧
                                                                                                          [V.ptr a1, V.ptr (some (h'3.next, (0 : Nat))), V.int IntKind.i64 n2,
                                                                                                                V.slc script script_n script_f] =
                                                                                                              [V.ptr a1, V.ptr (some (h'3.next, (0 : Nat))), V.int IntKind.i64 n2,
                                                                                                                V.slc script script_n script_f] ∧
                                                                                                            Q1 [] h'18
                                                                                          else
                                                                                            ∃ (n26 : Int),
                                                                                              ∃ (n27 : Int),
                                                                                                ∃ (s7 : List UInt8),
                                                                                                  h'10.lda h1.next (2 : Nat) (3 : Nat) =
                                                                                                      some (V.agg [V.int IntKind.u32 n26, V.int IntKind.u16 n27, V.str s7]) ∧
                                                                                                    ∃ (n28 : Int),
                                                                                                      ∃ (n29 : Int),
                                                                                                        ∃ (s8 : List UInt8),
                                                                                                          h'10.lda h1.next (2 : Nat) (3 : Nat) =
                                                                                                              some (V.agg [V.int IntKind.u32 n28, V.int IntKind.u16 n29, V.str s8]) ∧
                                                                                                            XCalls Try.prog (23 : Nat)
                                                                                                              [V.ptr a1, V.agg [V.int IntKind.u32 n26, V.int IntKind.u16 n27, V.str s7]] h'10
                                                                                                              fun (v11 : V) (h'19 : Hp) =>
                                                                                                              ∃ (n30 : Int),
                                                                                                                v11 = V.int IntKind.i64 n30 ∧
                                                                                                                  (∃ (n31 : Int),
                                                                                                                      ∃ (n32 : Int),
                                                                                                                        ∃ (s9 : List UInt8),
                                                                                                                          h'19.lda h1.next (2 : Nat) (3 : Nat) =
                                                                                                                              some (V.agg [V.int IntKind.u32 n31, V.int IntKind.u16 n32, V.str s9]) ∧
                                                                                                                            V.agg [V.int IntKind.u32 n31, V.int IntKind.u16 n32, V.str s9] =
                                                                                                                              V.agg [V.int IntKind.u32 n28, V.int IntKind.u16 n29, V.str s8]) ∧
                                                                                                                    V.ptr (some (h1.next, (2 : Nat))) = V.ptr (some (h1.next, (2 : Nat))) ∧
                                                                                                                      V.ptr (some (h'3.next, (0 : Nat))) = V.ptr (some (h'3.next, (0 : Nat))) ∧
                                                                                                                        XCalls Try.prog (27 : Nat)
                                                                                                                          [V.ptr (some (h'3.next, (0 : Nat))),
                                                                                                                            V.agg [V.int IntKind.u32 n28, V.int IntKind.u16 n29, V.str s8]]
                                                                                                                          h'19 fun (v12 : V) (h'20 : Hp) =>
                                                                                                                          ∃ (n33 : Int),
                                                                                                                            v12 = V.int IntKind.i64 n33 ∧
                                                                                                                              bif n30 != n33 then K (V.bool false) h'20
                                                                                                                              else
                                                                                                                                [V.ptr a1, V.ptr (some (h'3.next, (0 : Nat))), V.int IntKind.i64 n2,
                                                                                                                                      V.slc script script_n script_f] =
                                                                                                                                    [V.ptr a1, V.ptr (some (h'3.next, (0 : Nat))), V.int IntKind.i64 n2,
                                                                                                                                      V.slc script script_n script_f] ∧
                                                                                                                                  Q1 [] h'20) ∧
                                                                          ∀ (bs3 : Nat → Option V) (h3 : Hp),
                                                                            Q1 [] h3 →
                                                                              XCalls Try.prog (26 : Nat) [V.ptr a1, V.int IntKind.i64 (0 : Int)] h3 fun (v13 : V) (h'21 : Hp) =>
                                                                                XCalls Try.prog (24 : Nat) [V.ptr a1] h'21 fun (v14 : V) (h'22 : Hp) =>
                                                                                  ∃ (n34 : Int),
                                                                                    ∃ (n35 : Int),
                                                                                      v14 = V.tup [V.int IntKind.i64 n34, V.int IntKind.i64 n35] ∧
                                                                                        ∃ (a6 : Option (Nat × Nat)),
                                                                                          ∃ (n36 : Nat),
                                                                                            ∃ (f5 : Bool),
                                                                                              h'22.ld h'3.next (2 : Nat) = some (V.slc a6 n36 f5) ∧
                                                                                                bif n34 != (↑n36 : Int) then K (V.bool false) h'22
                                                                                                else
                                                                                                  XCalls Try.prog (28 : Nat) [V.ptr (some (h'3.next, (0 : Nat)))] h'22 fun (v15 : V) (h'23 : Hp) =>
                                                                                                    ∃ (n37 : Int),
                                                                                                      v15 = V.int IntKind.i64 n37 ∧
                                                                                                        V.int IntKind.i64 n35 = V.int IntKind.i64 n35 ∧
                                                                                                          bif n35 != n37 then K (V.bool false) h'23
                                                                                                          else
                                                                                                            ∃ (n38 : Int),
                                                                                                              h'23.ld h'3.next (4 : Nat) = some (V.int IntKind.u64 n38) ∧
                                                                                                                XCalls Try.prog (29 : Nat) [V.ptr a1] h'23 fun (v16 : V) (h'24 : Hp) =>
                                                                                                                  ∃ (n39 : Int),
                                                                                                                    v16 = V.int IntKind.u64 n39 ∧
                                                                                                                      (∃ (n40 : Int),
                                                                                                                          h'24.ld h'3.next (4 : Nat) = some (V.int IntKind.u64 n40) ∧
                                                                                                                            V.int IntKind.u64 n40 = V.int IntKind.u64 n38) ∧
                                                                                                                        V.ptr (some (h'3.next, (4 : Nat))) = V.ptr (some (h'3.next, (4 : Nat))) ∧
                                                                                                                          V.ptr (some (h'3.next, (0 : Nat))) = V.ptr (some (h'3.next, (0 : Nat))) ∧
                                                                                                                            V.ptr (some (h'3.next, (0 : Nat))) = V.ptr (some (h'3.next, (0 : Nat))) ∧
                                                                                                                              bif n39 != n38 then K (V.bool false) h'24
                                                                                                                              else
                                                                                                                                [V.slc script script_n script_f, V.ptr a1,
                                                                                                                                      V.ptr (some (h'3.next, (0 : Nat)))] =
                                                                                                                                    [V.slc script script_n script_f, V.ptr a1,
                                                                                                                                      V.ptr (some (h'3.next, (0 : Nat)))] ∧
                                                                                                                                  I1 [V.int IntKind.i64 (IntKind.i64.wrap (n2 + (1 : Int)))] h'24 ∧
                                                                                                                                    x1 [V.int IntKind.i64 (IntKind.i64.wrap (n2 + (1 : Int)))] h'24 <
                                                                                                                                      x1 [V.int IntKind.i64 n2] h1
                                          else XCalls Try.prog (9 : Nat) [] h1 fun (v17 : V) (h'25 : Hp) => ∃ (b12 : Bool), v17 = V.bool b12 ∧ K (V.bool b12) h'25
theorem x6 {h : Hp} {K : V → Hp → Prop} (most : Int) (bytes : Int) (script : Option (Nat × Nat)) (script_n : Nat) (script_f : Bool) (hx : X6 h K most bytes script script_n script_f) : XCalls Try.prog 6 [V.int IntKind.i64 most, V.int IntKind.i64 bytes, V.slc script script_n script_f] h K :=
  XCalls.ofX tok fok mixed (JL := jl6) (JJ := jj6) Try.func6 (cast (by kernel_rfl) hx)
/-! 25: (*stevedore/inet.Box).Failed -/
def jl25 : Nat → Option JT := fun r => none
def jj25 : Nat → Option JT := fun r => none
def X25 (h : Hp) (K : V → Hp → Prop) (b : Nat) : Prop :=
  ∃ (n1 : Int), h.ld b (5 : Nat) = some (V.int IntKind.i64 n1) ∧ ∃ (h'1 : Hp), h.st b (5 : Nat) [V.int IntKind.i64 (0 : Int)] = some h'1 ∧ K (V.int IntKind.i64 n1) h'1
theorem x25 {h : Hp} {K : V → Hp → Prop} (b : Nat) (hx : X25 h K b) : XCalls Try.prog 25 [V.ptr (some (b, (0 : Nat)))] h K :=
  XCalls.ofX tok fok mixed (JL := jl25) (JJ := jj25) Try.func25 (cast (by kernel_rfl) hx)
/-! 26: (*stevedore/inet.Box).Fail -/
def jl26 : Nat → Option JT := fun r => none
def jj26 : Nat → Option JT := fun r => none
def X26 (h : Hp) (K : V → Hp → Prop) (b : Nat) (e : Int) : Prop :=
  bif e != (0 : Int) then ∃ (h'1 : Hp), h.st b (5 : Nat) [V.int IntKind.i64 e] = some h'1 ∧ K (V.tup []) h'1 else K (V.tup []) h
theorem x26 {h : Hp} {K : V → Hp → Prop} (b : Nat) (e : Int) (hx : X26 h K b e) : XCalls Try.prog 26 [V.ptr (some (b, (0 : Nat))), V.int IntKind.i64 e] h K :=
  XCalls.ofX tok fok mixed (JL := jl26) (JJ := jj26) Try.func26 (cast (by kernel_rfl) hx)
/-! 27: (*stevedore/stevedoreref28.Box).Put -/
def jl27 : Nat → Option JT := fun r => none
def jj27 : Nat → Option JT := fun r => none
def X27 (h : Hp) (K : V → Hp → Prop) (b : Nat) (m_0 : Int) (m_1 : Int) (m_2 : List UInt8) : Prop :=
  ∀ (h'1 : Hp),
  h'1 = h.alloc (O.row [V.int IntKind.u32 m_0, V.int IntKind.u16 m_1, V.str m_2] (1 : Nat) false) →
    ∃ (a1 : Option (Nat × Nat)),
      ∃ (n1 : Nat),
        ∃ (f1 : Bool),
          h'1.ld b (2 : Nat) = some (V.slc a1 n1 f1) ∧
            ∃ (n2 : Int),
              h'1.ld b (0 : Nat) = some (V.int IntKind.i64 n2) ∧
                bif !ltI (↑n1 : Int) n2 then
                  ∃ (n3 : Int),
                    h'1.ld b (4 : Nat) = some (V.int IntKind.u64 n3) ∧
                      ∃ (h'2 : Hp), h'1.st b (4 : Nat) [V.int IntKind.u64 (IntKind.u64.wrap (n3 + (1 : Int)))] = some h'2 ∧ K (V.int IntKind.i64 (6 : Int)) h'2
                else
                  ∃ (s1 : List UInt8),
                    h'1.ld h.next (2 : Nat) = some (V.str s1) ∧
                      ∃ (n4 : Int),
                        h'1.ld b (1 : Nat) = some (V.int IntKind.i64 n4) ∧
                          XCalls Try.prog (28 : Nat) [V.ptr (some (b, (0 : Nat)))] h'1 fun (v1 : V) (h'3 : Hp) =>
                            ∃ (n5 : Int),
                              v1 = V.int IntKind.i64 n5 ∧
                                (∃ (n6 : Int), h'3.ld b (1 : Nat) = some (V.int IntKind.i64 n6) ∧ V.int IntKind.i64 n6 = V.int IntKind.i64 n4) ∧
                                  V.ptr (some (b, (1 : Nat))) = V.ptr (some (b, (1 : Nat))) ∧
                                    V.ptr (some (b, (0 : Nat))) = V.ptr (some (b, (0 : Nat))) ∧
                                      V.ptr (some (b, (0 : Nat))) = V.ptr (some (b, (0 : Nat))) ∧
                                        V.int IntKind.i64 (↑s1.length : Int) = V.int IntKind.i64 (↑s1.length : Int) ∧
                                          (∃ (s2 : List UInt8), h'3.ld h.next (2 : Nat) = some (V.str s2) ∧ V.str s2 = V.str s1) ∧
                                            V.ptr (some (h.next, (2 : Nat))) = V.ptr (some (h.next, (2 : Nat))) ∧
                                              bif ltI n4 (IntKind.i64.wrap (n5 + (↑s1.length : Int))) then
                                                ∃ (n7 : Int),
                                                  h'3.ld b (4 : Nat) = some (V.int IntKind.u64 n7) ∧
                                                    ∃ (h'4 : Hp), h'3.st b (4 : Nat) [V.int IntKind.u64 (IntKind.u64.wrap (n7 + (1 : Int)))] = some h'4 ∧ K (V.int IntKind.i64 (6 : Int)) h'4
                                              else
                                                ∃ (a2 : Option (Nat × Nat)),
                                                  ∃ (n8 : Nat),
                                                    ∃ (f2 : Bool),
                                                      h'3.ld b (2 : Nat) = some (V.slc a2 n8 f2) ∧
                                                        ∃ (n9 : Int),
                                                          ∃ (n10 : Int),
                                                            ∃ (s3 : List UInt8),
                                                              h'3.lda h.next (0 : Nat) (3 : Nat) = some (V.agg [V.int IntKind.u32 n9, V.int IntKind.u16 n10, V.str s3]) ∧
                                                                ∀ (h'5 : Hp),
                                                                  h'5 = h'3.alloc (O.row [V.int IntKind.u32 n9, V.int IntKind.u16 n10, V.str s3] (3 : Nat) false) →
                                                                    (∃ (a3 : Option (Nat × Nat)),
                                                                        ∃ (n11 : Nat), ∃ (f3 : Bool), h'5.ld b (2 : Nat) = some (V.slc a3 n11 f3) ∧ V.slc a3 n11 f3 = V.slc a2 n8 f2) ∧
                                                                      V.ptr (some (b, (2 : Nat))) = V.ptr (some (b, (2 : Nat))) ∧
                                                                        V.ptr (some (b, (0 : Nat))) = V.ptr (some (b, (0 : Nat))) ∧
                                                                          V.ptr (some (b, (0 : Nat))) = V.ptr (some (b, (0 : Nat))) ∧
                                                                            V.ptr (some (b, (0 : Nat))) = V.ptr (some (b, (0 : Nat))) ∧
                                                                              ∃ (p1 : Option (Nat × Nat)),
                                                                                ∃ (n12 : Nat),
                                                                                  ∃ (f4 : Bool),
                                                                                    ∃ (h'6 : Hp),
                                                                                      xapp T h'5 (59 : Nat) (59 : Nat) (V.slc a2 n8 f2) (V.slc (some (h'3.next, (0 : Nat))) (1 : Nat) true) =
                                                                                          some (V.slc p1 n12 f4, h'6) ∧
                                                                                        V.ptr (some (b, (0 : Nat))) = V.ptr (some (b, (0 : Nat))) ∧
                                                                                          ∃ (h'7 : Hp), h'6.st b (2 : Nat) [V.slc p1 n12 f4] = some h'7 ∧ K (V.int IntKind.i64 (0 : Int)) h'7
theorem x27 {h : Hp} {K : V → Hp → Prop} (b : Nat) (m_0 : Int) (m_1 : Int) (m_2 : List UInt8) (hx : X27 h K b m_0 m_1 m_2) : XCalls Try.prog 27 [V.ptr (some (b, (0 : Nat))), V.agg [V.int IntKind.u32 m_0, V.int IntKind.u16 m_1, V.str m_2]] h K :=
  XCalls.ofX tok fok mixed (JL := jl27) (JJ := jj27) Try.func27 (cast (by kernel_rfl) hx)
/-! 28: (*stevedore/stevedoreref28.Box).Bytes -/
-- loop 3: stays b(0); turns n(3), i(4)
def jl28 : Nat → Option JT := fun r => bif Nat.beq r 3 then some ⟨[0], [3, 4], [V.int IntKind.i64 (0 : Int), V.int IntKind.i64 (0 : Int)]⟩ else none
def jj28 : Nat → Option JT := fun r => none
def X28 (h : Hp) (K : V → Hp → Prop) (b : Nat) : Prop :=
  ∃ (I1 : List V → Hp → Prop),
  ∃ (x1 : List V → Hp → Nat),
    ([V.ptr (some (b, (0 : Nat)))] = [V.ptr (some (b, (0 : Nat)))] ∧ I1 [V.int IntKind.i64 (0 : Int), V.int IntKind.i64 (0 : Int)] h) ∧
      ∀ (bs1 : Nat → Option V) (n1 n2 : Int) (h1 : Hp),
        I1 [V.int IntKind.i64 n1, V.int IntKind.i64 n2] h1 →
          ∃ (a1 : Option (Nat × Nat)),
            ∃ (n3 : Nat),
              ∃ (f1 : Bool),
                h1.ld b (2 : Nat) = some (V.slc a1 n3 f1) ∧
                  bif ltI n2 (↑n3 : Int) then
                    ∃ (a2 : Option (Nat × Nat)),
                      ∃ (n4 : Nat),
                        ∃ (f2 : Bool),
                          h1.ld b (2 : Nat) = some (V.slc a2 n4 f2) ∧
                            ((0 : Int) ≤ n2 ∧ n2 < (↑n4 : Int)) ∧
                              onS a2 fun (i1 o1 : Nat) =>
                                ∃ (s1 : List UInt8),
                                  h1.ld i1 (o1 + n2.toNat * (3 : Nat) + (2 : Nat)) = some (V.str s1) ∧
                                    [V.ptr (some (b, (0 : Nat)))] = [V.ptr (some (b, (0 : Nat)))] ∧
                                      I1 [V.int IntKind.i64 (IntKind.i64.wrap (n1 + (↑s1.length : Int))), V.int IntKind.i64 (IntKind.i64.wrap (n2 + (1 : Int)))] h1 ∧
                                        x1 [V.int IntKind.i64 (IntKind.i64.wrap (n1 + (↑s1.length : Int))), V.int IntKind.i64 (IntKind.i64.wrap (n2 + (1 : Int)))] h1 <
                                          x1 [V.int IntKind.i64 n1, V.int IntKind.i64 n2] h1
                  else K (V.int IntKind.i64 n1) h1
theorem x28 {h : Hp} {K : V → Hp → Prop} (b : Nat) (hx : X28 h K b) : XCalls Try.prog 28 [V.ptr (some (b, (0 : Nat)))] h K :=
  XCalls.ofX tok fok mixed (JL := jl28) (JJ := jj28) Try.func28 (cast (by kernel_rfl) hx)
/-! 29: (*stevedore/inet.Box).Dropped -/
def jl29 : Nat → Option JT := fun r => none
def jj29 : Nat → Option JT := fun r => none
def X29 (h : Hp) (K : V → Hp → Prop) (b : Nat) : Prop :=
  ∃ (n1 : Int), h.ld b (0 : Nat) = some (V.int IntKind.u64 n1) ∧ K (V.int IntKind.u64 n1) h
theorem x29 {h : Hp} {K : V → Hp → Prop} (b : Nat) (hx : X29 h K b) : XCalls Try.prog 29 [V.ptr (some (b, (0 : Nat)))] h K :=
  XCalls.ofX tok fok mixed (JL := jl29) (JJ := jj29) Try.func29 (cast (by kernel_rfl) hx)
end Go.Vex
