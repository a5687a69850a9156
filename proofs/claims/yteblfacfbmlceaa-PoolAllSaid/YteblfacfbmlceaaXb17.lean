/-
  PoolAll as a statement about data (printed by VexPrint).
-/
import Derived.Test.YteblfacfbmlceaaVexX
import Derived.Test.YteblfacfbmlceaaTab17
set_option linter.unusedVariables false
set_option maxRecDepth 100000
namespace Go.Vex
open Go.Proofs
/-! 3: stevedore/stevedorelaw17.PoolAll -/
-- loop 17: stays which(1), odd(2), n(7), p(8), seen(16); turns ids(15), i(17)
-- loop 6: stays which(1), odd(2), n(7), p(8); turns i(10)
-- join 31: stays p(8); turns free(21)
-- join 25: stays p(8), ids(15); turns good(19)
-- join 24: stays seen(16), ids(15), odd(2), n(7), p(8); turns 
def jl3 : Nat → Option JT := fun r => bif Nat.beq r 17 then some ⟨[1, 2, 7, 8, 16], [15, 17], [V.slc none (0 : Nat) true, V.int IntKind.i64 (0 : Int)]⟩ else bif Nat.beq r 6 then some ⟨[1, 2, 7, 8], [10], [V.int IntKind.i64 (0 : Int)]⟩ else none
def jj3 : Nat → Option JT := fun r => bif Nat.beq r 31 then some ⟨[8], [21], [V.int IntKind.i64 (0 : Int)]⟩ else bif Nat.beq r 25 then some ⟨[8, 15], [19], [V.bool false]⟩ else bif Nat.beq r 24 then some ⟨[16, 15, 2, 7, 8], [], []⟩ else none
def X3 (h : Hp) (K : V → Hp → Prop) (most : Int) (which : Option (Nat × Nat)) (which_n : Nat) (which_f : Bool) (odd : Int) : Prop :=
  ¬(20 : Int) = (0 : Int) ∧
  XCalls Try.prog (8 : Nat) [V.int IntKind.i64 (IntKind.i64.wrap (IntKind.i64.wrap (most.tmod (20 : Int)) + (1 : Int)))] h fun (v1 : V) (h'1 : Hp) =>
    ∃ (a1 : Option (Nat × Nat)),
      ∃ (n1 : Int),
        v1 = V.tup [V.ptr a1, V.int IntKind.i64 n1] ∧
          bif n1 != (0 : Int) then
            bif ltI (40 : Int) (↑which_n : Int) then XCalls Try.prog (9 : Nat) [] h'1 fun (v2 : V) (h'2 : Hp) => ∃ (b1 : Bool), v2 = V.bool b1 ∧ K (V.bool b1) h'2 else K (V.bool false) h'1
          else
            bif a1.isNone then
              bif ltI (40 : Int) (↑which_n : Int) then XCalls Try.prog (9 : Nat) [] h'1 fun (v3 : V) (h'3 : Hp) => ∃ (b2 : Bool), v3 = V.bool b2 ∧ K (V.bool b2) h'3 else K (V.bool false) h'1
            else
              bif ltI (40 : Int) (↑which_n : Int) then
                bif ltI (40 : Int) (↑which_n : Int) then XCalls Try.prog (9 : Nat) [] h'1 fun (v4 : V) (h'4 : Hp) => ∃ (b3 : Bool), v4 = V.bool b3 ∧ K (V.bool b3) h'4 else K (V.bool false) h'1
              else
                ∃ (I1 : List V → Hp → Prop),
                  ∃ (x1 : List V → Hp → Nat),
                    ([V.slc which which_n which_f, V.int IntKind.u8 odd, V.int IntKind.i64 (IntKind.i64.wrap (IntKind.i64.wrap (most.tmod (20 : Int)) + (1 : Int))), V.ptr a1] =
                          [V.slc which which_n which_f, V.int IntKind.u8 odd, V.int IntKind.i64 (IntKind.i64.wrap (IntKind.i64.wrap (most.tmod (20 : Int)) + (1 : Int))), V.ptr a1] ∧
                        I1 [V.int IntKind.i64 (0 : Int)] h'1) ∧
                      ∀ (bs1 : Nat → Option V) (n2 : Int) (h1 : Hp),
                        I1 [V.int IntKind.i64 n2] h1 →
                          bif ltI n2 (IntKind.i64.wrap (IntKind.i64.wrap (most.tmod (20 : Int)) + (1 : Int))) then
                            XCalls Try.prog (10 : Nat) [V.ptr a1, V.str [(120 : UInt8)], V.str [(97 : UInt8)]] h1 fun (v5 : V) (h'5 : Hp) =>
                              ∃ (n3 : Int),
                                ∃ (n4 : Int),
                                  v5 = V.tup [V.int IntKind.u64 n3, V.int IntKind.i64 n4] ∧
                                    bif n4 != (0 : Int) then K (V.bool false) h'5
                                    else
                                      [V.slc which which_n which_f, V.int IntKind.u8 odd, V.int IntKind.i64 (IntKind.i64.wrap (IntKind.i64.wrap (most.tmod (20 : Int)) + (1 : Int))), V.ptr a1] =
                                          [V.slc which which_n which_f, V.int IntKind.u8 odd, V.int IntKind.i64 (IntKind.i64.wrap (IntKind.i64.wrap (most.tmod (20 : Int)) + (1 : Int))), V.ptr a1] ∧
                                        I1 [V.int IntKind.i64 (IntKind.i64.wrap (n2 + (1 : Int)))] h'5 ∧ x1 [V.int IntKind.i64 (IntKind.i64.wrap (n2 + (1 : Int)))] h'5 < x1 [V.int IntKind.i64 n2] h1
                          else
                            XCalls Try.prog (10 : Nat) [V.ptr a1, V.str [(120 : UInt8)], V.str [(97 : UInt8)]] h1 fun (v6 : V) (h'6 : Hp) =>
                              ∃ (n5 : Int),
                                ∃ (n6 : Int),
                                  v6 = V.tup [V.int IntKind.u64 n5, V.int IntKind.i64 n6] ∧
                                    bif n6 != (6 : Int) then K (V.bool false) h'6
                                    else
                                      ∀ (h'7 : Hp),
                                        h'7 = h'6.alloc (O.map [] (0 : Nat)) →
                                          ∃ (I2 : List V → Hp → Prop),
                                            ∃ (x2 : List V → Hp → Nat),
                                              ([V.slc which which_n which_f, V.int IntKind.u8 odd, V.int IntKind.i64 (IntKind.i64.wrap (IntKind.i64.wrap (most.tmod (20 : Int)) + (1 : Int))), V.ptr a1,
                                                      V.map (some h'6.next)] =
                                                    [V.slc which which_n which_f, V.int IntKind.u8 odd, V.int IntKind.i64 (IntKind.i64.wrap (IntKind.i64.wrap (most.tmod (20 : Int)) + (1 : Int))),
                                                      V.ptr a1, V.map (some h'6.next)] ∧
                                                  I2 [V.slc none (0 : Nat) true, V.int IntKind.i64 (0 : Int)] h'7) ∧
                                                ∀ (bs2 : Nat → Option V) (a2 : Option (Nat × Nat)) (n7 : Nat) (f1 : Bool) (n8 : Int) (h2 : Hp),
                                                  I2 [V.slc a2 n7 f1, V.int IntKind.i64 n8] h2 →
                                                    bif ltI n8 (↑which_n : Int) then
                                                      ((0 : Int) ≤ n8 ∧ n8 < (↑which_n : Int)) ∧
                                                        onS which fun (i1 o1 : Nat) =>
                                                          ∃ (n9 : Int),
                                                            h2.ld i1 (o1 + n8.toNat * (1 : Nat)) = some (V.int IntKind.u8 n9) ∧
                                                              ¬IntKind.u64.wrap (IntKind.i64.wrap (IntKind.i64.wrap (most.tmod (20 : Int)) + (1 : Int))) = (0 : Int) ∧
                                                                ∃ (n10 : Int),
                                                                  xlook T h2 (32 : Nat) (V.map (some h'6.next))
                                                                        (V.int IntKind.u64
                                                                          (IntKind.u64.wrap
                                                                            ((IntKind.u64.wrap n9).tmod (IntKind.u64.wrap (IntKind.i64.wrap (IntKind.i64.wrap (most.tmod (20 : Int)) + (1 : Int)))) +
                                                                              (1 : Int))))
                                                                        false =
                                                                      some (V.int IntKind.i64 n10) ∧
                                                                    ∃ (h'8 : Hp),
                                                                      xput T h2 (32 : Nat) (V.map (some h'6.next))
                                                                            (V.int IntKind.u64
                                                                              (IntKind.u64.wrap
                                                                                ((IntKind.u64.wrap n9).tmod
                                                                                    (IntKind.u64.wrap (IntKind.i64.wrap (IntKind.i64.wrap (most.tmod (20 : Int)) + (1 : Int)))) +
                                                                                  (1 : Int))))
                                                                            (V.int IntKind.i64 (IntKind.i64.wrap (n10 + (1 : Int)))) =
                                                                          some h'8 ∧
                                                                        ∀ (h'9 : Hp),
                                                                          h'9 =
                                                                              h'8.alloc
                                                                                (O.row
                                                                                  [V.int IntKind.u64
                                                                                      (IntKind.u64.wrap
                                                                                        ((IntKind.u64.wrap n9).tmod
                                                                                            (IntKind.u64.wrap (IntKind.i64.wrap (IntKind.i64.wrap (most.tmod (20 : Int)) + (1 : Int)))) +
                                                                                          (1 : Int)))]
                                                                                  (1 : Nat) false) →
                                                                            ∃ (p1 : Option (Nat × Nat)),
                                                                              ∃ (n11 : Nat),
                                                                                ∃ (f2 : Bool),
                                                                                  ∃ (h'10 : Hp),
                                                                                    xapp T h'9 (31 : Nat) (31 : Nat) (V.slc a2 n7 f1) (V.slc (some (h'8.next, (0 : Nat))) (1 : Nat) true) =
                                                                                        some (V.slc p1 n11 f2, h'10) ∧
                                                                                      [V.slc which which_n which_f, V.int IntKind.u8 odd,
                                                                                            V.int IntKind.i64 (IntKind.i64.wrap (IntKind.i64.wrap (most.tmod (20 : Int)) + (1 : Int))), V.ptr a1,
                                                                                            V.map (some h'6.next)] =
                                                                                          [V.slc which which_n which_f, V.int IntKind.u8 odd,
                                                                                            V.int IntKind.i64 (IntKind.i64.wrap (IntKind.i64.wrap (most.tmod (20 : Int)) + (1 : Int))), V.ptr a1,
                                                                                            V.map (some h'6.next)] ∧
                                                                                        I2 [V.slc p1 n11 f2, V.int IntKind.i64 (IntKind.i64.wrap (n8 + (1 : Int)))] h'10 ∧
                                                                                          x2 [V.slc p1 n11 f2, V.int IntKind.i64 (IntKind.i64.wrap (n8 + (1 : Int)))] h'10 <
                                                                                            x2 [V.slc a2 n7 f1, V.int IntKind.i64 n8] h2
                                                    else
                                                      ∃ (Q1 : List V → Hp → Prop),
                                                        (¬(3 : Int) = (0 : Int) ∧
                                                            bif odd.tmod (3 : Int) == (1 : Int) then
                                                              ¬IntKind.u64.wrap (IntKind.i64.wrap (IntKind.i64.wrap (most.tmod (20 : Int)) + (1 : Int))) = (0 : Int) ∧
                                                                XCalls Try.prog (11 : Nat)
                                                                  [V.ptr a1,
                                                                    V.int IntKind.u64
                                                                      (IntKind.u64.wrap
                                                                        ((IntKind.u64.wrap odd).tmod (IntKind.u64.wrap (IntKind.i64.wrap (IntKind.i64.wrap (most.tmod (20 : Int)) + (1 : Int)))) +
                                                                          (1 : Int))),
                                                                    V.str [(120 : UInt8)], V.str [(121 : UInt8)]]
                                                                  h2 fun (v7 : V) (h'11 : Hp) =>
                                                                  ∃ (n12 : Int),
                                                                    v7 = V.int IntKind.i64 n12 ∧
                                                                      bif n12 != (0 : Int) then K (V.bool false) h'11
                                                                      else
                                                                        [V.map (some h'6.next), V.slc a2 n7 f1, V.int IntKind.u8 odd,
                                                                              V.int IntKind.i64 (IntKind.i64.wrap (IntKind.i64.wrap (most.tmod (20 : Int)) + (1 : Int))), V.ptr a1] =
                                                                            [V.map (some h'6.next), V.slc a2 n7 f1, V.int IntKind.u8 odd,
                                                                              V.int IntKind.i64 (IntKind.i64.wrap (IntKind.i64.wrap (most.tmod (20 : Int)) + (1 : Int))), V.ptr a1] ∧
                                                                          Q1 [] h'11
                                                            else
                                                              [V.map (some h'6.next), V.slc a2 n7 f1, V.int IntKind.u8 odd,
                                                                    V.int IntKind.i64 (IntKind.i64.wrap (IntKind.i64.wrap (most.tmod (20 : Int)) + (1 : Int))), V.ptr a1] =
                                                                  [V.map (some h'6.next), V.slc a2 n7 f1, V.int IntKind.u8 odd,
                                                                    V.int IntKind.i64 (IntKind.i64.wrap (IntKind.i64.wrap (most.tmod (20 : Int)) + (1 : Int))), V.ptr a1] ∧
                                                                Q1 [] h2) ∧
                                                          ∀ (bs3 : Nat → Option V) (h3 : Hp),
                                                            Q1 [] h3 →
                                                              ∃ (Q2 : List V → Hp → Prop),
                                                                (∃ (n13 : Int),
                                                                    xlen T h3 (32 : Nat) (V.map (some h'6.next)) = some (V.int IntKind.i64 n13) ∧
                                                                      bif n13 == (↑n7 : Int) then
                                                                        ¬(3 : Int) = (0 : Int) ∧
                                                                          bif odd.tmod (3 : Int) != (1 : Int) then [V.ptr a1, V.slc a2 n7 f1] = [V.ptr a1, V.slc a2 n7 f1] ∧ Q2 [V.bool true] h3
                                                                          else
                                                                            ¬IntKind.u64.wrap (IntKind.i64.wrap (IntKind.i64.wrap (most.tmod (20 : Int)) + (1 : Int))) = (0 : Int) ∧
                                                                              ∃ (n14 : Int),
                                                                                xlook T h3 (32 : Nat) (V.map (some h'6.next))
                                                                                      (V.int IntKind.u64
                                                                                        (IntKind.u64.wrap
                                                                                          ((IntKind.u64.wrap odd).tmod
                                                                                              (IntKind.u64.wrap (IntKind.i64.wrap (IntKind.i64.wrap (most.tmod (20 : Int)) + (1 : Int)))) +
                                                                                            (1 : Int))))
                                                                                      false =
                                                                                    some (V.int IntKind.i64 n14) ∧
                                                                                  [V.ptr a1, V.slc a2 n7 f1] = [V.ptr a1, V.slc a2 n7 f1] ∧ Q2 [V.bool (n14 == (0 : Int))] h3
                                                                      else [V.ptr a1, V.slc a2 n7 f1] = [V.ptr a1, V.slc a2 n7 f1] ∧ Q2 [V.bool false] h3) ∧
                                                                  ∀ (bs4 : Nat → Option V) (b4 : Bool) (h4 : Hp),
                                                                    Q2 [V.bool b4] h4 →
                                                                      XCalls Try.prog (12 : Nat) [V.ptr a1, V.str [(120 : UInt8)], V.slc a2 n7 f1] h4 fun (v8 : V) (h'12 : Hp) =>
                                                                        ∃ (n15 : Int),
                                                                          v8 = V.int IntKind.i64 n15 ∧
                                                                            bif !(n15 == (0 : Int)) == b4 then K (V.bool false) h'12
                                                                            else
                                                                              ∃ (Q3 : List V → Hp → Prop),
                                                                                (bif b4 then [V.ptr a1] = [V.ptr a1] ∧ Q3 [V.int IntKind.i64 (↑n7 : Int)] h'12
                                                                                  else [V.ptr a1] = [V.ptr a1] ∧ Q3 [V.int IntKind.i64 (0 : Int)] h'12) ∧
                                                                                  ∀ (bs5 : Nat → Option V) (n16 : Int) (h5 : Hp),
                                                                                    Q3 [V.int IntKind.i64 n16] h5 →
                                                                                      XCalls Try.prog (13 : Nat) [V.ptr a1] h5 fun (v9 : V) (h'13 : Hp) =>
                                                                                        ∃ (n17 : Int),
                                                                                          v9 = V.int IntKind.i64 n17 ∧
                                                                                            bif n17 == n16 then
                                                                                              XCalls Try.prog (9 : Nat) [] h'13 fun (v10 : V) (h'14 : Hp) =>
                                                                                                ∃ (b5 : Bool), v10 = V.bool b5 ∧ K (V.bool b5) h'14
                                                                                            else K (V.bool false) h'13
theorem x3 {h : Hp} {K : V → Hp → Prop} (most : Int) (which : Option (Nat × Nat)) (which_n : Nat) (which_f : Bool) (odd : Int) (hx : X3 h K most which which_n which_f odd) : XCalls Try.prog 3 [V.int IntKind.u8 most, V.slc which which_n which_f, V.int IntKind.u8 odd] h K :=
  XCalls.ofX tok fok mixed (JL := jl3) (JJ := jj3) Try.func3 (cast (by kernel_rfl) hx)
end Go.Vex
