/-
  a law of ports as a statement about data (printed by VexPrint).
-/
import Derived.Test.YtehihinmgejpaaaVexX
import Derived.Test.YtehihinmgejpaaaTab22
set_option linter.unusedVariables false
set_option maxRecDepth 100000
namespace Go.Vex
open Go.Proofs
/-! 5: stevedore/stevedorelaw22.PortsRound -/
-- loop 7: stays draw(0), many(1), p(7), n(8), b(9); turns i(10)
-- join 6: stays many(1), p(7), b(9), draw(0), n(8); turns 
def jl5 : Nat → Option JT := fun r => bif Nat.beq r 7 then some ⟨[0, 1, 7, 8, 9], [10], [V.int IntKind.i64 (0 : Int)]⟩ else none
def jj5 : Nat → Option JT := fun r => bif Nat.beq r 6 then some ⟨[1, 7, 9, 0, 8], [], []⟩ else none
def X5 (h : Hp) (K : V → Hp → Prop) (draw : Int) (many : Int) (udp : Bool) : Prop :=
  XCalls Try.prog (9 : Nat) [] h fun (v1 : V) (h'1 : Hp) =>
  ∃ (a1 : Option (Nat × Nat)),
    v1 = V.ptr a1 ∧
      ∀ (h'2 : Hp),
        h'2 = h'1.alloc (O.row [V.int IntKind.u8 (0 : Int), V.int IntKind.u32 (0 : Int), V.int IntKind.u16 (0 : Int), V.bool false] (1 : Nat) false) →
          ∃ (h'3 : Hp),
            h'2.st h'1.next (0 : Nat) [V.int IntKind.u8 (2 : Int), V.int IntKind.u32 (0 : Int), V.int IntKind.u16 (0 : Int), V.bool false] = some h'3 ∧
              ∃ (Q1 : List V → Hp → Prop),
                (bif udp then
                    ∃ (h'4 : Hp),
                      h'3.st h'1.next (0 : Nat) [V.int IntKind.u8 (1 : Int)] = some h'4 ∧
                        [V.int IntKind.u8 many, V.ptr a1, V.ptr (some (h'1.next, (0 : Nat))), V.int IntKind.u16 draw, V.int IntKind.i64 (28232 : Int)] =
                            [V.int IntKind.u8 many, V.ptr a1, V.ptr (some (h'1.next, (0 : Nat))), V.int IntKind.u16 draw, V.int IntKind.i64 (28232 : Int)] ∧
                          Q1 [] h'4
                  else
                    [V.int IntKind.u8 many, V.ptr a1, V.ptr (some (h'1.next, (0 : Nat))), V.int IntKind.u16 draw, V.int IntKind.i64 (28232 : Int)] =
                        [V.int IntKind.u8 many, V.ptr a1, V.ptr (some (h'1.next, (0 : Nat))), V.int IntKind.u16 draw, V.int IntKind.i64 (28232 : Int)] ∧
                      Q1 [] h'3) ∧
                  ∀ (bs1 : Nat → Option V) (h1 : Hp),
                    Q1 [] h1 →
                      ∃ (I1 : List V → Hp → Prop),
                        ∃ (x1 : List V → Hp → Nat),
                          ([V.int IntKind.u16 draw, V.int IntKind.u8 many, V.ptr a1, V.int IntKind.i64 (28232 : Int), V.ptr (some (h'1.next, (0 : Nat)))] =
                                [V.int IntKind.u16 draw, V.int IntKind.u8 many, V.ptr a1, V.int IntKind.i64 (28232 : Int), V.ptr (some (h'1.next, (0 : Nat)))] ∧
                              I1 [V.int IntKind.i64 (0 : Int)] h1) ∧
                            ∀ (bs2 : Nat → Option V) (n1 : Int) (h2 : Hp),
                              I1 [V.int IntKind.i64 n1] h2 →
                                bif ltI n1 (IntKind.i64.wrap many) then
                                  ∃ (n2 : Int),
                                    ∃ (n3 : Int),
                                      ∃ (n4 : Int),
                                        ∃ (b1 : Bool),
                                          h2.lda h'1.next (0 : Nat) (4 : Nat) = some (V.agg [V.int IntKind.u8 n2, V.int IntKind.u32 n3, V.int IntKind.u16 n4, V.bool b1]) ∧
                                            XCalls Try.prog (17 : Nat)
                                              [V.ptr a1, V.int IntKind.u64 (IntKind.u64.wrap (IntKind.u64.wrap n1 + (1 : Int))),
                                                V.agg [V.int IntKind.u8 n2, V.int IntKind.u32 n3, V.int IntKind.u16 n4, V.bool b1], V.int IntKind.u16 draw]
                                              h2 fun (v2 : V) (h'5 : Hp) =>
                                              ∃ (n5 : Int),
                                                ∃ (n6 : Int),
                                                  v2 = V.tup [V.int IntKind.u16 n5, V.int IntKind.i64 n6] ∧
                                                    bif n6 != (0 : Int) then K (V.bool false) h'5
                                                    else
                                                      ¬(28232 : Int) = (0 : Int) ∧
                                                        ¬(28232 : Int) = (0 : Int) ∧
                                                          bif
                                                              IntKind.i64.wrap n5 !=
                                                                IntKind.i64.wrap ((32768 : Int) + (IntKind.i64.wrap ((IntKind.i64.wrap draw).tmod (28232 : Int) + n1)).tmod (28232 : Int)) then
                                                            K (V.bool false) h'5
                                                          else
                                                            [V.int IntKind.u16 draw, V.int IntKind.u8 many, V.ptr a1, V.int IntKind.i64 (28232 : Int), V.ptr (some (h'1.next, (0 : Nat)))] =
                                                                [V.int IntKind.u16 draw, V.int IntKind.u8 many, V.ptr a1, V.int IntKind.i64 (28232 : Int), V.ptr (some (h'1.next, (0 : Nat)))] ∧
                                                              I1 [V.int IntKind.i64 (IntKind.i64.wrap (n1 + (1 : Int)))] h'5 ∧
                                                                x1 [V.int IntKind.i64 (IntKind.i64.wrap (n1 + (1 : Int)))] h'5 < x1 [V.int IntKind.i64 n1] h2
                                else
                                  bif many == (0 : Int) then XCalls Try.prog (8 : Nat) [] h2 fun (v3 : V) (h'6 : Hp) => ∃ (b2 : Bool), v3 = V.bool b2 ∧ K (V.bool b2) h'6
                                  else
                                    XCalls Try.prog (12 : Nat) [V.ptr a1, V.int IntKind.u64 (1 : Int)] h2 fun (v4 : V) (h'7 : Hp) =>
                                      ∃ (n7 : Int),
                                        ∃ (n8 : Int),
                                          ∃ (n9 : Int),
                                            ∃ (b3 : Bool),
                                              ∃ (b4 : Bool),
                                                v4 = V.tup [V.agg [V.int IntKind.u8 n7, V.int IntKind.u32 n8, V.int IntKind.u16 n9, V.bool b3], V.bool b4] ∧
                                                  ∀ (h'8 : Hp),
                                                    h'8 = h'7.alloc (O.row [V.int IntKind.u8 (0 : Int), V.int IntKind.u32 (0 : Int), V.int IntKind.u16 (0 : Int), V.bool false] (1 : Nat) false) →
                                                      ∃ (h'9 : Hp),
                                                        h'8.st h'7.next (0 : Nat) [V.int IntKind.u8 n7, V.int IntKind.u32 n8, V.int IntKind.u16 n9, V.bool b3] = some h'9 ∧
                                                          ∀ (h'10 : Hp),
                                                            h'10 = h'9.alloc (O.row [V.int IntKind.u64 (1 : Int)] (1 : Nat) false) →
                                                              XCalls Try.prog (18 : Nat) [V.ptr a1, V.slc (some (h'9.next, (0 : Nat))) (1 : Nat) true] h'10 fun (v5 : V) (h'11 : Hp) =>
                                                                ∃ (n10 : Int),
                                                                  v5 = V.int IntKind.i64 n10 ∧
                                                                    bif n10 != (1 : Int) then K (V.bool false) h'11
                                                                    else
                                                                      ∃ (n11 : Int),
                                                                        ∃ (n12 : Int),
                                                                          ∃ (n13 : Int),
                                                                            ∃ (b5 : Bool),
                                                                              h'11.lda h'1.next (0 : Nat) (4 : Nat) =
                                                                                  some (V.agg [V.int IntKind.u8 n11, V.int IntKind.u32 n12, V.int IntKind.u16 n13, V.bool b5]) ∧
                                                                                XCalls Try.prog (17 : Nat)
                                                                                  [V.ptr a1, V.int IntKind.u64 (1000 : Int),
                                                                                    V.agg [V.int IntKind.u8 n11, V.int IntKind.u32 n12, V.int IntKind.u16 n13, V.bool b5], V.int IntKind.u16 draw]
                                                                                  h'11 fun (v6 : V) (h'12 : Hp) =>
                                                                                  ∃ (n14 : Int),
                                                                                    ∃ (n15 : Int),
                                                                                      v6 = V.tup [V.int IntKind.u16 n14, V.int IntKind.i64 n15] ∧
                                                                                        ∃ (n16 : Int),
                                                                                          ∃ (n17 : Int),
                                                                                            ∃ (n18 : Int),
                                                                                              ∃ (b6 : Bool),
                                                                                                h'12.lda h'1.next (0 : Nat) (4 : Nat) =
                                                                                                    some (V.agg [V.int IntKind.u8 n16, V.int IntKind.u32 n17, V.int IntKind.u16 n18, V.bool b6]) ∧
                                                                                                  ∀ (h'13 : Hp),
                                                                                                    h'13 =
                                                                                                        h'12.alloc
                                                                                                          (O.row
                                                                                                            [V.int IntKind.u8 (0 : Int), V.int IntKind.u32 (0 : Int), V.int IntKind.u16 (0 : Int),
                                                                                                              V.bool false]
                                                                                                            (1 : Nat) false) →
                                                                                                      ∃ (h'14 : Hp),
                                                                                                        h'13.st h'12.next (0 : Nat)
                                                                                                              [V.int IntKind.u8 n16, V.int IntKind.u32 n17, V.int IntKind.u16 n18, V.bool b6] =
                                                                                                            some h'14 ∧
                                                                                                          ∃ (n19 : Int),
                                                                                                            h'14.ld h'1.next (0 : Nat) = some (V.int IntKind.u8 n19) ∧
                                                                                                              ∃ (h'15 : Hp),
                                                                                                                h'14.st h'12.next (0 : Nat) [V.int IntKind.u8 (IntKind.u8.wrap ((3 : Int) - n19))] =
                                                                                                                    some h'15 ∧
                                                                                                                  ∃ (n20 : Int),
                                                                                                                    ∃ (n21 : Int),
                                                                                                                      ∃ (n22 : Int),
                                                                                                                        ∃ (b7 : Bool),
                                                                                                                          h'15.lda h'12.next (0 : Nat) (4 : Nat) =
                                                                                                                              some
                                                                                                                                (V.agg
                                                                                                                                  [V.int IntKind.u8 n20, V.int IntKind.u32 n21, V.int IntKind.u16 n22,
                                                                                                                                    V.bool b7]) ∧
                                                                                                                            XCalls Try.prog (17 : Nat)
                                                                                                                              [V.ptr a1, V.int IntKind.u64 (1001 : Int),
                                                                                                                                V.agg
                                                                                                                                  [V.int IntKind.u8 n20, V.int IntKind.u32 n21, V.int IntKind.u16 n22,
                                                                                                                                    V.bool b7],
                                                                                                                                V.int IntKind.u16 draw]
                                                                                                                              h'15 fun (v7 : V) (h'16 : Hp) =>
                                                                                                                              ∃ (n23 : Int),
                                                                                                                                ∃ (n24 : Int),
                                                                                                                                  v7 = V.tup [V.int IntKind.u16 n23, V.int IntKind.i64 n24] ∧
                                                                                                                                    bif n15 == (0 : Int) then
                                                                                                                                      ∃ (n25 : Int),
                                                                                                                                        h'16.ld h'7.next (2 : Nat) = some (V.int IntKind.u16 n25) ∧
                                                                                                                                          bif n14 == n25 then
                                                                                                                                            bif n24 == (0 : Int) then
                                                                                                                                              ∃ (n26 : Int),
                                                                                                                                                h'16.ld h'7.next (2 : Nat) =
                                                                                                                                                    some (V.int IntKind.u16 n26) ∧
                                                                                                                                                  bif n23 == n26 then
                                                                                                                                                    XCalls Try.prog (8 : Nat) [] h'16
                                                                                                                                                      fun (v8 : V) (h'17 : Hp) =>
                                                                                                                                                      ∃ (b8 : Bool), v8 = V.bool b8 ∧ K (V.bool b8) h'17
                                                                                                                                                  else K (V.bool false) h'16
                                                                                                                                            else K (V.bool false) h'16
                                                                                                                                          else K (V.bool false) h'16
                                                                                                                                    else K (V.bool false) h'16
theorem x5 {h : Hp} {K : V → Hp → Prop} (draw : Int) (many : Int) (udp : Bool) (hx : X5 h K draw many udp) : XCalls Try.prog 5 [V.int IntKind.u16 draw, V.int IntKind.u8 many, V.bool udp] h K :=
  XCalls.ofX tok fok mixed (JL := jl5) (JJ := jj5) Try.func5 (cast (by kernel_rfl) hx)
end Go.Vex
