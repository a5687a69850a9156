/-
  a law of ports as a statement about data (printed by VexPrint).
-/
import Derived.Test.YtehihinmgejpaaaVexX
import Derived.Test.YtehihinmgejpaaaTab22
set_option linter.unusedVariables false
set_option maxRecDepth 100000
namespace Go.Vex
open Go.Proofs
/-! 6: stevedore/stevedorelaw22.PortsFull -/
-- loop 4: stays b(3), p(5), n(6); turns i(7)
def jl6 : Nat → Option JT := fun r => bif Nat.beq r 4 then some ⟨[3, 5, 6], [7], [V.int IntKind.i64 (0 : Int)]⟩ else none
def jj6 : Nat → Option JT := fun r => none
def X6 (h : Hp) (K : V → Hp → Prop) (many : Int) (b_0 : Int) (b_1 : Int) (b_2 : Int) (b_3 : Bool) : Prop :=
  ∀ (h'1 : Hp),
  h'1 = h.alloc (O.row [V.int IntKind.u8 b_0, V.int IntKind.u32 b_1, V.int IntKind.u16 b_2, V.bool b_3] (1 : Nat) false) →
    XCalls Try.prog (9 : Nat) [] h'1 fun (v1 : V) (h'2 : Hp) =>
      ∃ (a1 : Option (Nat × Nat)),
        v1 = V.ptr a1 ∧
          ¬(1034 : Int) = (0 : Int) ∧
            ∃ (I1 : List V → Hp → Prop),
              ∃ (x1 : List V → Hp → Nat),
                ([V.ptr (some (h.next, (0 : Nat))), V.ptr a1, V.int IntKind.i64 ((IntKind.i64.wrap many).tmod (1034 : Int))] =
                      [V.ptr (some (h.next, (0 : Nat))), V.ptr a1, V.int IntKind.i64 ((IntKind.i64.wrap many).tmod (1034 : Int))] ∧
                    I1 [V.int IntKind.i64 (0 : Int)] h'2) ∧
                  ∀ (bs1 : Nat → Option V) (n1 : Int) (h1 : Hp),
                    I1 [V.int IntKind.i64 n1] h1 →
                      bif ltI n1 ((IntKind.i64.wrap many).tmod (1034 : Int)) then
                        XCalls Try.prog (19 : Nat) [V.int IntKind.u32 (IntKind.u32.wrap (IntKind.u32.wrap n1 + (1 : Int))), V.int IntKind.u16 (80 : Int)] h1 fun (v2 : V) (h'3 : Hp) =>
                          ∃ (n2 : Int),
                            ∃ (n3 : Int),
                              ∃ (n4 : Int),
                                ∃ (b1 : Bool),
                                  v2 = V.agg [V.int IntKind.u8 n2, V.int IntKind.u32 n3, V.int IntKind.u16 n4, V.bool b1] ∧
                                    XCalls Try.prog (16 : Nat)
                                      [V.ptr a1, V.int IntKind.u64 (IntKind.u64.wrap (IntKind.u64.wrap n1 + (1 : Int))),
                                        V.agg [V.int IntKind.u8 n2, V.int IntKind.u32 n3, V.int IntKind.u16 n4, V.bool b1]]
                                      h'3 fun (v3 : V) (h'4 : Hp) =>
                                      ∃ (n5 : Int),
                                        v3 = V.int IntKind.i64 n5 ∧
                                          bif !(n5 == (0 : Int)) == ltI n1 (1024 : Int) then K (V.bool false) h'4
                                          else
                                            bif n5 != (0 : Int) then
                                              bif n5 != (6 : Int) then K (V.bool false) h'4
                                              else
                                                [V.ptr (some (h.next, (0 : Nat))), V.ptr a1, V.int IntKind.i64 ((IntKind.i64.wrap many).tmod (1034 : Int))] =
                                                    [V.ptr (some (h.next, (0 : Nat))), V.ptr a1, V.int IntKind.i64 ((IntKind.i64.wrap many).tmod (1034 : Int))] ∧
                                                  I1 [V.int IntKind.i64 (IntKind.i64.wrap (n1 + (1 : Int)))] h'4 ∧
                                                    x1 [V.int IntKind.i64 (IntKind.i64.wrap (n1 + (1 : Int)))] h'4 < x1 [V.int IntKind.i64 n1] h1
                                            else
                                              [V.ptr (some (h.next, (0 : Nat))), V.ptr a1, V.int IntKind.i64 ((IntKind.i64.wrap many).tmod (1034 : Int))] =
                                                  [V.ptr (some (h.next, (0 : Nat))), V.ptr a1, V.int IntKind.i64 ((IntKind.i64.wrap many).tmod (1034 : Int))] ∧
                                                I1 [V.int IntKind.i64 (IntKind.i64.wrap (n1 + (1 : Int)))] h'4 ∧
                                                  x1 [V.int IntKind.i64 (IntKind.i64.wrap (n1 + (1 : Int)))] h'4 < x1 [V.int IntKind.i64 n1] h1
                      else
                        XCalls Try.prog (11 : Nat) [V.ptr a1] h1 fun (v4 : V) (h'5 : Hp) =>
                          ∃ (n6 : Int),
                            v4 = V.int IntKind.i64 n6 ∧
                              bif n6 != bif ltI (1024 : Int) ((IntKind.i64.wrap many).tmod (1034 : Int)) then (1024 : Int) else (IntKind.i64.wrap many).tmod (1034 : Int) then K (V.bool false) h'5
                              else
                                ∃ (n7 : Int),
                                  ∃ (n8 : Int),
                                    ∃ (n9 : Int),
                                      ∃ (b2 : Bool),
                                        h'5.lda h.next (0 : Nat) (4 : Nat) = some (V.agg [V.int IntKind.u8 n7, V.int IntKind.u32 n8, V.int IntKind.u16 n9, V.bool b2]) ∧
                                          XCalls Try.prog (17 : Nat)
                                            [V.ptr none, V.int IntKind.u64 (1 : Int), V.agg [V.int IntKind.u8 n7, V.int IntKind.u32 n8, V.int IntKind.u16 n9, V.bool b2], V.int IntKind.u16 (5 : Int)]
                                            h'5 fun (v5 : V) (h'6 : Hp) =>
                                            ∃ (n10 : Int),
                                              ∃ (n11 : Int),
                                                v5 = V.tup [V.int IntKind.u16 n10, V.int IntKind.i64 n11] ∧
                                                  XCalls Try.prog (12 : Nat) [V.ptr none, V.int IntKind.u64 (1 : Int)] h'6 fun (v6 : V) (h'7 : Hp) =>
                                                    ∃ (n12 : Int),
                                                      ∃ (n13 : Int),
                                                        ∃ (n14 : Int),
                                                          ∃ (b3 : Bool),
                                                            ∃ (b4 : Bool),
                                                              v6 = V.tup [V.agg [V.int IntKind.u8 n12, V.int IntKind.u32 n13, V.int IntKind.u16 n14, V.bool b3], V.bool b4] ∧
                                                                ∀ (h'8 : Hp),
                                                                  h'8 =
                                                                      h'7.alloc
                                                                        (O.row [V.int IntKind.u8 (0 : Int), V.int IntKind.u32 (0 : Int), V.int IntKind.u16 (0 : Int), V.bool false] (1 : Nat) false) →
                                                                    ∃ (h'9 : Hp),
                                                                      h'8.st h'7.next (0 : Nat) [V.int IntKind.u8 n12, V.int IntKind.u32 n13, V.int IntKind.u16 n14, V.bool b3] = some h'9 ∧
                                                                        ∃ (n15 : Int),
                                                                          ∃ (n16 : Int),
                                                                            ∃ (n17 : Int),
                                                                              ∃ (b5 : Bool),
                                                                                h'9.lda h.next (0 : Nat) (4 : Nat) =
                                                                                    some (V.agg [V.int IntKind.u8 n15, V.int IntKind.u32 n16, V.int IntKind.u16 n17, V.bool b5]) ∧
                                                                                  XCalls Try.prog (16 : Nat)
                                                                                    [V.ptr none, V.int IntKind.u64 (1 : Int),
                                                                                      V.agg [V.int IntKind.u8 n15, V.int IntKind.u32 n16, V.int IntKind.u16 n17, V.bool b5]]
                                                                                    h'9 fun (v7 : V) (h'10 : Hp) =>
                                                                                    ∃ (n18 : Int),
                                                                                      v7 = V.int IntKind.i64 n18 ∧
                                                                                        bif n18 == (1 : Int) then
                                                                                          bif n10 == (0 : Int) then
                                                                                            bif n11 == (1 : Int) then
                                                                                              ∃ (n19 : Int),
                                                                                                ∃ (n20 : Int),
                                                                                                  ∃ (n21 : Int),
                                                                                                    ∃ (b6 : Bool),
                                                                                                      h'10.lda h'7.next (0 : Nat) (4 : Nat) =
                                                                                                          some (V.agg [V.int IntKind.u8 n19, V.int IntKind.u32 n20, V.int IntKind.u16 n21, V.bool b6]) ∧
                                                                                                        bif n19 == (0 : Int) && (n20 == (0 : Int) && (n21 == (0 : Int) && (b6 == false && true))) then
                                                                                                          bif !b4 then
                                                                                                            ∃ (n22 : Int),
                                                                                                              h'10.ld h.next (0 : Nat) = some (V.int IntKind.u8 n22) ∧
                                                                                                                XCalls Try.prog (14 : Nat)
                                                                                                                  [V.ptr none, V.int IntKind.u8 n22,
                                                                                                                    V.agg [V.int IntKind.u32 (0 : Int), V.int IntKind.u16 (0 : Int)]]
                                                                                                                  h'10 fun (v8 : V) (h'11 : Hp) =>
                                                                                                                  ∃ (a2 : Option (Nat × Nat)),
                                                                                                                    ∃ (n23 : Nat),
                                                                                                                      ∃ (f1 : Bool),
                                                                                                                        v8 = V.slc a2 n23 f1 ∧
                                                                                                                          bif (↑n23 : Int) == (0 : Int) then
                                                                                                                            ∀ (h'12 : Hp),
                                                                                                                              h'12 = h'11.alloc (O.row [V.int IntKind.u64 (1 : Int)] (1 : Nat) false) →
                                                                                                                                XCalls Try.prog (18 : Nat)
                                                                                                                                  [V.ptr none, V.slc (some (h'11.next, (0 : Nat))) (1 : Nat) true] h'12
                                                                                                                                  fun (v9 : V) (h'13 : Hp) =>
                                                                                                                                  ∃ (n24 : Int),
                                                                                                                                    v9 = V.int IntKind.i64 n24 ∧
                                                                                                                                      bif n24 == (0 : Int) then
                                                                                                                                        XCalls Try.prog (11 : Nat) [V.ptr none] h'13
                                                                                                                                          fun (v10 : V) (h'14 : Hp) =>
                                                                                                                                          ∃ (n25 : Int),
                                                                                                                                            v10 = V.int IntKind.i64 n25 ∧
                                                                                                                                              bif n25 == (0 : Int) then
                                                                                                                                                XCalls Try.prog (8 : Nat) [] h'14
                                                                                                                                                  fun (v11 : V) (h'15 : Hp) =>
                                                                                                                                                  ∃ (b7 : Bool), v11 = V.bool b7 ∧ K (V.bool b7) h'15
                                                                                                                                              else K (V.bool false) h'14
                                                                                                                                      else K (V.bool false) h'13
                                                                                                                          else K (V.bool false) h'11
                                                                                                          else K (V.bool false) h'10
                                                                                                        else K (V.bool false) h'10
                                                                                            else K (V.bool false) h'10
                                                                                          else K (V.bool false) h'10
                                                                                        else K (V.bool false) h'10
theorem x6 {h : Hp} {K : V → Hp → Prop} (many : Int) (b_0 : Int) (b_1 : Int) (b_2 : Int) (b_3 : Bool) (hx : X6 h K many b_0 b_1 b_2 b_3) : XCalls Try.prog 6 [V.int IntKind.u16 many, V.agg [V.int IntKind.u8 b_0, V.int IntKind.u32 b_1, V.int IntKind.u16 b_2, V.bool b_3]] h K :=
  XCalls.ofX tok fok mixed (JL := jl6) (JJ := jj6) Try.func6 (cast (by kernel_rfl) hx)
end Go.Vex
