/-
  TableFull (layer 23) (printed by VexPrint).
-/
import Derived.Test.YteknlobdnjcdbaaVexX
import Derived.Test.YteknlobdnjcdbaaTab23
set_option linter.unusedVariables false
set_option maxRecDepth 100000
namespace Go.Vex
open Go.Proofs
/-! 7: stevedore/stevedorelaw23.TableFull -/
-- loop 10: stays t(5), n(6), m(7); turns i(10)
-- loop 4: stays t(5), n(6), m(7); turns i(8)
def jl7 : Nat → Option JT := fun r => bif Nat.beq r 10 then some ⟨[5, 6, 7], [10], [V.int IntKind.i64 (0 : Int)]⟩ else bif Nat.beq r 4 then some ⟨[5, 6, 7], [8], [V.int IntKind.i64 (0 : Int)]⟩ else none
def jj7 : Nat → Option JT := fun r => none
def X7 (h : Hp) (K : V → Hp → Prop) (conns : Int) (rests : Int) : Prop :=
  XCalls Try.prog (9 : Nat) [] h fun (v1 : V) (h'1 : Hp) =>
  ∃ (a1 : Option (Nat × Nat)),
    v1 = V.ptr a1 ∧
      ¬(1034 : Int) = (0 : Int) ∧
        ¬(1034 : Int) = (0 : Int) ∧
          ∃ (I1 : List V → Hp → Prop),
            ∃ (x1 : List V → Hp → Nat),
              ([V.ptr a1, V.int IntKind.i64 ((IntKind.i64.wrap conns).tmod (1034 : Int)), V.int IntKind.i64 ((IntKind.i64.wrap rests).tmod (1034 : Int))] =
                    [V.ptr a1, V.int IntKind.i64 ((IntKind.i64.wrap conns).tmod (1034 : Int)), V.int IntKind.i64 ((IntKind.i64.wrap rests).tmod (1034 : Int))] ∧
                  I1 [V.int IntKind.i64 (0 : Int)] h'1) ∧
                ∀ (bs1 : Nat → Option V) (n1 : Int) (h1 : Hp),
                  I1 [V.int IntKind.i64 n1] h1 →
                    bif ltI n1 ((IntKind.i64.wrap conns).tmod (1034 : Int)) then
                      XCalls Try.prog (27 : Nat) [V.int IntKind.u16 (1 : Int), V.int IntKind.u16 (IntKind.u16.wrap n1)] h1 fun (v2 : V) (h'2 : Hp) =>
                        ∃ (n2 : Int),
                          ∃ (n3 : Int),
                            ∃ (n4 : Int),
                              ∃ (n5 : Int),
                                v2 = V.agg [V.int IntKind.u32 n2, V.int IntKind.u16 n3, V.int IntKind.u32 n4, V.int IntKind.u16 n5] ∧
                                  XCalls Try.prog (10 : Nat)
                                    [V.ptr a1, V.agg [V.int IntKind.u32 n2, V.int IntKind.u16 n3, V.int IntKind.u32 n4, V.int IntKind.u16 n5],
                                      V.int IntKind.u64 (IntKind.u64.wrap (IntKind.u64.wrap n1 + (1 : Int)))]
                                    h'2 fun (v3 : V) (h'3 : Hp) =>
                                    ∃ (n6 : Int),
                                      v3 = V.int IntKind.i64 n6 ∧
                                        bif !(n6 == (0 : Int)) == ltI n1 (1024 : Int) then K (V.bool false) h'3
                                        else
                                          bif n6 != (0 : Int) then
                                            bif n6 != (6 : Int) then K (V.bool false) h'3
                                            else
                                              [V.ptr a1, V.int IntKind.i64 ((IntKind.i64.wrap conns).tmod (1034 : Int)), V.int IntKind.i64 ((IntKind.i64.wrap rests).tmod (1034 : Int))] =
                                                  [V.ptr a1, V.int IntKind.i64 ((IntKind.i64.wrap conns).tmod (1034 : Int)), V.int IntKind.i64 ((IntKind.i64.wrap rests).tmod (1034 : Int))] ∧
                                                I1 [V.int IntKind.i64 (IntKind.i64.wrap (n1 + (1 : Int)))] h'3 ∧
                                                  x1 [V.int IntKind.i64 (IntKind.i64.wrap (n1 + (1 : Int)))] h'3 < x1 [V.int IntKind.i64 n1] h1
                                          else
                                            [V.ptr a1, V.int IntKind.i64 ((IntKind.i64.wrap conns).tmod (1034 : Int)), V.int IntKind.i64 ((IntKind.i64.wrap rests).tmod (1034 : Int))] =
                                                [V.ptr a1, V.int IntKind.i64 ((IntKind.i64.wrap conns).tmod (1034 : Int)), V.int IntKind.i64 ((IntKind.i64.wrap rests).tmod (1034 : Int))] ∧
                                              I1 [V.int IntKind.i64 (IntKind.i64.wrap (n1 + (1 : Int)))] h'3 ∧
                                                x1 [V.int IntKind.i64 (IntKind.i64.wrap (n1 + (1 : Int)))] h'3 < x1 [V.int IntKind.i64 n1] h1
                    else
                      ∃ (I2 : List V → Hp → Prop),
                        ∃ (x2 : List V → Hp → Nat),
                          ([V.ptr a1, V.int IntKind.i64 ((IntKind.i64.wrap conns).tmod (1034 : Int)), V.int IntKind.i64 ((IntKind.i64.wrap rests).tmod (1034 : Int))] =
                                [V.ptr a1, V.int IntKind.i64 ((IntKind.i64.wrap conns).tmod (1034 : Int)), V.int IntKind.i64 ((IntKind.i64.wrap rests).tmod (1034 : Int))] ∧
                              I2 [V.int IntKind.i64 (0 : Int)] h1) ∧
                            ∀ (bs2 : Nat → Option V) (n7 : Int) (h2 : Hp),
                              I2 [V.int IntKind.i64 n7] h2 →
                                bif ltI n7 ((IntKind.i64.wrap rests).tmod (1034 : Int)) then
                                  XCalls Try.prog (27 : Nat) [V.int IntKind.u16 (2 : Int), V.int IntKind.u16 (IntKind.u16.wrap n7)] h2 fun (v4 : V) (h'4 : Hp) =>
                                    ∃ (n8 : Int),
                                      ∃ (n9 : Int),
                                        ∃ (n10 : Int),
                                          ∃ (n11 : Int),
                                            v4 = V.agg [V.int IntKind.u32 n8, V.int IntKind.u16 n9, V.int IntKind.u32 n10, V.int IntKind.u16 n11] ∧
                                              XCalls Try.prog (11 : Nat)
                                                [V.ptr a1, V.agg [V.int IntKind.u32 n8, V.int IntKind.u16 n9, V.int IntKind.u32 n10, V.int IntKind.u16 n11], V.int IntKind.i64 (50 : Int)] h'4
                                                fun (v5 : V) (h'5 : Hp) =>
                                                ∃ (n12 : Int),
                                                  v5 = V.int IntKind.i64 n12 ∧
                                                    bif !(n12 == (0 : Int)) == ltI n7 (1024 : Int) then K (V.bool false) h'5
                                                    else
                                                      bif n12 != (0 : Int) then
                                                        bif n12 != (6 : Int) then K (V.bool false) h'5
                                                        else
                                                          [V.ptr a1, V.int IntKind.i64 ((IntKind.i64.wrap conns).tmod (1034 : Int)), V.int IntKind.i64 ((IntKind.i64.wrap rests).tmod (1034 : Int))] =
                                                              [V.ptr a1, V.int IntKind.i64 ((IntKind.i64.wrap conns).tmod (1034 : Int)),
                                                                V.int IntKind.i64 ((IntKind.i64.wrap rests).tmod (1034 : Int))] ∧
                                                            I2 [V.int IntKind.i64 (IntKind.i64.wrap (n7 + (1 : Int)))] h'5 ∧
                                                              x2 [V.int IntKind.i64 (IntKind.i64.wrap (n7 + (1 : Int)))] h'5 < x2 [V.int IntKind.i64 n7] h2
                                                      else
                                                        [V.ptr a1, V.int IntKind.i64 ((IntKind.i64.wrap conns).tmod (1034 : Int)), V.int IntKind.i64 ((IntKind.i64.wrap rests).tmod (1034 : Int))] =
                                                            [V.ptr a1, V.int IntKind.i64 ((IntKind.i64.wrap conns).tmod (1034 : Int)), V.int IntKind.i64 ((IntKind.i64.wrap rests).tmod (1034 : Int))] ∧
                                                          I2 [V.int IntKind.i64 (IntKind.i64.wrap (n7 + (1 : Int)))] h'5 ∧
                                                            x2 [V.int IntKind.i64 (IntKind.i64.wrap (n7 + (1 : Int)))] h'5 < x2 [V.int IntKind.i64 n7] h2
                                else
                                  XCalls Try.prog (24 : Nat) [V.ptr a1] h2 fun (v6 : V) (h'6 : Hp) =>
                                    ∃ (n13 : Int),
                                      v6 = V.int IntKind.i64 n13 ∧
                                        bif n13 != bif ltI (1024 : Int) ((IntKind.i64.wrap conns).tmod (1034 : Int)) then (1024 : Int) else (IntKind.i64.wrap conns).tmod (1034 : Int) then
                                          K (V.bool false) h'6
                                        else
                                          XCalls Try.prog (25 : Nat) [V.ptr a1] h'6 fun (v7 : V) (h'7 : Hp) =>
                                            ∃ (n14 : Int),
                                              v7 = V.int IntKind.i64 n14 ∧
                                                bif n14 != bif ltI (1024 : Int) ((IntKind.i64.wrap rests).tmod (1034 : Int)) then (1024 : Int) else (IntKind.i64.wrap rests).tmod (1034 : Int) then
                                                  K (V.bool false) h'7
                                                else
                                                  XCalls Try.prog (12 : Nat) [V.ptr a1, V.int IntKind.i64 (50 : Int)] h'7 fun (v8 : V) (h'8 : Hp) =>
                                                    ∃ (n15 : Int),
                                                      v8 = V.int IntKind.i64 n15 ∧
                                                        bif
                                                            n15 !=
                                                              bif ltI (1024 : Int) ((IntKind.i64.wrap rests).tmod (1034 : Int)) then (1024 : Int) else (IntKind.i64.wrap rests).tmod (1034 : Int) then
                                                          K (V.bool false) h'8
                                                        else
                                                          XCalls Try.prog (27 : Nat) [V.int IntKind.u16 (1 : Int), V.int IntKind.u16 (1 : Int)] h'8 fun (v9 : V) (h'9 : Hp) =>
                                                            ∃ (n16 : Int),
                                                              ∃ (n17 : Int),
                                                                ∃ (n18 : Int),
                                                                  ∃ (n19 : Int),
                                                                    v9 = V.agg [V.int IntKind.u32 n16, V.int IntKind.u16 n17, V.int IntKind.u32 n18, V.int IntKind.u16 n19] ∧
                                                                      XCalls Try.prog (14 : Nat)
                                                                        [V.ptr none, V.agg [V.int IntKind.u32 n16, V.int IntKind.u16 n17, V.int IntKind.u32 n18, V.int IntKind.u16 n19],
                                                                          V.int IntKind.u32 (0 : Int), V.int IntKind.i64 (0 : Int)]
                                                                        h'9 fun (v10 : V) (h'10 : Hp) =>
                                                                        ∃ (n20 : Int),
                                                                          ∃ (n21 : Int),
                                                                            v10 = V.tup [V.int IntKind.u8 n20, V.int IntKind.u64 n21] ∧
                                                                              XCalls Try.prog (27 : Nat) [V.int IntKind.u16 (1 : Int), V.int IntKind.u16 (1 : Int)] h'10 fun (v11 : V) (h'11 : Hp) =>
                                                                                ∃ (n22 : Int),
                                                                                  ∃ (n23 : Int),
                                                                                    ∃ (n24 : Int),
                                                                                      ∃ (n25 : Int),
                                                                                        v11 = V.agg [V.int IntKind.u32 n22, V.int IntKind.u16 n23, V.int IntKind.u32 n24, V.int IntKind.u16 n25] ∧
                                                                                          XCalls Try.prog (10 : Nat)
                                                                                            [V.ptr none,
                                                                                              V.agg [V.int IntKind.u32 n22, V.int IntKind.u16 n23, V.int IntKind.u32 n24, V.int IntKind.u16 n25],
                                                                                              V.int IntKind.u64 (1 : Int)]
                                                                                            h'11 fun (v12 : V) (h'12 : Hp) =>
                                                                                            ∃ (n26 : Int),
                                                                                              v12 = V.int IntKind.i64 n26 ∧
                                                                                                bif n26 == (1 : Int) then
                                                                                                  XCalls Try.prog (27 : Nat) [V.int IntKind.u16 (1 : Int), V.int IntKind.u16 (1 : Int)] h'12
                                                                                                    fun (v13 : V) (h'13 : Hp) =>
                                                                                                    ∃ (n27 : Int),
                                                                                                      ∃ (n28 : Int),
                                                                                                        ∃ (n29 : Int),
                                                                                                          ∃ (n30 : Int),
                                                                                                            v13 =
                                                                                                                V.agg
                                                                                                                  [V.int IntKind.u32 n27, V.int IntKind.u16 n28, V.int IntKind.u32 n29,
                                                                                                                    V.int IntKind.u16 n30] ∧
                                                                                                              XCalls Try.prog (11 : Nat)
                                                                                                                [V.ptr none,
                                                                                                                  V.agg
                                                                                                                    [V.int IntKind.u32 n27, V.int IntKind.u16 n28, V.int IntKind.u32 n29,
                                                                                                                      V.int IntKind.u16 n30],
                                                                                                                  V.int IntKind.i64 (5 : Int)]
                                                                                                                h'13 fun (v14 : V) (h'14 : Hp) =>
                                                                                                                ∃ (n31 : Int),
                                                                                                                  v14 = V.int IntKind.i64 n31 ∧
                                                                                                                    bif n31 == (1 : Int) then
                                                                                                                      XCalls Try.prog (13 : Nat)
                                                                                                                        [V.ptr none, V.int IntKind.u64 (1 : Int),
                                                                                                                          V.agg [V.int IntKind.u32 (0 : Int), V.int IntKind.u16 (0 : Int)]]
                                                                                                                        h'14 fun (v15 : V) (h'15 : Hp) =>
                                                                                                                        ∃ (n32 : Int),
                                                                                                                          v15 = V.int IntKind.i64 n32 ∧
                                                                                                                            bif n32 == (1 : Int) then
                                                                                                                              ∀ (h'16 : Hp),
                                                                                                                                h'16 =
                                                                                                                                    h'15.alloc (O.row [V.int IntKind.u64 (1 : Int)] (1 : Nat) false) →
                                                                                                                                  XCalls Try.prog (16 : Nat)
                                                                                                                                    [V.ptr none, V.slc (some (h'15.next, (0 : Nat))) (1 : Nat) true]
                                                                                                                                    h'16 fun (v16 : V) (h'17 : Hp) =>
                                                                                                                                    ∃ (n33 : Int),
                                                                                                                                      v16 = V.int IntKind.i64 n33 ∧
                                                                                                                                        bif n33 == (0 : Int) then
                                                                                                                                          bif n20 == (0 : Int) then
                                                                                                                                            bif n21 == (0 : Int) then
                                                                                                                                              XCalls Try.prog (12 : Nat)
                                                                                                                                                [V.ptr none, V.int IntKind.i64 (5 : Int)] h'17
                                                                                                                                                fun (v17 : V) (h'18 : Hp) =>
                                                                                                                                                ∃ (n34 : Int),
                                                                                                                                                  v17 = V.int IntKind.i64 n34 ∧
                                                                                                                                                    XCalls Try.prog (24 : Nat) [V.ptr none] h'18
                                                                                                                                                      fun (v18 : V) (h'19 : Hp) =>
                                                                                                                                                      ∃ (n35 : Int),
                                                                                                                                                        v18 = V.int IntKind.i64 n35 ∧
                                                                                                                                                          XCalls Try.prog (25 : Nat) [V.ptr none] h'19
                                                                                                                                                            fun (v19 : V) (h'20 : Hp) =>
                                                                                                                                                            ∃ (n36 : Int),
                                                                                                                                                              v19 = V.int IntKind.i64 n36 ∧
                                                                                                                                                                bif
                                                                                                                                                                    IntKind.i64.wrap
                                                                                                                                                                        (IntKind.i64.wrap (n34 + n35) +
                                                                                                                                                                          n36) ==
                                                                                                                                                                      (0 : Int) then
                                                                                                                                                                  XCalls Try.prog (8 : Nat) [] h'20
                                                                                                                                                                    fun (v20 : V) (h'21 : Hp) =>
                                                                                                                                                                    ∃ (b1 : Bool),
                                                                                                                                                                      v20 = V.bool b1 ∧
                                                                                                                                                                        K (V.bool b1) h'21
                                                                                                                                                                else K (V.bool false) h'20
                                                                                                                                            else K (V.bool false) h'17
                                                                                                                                          else K (V.bool false) h'17
                                                                                                                                        else K (V.bool false) h'17
                                                                                                                            else K (V.bool false) h'15
                                                                                                                    else K (V.bool false) h'14
                                                                                                else K (V.bool false) h'12
theorem y7 (h : Hp) (K : V → Hp → Prop) (conns : Int) (rests : Int) : X7 h K conns rests = fnX Try.prog T F jl7 jj7 Try.f7 [V.int IntKind.u16 conns, V.int IntKind.u16 rests] h K := by kernel_rfl
theorem x7 {h : Hp} {K : V → Hp → Prop} (conns : Int) (rests : Int) (hx : X7 h K conns rests) : XCalls Try.prog 7 [V.int IntKind.u16 conns, V.int IntKind.u16 rests] h K :=
  XCalls.ofX tok fok mixed (JL := jl7) (JJ := jj7) Try.func7 ((y7 h K conns rests) ▸ hx)
end Go.Vex
