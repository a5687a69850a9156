/-
  The laws' own functions as statements about data (printed by VexPrint).
-/
import Derived.Test.YtakkppekchofdaaDoorVexX
import Derived.Test.YtakkppekchofdaaDoorTab04
set_option linter.unusedVariables false
set_option maxRecDepth 100000
namespace Go.Vex
open Go.Proofs
/-! 4: stevedore/stevedorelaw04.MeterJoins -/
-- join 12: stays m(9), r(10), n(12), s(13), o(15), t(16); turns l(18), k(19)
def jl4 : Nat → Option JT := fun r => none
def jj4 : Nat → Option JT := fun r => bif Nat.beq r 12 then some ⟨[9, 10, 12, 13, 15, 16], [18, 19], [V.slc none (0 : Nat) true, V.slc none (0 : Nat) true]⟩ else none
def X4 (h : Hp) (K : V → Hp → Prop) (a : Option (Nat × Nat)) (a_n : Nat) (a_f : Bool) (b : Option (Nat × Nat)) (b_n : Nat) (b_f : Bool) (c : Option (Nat × Nat)) (c_n : Nat) (c_f : Bool) (self : Bool) : Prop :=
  XCalls Tryd.prog (7 : Nat) [V.slc a a_n a_f] h fun (v1 : V) (h'1 : Hp) =>
  ∃ (b1 : Bool),
    v1 = V.bool b1 ∧
      bif b1 then XCalls Tryd.prog (8 : Nat) [] h'1 fun (v2 : V) (h'2 : Hp) => ∃ (b2 : Bool), v2 = V.bool b2 ∧ K (V.bool b2) h'2
      else
        XCalls Tryd.prog (7 : Nat) [V.slc b b_n b_f] h'1 fun (v3 : V) (h'3 : Hp) =>
          ∃ (b3 : Bool),
            v3 = V.bool b3 ∧
              bif b3 then XCalls Tryd.prog (8 : Nat) [] h'3 fun (v4 : V) (h'4 : Hp) => ∃ (b4 : Bool), v4 = V.bool b4 ∧ K (V.bool b4) h'4
              else
                XCalls Tryd.prog (7 : Nat) [V.slc c c_n c_f] h'3 fun (v5 : V) (h'5 : Hp) =>
                  ∃ (b5 : Bool),
                    v5 = V.bool b5 ∧
                      bif b5 then XCalls Tryd.prog (8 : Nat) [] h'5 fun (v6 : V) (h'6 : Hp) => ∃ (b6 : Bool), v6 = V.bool b6 ∧ K (V.bool b6) h'6
                      else
                        XCalls Tryd.prog (9 : Nat) [V.slc a a_n a_f] h'5 fun (v7 : V) (h'7 : Hp) =>
                          ∃ (a1 : Option (Nat × Nat)),
                            ∃ (a2 : Option (Nat × Nat)),
                              ∃ (b7 : Bool),
                                v7 = V.tup [V.ptr a1, V.ptr a2, V.bool b7] ∧
                                  XCalls Tryd.prog (9 : Nat) [V.slc b b_n b_f] h'7 fun (v8 : V) (h'8 : Hp) =>
                                    ∃ (a3 : Option (Nat × Nat)),
                                      ∃ (a4 : Option (Nat × Nat)),
                                        ∃ (b8 : Bool),
                                          v8 = V.tup [V.ptr a3, V.ptr a4, V.bool b8] ∧
                                            XCalls Tryd.prog (9 : Nat) [V.slc c c_n c_f] h'8 fun (v9 : V) (h'9 : Hp) =>
                                              ∃ (a5 : Option (Nat × Nat)),
                                                ∃ (a6 : Option (Nat × Nat)),
                                                  ∃ (b9 : Bool),
                                                    v9 = V.tup [V.ptr a5, V.ptr a6, V.bool b9] ∧
                                                      bif !b7 then K (V.bool false) h'9
                                                      else
                                                        bif !b8 then K (V.bool false) h'9
                                                        else
                                                          bif !b9 then K (V.bool false) h'9
                                                          else
                                                            ∀ (h'10 : Hp),
                                                              h'10 = h'9.alloc (O.row [V.ptr a3, V.ptr a5] (1 : Nat) false) →
                                                                ∀ (h'11 : Hp),
                                                                  h'11 = h'10.alloc (O.row [V.ptr a4, V.ptr a6] (1 : Nat) false) →
                                                                    ∃ (Q1 : List V → Hp → Prop),
                                                                      (bif self then
                                                                          ∀ (h'12 : Hp),
                                                                            h'12 = h'11.alloc (O.row [V.ptr a1] (1 : Nat) false) →
                                                                              ∃ (p1 : Option (Nat × Nat)),
                                                                                ∃ (n1 : Nat),
                                                                                  ∃ (f1 : Bool),
                                                                                    ∃ (h'13 : Hp),
                                                                                      xapp T h'12 (35 : Nat) (35 : Nat) (V.slc (some (h'9.next, (0 : Nat))) (2 : Nat) true)
                                                                                            (V.slc (some (h'11.next, (0 : Nat))) (1 : Nat) true) =
                                                                                          some (V.slc p1 n1 f1, h'13) ∧
                                                                                        ∀ (h'14 : Hp),
                                                                                          h'14 = h'13.alloc (O.row [V.ptr a2] (1 : Nat) false) →
                                                                                            ∃ (p2 : Option (Nat × Nat)),
                                                                                              ∃ (n2 : Nat),
                                                                                                ∃ (f2 : Bool),
                                                                                                  ∃ (h'15 : Hp),
                                                                                                    xapp T h'14 (36 : Nat) (36 : Nat) (V.slc (some (h'10.next, (0 : Nat))) (2 : Nat) true)
                                                                                                          (V.slc (some (h'13.next, (0 : Nat))) (1 : Nat) true) =
                                                                                                        some (V.slc p2 n2 f2, h'15) ∧
                                                                                                      [V.ptr a1, V.ptr a2, V.ptr a3, V.ptr a4, V.ptr a5, V.ptr a6] =
                                                                                                          [V.ptr a1, V.ptr a2, V.ptr a3, V.ptr a4, V.ptr a5, V.ptr a6] ∧
                                                                                                        Q1 [V.slc p1 n1 f1, V.slc p2 n2 f2] h'15
                                                                        else
                                                                          [V.ptr a1, V.ptr a2, V.ptr a3, V.ptr a4, V.ptr a5, V.ptr a6] = [V.ptr a1, V.ptr a2, V.ptr a3, V.ptr a4, V.ptr a5, V.ptr a6] ∧
                                                                            Q1 [V.slc (some (h'9.next, (0 : Nat))) (2 : Nat) true, V.slc (some (h'10.next, (0 : Nat))) (2 : Nat) true] h'11) ∧
                                                                        ∀ (bs1 : Nat → Option V) (a7 : Option (Nat × Nat)) (n3 : Nat) (f3 : Bool) (a8 : Option (Nat × Nat)) (n4 : Nat) (f4 : Bool)
                                                                          (h1 : Hp),
                                                                          Q1 [V.slc a7 n3 f3, V.slc a8 n4 f4] h1 →
                                                                            XCalls Tryd.prog (14 : Nat) [V.ptr a1, V.slc a7 n3 f3] h1 fun (v10 : V) (h'16 : Hp) =>
                                                                              ∃ (n5 : Int),
                                                                                v10 = V.int IntKind.i64 n5 ∧
                                                                                  XCalls Tryd.prog (15 : Nat) [V.ptr a2, V.slc a8 n4 f4] h'16 fun (v11 : V) (h'17 : Hp) =>
                                                                                    ∃ (n6 : Int),
                                                                                      v11 = V.int IntKind.i64 n6 ∧
                                                                                        bif n5 == n6 then
                                                                                          XCalls Tryd.prog (10 : Nat) [V.ptr a1, V.ptr a2] h'17 fun (v12 : V) (h'18 : Hp) =>
                                                                                            ∃ (b10 : Bool),
                                                                                              v12 = V.bool b10 ∧
                                                                                                bif b10 then
                                                                                                  XCalls Tryd.prog (10 : Nat) [V.ptr a3, V.ptr a4] h'18 fun (v13 : V) (h'19 : Hp) =>
                                                                                                    ∃ (b11 : Bool),
                                                                                                      v13 = V.bool b11 ∧
                                                                                                        bif b11 then
                                                                                                          XCalls Tryd.prog (10 : Nat) [V.ptr a5, V.ptr a6] h'19 fun (v14 : V) (h'20 : Hp) =>
                                                                                                            ∃ (b12 : Bool),
                                                                                                              v14 = V.bool b12 ∧
                                                                                                                bif b12 then
                                                                                                                  ∀ (h'21 : Hp),
                                                                                                                    h'21 = h'20.alloc (O.row [V.ptr a3, V.ptr none] (1 : Nat) false) →
                                                                                                                      XCalls Tryd.prog (14 : Nat)
                                                                                                                        [V.ptr a1, V.slc (some (h'20.next, (0 : Nat))) (2 : Nat) true] h'21
                                                                                                                        fun (v15 : V) (h'22 : Hp) =>
                                                                                                                        ∃ (n7 : Int),
                                                                                                                          v15 = V.int IntKind.i64 n7 ∧
                                                                                                                            bif n7 == (1 : Int) then
                                                                                                                              XCalls Tryd.prog (10 : Nat) [V.ptr a1, V.ptr a2] h'22
                                                                                                                                fun (v16 : V) (h'23 : Hp) =>
                                                                                                                                ∃ (b13 : Bool),
                                                                                                                                  v16 = V.bool b13 ∧
                                                                                                                                    bif b13 then
                                                                                                                                      XCalls Tryd.prog (8 : Nat) [] h'23 fun (v17 : V) (h'24 : Hp) =>
                                                                                                                                        ∃ (b14 : Bool), v17 = V.bool b14 ∧ K (V.bool b14) h'24
                                                                                                                                    else K (V.bool false) h'23
                                                                                                                            else K (V.bool false) h'22
                                                                                                                else K (V.bool false) h'20
                                                                                                        else K (V.bool false) h'19
                                                                                                else K (V.bool false) h'18
                                                                                        else K (V.bool false) h'17
theorem y4 (h : Hp) (K : V → Hp → Prop) (a : Option (Nat × Nat)) (a_n : Nat) (a_f : Bool) (b : Option (Nat × Nat)) (b_n : Nat) (b_f : Bool) (c : Option (Nat × Nat)) (c_n : Nat) (c_f : Bool) (self : Bool) : X4 h K a a_n a_f b b_n b_f c c_n c_f self = fnX Tryd.prog T F jl4 jj4 Tryd.f4 [V.slc a a_n a_f, V.slc b b_n b_f, V.slc c c_n c_f, V.bool self] h K := by kernel_rfl
theorem x4 {h : Hp} {K : V → Hp → Prop} (a : Option (Nat × Nat)) (a_n : Nat) (a_f : Bool) (b : Option (Nat × Nat)) (b_n : Nat) (b_f : Bool) (c : Option (Nat × Nat)) (c_n : Nat) (c_f : Bool) (self : Bool) (hx : X4 h K a a_n a_f b b_n b_f c c_n c_f self) : XCalls Tryd.prog 4 [V.slc a a_n a_f, V.slc b b_n b_f, V.slc c c_n c_f, V.bool self] h K :=
  XCalls.ofX tok fok mixed (JL := jl4) (JJ := jj4) Tryd.func4 ((y4 h K a a_n a_f b b_n b_f c c_n c_f self) ▸ hx)
/-! 6: stevedore/stevedorelaw04.MeterFull -/
-- loop 4: stays m(3), n(4); turns i(5)
-- join 12: stays m(3); turns 
def jl6 : Nat → Option JT := fun r => bif Nat.beq r 4 then some ⟨[3, 4], [5], [V.int IntKind.i64 (0 : Int)]⟩ else none
def jj6 : Nat → Option JT := fun r => bif Nat.beq r 12 then some ⟨[3], [], []⟩ else none
def X6 (h : Hp) (K : V → Hp → Prop) (many : Int) : Prop :=
  XCalls Tryd.prog (17 : Nat) [] h fun (v1 : V) (h'1 : Hp) =>
  ∃ (a1 : Option (Nat × Nat)),
    v1 = V.ptr a1 ∧
      ¬(84 : Int) = (0 : Int) ∧
        ∃ (I1 : List V → Hp → Prop),
          ∃ (x1 : List V → Hp → Nat),
            ([V.ptr a1, V.int IntKind.i64 ((IntKind.i64.wrap many).tmod (84 : Int))] = [V.ptr a1, V.int IntKind.i64 ((IntKind.i64.wrap many).tmod (84 : Int))] ∧ I1 [V.int IntKind.i64 (0 : Int)] h'1) ∧
              ∀ (bs1 : Nat → Option V) (n1 : Int) (h1 : Hp),
                I1 [V.int IntKind.i64 n1] h1 →
                  bif ltI n1 ((IntKind.i64.wrap many).tmod (84 : Int)) then
                    ¬(26 : Int) = (0 : Int) ∧
                      ¬(26 : Int) = (0 : Int) ∧
                        ∀ (h'2 : Hp),
                          h'2 =
                              h1.alloc
                                (O.row
                                  [V.int IntKind.u8 (IntKind.u8.wrap ((97 : Int) + IntKind.u8.wrap (n1.tmod (26 : Int)))),
                                    V.int IntKind.u8 (IntKind.u8.wrap ((97 : Int) + IntKind.u8.wrap (IntKind.i64.wrap (n1.tdiv (26 : Int)))))]
                                  (1 : Nat) false) →
                            ∃ (s1 : List UInt8),
                              xconv T h'2 (51 : Nat) (9 : Nat) (V.slc (some (h1.next, (0 : Nat))) (2 : Nat) true) = some (V.str s1) ∧
                                XCalls Tryd.prog (18 : Nat) [V.ptr a1, V.str s1, V.int IntKind.i64 (1 : Int), V.int IntKind.i64 (2 : Int)] h'2 fun (v2 : V) (h'3 : Hp) =>
                                  ∃ (n2 : Int),
                                    v2 = V.int IntKind.i64 n2 ∧
                                      bif !(n2 == (0 : Int)) == ltI n1 (64 : Int) then K (V.bool false) h'3
                                      else
                                        bif n2 != (0 : Int) then
                                          bif n2 != (6 : Int) then K (V.bool false) h'3
                                          else
                                            [V.ptr a1, V.int IntKind.i64 ((IntKind.i64.wrap many).tmod (84 : Int))] = [V.ptr a1, V.int IntKind.i64 ((IntKind.i64.wrap many).tmod (84 : Int))] ∧
                                              I1 [V.int IntKind.i64 (IntKind.i64.wrap (n1 + (1 : Int)))] h'3 ∧
                                                x1 [V.int IntKind.i64 (IntKind.i64.wrap (n1 + (1 : Int)))] h'3 < x1 [V.int IntKind.i64 n1] h1
                                        else
                                          [V.ptr a1, V.int IntKind.i64 ((IntKind.i64.wrap many).tmod (84 : Int))] = [V.ptr a1, V.int IntKind.i64 ((IntKind.i64.wrap many).tmod (84 : Int))] ∧
                                            I1 [V.int IntKind.i64 (IntKind.i64.wrap (n1 + (1 : Int)))] h'3 ∧
                                              x1 [V.int IntKind.i64 (IntKind.i64.wrap (n1 + (1 : Int)))] h'3 < x1 [V.int IntKind.i64 n1] h1
                  else
                    ∃ (Q1 : List V → Hp → Prop),
                      (XCalls Tryd.prog (19 : Nat) [V.ptr a1] h1 fun (v3 : V) (h'4 : Hp) =>
                          ∃ (a2 : Option (Nat × Nat)),
                            ∃ (n3 : Nat),
                              ∃ (f1 : Bool),
                                v3 = V.slc a2 n3 f1 ∧
                                  bif (↑n3 : Int) != bif ltI (64 : Int) ((IntKind.i64.wrap many).tmod (84 : Int)) then (64 : Int) else (IntKind.i64.wrap many).tmod (84 : Int) then K (V.bool false) h'4
                                  else
                                    XCalls Tryd.prog (20 : Nat) [V.ptr a1] h'4 fun (v4 : V) (h'5 : Hp) =>
                                      ∃ (a3 : Nat),
                                        ∃ (b1 : Nat),
                                          v4 = V.cplx FloatKind.f64 a3 b1 ∧
                                            XCalls Tryd.prog (12 : Nat)
                                              [V.cplx FloatKind.f64 a3 b1,
                                                V.int IntKind.i64 (bif ltI (64 : Int) ((IntKind.i64.wrap many).tmod (84 : Int)) then (64 : Int) else (IntKind.i64.wrap many).tmod (84 : Int)),
                                                V.int IntKind.i64
                                                  (IntKind.i64.wrap
                                                    ((2 : Int) * bif ltI (64 : Int) ((IntKind.i64.wrap many).tmod (84 : Int)) then (64 : Int) else (IntKind.i64.wrap many).tmod (84 : Int)))]
                                              h'5 fun (v5 : V) (h'6 : Hp) =>
                                              ∃ (b2 : Bool),
                                                v5 = V.bool b2 ∧
                                                  bif !b2 then K (V.bool false) h'6
                                                  else
                                                    bif ltI (0 : Int) (bif ltI (64 : Int) ((IntKind.i64.wrap many).tmod (84 : Int)) then (64 : Int) else (IntKind.i64.wrap many).tmod (84 : Int)) then
                                                      XCalls Tryd.prog (18 : Nat) [V.ptr a1, V.str [(97 : UInt8), (97 : UInt8)], V.int IntKind.i64 (1 : Int), V.int IntKind.i64 (0 : Int)] h'6
                                                        fun (v6 : V) (h'7 : Hp) =>
                                                        ∃ (n4 : Int), v6 = V.int IntKind.i64 n4 ∧ bif n4 != (0 : Int) then K (V.bool false) h'7 else [V.ptr a1] = [V.ptr a1] ∧ Q1 [] h'7
                                                    else [V.ptr a1] = [V.ptr a1] ∧ Q1 [] h'6) ∧
                        ∀ (bs2 : Nat → Option V) (h2 : Hp),
                          Q1 [] h2 →
                            XCalls Tryd.prog (18 : Nat) [V.ptr none, V.str [(97 : UInt8)], V.int IntKind.i64 (1 : Int), V.int IntKind.i64 (1 : Int)] h2 fun (v7 : V) (h'8 : Hp) =>
                              ∃ (n5 : Int),
                                v7 = V.int IntKind.i64 n5 ∧
                                  bif n5 == (1 : Int) then
                                    XCalls Tryd.prog (13 : Nat) [V.ptr none, V.str [(97 : UInt8)]] h'8 fun (v8 : V) (h'9 : Hp) =>
                                      ∃ (a4 : Nat),
                                        ∃ (b3 : Nat),
                                          v8 = V.cplx FloatKind.f64 a4 b3 ∧
                                            XCalls Tryd.prog (12 : Nat) [V.cplx FloatKind.f64 a4 b3, V.int IntKind.i64 (0 : Int), V.int IntKind.i64 (0 : Int)] h'9 fun (v9 : V) (h'10 : Hp) =>
                                              ∃ (b4 : Bool),
                                                v9 = V.bool b4 ∧
                                                  bif b4 then
                                                    XCalls Tryd.prog (20 : Nat) [V.ptr none] h'10 fun (v10 : V) (h'11 : Hp) =>
                                                      ∃ (a5 : Nat),
                                                        ∃ (b5 : Nat),
                                                          v10 = V.cplx FloatKind.f64 a5 b5 ∧
                                                            XCalls Tryd.prog (12 : Nat) [V.cplx FloatKind.f64 a5 b5, V.int IntKind.i64 (0 : Int), V.int IntKind.i64 (0 : Int)] h'11
                                                              fun (v11 : V) (h'12 : Hp) =>
                                                              ∃ (b6 : Bool),
                                                                v11 = V.bool b6 ∧
                                                                  bif b6 then
                                                                    ∀ (h'13 : Hp),
                                                                      h'13 = h'12.alloc (O.row [V.ptr a1] (1 : Nat) false) →
                                                                        XCalls Tryd.prog (14 : Nat) [V.ptr none, V.slc (some (h'12.next, (0 : Nat))) (1 : Nat) true] h'13 fun (v12 : V) (h'14 : Hp) =>
                                                                          ∃ (n6 : Int),
                                                                            v12 = V.int IntKind.i64 n6 ∧
                                                                              bif n6 == (1 : Int) then
                                                                                XCalls Tryd.prog (19 : Nat) [V.ptr none] h'14 fun (v13 : V) (h'15 : Hp) =>
                                                                                  ∃ (a6 : Option (Nat × Nat)),
                                                                                    ∃ (n7 : Nat),
                                                                                      ∃ (f2 : Bool),
                                                                                        v13 = V.slc a6 n7 f2 ∧
                                                                                          bif (↑n7 : Int) == (0 : Int) then
                                                                                            XCalls Tryd.prog (8 : Nat) [] h'15 fun (v14 : V) (h'16 : Hp) =>
                                                                                              ∃ (b7 : Bool), v14 = V.bool b7 ∧ K (V.bool b7) h'16
                                                                                          else K (V.bool false) h'15
                                                                              else K (V.bool false) h'14
                                                                  else K (V.bool false) h'12
                                                  else K (V.bool false) h'10
                                  else K (V.bool false) h'8
theorem y6 (h : Hp) (K : V → Hp → Prop) (many : Int) : X6 h K many = fnX Tryd.prog T F jl6 jj6 Tryd.f6 [V.int IntKind.u8 many] h K := by kernel_rfl
theorem x6 {h : Hp} {K : V → Hp → Prop} (many : Int) (hx : X6 h K many) : XCalls Tryd.prog 6 [V.int IntKind.u8 many] h K :=
  XCalls.ofX tok fok mixed (JL := jl6) (JJ := jj6) Tryd.func6 ((y6 h K many) ▸ hx)
end Go.Vex
