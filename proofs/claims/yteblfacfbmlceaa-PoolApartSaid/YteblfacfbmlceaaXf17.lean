/-
  PoolApart as a statement about data (printed by VexPrint).
-/
import Derived.Test.YteblfacfbmlceaaVexX
import Derived.Test.YteblfacfbmlceaaTab17
set_option linter.unusedVariables false
set_option maxRecDepth 100000
namespace Go.Vex
open Go.Proofs
/-! 5: stevedore/stevedorelaw17.PoolApart -/
-- loop 10: stays one(0), other(1), text(2), script(3), p(9); turns i(13)
def jl5 : Nat → Option JT := fun r => bif Nat.beq r 10 then some ⟨[0, 1, 2, 3, 9], [13], [V.int IntKind.i64 (0 : Int)]⟩ else none
def jj5 : Nat → Option JT := fun r => none
def X5 (h : Hp) (K : V → Hp → Prop) (one : List UInt8) (other : List UInt8) (text : List UInt8) (script : Option (Nat × Nat)) (script_n : Nat) (script_f : Bool) : Prop :=
  XCalls Try.prog (14 : Nat) [V.slc script script_n script_f] h fun (v1 : V) (h'1 : Hp) =>
  ∃ (b1 : Bool),
    v1 = V.bool b1 ∧
      bif b1 then XCalls Try.prog (9 : Nat) [] h'1 fun (v2 : V) (h'2 : Hp) => ∃ (b2 : Bool), v2 = V.bool b2 ∧ K (V.bool b2) h'2
      else
        bif ltI (1024 : Int) (IntKind.i64.wrap (IntKind.i64.wrap ((↑one.length : Int) + (↑other.length : Int)) + (↑text.length : Int))) then
          XCalls Try.prog (9 : Nat) [] h'1 fun (v3 : V) (h'3 : Hp) => ∃ (b3 : Bool), v3 = V.bool b3 ∧ K (V.bool b3) h'3
        else
          bif one == [] then XCalls Try.prog (9 : Nat) [] h'1 fun (v4 : V) (h'4 : Hp) => ∃ (b4 : Bool), v4 = V.bool b4 ∧ K (V.bool b4) h'4
          else
            XCalls Try.prog (8 : Nat) [V.int IntKind.i64 (10 : Int)] h'1 fun (v5 : V) (h'5 : Hp) =>
              ∃ (a1 : Option (Nat × Nat)),
                ∃ (n1 : Int),
                  v5 = V.tup [V.ptr a1, V.int IntKind.i64 n1] ∧
                    bif n1 != (0 : Int) then K (V.bool false) h'5
                    else
                      bif a1.isNone then K (V.bool false) h'5
                      else
                        XCalls Try.prog (10 : Nat) [V.ptr a1, V.str one, V.str text] h'5 fun (v6 : V) (h'6 : Hp) =>
                          ∃ (n2 : Int),
                            ∃ (n3 : Int),
                              v6 = V.tup [V.int IntKind.u64 n2, V.int IntKind.i64 n3] ∧
                                bif n2 != (1 : Int) then K (V.bool false) h'6
                                else
                                  bif n3 != (0 : Int) then K (V.bool false) h'6
                                  else
                                    ∃ (I1 : List V → Hp → Prop),
                                      ∃ (x1 : List V → Hp → Nat),
                                        ([V.str one, V.str other, V.str text, V.slc script script_n script_f, V.ptr a1] =
                                              [V.str one, V.str other, V.str text, V.slc script script_n script_f, V.ptr a1] ∧
                                            I1 [V.int IntKind.i64 (0 : Int)] h'6) ∧
                                          ∀ (bs1 : Nat → Option V) (n4 : Int) (h1 : Hp),
                                            I1 [V.int IntKind.i64 n4] h1 →
                                              bif ltI n4 (↑script_n : Int) then
                                                ((0 : Int) ≤ n4 ∧ n4 < (↑script_n : Int)) ∧
                                                  onS script fun (i1 o1 : Nat) =>
                                                    ∃ (s1 : List UInt8),
                                                      h1.ld i1 (o1 + n4.toNat * (6 : Nat) + (1 : Nat)) = some (V.str s1) ∧
                                                        bif !s1 == one then
                                                          ((0 : Int) ≤ n4 ∧ n4 < (↑script_n : Int)) ∧
                                                            onS script fun (i2 o2 : Nat) =>
                                                              ∃ (n5 : Int),
                                                                ∃ (s2 : List UInt8),
                                                                  ∃ (s3 : List UInt8),
                                                                    ∃ (s4 : List UInt8),
                                                                      ∃ (n6 : Int),
                                                                        ∃ (a2 : Option (Nat × Nat)),
                                                                          ∃ (n7 : Nat),
                                                                            ∃ (f1 : Bool),
                                                                              h1.lda i2 (o2 + n4.toNat * (6 : Nat)) (6 : Nat) =
                                                                                  some (V.agg [V.int IntKind.i64 n5, V.str s2, V.str s3, V.str s4, V.int IntKind.u64 n6, V.slc a2 n7 f1]) ∧
                                                                                XCalls Try.prog (15 : Nat)
                                                                                  [V.ptr a1, V.agg [V.int IntKind.i64 n5, V.str s2, V.str s3, V.str s4, V.int IntKind.u64 n6, V.slc a2 n7 f1]] h1
                                                                                  fun (v7 : V) (h'7 : Hp) =>
                                                                                  ∃ (n8 : Int),
                                                                                    ∃ (n9 : Int),
                                                                                      v7 = V.tup [V.int IntKind.u64 n8, V.int IntKind.i64 n9] ∧
                                                                                        [V.str one, V.str other, V.str text, V.slc script script_n script_f, V.ptr a1] =
                                                                                            [V.str one, V.str other, V.str text, V.slc script script_n script_f, V.ptr a1] ∧
                                                                                          I1 [V.int IntKind.i64 (IntKind.i64.wrap (n4 + (1 : Int)))] h'7 ∧
                                                                                            x1 [V.int IntKind.i64 (IntKind.i64.wrap (n4 + (1 : Int)))] h'7 < x1 [V.int IntKind.i64 n4] h1
                                                        else
                                                          [V.str one, V.str other, V.str text, V.slc script script_n script_f, V.ptr a1] =
                                                              [V.str one, V.str other, V.str text, V.slc script script_n script_f, V.ptr a1] ∧
                                                            I1 [V.int IntKind.i64 (IntKind.i64.wrap (n4 + (1 : Int)))] h1 ∧
                                                              x1 [V.int IntKind.i64 (IntKind.i64.wrap (n4 + (1 : Int)))] h1 < x1 [V.int IntKind.i64 n4] h1
                                              else
                                                XCalls Try.prog (17 : Nat) [V.ptr a1, V.int IntKind.u64 (1 : Int)] h1 fun (v8 : V) (h'8 : Hp) =>
                                                  ∃ (n10 : Int),
                                                    ∃ (s5 : List UInt8),
                                                      ∃ (s6 : List UInt8),
                                                        ∃ (b5 : Bool),
                                                          v8 = V.tup [V.agg [V.int IntKind.u64 n10, V.str s5, V.str s6], V.bool b5] ∧
                                                            ∀ (h'9 : Hp),
                                                              h'9 = h'8.alloc (O.row [V.int IntKind.u64 (0 : Int), V.str [], V.str []] (1 : Nat) false) →
                                                                ∃ (h'10 : Hp),
                                                                  h'9.st h'8.next (0 : Nat) [V.int IntKind.u64 n10, V.str s5, V.str s6] = some h'10 ∧
                                                                    bif !b5 then K (V.bool false) h'10
                                                                    else
                                                                      ∃ (n11 : Int),
                                                                        ∃ (s7 : List UInt8),
                                                                          ∃ (s8 : List UInt8),
                                                                            h'10.lda h'8.next (0 : Nat) (3 : Nat) = some (V.agg [V.int IntKind.u64 n11, V.str s7, V.str s8]) ∧
                                                                              bif !(n11 == (1 : Int) && (s7 == one && (s8 == text && true))) then K (V.bool false) h'10
                                                                              else
                                                                                bif other == one then
                                                                                  XCalls Try.prog (9 : Nat) [] h'10 fun (v9 : V) (h'11 : Hp) => ∃ (b6 : Bool), v9 = V.bool b6 ∧ K (V.bool b6) h'11
                                                                                else
                                                                                  ∀ (h'12 : Hp),
                                                                                    h'12 = h'10.alloc (O.row [V.int IntKind.u64 (1 : Int)] (1 : Nat) false) →
                                                                                      XCalls Try.prog (12 : Nat) [V.ptr a1, V.str other, V.slc (some (h'10.next, (0 : Nat))) (1 : Nat) true] h'12
                                                                                        fun (v10 : V) (h'13 : Hp) =>
                                                                                        ∃ (n12 : Int),
                                                                                          v10 = V.int IntKind.i64 n12 ∧
                                                                                            bif n12 == (3 : Int) then
                                                                                              XCalls Try.prog (11 : Nat) [V.ptr a1, V.int IntKind.u64 (1 : Int), V.str other, V.str one] h'13
                                                                                                fun (v11 : V) (h'14 : Hp) =>
                                                                                                ∃ (n13 : Int),
                                                                                                  v11 = V.int IntKind.i64 n13 ∧
                                                                                                    bif n13 == (3 : Int) then
                                                                                                      XCalls Try.prog (19 : Nat)
                                                                                                        [V.ptr a1, V.int IntKind.u64 (1 : Int), V.str other, V.str [(120 : UInt8)]] h'14
                                                                                                        fun (v12 : V) (h'15 : Hp) =>
                                                                                                        ∃ (n14 : Int),
                                                                                                          v12 = V.int IntKind.i64 n14 ∧
                                                                                                            bif n14 == (3 : Int) then
                                                                                                              ∀ (h'16 : Hp),
                                                                                                                h'16 = h'15.alloc (O.row [V.int IntKind.u64 (1 : Int)] (1 : Nat) false) →
                                                                                                                  XCalls Try.prog (12 : Nat)
                                                                                                                    [V.ptr a1, V.str one, V.slc (some (h'15.next, (0 : Nat))) (1 : Nat) true] h'16
                                                                                                                    fun (v13 : V) (h'17 : Hp) =>
                                                                                                                    ∃ (n15 : Int),
                                                                                                                      v13 = V.int IntKind.i64 n15 ∧
                                                                                                                        bif n15 == (0 : Int) then
                                                                                                                          ∀ (h'18 : Hp),
                                                                                                                            h'18 = h'17.alloc (O.row [V.int IntKind.u64 (1 : Int)] (1 : Nat) false) →
                                                                                                                              XCalls Try.prog (12 : Nat)
                                                                                                                                [V.ptr a1, V.str one,
                                                                                                                                  V.slc (some (h'17.next, (0 : Nat))) (1 : Nat) true]
                                                                                                                                h'18 fun (v14 : V) (h'19 : Hp) =>
                                                                                                                                ∃ (n16 : Int),
                                                                                                                                  v14 = V.int IntKind.i64 n16 ∧
                                                                                                                                    bif n16 == (5 : Int) then
                                                                                                                                      XCalls Try.prog (9 : Nat) [] h'19 fun (v15 : V) (h'20 : Hp) =>
                                                                                                                                        ∃ (b7 : Bool), v15 = V.bool b7 ∧ K (V.bool b7) h'20
                                                                                                                                    else K (V.bool false) h'19
                                                                                                                        else K (V.bool false) h'17
                                                                                                            else K (V.bool false) h'15
                                                                                                    else K (V.bool false) h'14
                                                                                            else K (V.bool false) h'13
theorem y5 (h : Hp) (K : V → Hp → Prop) (one : List UInt8) (other : List UInt8) (text : List UInt8) (script : Option (Nat × Nat)) (script_n : Nat) (script_f : Bool) : X5 h K one other text script script_n script_f = fnX Try.prog T F jl5 jj5 Try.f5 [V.str one, V.str other, V.str text, V.slc script script_n script_f] h K := by kernel_rfl
theorem x5 {h : Hp} {K : V → Hp → Prop} (one : List UInt8) (other : List UInt8) (text : List UInt8) (script : Option (Nat × Nat)) (script_n : Nat) (script_f : Bool) (hx : X5 h K one other text script script_n script_f) : XCalls Try.prog 5 [V.str one, V.str other, V.str text, V.slc script script_n script_f] h K :=
  XCalls.ofX tok fok mixed (JL := jl5) (JJ := jj5) Try.func5 ((y5 h K one other text script script_n script_f) ▸ hx)
end Go.Vex
