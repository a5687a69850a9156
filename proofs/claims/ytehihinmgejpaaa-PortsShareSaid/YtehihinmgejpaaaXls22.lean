/-
  a law of ports as a statement about data (printed by VexPrint).
-/
import Derived.Test.YtehihinmgejpaaaVexX
import Derived.Test.YtehihinmgejpaaaTab22
set_option linter.unusedVariables false
set_option maxRecDepth 100000
namespace Go.Vex
open Go.Proofs
/-! 7: stevedore/stevedorelaw22.PortsShare -/
-- loop 16: stays ip(1), port(2), p(7), b(9), l(11); turns i(12)
-- loop 8: stays ip(1), port(2), p(7), n(8), b(9); turns i(10)
def jl7 : Nat → Option JT := fun r => bif Nat.beq r 16 then some ⟨[1, 2, 7, 9, 11], [12], [V.int IntKind.i64 (0 : Int)]⟩ else bif Nat.beq r 8 then some ⟨[1, 2, 7, 8, 9], [10], [V.int IntKind.i64 (0 : Int)]⟩ else none
def jj7 : Nat → Option JT := fun r => none
def X7 (h : Hp) (K : V → Hp → Prop) (many : Int) (ip : Int) (port : Int) : Prop :=
  bif port == (0 : Int) then XCalls Try.prog (8 : Nat) [] h fun (v1 : V) (h'1 : Hp) => ∃ (b1 : Bool), v1 = V.bool b1 ∧ K (V.bool b1) h'1
else
  XCalls Try.prog (9 : Nat) [] h fun (v2 : V) (h'2 : Hp) =>
    ∃ (a1 : Option (Nat × Nat)),
      v2 = V.ptr a1 ∧
        ¬(20 : Int) = (0 : Int) ∧
          XCalls Try.prog (19 : Nat) [V.int IntKind.u32 ip, V.int IntKind.u16 port] h'2 fun (v3 : V) (h'3 : Hp) =>
            ∃ (n1 : Int),
              ∃ (n2 : Int),
                ∃ (n3 : Int),
                  ∃ (b2 : Bool),
                    v3 = V.agg [V.int IntKind.u8 n1, V.int IntKind.u32 n2, V.int IntKind.u16 n3, V.bool b2] ∧
                      ∀ (h'4 : Hp),
                        h'4 = h'3.alloc (O.row [V.int IntKind.u8 (0 : Int), V.int IntKind.u32 (0 : Int), V.int IntKind.u16 (0 : Int), V.bool false] (1 : Nat) false) →
                          ∃ (h'5 : Hp),
                            h'4.st h'3.next (0 : Nat) [V.int IntKind.u8 n1, V.int IntKind.u32 n2, V.int IntKind.u16 n3, V.bool b2] = some h'5 ∧
                              ∃ (h'6 : Hp),
                                h'5.st h'3.next (3 : Nat) [V.bool true] = some h'6 ∧
                                  ∃ (I1 : List V → Hp → Prop),
                                    ∃ (x1 : List V → Hp → Nat),
                                      ([V.int IntKind.u32 ip, V.int IntKind.u16 port, V.ptr a1, V.int IntKind.i64 (IntKind.i64.wrap (IntKind.i64.wrap (many.tmod (20 : Int)) + (1 : Int))),
                                              V.ptr (some (h'3.next, (0 : Nat)))] =
                                            [V.int IntKind.u32 ip, V.int IntKind.u16 port, V.ptr a1, V.int IntKind.i64 (IntKind.i64.wrap (IntKind.i64.wrap (many.tmod (20 : Int)) + (1 : Int))),
                                              V.ptr (some (h'3.next, (0 : Nat)))] ∧
                                          I1 [V.int IntKind.i64 (0 : Int)] h'6) ∧
                                        ∀ (bs1 : Nat → Option V) (n4 : Int) (h1 : Hp),
                                          I1 [V.int IntKind.i64 n4] h1 →
                                            bif ltI n4 (IntKind.i64.wrap (IntKind.i64.wrap (many.tmod (20 : Int)) + (1 : Int))) then
                                              ∃ (n5 : Int),
                                                ∃ (n6 : Int),
                                                  ∃ (n7 : Int),
                                                    ∃ (b3 : Bool),
                                                      h1.lda h'3.next (0 : Nat) (4 : Nat) = some (V.agg [V.int IntKind.u8 n5, V.int IntKind.u32 n6, V.int IntKind.u16 n7, V.bool b3]) ∧
                                                        XCalls Try.prog (16 : Nat)
                                                          [V.ptr a1, V.int IntKind.u64 (IntKind.u64.wrap (IntKind.i64.wrap ((100 : Int) - n4))),
                                                            V.agg [V.int IntKind.u8 n5, V.int IntKind.u32 n6, V.int IntKind.u16 n7, V.bool b3]]
                                                          h1 fun (v4 : V) (h'7 : Hp) =>
                                                          ∃ (n8 : Int),
                                                            v4 = V.int IntKind.i64 n8 ∧
                                                              bif n8 != (0 : Int) then K (V.bool false) h'7
                                                              else
                                                                [V.int IntKind.u32 ip, V.int IntKind.u16 port, V.ptr a1,
                                                                      V.int IntKind.i64 (IntKind.i64.wrap (IntKind.i64.wrap (many.tmod (20 : Int)) + (1 : Int))), V.ptr (some (h'3.next, (0 : Nat)))] =
                                                                    [V.int IntKind.u32 ip, V.int IntKind.u16 port, V.ptr a1,
                                                                      V.int IntKind.i64 (IntKind.i64.wrap (IntKind.i64.wrap (many.tmod (20 : Int)) + (1 : Int))), V.ptr (some (h'3.next, (0 : Nat)))] ∧
                                                                  I1 [V.int IntKind.i64 (IntKind.i64.wrap (n4 + (1 : Int)))] h'7 ∧
                                                                    x1 [V.int IntKind.i64 (IntKind.i64.wrap (n4 + (1 : Int)))] h'7 < x1 [V.int IntKind.i64 n4] h1
                                            else
                                              XCalls Try.prog (14 : Nat) [V.ptr a1, V.int IntKind.u8 (2 : Int), V.agg [V.int IntKind.u32 ip, V.int IntKind.u16 port]] h1 fun (v5 : V) (h'8 : Hp) =>
                                                ∃ (a2 : Option (Nat × Nat)),
                                                  ∃ (n9 : Nat),
                                                    ∃ (f1 : Bool),
                                                      v5 = V.slc a2 n9 f1 ∧
                                                        bif (↑n9 : Int) != IntKind.i64.wrap (IntKind.i64.wrap (many.tmod (20 : Int)) + (1 : Int)) then K (V.bool false) h'8
                                                        else
                                                          XCalls Try.prog (19 : Nat) [V.int IntKind.u32 ip, V.int IntKind.u16 port] h'8 fun (v6 : V) (h'9 : Hp) =>
                                                            ∃ (n10 : Int),
                                                              ∃ (n11 : Int),
                                                                ∃ (n12 : Int),
                                                                  ∃ (b4 : Bool),
                                                                    v6 = V.agg [V.int IntKind.u8 n10, V.int IntKind.u32 n11, V.int IntKind.u16 n12, V.bool b4] ∧
                                                                      XCalls Try.prog (16 : Nat)
                                                                        [V.ptr a1, V.int IntKind.u64 (5 : Int), V.agg [V.int IntKind.u8 n10, V.int IntKind.u32 n11, V.int IntKind.u16 n12, V.bool b4]]
                                                                        h'9 fun (v7 : V) (h'10 : Hp) =>
                                                                        ∃ (n13 : Int),
                                                                          v7 = V.int IntKind.i64 n13 ∧
                                                                            bif n13 != (220 : Int) then K (V.bool false) h'10
                                                                            else
                                                                              ∃ (I2 : List V → Hp → Prop),
                                                                                ∃ (x2 : List V → Hp → Nat),
                                                                                  ([V.int IntKind.u32 ip, V.int IntKind.u16 port, V.ptr a1, V.ptr (some (h'3.next, (0 : Nat))), V.slc a2 n9 f1] =
                                                                                        [V.int IntKind.u32 ip, V.int IntKind.u16 port, V.ptr a1, V.ptr (some (h'3.next, (0 : Nat))), V.slc a2 n9 f1] ∧
                                                                                      I2 [V.int IntKind.i64 (1 : Int)] h'10) ∧
                                                                                    ∀ (bs2 : Nat → Option V) (n14 : Int) (h2 : Hp),
                                                                                      I2 [V.int IntKind.i64 n14] h2 →
                                                                                        bif ltI n14 (↑n9 : Int) then
                                                                                          ((0 : Int) ≤ IntKind.i64.wrap (n14 - (1 : Int)) ∧ IntKind.i64.wrap (n14 - (1 : Int)) < (↑n9 : Int)) ∧
                                                                                            onS a2 fun (i1 o1 : Nat) =>
                                                                                              ∃ (n15 : Int),
                                                                                                h2.ld i1 (o1 + (IntKind.i64.wrap (n14 - (1 : Int))).toNat * (1 : Nat)) = some (V.int IntKind.u64 n15) ∧
                                                                                                  ((0 : Int) ≤ n14 ∧ n14 < (↑n9 : Int)) ∧
                                                                                                    onS a2 fun (i2 o2 : Nat) =>
                                                                                                      ∃ (n16 : Int),
                                                                                                        h2.ld i2 (o2 + n14.toNat * (1 : Nat)) = some (V.int IntKind.u64 n16) ∧
                                                                                                          bif !ltI n15 n16 then K (V.bool false) h2
                                                                                                          else
                                                                                                            [V.int IntKind.u32 ip, V.int IntKind.u16 port, V.ptr a1, V.ptr (some (h'3.next, (0 : Nat))),
                                                                                                                  V.slc a2 n9 f1] =
                                                                                                                [V.int IntKind.u32 ip, V.int IntKind.u16 port, V.ptr a1,
                                                                                                                  V.ptr (some (h'3.next, (0 : Nat))), V.slc a2 n9 f1] ∧
                                                                                                              I2 [V.int IntKind.i64 (IntKind.i64.wrap (n14 + (1 : Int)))] h2 ∧
                                                                                                                x2 [V.int IntKind.i64 (IntKind.i64.wrap (n14 + (1 : Int)))] h2 <
                                                                                                                  x2 [V.int IntKind.i64 n14] h2
                                                                                        else
                                                                                          XCalls Try.prog (18 : Nat) [V.ptr a1, V.slc a2 n9 f1] h2 fun (v8 : V) (h'11 : Hp) =>
                                                                                            ∃ (n17 : Int),
                                                                                              v8 = V.int IntKind.i64 n17 ∧
                                                                                                XCalls Try.prog (19 : Nat) [V.int IntKind.u32 ip, V.int IntKind.u16 port] h'11
                                                                                                  fun (v9 : V) (h'12 : Hp) =>
                                                                                                  ∃ (n18 : Int),
                                                                                                    ∃ (n19 : Int),
                                                                                                      ∃ (n20 : Int),
                                                                                                        ∃ (b5 : Bool),
                                                                                                          v9 = V.agg [V.int IntKind.u8 n18, V.int IntKind.u32 n19, V.int IntKind.u16 n20, V.bool b5] ∧
                                                                                                            XCalls Try.prog (16 : Nat)
                                                                                                              [V.ptr a1, V.int IntKind.u64 (5 : Int),
                                                                                                                V.agg [V.int IntKind.u8 n18, V.int IntKind.u32 n19, V.int IntKind.u16 n20, V.bool b5]]
                                                                                                              h'12 fun (v10 : V) (h'13 : Hp) =>
                                                                                                              ∃ (n21 : Int),
                                                                                                                v10 = V.int IntKind.i64 n21 ∧
                                                                                                                  bif n21 == (0 : Int) then
                                                                                                                    ∃ (n22 : Int),
                                                                                                                      ∃ (n23 : Int),
                                                                                                                        ∃ (n24 : Int),
                                                                                                                          ∃ (b6 : Bool),
                                                                                                                            h'13.lda h'3.next (0 : Nat) (4 : Nat) =
                                                                                                                                some
                                                                                                                                  (V.agg
                                                                                                                                    [V.int IntKind.u8 n22, V.int IntKind.u32 n23, V.int IntKind.u16 n24,
                                                                                                                                      V.bool b6]) ∧
                                                                                                                              XCalls Try.prog (16 : Nat)
                                                                                                                                [V.ptr a1, V.int IntKind.u64 (6 : Int),
                                                                                                                                  V.agg
                                                                                                                                    [V.int IntKind.u8 n22, V.int IntKind.u32 n23, V.int IntKind.u16 n24,
                                                                                                                                      V.bool b6]]
                                                                                                                                h'13 fun (v11 : V) (h'14 : Hp) =>
                                                                                                                                ∃ (n25 : Int),
                                                                                                                                  v11 = V.int IntKind.i64 n25 ∧
                                                                                                                                    bif n25 == (220 : Int) then
                                                                                                                                      XCalls Try.prog (8 : Nat) [] h'14 fun (v12 : V) (h'15 : Hp) =>
                                                                                                                                        ∃ (b7 : Bool), v12 = V.bool b7 ∧ K (V.bool b7) h'15
                                                                                                                                    else K (V.bool false) h'14
                                                                                                                  else K (V.bool false) h'13
theorem x7 {h : Hp} {K : V → Hp → Prop} (many : Int) (ip : Int) (port : Int) (hx : X7 h K many ip port) : XCalls Try.prog 7 [V.int IntKind.u8 many, V.int IntKind.u32 ip, V.int IntKind.u16 port] h K :=
  XCalls.ofX tok fok mixed (JL := jl7) (JJ := jj7) Try.func7 (cast (by kernel_rfl) hx)
end Go.Vex
