/-
  NearAsks (layer 9) (printed by VexPrint).
-/
import Derived.Test.YtkpkpnmkoejidaaVexX
import Derived.Test.YtkpkpnmkoejidaaTab09
set_option linter.unusedVariables false
set_option maxRecDepth 100000
namespace Go.Vex
open Go.Proofs
/-! 3: stevedore/stevedorelaw09.NearAsks -/
-- loop 23: stays heard(2), c(3), n(7); turns mac(1), now(14), i(18)
-- loop 10: stays mac(1), heard(2), c(3), n(7); turns count(13), now(14), i(15)
def jl3 : Nat → Option JT := fun r => bif Nat.beq r 23 then some ⟨[2, 3, 7], [1, 14, 18], [V.int IntKind.u64 (0 : Int), V.int IntKind.i64 (0 : Int), V.int IntKind.i64 (0 : Int)]⟩ else bif Nat.beq r 10 then some ⟨[1, 2, 3, 7], [13, 14, 15], [V.int IntKind.i64 (0 : Int), V.int IntKind.i64 (0 : Int), V.int IntKind.i64 (0 : Int)]⟩ else none
def jj3 : Nat → Option JT := fun r => none
def X3 (h : Hp) (K : V → Hp → Prop) (c_0 : Int) (c_1 : Int) (c_2 : Int) (c_3 : Int) (c_4 : Int) (c_5 : Int) (mac : Int) (heard : Int) : Prop :=
  ∀ (h'1 : Hp),
  h'1 = h.alloc (O.row [V.int IntKind.i64 c_0, V.int IntKind.i64 c_1, V.int IntKind.i64 c_2, V.int IntKind.i64 c_3, V.int IntKind.i64 c_4, V.int IntKind.i64 c_5] (1 : Nat) false) →
    ∃ (n1 : Int),
      ∃ (n2 : Int),
        ∃ (n3 : Int),
          ∃ (n4 : Int),
            ∃ (n5 : Int),
              ∃ (n6 : Int),
                h'1.lda h.next (0 : Nat) (6 : Nat) = some (V.agg [V.int IntKind.i64 n1, V.int IntKind.i64 n2, V.int IntKind.i64 n3, V.int IntKind.i64 n4, V.int IntKind.i64 n5, V.int IntKind.i64 n6]) ∧
                  XCalls Try.prog (6 : Nat) [V.agg [V.int IntKind.i64 n1, V.int IntKind.i64 n2, V.int IntKind.i64 n3, V.int IntKind.i64 n4, V.int IntKind.i64 n5, V.int IntKind.i64 n6]] h'1
                    fun (v1 : V) (h'2 : Hp) =>
                    ∃ (a1 : Option (Nat × Nat)),
                      ∃ (n7 : Int),
                        v1 = V.tup [V.ptr a1, V.int IntKind.i64 n7] ∧
                          bif n7 != (0 : Int) then XCalls Try.prog (7 : Nat) [] h'2 fun (v2 : V) (h'3 : Hp) => ∃ (b1 : Bool), v2 = V.bool b1 ∧ K (V.bool b1) h'3
                          else
                            bif a1.isNone then XCalls Try.prog (7 : Nat) [] h'2 fun (v3 : V) (h'4 : Hp) => ∃ (b2 : Bool), v3 = V.bool b2 ∧ K (V.bool b2) h'4
                            else
                              ∃ (n8 : Int),
                                h'2.ld h.next (4 : Nat) = some (V.int IntKind.i64 n8) ∧
                                  bif ltI (50 : Int) n8 then XCalls Try.prog (7 : Nat) [] h'2 fun (v4 : V) (h'5 : Hp) => ∃ (b3 : Bool), v4 = V.bool b3 ∧ K (V.bool b3) h'5
                                  else
                                    ∃ (n9 : Int),
                                      h'2.ld h.next (2 : Nat) = some (V.int IntKind.i64 n9) ∧
                                        bif ltI n9 (1 : Int) then XCalls Try.prog (7 : Nat) [] h'2 fun (v5 : V) (h'6 : Hp) => ∃ (b4 : Bool), v5 = V.bool b4 ∧ K (V.bool b4) h'6
                                        else
                                          ∃ (n10 : Int),
                                            h'2.ld h.next (1 : Nat) = some (V.int IntKind.i64 n10) ∧
                                              bif ltI n10 (1 : Int) then XCalls Try.prog (7 : Nat) [] h'2 fun (v6 : V) (h'7 : Hp) => ∃ (b5 : Bool), v6 = V.bool b5 ∧ K (V.bool b5) h'7
                                              else
                                                ∃ (n11 : Int),
                                                  h'2.ld h.next (5 : Nat) = some (V.int IntKind.i64 n11) ∧
                                                    bif ltI (1073741824 : Int) n11 then XCalls Try.prog (7 : Nat) [] h'2 fun (v7 : V) (h'8 : Hp) => ∃ (b6 : Bool), v7 = V.bool b6 ∧ K (V.bool b6) h'8
                                                    else
                                                      ∃ (n12 : Int),
                                                        h'2.ld h.next (3 : Nat) = some (V.int IntKind.i64 n12) ∧
                                                          bif ltI (1073741824 : Int) n12 then
                                                            XCalls Try.prog (7 : Nat) [] h'2 fun (v8 : V) (h'9 : Hp) => ∃ (b7 : Bool), v8 = V.bool b7 ∧ K (V.bool b7) h'9
                                                          else
                                                            XCalls Try.prog (8 : Nat) [V.ptr a1, V.int IntKind.u32 (9 : Int), V.int IntKind.u64 (1 : Int), V.int IntKind.i64 (0 : Int)] h'2
                                                              fun (v9 : V) (h'10 : Hp) =>
                                                              ∃ (n13 : Int),
                                                                ∃ (b8 : Bool),
                                                                  ∃ (b9 : Bool),
                                                                    ∃ (n14 : Int),
                                                                      v9 = V.tup [V.int IntKind.u64 n13, V.bool b8, V.bool b9, V.int IntKind.i64 n14] ∧
                                                                        bif b8 then K (V.bool false) h'10
                                                                        else
                                                                          bif !b9 then K (V.bool false) h'10
                                                                          else
                                                                            bif n14 != (0 : Int) then K (V.bool false) h'10
                                                                            else
                                                                              ∃ (I1 : List V → Hp → Prop),
                                                                                ∃ (x1 : List V → Hp → Nat),
                                                                                  ([V.int IntKind.u64 mac, V.int IntKind.u8 heard, V.ptr (some (h.next, (0 : Nat))), V.ptr a1] =
                                                                                        [V.int IntKind.u64 mac, V.int IntKind.u8 heard, V.ptr (some (h.next, (0 : Nat))), V.ptr a1] ∧
                                                                                      I1 [V.int IntKind.i64 (1 : Int), V.int IntKind.i64 (0 : Int), V.int IntKind.i64 (0 : Int)] h'10) ∧
                                                                                    ∀ (bs1 : Nat → Option V) (n15 n16 n17 : Int) (h1 : Hp),
                                                                                      I1 [V.int IntKind.i64 n15, V.int IntKind.i64 n16, V.int IntKind.i64 n17] h1 →
                                                                                        ∃ (n18 : Int),
                                                                                          h1.ld h.next (4 : Nat) = some (V.int IntKind.i64 n18) ∧
                                                                                            bif ltI n17 n18 then
                                                                                              XCalls Try.prog (9 : Nat) [V.ptr a1, V.int IntKind.u32 (9 : Int)] h1 fun (v10 : V) (h'11 : Hp) =>
                                                                                                ∃ (n19 : Int),
                                                                                                  v10 = V.int IntKind.u8 n19 ∧
                                                                                                    bif n19 != (1 : Int) then K (V.bool false) h'11
                                                                                                    else
                                                                                                      ∃ (n20 : Int),
                                                                                                        h'11.ld h.next (5 : Nat) = some (V.int IntKind.i64 n20) ∧
                                                                                                          XCalls Try.prog (10 : Nat) [V.ptr a1, V.int IntKind.i64 (IntKind.i64.wrap (n16 + n20))] h'11
                                                                                                            fun (v11 : V) (h'12 : Hp) =>
                                                                                                            ∃ (a2 : Option (Nat × Nat)),
                                                                                                              ∃ (n21 : Nat),
                                                                                                                ∃ (f1 : Bool),
                                                                                                                  ∃ (a3 : Option (Nat × Nat)),
                                                                                                                    ∃ (n22 : Nat),
                                                                                                                      ∃ (f2 : Bool),
                                                                                                                        v11 = V.tup [V.slc a2 n21 f1, V.slc a3 n22 f2] ∧
                                                                                                                          ∃ (n23 : Int),
                                                                                                                            h'12.ld h.next (4 : Nat) = some (V.int IntKind.i64 n23) ∧
                                                                                                                              bif
                                                                                                                                  !ltI (0 : Int) (↑n22 : Int) ==
                                                                                                                                      (n17 == IntKind.i64.wrap (n23 - (1 : Int))) then
                                                                                                                                K (V.bool false) h'12
                                                                                                                              else
                                                                                                                                [V.int IntKind.u64 mac, V.int IntKind.u8 heard,
                                                                                                                                      V.ptr (some (h.next, (0 : Nat))), V.ptr a1] =
                                                                                                                                    [V.int IntKind.u64 mac, V.int IntKind.u8 heard,
                                                                                                                                      V.ptr (some (h.next, (0 : Nat))), V.ptr a1] ∧
                                                                                                                                  I1
                                                                                                                                      [V.int IntKind.i64 (IntKind.i64.wrap (n15 + (↑n21 : Int))),
                                                                                                                                        V.int IntKind.i64 (IntKind.i64.wrap (n16 + n20)),
                                                                                                                                        V.int IntKind.i64 (IntKind.i64.wrap (n17 + (1 : Int)))]
                                                                                                                                      h'12 ∧
                                                                                                                                    x1
                                                                                                                                        [V.int IntKind.i64 (IntKind.i64.wrap (n15 + (↑n21 : Int))),
                                                                                                                                          V.int IntKind.i64 (IntKind.i64.wrap (n16 + n20)),
                                                                                                                                          V.int IntKind.i64 (IntKind.i64.wrap (n17 + (1 : Int)))]
                                                                                                                                        h'12 <
                                                                                                                                      x1
                                                                                                                                        [V.int IntKind.i64 n15, V.int IntKind.i64 n16,
                                                                                                                                          V.int IntKind.i64 n17]
                                                                                                                                        h1
                                                                                            else
                                                                                              ∃ (n24 : Int),
                                                                                                h1.ld h.next (4 : Nat) = some (V.int IntKind.i64 n24) ∧
                                                                                                  bif n15 != n24 then K (V.bool false) h1
                                                                                                  else
                                                                                                    XCalls Try.prog (9 : Nat) [V.ptr a1, V.int IntKind.u32 (9 : Int)] h1 fun (v12 : V) (h'13 : Hp) =>
                                                                                                      ∃ (n25 : Int),
                                                                                                        v12 = V.int IntKind.u8 n25 ∧
                                                                                                          bif n25 != (0 : Int) then K (V.bool false) h'13
                                                                                                          else
                                                                                                            XCalls Try.prog (11 : Nat)
                                                                                                              [V.ptr a1, V.int IntKind.u32 (9 : Int), V.int IntKind.u64 mac, V.bool true,
                                                                                                                V.int IntKind.i64 n16]
                                                                                                              h'13 fun (v13 : V) (h'14 : Hp) =>
                                                                                                              ∃ (a4 : Option (Nat × Nat)),
                                                                                                                ∃ (n26 : Nat),
                                                                                                                  ∃ (f3 : Bool),
                                                                                                                    v13 = V.slc a4 n26 f3 ∧
                                                                                                                      ∃ (I2 : List V → Hp → Prop),
                                                                                                                        ∃ (x2 : List V → Hp → Nat),
                                                                                                                          ([V.int IntKind.u8 heard, V.ptr (some (h.next, (0 : Nat))), V.ptr a1] =
                                                                                                                                [V.int IntKind.u8 heard, V.ptr (some (h.next, (0 : Nat))), V.ptr a1] ∧
                                                                                                                              I2
                                                                                                                                [V.int IntKind.u64 mac, V.int IntKind.i64 n16,
                                                                                                                                  V.int IntKind.i64 (0 : Int)]
                                                                                                                                h'14) ∧
                                                                                                                            ∀ (bs2 : Nat → Option V) (n27 n28 n29 : Int) (h2 : Hp),
                                                                                                                              I2 [V.int IntKind.u64 n27, V.int IntKind.i64 n28, V.int IntKind.i64 n29]
                                                                                                                                  h2 →
                                                                                                                                bif ltI n29 (IntKind.i64.wrap heard) then
                                                                                                                                  ∃ (n30 : Int),
                                                                                                                                    h2.ld h.next (3 : Nat) = some (V.int IntKind.i64 n30) ∧
                                                                                                                                      XCalls Try.prog (10 : Nat)
                                                                                                                                        [V.ptr a1,
                                                                                                                                          V.int IntKind.i64
                                                                                                                                            (IntKind.i64.wrap
                                                                                                                                              (IntKind.i64.wrap (n28 + n30) - (1 : Int)))]
                                                                                                                                        h2 fun (v14 : V) (h'15 : Hp) =>
                                                                                                                                        ∃ (a5 : Option (Nat × Nat)),
                                                                                                                                          ∃ (n31 : Nat),
                                                                                                                                            ∃ (f4 : Bool),
                                                                                                                                              ∃ (a6 : Option (Nat × Nat)),
                                                                                                                                                ∃ (n32 : Nat),
                                                                                                                                                  ∃ (f5 : Bool),
                                                                                                                                                    v14 = V.tup [V.slc a5 n31 f4, V.slc a6 n32 f5] ∧
                                                                                                                                                      XCalls Try.prog (8 : Nat)
                                                                                                                                                        [V.ptr a1, V.int IntKind.u32 (9 : Int),
                                                                                                                                                          V.int IntKind.u64 (1 : Int),
                                                                                                                                                          V.int IntKind.i64
                                                                                                                                                            (IntKind.i64.wrap
                                                                                                                                                              (IntKind.i64.wrap (n28 + n30) -
                                                                                                                                                                (1 : Int)))]
                                                                                                                                                        h'15 fun (v15 : V) (h'16 : Hp) =>
                                                                                                                                                        ∃ (n33 : Int),
                                                                                                                                                          ∃ (b10 : Bool),
                                                                                                                                                            ∃ (b11 : Bool),
                                                                                                                                                              ∃ (n34 : Int),
                                                                                                                                                                v15 =
                                                                                                                                                                    V.tup
                                                                                                                                                                      [V.int IntKind.u64 n33,
                                                                                                                                                                        V.bool b10, V.bool b11,
                                                                                                                                                                        V.int IntKind.i64 n34] ∧
                                                                                                                                                                  bif ltI (0 : Int) (↑n31 : Int) then
                                                                                                                                                                    K (V.bool false) h'16
                                                                                                                                                                  else
                                                                                                                                                                    bif !b10 then K (V.bool false) h'16
                                                                                                                                                                    else
                                                                                                                                                                      bif b11 then K (V.bool false) h'16
                                                                                                                                                                      else
                                                                                                                                                                        bif n33 != n27 then
                                                                                                                                                                          K (V.bool false) h'16
                                                                                                                                                                        else
                                                                                                                                                                          XCalls Try.prog (11 : Nat)
                                                                                                                                                                            [V.ptr a1,
                                                                                                                                                                              V.int IntKind.u32
                                                                                                                                                                                (9 : Int),
                                                                                                                                                                              V.int IntKind.u64
                                                                                                                                                                                (IntKind.u64.wrap
                                                                                                                                                                                  (n27 + (1 : Int))),
                                                                                                                                                                              V.bool false,
                                                                                                                                                                              V.int IntKind.i64
                                                                                                                                                                                (IntKind.i64.wrap
                                                                                                                                                                                  (IntKind.i64.wrap
                                                                                                                                                                                      (n28 + n30) -
                                                                                                                                                                                    (1 : Int)))]
                                                                                                                                                                            h'16
                                                                                                                                                                            fun (v16 : V) (h'17 : Hp) =>
                                                                                                                                                                            ∃ (a7 : Option (Nat × Nat)),
                                                                                                                                                                              ∃ (n35 : Nat),
                                                                                                                                                                                ∃ (f6 : Bool),
                                                                                                                                                                                  v16 =
                                                                                                                                                                                      V.slc a7 n35 f6 ∧
                                                                                                                                                                                    [V.int IntKind.u8
                                                                                                                                                                                            heard,
                                                                                                                                                                                          V.ptr
                                                                                                                                                                                            (some
                                                                                                                                                                                              (h.next,
                                                                                                                                                                                                (0 :
                                                                                                                                                                                                  Nat))),
                                                                                                                                                                                          V.ptr a1] =
                                                                                                                                                                                        [V.int
                                                                                                                                                                                            IntKind.u8
                                                                                                                                                                                            heard,
                                                                                                                                                                                          V.ptr
                                                                                                                                                                                            (some
                                                                                                                                                                                              (h.next,
                                                                                                                                                                                                (0 :
                                                                                                                                                                                                  Nat))),
                                                                                                                                                                                          V.ptr a1] ∧
                                                                                                                                                                                      I2
                                                                                                                                                                                          [V.int
                                                                                                                                                                                              IntKind.u64
                                                                                                                                                                                              (IntKind.u64.wrap
                                                                                                                                                                                                (n27 +
                                                                                                                                                                                                  (1 :
                                                                                                                                                                                                    Int))),
                                                                                                                                                                                            V.int
                                                                                                                                                                                              IntKind.i64
                                                                                                                                                                                              (IntKind.i64.wrap
                                                                                                                                                                                                (IntKind.i64.wrap
                                                                                                                                                                                                    (n28 +
                                                                                                                                                                                                      n30) -
                                                                                                                                                                                                  (1 :
                                                                                                                                                                                                    Int))),
                                                                                                                                                                                            V.int
                                                                                                                                                                                              IntKind.i64
                                                                                                                                                                                              (IntKind.i64.wrap
                                                                                                                                                                                                (n29 +
                                                                                                                                                                                                  (1 :
                                                                                                                                                                                                    Int)))]
                                                                                                                                                                                          h'17 ∧
                                                                                                                                                                                        x2
                                                                                                                                                                                            [V.int
                                                                                                                                                                                                IntKind.u64
                                                                                                                                                                                                (IntKind.u64.wrap
                                                                                                                                                                                                  (n27 +
                                                                                                                                                                                                    (1 :
                                                                                                                                                                                                      Int))),
                                                                                                                                                                                              V.int
                                                                                                                                                                                                IntKind.i64
                                                                                                                                                                                                (IntKind.i64.wrap
                                                                                                                                                                                                  (IntKind.i64.wrap
                                                                                                                                                                                                      (n28 +
                                                                                                                                                                                                        n30) -
                                                                                                                                                                                                    (1 :
                                                                                                                                                                                                      Int))),
                                                                                                                                                                                              V.int
                                                                                                                                                                                                IntKind.i64
                                                                                                                                                                                                (IntKind.i64.wrap
                                                                                                                                                                                                  (n29 +
                                                                                                                                                                                                    (1 :
                                                                                                                                                                                                      Int)))]
                                                                                                                                                                                            h'17 <
                                                                                                                                                                                          x2
                                                                                                                                                                                            [V.int
                                                                                                                                                                                                IntKind.u64
                                                                                                                                                                                                n27,
                                                                                                                                                                                              V.int
                                                                                                                                                                                                IntKind.i64
                                                                                                                                                                                                n28,
                                                                                                                                                                                              V.int
                                                                                                                                                                                                IntKind.i64
                                                                                                                                                                                                n29]
                                                                                                                                                                                            h2
                                                                                                                                else
                                                                                                                                  XCalls Try.prog (9 : Nat) [V.ptr a1, V.int IntKind.u32 (9 : Int)] h2
                                                                                                                                    fun (v17 : V) (h'18 : Hp) =>
                                                                                                                                    ∃ (n36 : Int),
                                                                                                                                      v17 = V.int IntKind.u8 n36 ∧
                                                                                                                                        bif n36 == (2 : Int) then
                                                                                                                                          XCalls Try.prog (7 : Nat) [] h'18 fun (v18 : V) (h'19 : Hp) =>
                                                                                                                                            ∃ (b12 : Bool), v18 = V.bool b12 ∧ K (V.bool b12) h'19
                                                                                                                                        else K (V.bool false) h'18
theorem y3 (h : Hp) (K : V → Hp → Prop) (c_0 : Int) (c_1 : Int) (c_2 : Int) (c_3 : Int) (c_4 : Int) (c_5 : Int) (mac : Int) (heard : Int) : X3 h K c_0 c_1 c_2 c_3 c_4 c_5 mac heard = fnX Try.prog T F jl3 jj3 Try.f3 [V.agg [V.int IntKind.i64 c_0, V.int IntKind.i64 c_1, V.int IntKind.i64 c_2, V.int IntKind.i64 c_3, V.int IntKind.i64 c_4, V.int IntKind.i64 c_5], V.int IntKind.u64 mac, V.int IntKind.u8 heard] h K := by kernel_rfl
theorem x3 {h : Hp} {K : V → Hp → Prop} (c_0 : Int) (c_1 : Int) (c_2 : Int) (c_3 : Int) (c_4 : Int) (c_5 : Int) (mac : Int) (heard : Int) (hx : X3 h K c_0 c_1 c_2 c_3 c_4 c_5 mac heard) : XCalls Try.prog 3 [V.agg [V.int IntKind.i64 c_0, V.int IntKind.i64 c_1, V.int IntKind.i64 c_2, V.int IntKind.i64 c_3, V.int IntKind.i64 c_4, V.int IntKind.i64 c_5], V.int IntKind.u64 mac, V.int IntKind.u8 heard] h K :=
  XCalls.ofX tok fok mixed (JL := jl3) (JJ := jj3) Try.func3 ((y3 h K c_0 c_1 c_2 c_3 c_4 c_5 mac heard) ▸ hx)
end Go.Vex
