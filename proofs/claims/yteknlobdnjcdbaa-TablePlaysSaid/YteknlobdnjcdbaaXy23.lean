/-
  stevedoreref05.Text (layer 23), its end by hand (printed by VexPrint).
-/
import Derived.Test.YteknlobdnjcdbaaVexX
import Derived.Test.YteknlobdnjcdbaaTab23
set_option linter.unusedVariables false
set_option maxRecDepth 100000
namespace Go.Vex
open Go.Proofs
/-! 37: stevedore/stevedoreref05.Text -/
def jl37 : Nat → Option JT := fun r => none
def jj37 : Nat → Option JT := fun r => none
def X37 (h : Hp) (K : V → Hp → Prop) (p_0 : Int) (p_1 : Int) (p_2 : Int) (p_3 : Int) : Prop :=
  ∀ (h'1 : Hp),
  h'1 = h.alloc (O.row [V.int IntKind.u32 p_0, V.int IntKind.u16 p_1, V.int IntKind.u32 p_2, V.int IntKind.u16 p_3] (1 : Nat) false) →
    ∃ (n1 : Int),
      ∃ (n2 : Int),
        h'1.lda h.next (0 : Nat) (2 : Nat) = some (V.agg [V.int IntKind.u32 n1, V.int IntKind.u16 n2]) ∧
          ∃ (n3 : Int),
            ∃ (n4 : Int),
              h'1.lda h.next (2 : Nat) (2 : Nat) = some (V.agg [V.int IntKind.u32 n3, V.int IntKind.u16 n4]) ∧
                (∀ (h'2 : Hp),
                    h'2 = h'1.alloc (O.row [V.int IntKind.u32 (0 : Int), V.int IntKind.u16 (0 : Int)] (1 : Nat) false) →
                      (∃ (n5 : Int),
                          ∃ (n6 : Int),
                            h'2.lda h.next (2 : Nat) (2 : Nat) = some (V.agg [V.int IntKind.u32 n5, V.int IntKind.u16 n6]) ∧
                              V.agg [V.int IntKind.u32 n5, V.int IntKind.u16 n6] = V.agg [V.int IntKind.u32 n3, V.int IntKind.u16 n4]) ∧
                        V.ptr (some (h.next, (2 : Nat))) = V.ptr (some (h.next, (2 : Nat))) ∧
                          (∃ (n7 : Int),
                              ∃ (n8 : Int),
                                h'2.lda h.next (0 : Nat) (2 : Nat) = some (V.agg [V.int IntKind.u32 n7, V.int IntKind.u16 n8]) ∧
                                  V.agg [V.int IntKind.u32 n7, V.int IntKind.u16 n8] = V.agg [V.int IntKind.u32 n1, V.int IntKind.u16 n2]) ∧
                            V.ptr (some (h.next, (0 : Nat))) = V.ptr (some (h.next, (0 : Nat))) ∧
                              ∀ (h'3 : Hp),
                                h'3 = h'2.alloc (O.row [V.int IntKind.u32 (0 : Int), V.int IntKind.u16 (0 : Int)] (1 : Nat) false) →
                                  (∃ (n9 : Int),
                                      ∃ (n10 : Int),
                                        h'3.lda h.next (2 : Nat) (2 : Nat) = some (V.agg [V.int IntKind.u32 n9, V.int IntKind.u16 n10]) ∧
                                          V.agg [V.int IntKind.u32 n9, V.int IntKind.u16 n10] = V.agg [V.int IntKind.u32 n3, V.int IntKind.u16 n4]) ∧
                                    V.ptr (some (h.next, (2 : Nat))) = V.ptr (some (h.next, (2 : Nat))) ∧
                                      (∃ (n11 : Int),
                                          ∃ (n12 : Int),
                                            h'3.lda h.next (0 : Nat) (2 : Nat) = some (V.agg [V.int IntKind.u32 n11, V.int IntKind.u16 n12]) ∧
                                              V.agg [V.int IntKind.u32 n11, V.int IntKind.u16 n12] = V.agg [V.int IntKind.u32 n1, V.int IntKind.u16 n2]) ∧
                                        V.ptr (some (h.next, (0 : Nat))) = V.ptr (some (h.next, (0 : Nat))) ∧
                                          ∃ (h'4 : Hp),
                                            h'3.st h'1.next (0 : Nat) [V.int IntKind.u32 n1, V.int IntKind.u16 n2] = some h'4 ∧
                                              (∃ (n13 : Int),
                                                  ∃ (n14 : Int),
                                                    h'4.lda h.next (2 : Nat) (2 : Nat) = some (V.agg [V.int IntKind.u32 n13, V.int IntKind.u16 n14]) ∧
                                                      V.agg [V.int IntKind.u32 n13, V.int IntKind.u16 n14] = V.agg [V.int IntKind.u32 n3, V.int IntKind.u16 n4]) ∧
                                                V.ptr (some (h.next, (2 : Nat))) = V.ptr (some (h.next, (2 : Nat))) ∧
                                                  ∃ (h'5 : Hp),
                                                    h'4.st h'2.next (0 : Nat) [V.int IntKind.u32 n3, V.int IntKind.u16 n4] = some h'5 ∧
                                                      ∃ (n15 : Int),
                                                        h'5.ld h'1.next (0 : Nat) = some (V.int IntKind.u32 n15) ∧
                                                          ¬(24 : Int) < (0 : Int) ∧
                                                            ∃ (n16 : Int),
                                                              h'5.ld h'1.next (0 : Nat) = some (V.int IntKind.u32 n16) ∧
                                                                ¬(16 : Int) < (0 : Int) ∧
                                                                  ∃ (n17 : Int),
                                                                    h'5.ld h'1.next (0 : Nat) = some (V.int IntKind.u32 n17) ∧
                                                                      ¬(8 : Int) < (0 : Int) ∧
                                                                        ∃ (n18 : Int),
                                                                          h'5.ld h'1.next (0 : Nat) = some (V.int IntKind.u32 n18) ∧
                                                                            ∃ (n19 : Int),
                                                                              h'5.ld h'2.next (0 : Nat) = some (V.int IntKind.u32 n19) ∧
                                                                                ¬(24 : Int) < (0 : Int) ∧
                                                                                  ∃ (n20 : Int),
                                                                                    h'5.ld h'2.next (0 : Nat) = some (V.int IntKind.u32 n20) ∧
                                                                                      ¬(16 : Int) < (0 : Int) ∧
                                                                                        ∃ (n21 : Int),
                                                                                          h'5.ld h'2.next (0 : Nat) = some (V.int IntKind.u32 n21) ∧
                                                                                            ¬(8 : Int) < (0 : Int) ∧
                                                                                              ∃ (n22 : Int),
                                                                                                h'5.ld h'2.next (0 : Nat) = some (V.int IntKind.u32 n22) ∧
                                                                                                  ∃ (n23 : Int),
                                                                                                    h'5.ld h'1.next (1 : Nat) = some (V.int IntKind.u16 n23) ∧
                                                                                                      ¬(8 : Int) < (0 : Int) ∧
                                                                                                        ∃ (n24 : Int),
                                                                                                          h'5.ld h'1.next (1 : Nat) = some (V.int IntKind.u16 n24) ∧
                                                                                                            ∃ (n25 : Int),
                                                                                                              h'5.ld h'2.next (1 : Nat) = some (V.int IntKind.u16 n25) ∧
                                                                                                                ¬(8 : Int) < (0 : Int) ∧
                                                                                                                  ∃ (n26 : Int),
                                                                                                                    h'5.ld h'2.next (1 : Nat) = some (V.int IntKind.u16 n26) ∧ ∀ (z5 : Hp), z5 = h'5.alloc (O.row [V.int IntKind.u8 (IntKind.u8.wrap (n15.fdiv ((2 : Int) ^ min (Int.toNat (24 : Int)) IntKind.u32.bits))), V.int IntKind.u8 (IntKind.u8.wrap (n16.fdiv ((2 : Int) ^ min (Int.toNat (16 : Int)) IntKind.u32.bits))), V.int IntKind.u8 (IntKind.u8.wrap (n17.fdiv ((2 : Int) ^ min (Int.toNat (8 : Int)) IntKind.u32.bits))), V.int IntKind.u8 (IntKind.u8.wrap n18), V.int IntKind.u8 (IntKind.u8.wrap (n19.fdiv ((2 : Int) ^ min (Int.toNat (24 : Int)) IntKind.u32.bits))), V.int IntKind.u8 (IntKind.u8.wrap (n20.fdiv ((2 : Int) ^ min (Int.toNat (16 : Int)) IntKind.u32.bits))), V.int IntKind.u8 (IntKind.u8.wrap (n21.fdiv ((2 : Int) ^ min (Int.toNat (8 : Int)) IntKind.u32.bits))), V.int IntKind.u8 (IntKind.u8.wrap n22), V.int IntKind.u8 (IntKind.u8.wrap (n23.fdiv ((2 : Int) ^ min (Int.toNat (8 : Int)) IntKind.u16.bits))), V.int IntKind.u8 (IntKind.u8.wrap n24), V.int IntKind.u8 (IntKind.u8.wrap (n25.fdiv ((2 : Int) ^ min (Int.toNat (8 : Int)) IntKind.u16.bits))), V.int IntKind.u8 (IntKind.u8.wrap n26)] (1 : Nat) false) → ∃ (s1 : List UInt8), xconv T z5 (84 : Nat) (9 : Nat) (V.slc (some (h'5.next, (0 : Nat))) (12 : Nat) true) = some (V.str s1) ∧ K (V.str s1) z5) ∧
                  (∀ (h'6 : Hp),
                      h'6 = h'1.alloc (O.row [V.int IntKind.u32 (0 : Int), V.int IntKind.u16 (0 : Int)] (1 : Nat) false) →
                        (∃ (n27 : Int),
                            ∃ (n28 : Int),
                              h'6.lda h.next (2 : Nat) (2 : Nat) = some (V.agg [V.int IntKind.u32 n27, V.int IntKind.u16 n28]) ∧
                                V.agg [V.int IntKind.u32 n27, V.int IntKind.u16 n28] = V.agg [V.int IntKind.u32 n3, V.int IntKind.u16 n4]) ∧
                          V.ptr (some (h.next, (2 : Nat))) = V.ptr (some (h.next, (2 : Nat))) ∧
                            (∃ (n29 : Int),
                                ∃ (n30 : Int),
                                  h'6.lda h.next (0 : Nat) (2 : Nat) = some (V.agg [V.int IntKind.u32 n29, V.int IntKind.u16 n30]) ∧
                                    V.agg [V.int IntKind.u32 n29, V.int IntKind.u16 n30] = V.agg [V.int IntKind.u32 n1, V.int IntKind.u16 n2]) ∧
                              V.ptr (some (h.next, (0 : Nat))) = V.ptr (some (h.next, (0 : Nat))) ∧
                                ∀ (h'7 : Hp),
                                  h'7 = h'6.alloc (O.row [V.int IntKind.u32 (0 : Int), V.int IntKind.u16 (0 : Int)] (1 : Nat) false) →
                                    (∃ (n31 : Int),
                                        ∃ (n32 : Int),
                                          h'7.lda h.next (2 : Nat) (2 : Nat) = some (V.agg [V.int IntKind.u32 n31, V.int IntKind.u16 n32]) ∧
                                            V.agg [V.int IntKind.u32 n31, V.int IntKind.u16 n32] = V.agg [V.int IntKind.u32 n3, V.int IntKind.u16 n4]) ∧
                                      V.ptr (some (h.next, (2 : Nat))) = V.ptr (some (h.next, (2 : Nat))) ∧
                                        (∃ (n33 : Int),
                                            ∃ (n34 : Int),
                                              h'7.lda h.next (0 : Nat) (2 : Nat) = some (V.agg [V.int IntKind.u32 n33, V.int IntKind.u16 n34]) ∧
                                                V.agg [V.int IntKind.u32 n33, V.int IntKind.u16 n34] = V.agg [V.int IntKind.u32 n1, V.int IntKind.u16 n2]) ∧
                                          V.ptr (some (h.next, (0 : Nat))) = V.ptr (some (h.next, (0 : Nat))) ∧
                                            ∃ (h'8 : Hp),
                                              h'7.st h'6.next (0 : Nat) [V.int IntKind.u32 n1, V.int IntKind.u16 n2] = some h'8 ∧
                                                (∃ (n35 : Int),
                                                    ∃ (n36 : Int),
                                                      h'8.lda h.next (2 : Nat) (2 : Nat) = some (V.agg [V.int IntKind.u32 n35, V.int IntKind.u16 n36]) ∧
                                                        V.agg [V.int IntKind.u32 n35, V.int IntKind.u16 n36] = V.agg [V.int IntKind.u32 n3, V.int IntKind.u16 n4]) ∧
                                                  V.ptr (some (h.next, (2 : Nat))) = V.ptr (some (h.next, (2 : Nat))) ∧
                                                    ∃ (h'9 : Hp),
                                                      h'8.st h'1.next (0 : Nat) [V.int IntKind.u32 n3, V.int IntKind.u16 n4] = some h'9 ∧
                                                        ∃ (n37 : Int),
                                                          h'9.ld h'6.next (0 : Nat) = some (V.int IntKind.u32 n37) ∧
                                                            ¬(24 : Int) < (0 : Int) ∧
                                                              ∃ (n38 : Int),
                                                                h'9.ld h'6.next (0 : Nat) = some (V.int IntKind.u32 n38) ∧
                                                                  ¬(16 : Int) < (0 : Int) ∧
                                                                    ∃ (n39 : Int),
                                                                      h'9.ld h'6.next (0 : Nat) = some (V.int IntKind.u32 n39) ∧
                                                                        ¬(8 : Int) < (0 : Int) ∧
                                                                          ∃ (n40 : Int),
                                                                            h'9.ld h'6.next (0 : Nat) = some (V.int IntKind.u32 n40) ∧
                                                                              ∃ (n41 : Int),
                                                                                h'9.ld h'1.next (0 : Nat) = some (V.int IntKind.u32 n41) ∧
                                                                                  ¬(24 : Int) < (0 : Int) ∧
                                                                                    ∃ (n42 : Int),
                                                                                      h'9.ld h'1.next (0 : Nat) = some (V.int IntKind.u32 n42) ∧
                                                                                        ¬(16 : Int) < (0 : Int) ∧
                                                                                          ∃ (n43 : Int),
                                                                                            h'9.ld h'1.next (0 : Nat) = some (V.int IntKind.u32 n43) ∧
                                                                                              ¬(8 : Int) < (0 : Int) ∧
                                                                                                ∃ (n44 : Int),
                                                                                                  h'9.ld h'1.next (0 : Nat) = some (V.int IntKind.u32 n44) ∧
                                                                                                    ∃ (n45 : Int),
                                                                                                      h'9.ld h'6.next (1 : Nat) = some (V.int IntKind.u16 n45) ∧
                                                                                                        ¬(8 : Int) < (0 : Int) ∧
                                                                                                          ∃ (n46 : Int),
                                                                                                            h'9.ld h'6.next (1 : Nat) = some (V.int IntKind.u16 n46) ∧
                                                                                                              ∃ (n47 : Int),
                                                                                                                h'9.ld h'1.next (1 : Nat) = some (V.int IntKind.u16 n47) ∧
                                                                                                                  ¬(8 : Int) < (0 : Int) ∧
                                                                                                                    ∃ (n48 : Int),
                                                                                                                      h'9.ld h'1.next (1 : Nat) = some (V.int IntKind.u16 n48) ∧ ∀ (z9 : Hp), z9 = h'9.alloc (O.row [V.int IntKind.u8 (IntKind.u8.wrap (n37.fdiv ((2 : Int) ^ min (Int.toNat (24 : Int)) IntKind.u32.bits))), V.int IntKind.u8 (IntKind.u8.wrap (n38.fdiv ((2 : Int) ^ min (Int.toNat (16 : Int)) IntKind.u32.bits))), V.int IntKind.u8 (IntKind.u8.wrap (n39.fdiv ((2 : Int) ^ min (Int.toNat (8 : Int)) IntKind.u32.bits))), V.int IntKind.u8 (IntKind.u8.wrap n40), V.int IntKind.u8 (IntKind.u8.wrap (n41.fdiv ((2 : Int) ^ min (Int.toNat (24 : Int)) IntKind.u32.bits))), V.int IntKind.u8 (IntKind.u8.wrap (n42.fdiv ((2 : Int) ^ min (Int.toNat (16 : Int)) IntKind.u32.bits))), V.int IntKind.u8 (IntKind.u8.wrap (n43.fdiv ((2 : Int) ^ min (Int.toNat (8 : Int)) IntKind.u32.bits))), V.int IntKind.u8 (IntKind.u8.wrap n44), V.int IntKind.u8 (IntKind.u8.wrap (n45.fdiv ((2 : Int) ^ min (Int.toNat (8 : Int)) IntKind.u16.bits))), V.int IntKind.u8 (IntKind.u8.wrap n46), V.int IntKind.u8 (IntKind.u8.wrap (n47.fdiv ((2 : Int) ^ min (Int.toNat (8 : Int)) IntKind.u16.bits))), V.int IntKind.u8 (IntKind.u8.wrap n48)] (1 : Nat) false) → ∃ (s1 : List UInt8), xconv T z9 (84 : Nat) (9 : Nat) (V.slc (some (h'9.next, (0 : Nat))) (12 : Nat) true) = some (V.str s1) ∧ K (V.str s1) z9) ∧
                    True
theorem y37 (h : Hp) (K : V → Hp → Prop) (p_0 : Int) (p_1 : Int) (p_2 : Int) (p_3 : Int) : X37 h K p_0 p_1 p_2 p_3 = fnX Try.prog T F jl37 jj37 Try.f37 [V.agg [V.int IntKind.u32 p_0, V.int IntKind.u16 p_1, V.int IntKind.u32 p_2, V.int IntKind.u16 p_3]] h K := by kernel_rfl
theorem x37 {h : Hp} {K : V → Hp → Prop} (p_0 : Int) (p_1 : Int) (p_2 : Int) (p_3 : Int) (hx : X37 h K p_0 p_1 p_2 p_3) : XCalls Try.prog 37 [V.agg [V.int IntKind.u32 p_0, V.int IntKind.u16 p_1, V.int IntKind.u32 p_2, V.int IntKind.u16 p_3]] h K :=
  XCalls.ofX tok fok mixed (JL := jl37) (JJ := jj37) Try.func37 ((y37 h K p_0 p_1 p_2 p_3) ▸ hx)
end Go.Vex
/- stevedoreref23 (layer 23) (printed by VexPrint).
-/
namespace Go.Vex
open Go.Proofs
/-! 17: (*stevedore/stevedoreref23.Table).Put -/
def jl17 : Nat → Option JT := fun r => none
def jj17 : Nat → Option JT := fun r => none
def X17 (h : Hp) (K : V → Hp → Prop) (t : Nat) (p_0 : Int) (p_1 : Int) (p_2 : Int) (p_3 : Int) (socket : Int) : Prop := ∀ (h'1 : Hp), h'1 = h.alloc (O.row [V.int IntKind.u32 p_0, V.int IntKind.u16 p_1, V.int IntKind.u32 p_2, V.int
  IntKind.u16 p_3] (1 : Nat) false) → bif socket == (0 : Int) then K (V.int IntKind.i64 (2 : Int)) h'1 else ∃ (n1 : Int), ∃ (n2 : Int), ∃ (n3 : Int), ∃ (n4 : Int), h'1.lda h.next (0 : Nat) (4 : Nat) = some (V.agg [V.int IntKind.u32 n1, V.int
  IntKind.u16 n2, V.int IntKind.u32 n3, V.int IntKind.u16 n4]) ∧ XCalls Try.prog (34 : Nat) [V.ptr (some (t, (0 : Nat))), V.agg [V.int IntKind.u32 n1, V.int IntKind.u16 n2, V.int IntKind.u32 n3, V.int IntKind.u16 n4]] h'1 fun (v1 : V) (h'2 :
  Hp) => ∃ (n5 : Int), v1 = V.int IntKind.i64 n5 ∧ bif !ltI n5 (0 : Int) then K (V.int IntKind.i64 (7 : Int)) h'2 else XCalls Try.prog (23 : Nat) [V.ptr (some (t, (0 : Nat)))] h'2 fun (v2 : V) (h'3 : Hp) => ∃ (n6 : Int), ∃ (n7 : Int), v2 =
  V.tup [V.int IntKind.i64 n6, V.int IntKind.i64 n7] ∧ bif !ltI n6 (1024 : Int) then K (V.int IntKind.i64 (6 : Int)) h'3 else ∃ (a1 : Option (Nat × Nat)), ∃ (n8 : Nat), ∃ (f1 : Bool), h'3.ld t (0 : Nat) = some (V.slc a1 n8 f1) ∧ ∃ (n9 :
  Int), ∃ (n10 : Int), ∃ (n11 : Int), ∃ (n12 : Int), h'3.lda h.next (0 : Nat) (4 : Nat) = some (V.agg [V.int IntKind.u32 n9, V.int IntKind.u16 n10, V.int IntKind.u32 n11, V.int IntKind.u16 n12]) ∧ ∀ (h'4 : Hp), h'4 = h'3.alloc (O.row [V.int
  IntKind.u32 n9, V.int IntKind.u16 n10, V.int IntKind.u32 n11, V.int IntKind.u16 n12, V.int IntKind.u64 socket, V.int IntKind.i64 (0 : Int)] (6 : Nat) false) → (∃ (a2 : Option (Nat × Nat)), ∃ (n13 : Nat), ∃ (f2 : Bool), h'4.ld t (0 : Nat) =
  some (V.slc a2 n13 f2) ∧ V.slc a2 n13 f2 = V.slc a1 n8 f1) ∧ V.ptr (some (t, (0 : Nat))) = V.ptr (some (t, (0 : Nat))) ∧ V.ptr (some (t, (0 : Nat))) = V.ptr (some (t, (0 : Nat))) ∧ V.ptr (some (t, (0 : Nat))) = V.ptr (some (t, (0 : Nat)))
  ∧ V.ptr (some (t, (0 : Nat))) = V.ptr (some (t, (0 : Nat))) ∧ ∃ (p1 : Option (Nat × Nat)), ∃ (n14 : Nat), ∃ (f3 : Bool), ∃ (h'5 : Hp), xapp T h'4 (54 : Nat) (54 : Nat) (V.slc a1 n8 f1) (V.slc (some (h'3.next, (0 : Nat))) (1 : Nat) true) =
  some (V.slc p1 n14 f3, h'5) ∧ V.ptr (some (t, (0 : Nat))) = V.ptr (some (t, (0 : Nat))) ∧ ∃ (h'6 : Hp), h'5.st t (0 : Nat) [V.slc p1 n14 f3] = some h'6 ∧ K (V.int IntKind.i64 (0 : Int)) h'6
theorem y17 (h : Hp) (K : V → Hp → Prop) (t : Nat) (p_0 : Int) (p_1 : Int) (p_2 : Int) (p_3 : Int) (socket : Int) : X17 h K t p_0 p_1 p_2 p_3 socket = fnX Try.prog T F jl17 jj17 Try.f17 [V.ptr (some (t, (0 : Nat))), V.agg [V.int IntKind.u32
  p_0, V.int IntKind.u16 p_1, V.int IntKind.u32 p_2, V.int IntKind.u16 p_3], V.int IntKind.u64 socket] h K := by kernel_rfl
theorem x17 {h : Hp} {K : V → Hp → Prop} (t : Nat) (p_0 : Int) (p_1 : Int) (p_2 : Int) (p_3 : Int) (socket : Int) (hx : X17 h K t p_0 p_1 p_2 p_3 socket) : XCalls Try.prog 17 [V.ptr (some (t, (0 : Nat))), V.agg [V.int IntKind.u32 p_0, V.int
  IntKind.u16 p_1, V.int IntKind.u32 p_2, V.int IntKind.u16 p_3], V.int IntKind.u64 socket] h K :=
  XCalls.ofX tok fok mixed (JL := jl17) (JJ := jj17) Try.func17 ((y17 h K t p_0 p_1 p_2 p_3 socket) ▸ hx)
/-! 18: (*stevedore/stevedoreref23.Table).Rest -/
-- join 11: stays t(0), at(7), p(4); turns untl(2)
-- join 5: stays at(7), t(0), p(4), untl(2); turns 
def jl18 : Nat → Option JT := fun r => none
def jj18 : Nat → Option JT := fun r => bif Nat.beq r 11 then some ⟨[0, 7, 4], [2], [V.int IntKind.i64 (0 : Int)]⟩ else bif Nat.beq r 5 then some ⟨[7, 0, 4, 2], [], []⟩ else none
def X18 (h : Hp) (K : V → Hp → Prop) (t : Nat) (p_0 : Int) (p_1 : Int) (p_2 : Int) (p_3 : Int) (untl : Int) : Prop := ∀ (h'1 : Hp), h'1 = h.alloc (O.row [V.int IntKind.u32 p_0, V.int IntKind.u16 p_1, V.int IntKind.u32 p_2, V.int IntKind.u16
  p_3] (1 : Nat) false) → ∃ (n1 : Int), ∃ (n2 : Int), ∃ (n3 : Int), ∃ (n4 : Int), h'1.lda h.next (0 : Nat) (4 : Nat) = some (V.agg [V.int IntKind.u32 n1, V.int IntKind.u16 n2, V.int IntKind.u32 n3, V.int IntKind.u16 n4]) ∧ XCalls Try.prog
  (34 : Nat) [V.ptr (some (t, (0 : Nat))), V.agg [V.int IntKind.u32 n1, V.int IntKind.u16 n2, V.int IntKind.u32 n3, V.int IntKind.u16 n4]] h'1 fun (v1 : V) (h'2 : Hp) => ∃ (n5 : Int), v1 = V.int IntKind.i64 n5 ∧ XCalls Try.prog (23 : Nat)
  [V.ptr (some (t, (0 : Nat)))] h'2 fun (v2 : V) (h'3 : Hp) => ∃ (n6 : Int), ∃ (n7 : Int), v2 = V.tup [V.int IntKind.i64 n6, V.int IntKind.i64 n7] ∧ ∃ (Q1 : List V → Hp → Prop), (bif ltI n5 (0 : Int) then bif !ltI n7 (1024 : Int) then K
  (V.int IntKind.i64 (6 : Int)) h'3 else [V.int IntKind.i64 n5, V.ptr (some (t, (0 : Nat))), V.ptr (some (h.next, (0 : Nat))), V.int IntKind.i64 untl] = [V.int IntKind.i64 n5, V.ptr (some (t, (0 : Nat))), V.ptr (some (h.next, (0 : Nat))),
  V.int IntKind.i64 untl] ∧ Q1 [] h'3 else ∃ (a1 : Option (Nat × Nat)), ∃ (n8 : Nat), ∃ (f1 : Bool), h'3.ld t (0 : Nat) = some (V.slc a1 n8 f1) ∧ ((0 : Int) ≤ n5 ∧ n5 < (↑n8 : Int)) ∧ onS a1 fun (i1 o1 : Nat) => ∃ (n9 : Int), h'3.ld i1
  (o1 + n5.toNat * (6 : Nat) + (4 : Nat)) = some (V.int IntKind.u64 n9) ∧ bif n9 != (0 : Int) then bif !ltI n7 (1024 : Int) then K (V.int IntKind.i64 (6 : Int)) h'3 else [V.int IntKind.i64 n5, V.ptr (some (t, (0 : Nat))), V.ptr (some
  (h.next, (0 : Nat))), V.int IntKind.i64 untl] = [V.int IntKind.i64 n5, V.ptr (some (t, (0 : Nat))), V.ptr (some (h.next, (0 : Nat))), V.int IntKind.i64 untl] ∧ Q1 [] h'3 else [V.int IntKind.i64 n5, V.ptr (some (t, (0 : Nat))), V.ptr
  (some (h.next, (0 : Nat))), V.int IntKind.i64 untl] = [V.int IntKind.i64 n5, V.ptr (some (t, (0 : Nat))), V.ptr (some (h.next, (0 : Nat))), V.int IntKind.i64 untl] ∧ Q1 [] h'3) ∧ ∀ (bs1 : Nat → Option V) (h1 : Hp), Q1 [] h1 → bif ltI
  n5 (0 : Int) then ∃ (a2 : Option (Nat × Nat)), ∃ (n10 : Nat), ∃ (f2 : Bool), h1.ld t (0 : Nat) = some (V.slc a2 n10 f2) ∧ ∃ (n11 : Int), ∃ (n12 : Int), ∃ (n13 : Int), ∃ (n14 : Int), h1.lda h.next (0 : Nat) (4 : Nat) = some (V.agg [V.int
  IntKind.u32 n11, V.int IntKind.u16 n12, V.int IntKind.u32 n13, V.int IntKind.u16 n14]) ∧ ∀ (h'4 : Hp), h'4 = h1.alloc (O.row [V.int IntKind.u32 n11, V.int IntKind.u16 n12, V.int IntKind.u32 n13, V.int IntKind.u16 n14, V.int IntKind.u64 (0
  : Int), V.int IntKind.i64 untl] (6 : Nat) false) → (∃ (a3 : Option (Nat × Nat)), ∃ (n15 : Nat), ∃ (f3 : Bool), h'4.ld t (0 : Nat) = some (V.slc a3 n15 f3) ∧ V.slc a3 n15 f3 = V.slc a2 n10 f2) ∧ V.ptr (some (t, (0 : Nat))) = V.ptr (some
  (t, (0 : Nat))) ∧ V.ptr (some (t, (0 : Nat))) = V.ptr (some (t, (0 : Nat))) ∧ V.ptr (some (t, (0 : Nat))) = V.ptr (some (t, (0 : Nat))) ∧ V.ptr (some (t, (0 : Nat))) = V.ptr (some (t, (0 : Nat))) ∧ ∃ (p1 : Option (Nat × Nat)), ∃ (n16 :
  Nat), ∃ (f4 : Bool), ∃ (h'5 : Hp), xapp T h'4 (54 : Nat) (54 : Nat) (V.slc a2 n10 f2) (V.slc (some (h1.next, (0 : Nat))) (1 : Nat) true) = some (V.slc p1 n16 f4, h'5) ∧ V.ptr (some (t, (0 : Nat))) = V.ptr (some (t, (0 : Nat))) ∧ ∃ (h'6 :
  Hp), h'5.st t (0 : Nat) [V.slc p1 n16 f4] = some h'6 ∧ K (V.int IntKind.i64 (0 : Int)) h'6 else ∃ (a4 : Option (Nat × Nat)), ∃ (n17 : Nat), ∃ (f5 : Bool), h1.ld t (0 : Nat) = some (V.slc a4 n17 f5) ∧ ((0 : Int) ≤ n5 ∧ n5 < (↑n17 : Int)) ∧
  onS a4 fun (i2 o2 : Nat) => ∃ (n18 : Int), ∃ (n19 : Int), ∃ (n20 : Int), ∃ (n21 : Int), ∃ (n22 : Int), ∃ (n23 : Int), h1.lda i2 (o2 + n5.toNat * (6 : Nat)) (6 : Nat) = some (V.agg [V.int IntKind.u32 n18, V.int IntKind.u16 n19, V.int
  IntKind.u32 n20, V.int IntKind.u16 n21, V.int IntKind.u64 n22, V.int IntKind.i64 n23]) ∧ ∀ (h'7 : Hp), h'7 = h1.alloc (O.row [V.int IntKind.u32 (0 : Int), V.int IntKind.u16 (0 : Int), V.int IntKind.u32 (0 : Int), V.int IntKind.u16 (0 :
  Int), V.int IntKind.u64 (0 : Int), V.int IntKind.i64 (0 : Int)] (1 : Nat) false) → ∃ (h'8 : Hp), h'7.st h1.next (0 : Nat) [V.int IntKind.u32 n18, V.int IntKind.u16 n19, V.int IntKind.u32 n20, V.int IntKind.u16 n21, V.int IntKind.u64 n22,
  V.int IntKind.i64 n23] = some h'8 ∧ ∃ (Q2 : List V → Hp → Prop), (∃ (n24 : Int), h'8.ld h1.next (4 : Nat) = some (V.int IntKind.u64 n24) ∧ bif n24 == (0 : Int) then ∃ (n25 : Int), h'8.ld h1.next (5 : Nat) = some (V.int IntKind.i64 n25) ∧
  [V.ptr (some (t, (0 : Nat))), V.int IntKind.i64 n5, V.ptr (some (h.next, (0 : Nat)))] = [V.ptr (some (t, (0 : Nat))), V.int IntKind.i64 n5, V.ptr (some (h.next, (0 : Nat)))] ∧ Q2 [V.int IntKind.i64 (bif ltI untl n25 then n25 else
  untl)] h'8 else [V.ptr (some (t, (0 : Nat))), V.int IntKind.i64 n5, V.ptr (some (h.next, (0 : Nat)))] = [V.ptr (some (t, (0 : Nat))), V.int IntKind.i64 n5, V.ptr (some (h.next, (0 : Nat)))] ∧ Q2 [V.int IntKind.i64 untl] h'8) ∧ ∀ (bs2
  : Nat → Option V) (n26 : Int) (h2 : Hp), Q2 [V.int IntKind.i64 n26] h2 → ∃ (a5 : Option (Nat × Nat)), ∃ (n27 : Nat), ∃ (f6 : Bool), h2.ld t (0 : Nat) = some (V.slc a5 n27 f6) ∧ ∃ (n28 : Int), ∃ (n29 : Int), ∃ (n30 : Int), ∃ (n31 : Int),
  h2.lda h.next (0 : Nat) (4 : Nat) = some (V.agg [V.int IntKind.u32 n28, V.int IntKind.u16 n29, V.int IntKind.u32 n30, V.int IntKind.u16 n31]) ∧ ((0 : Int) ≤ n5 ∧ n5 < (↑n27 : Int)) ∧ onS a5 fun (i3 o3 : Nat) => ∃ (h'9 : Hp), h2.st i3 (o3 +
  n5.toNat * (6 : Nat)) [V.int IntKind.u32 n28, V.int IntKind.u16 n29, V.int IntKind.u32 n30, V.int IntKind.u16 n31, V.int IntKind.u64 (0 : Int), V.int IntKind.i64 n26] = some h'9 ∧ K (V.int IntKind.i64 (0 : Int)) h'9
theorem y18 (h : Hp) (K : V → Hp → Prop) (t : Nat) (p_0 : Int) (p_1 : Int) (p_2 : Int) (p_3 : Int) (untl : Int) : X18 h K t p_0 p_1 p_2 p_3 untl = fnX Try.prog T F jl18 jj18 Try.f18 [V.ptr (some (t, (0 : Nat))), V.agg [V.int IntKind.u32
  p_0, V.int IntKind.u16 p_1, V.int IntKind.u32 p_2, V.int IntKind.u16 p_3], V.int IntKind.i64 untl] h K := by kernel_rfl
theorem x18 {h : Hp} {K : V → Hp → Prop} (t : Nat) (p_0 : Int) (p_1 : Int) (p_2 : Int) (p_3 : Int) (untl : Int) (hx : X18 h K t p_0 p_1 p_2 p_3 untl) : XCalls Try.prog 18 [V.ptr (some (t, (0 : Nat))), V.agg [V.int IntKind.u32 p_0, V.int
  IntKind.u16 p_1, V.int IntKind.u32 p_2, V.int IntKind.u16 p_3], V.int IntKind.i64 untl] h K :=
  XCalls.ofX tok fok mixed (JL := jl18) (JJ := jj18) Try.func18 ((y18 h K t p_0 p_1 p_2 p_3 untl) ▸ hx)
/-! 19: (*stevedore/stevedoreref23.Table).Listen -/
-- loop 6: stays t(0), socket(1), at(5); turns k(7)
-- join 8: stays t(0), socket(1), at(5); turns k(7)
def jl19 : Nat → Option JT := fun r => bif Nat.beq r 6 then some ⟨[0, 1, 5], [7], [V.int IntKind.i64 (0 : Int)]⟩ else none
def jj19 : Nat → Option JT := fun r => bif Nat.beq r 8 then some ⟨[0, 1, 5], [7], [V.int IntKind.i64 (0 : Int)]⟩ else none
def X19 (h : Hp) (K : V → Hp → Prop) (t : Nat) (socket : Int) (a2_0 : Int) (a2_1 : Int) : Prop := ∀ (h'1 : Hp), h'1 = h.alloc (O.row [V.int IntKind.u32 a2_0, V.int IntKind.u16 a2_1] (1 : Nat) false) → bif socket == (0 : Int) then K (V.int
  IntKind.i64 (2 : Int)) h'1 else XCalls Try.prog (35 : Nat) [V.ptr (some (t, (0 : Nat))), V.int IntKind.u64 socket] h'1 fun (v1 : V) (h'2 : Hp) => ∃ (n1 : Int), v1 = V.int IntKind.i64 n1 ∧ bif !ltI n1 (0 : Int) then K (V.int IntKind.i64 (7
  : Int)) h'2 else ∃ (Q1 : List V → Hp → Prop), (∃ (I1 : List V → Hp → Prop), ∃ (x1 : List V → Hp → Nat), ([V.ptr (some (t, (0 : Nat))), V.int IntKind.u64 socket, V.ptr (some (h.next, (0 : Nat)))] = [V.ptr (some (t, (0 : Nat))), V.int
  IntKind.u64 socket, V.ptr (some (h.next, (0 : Nat)))] ∧ I1 [V.int IntKind.i64 (0 : Int)] h'2) ∧ ∀ (bs1 : Nat → Option V) (n2 : Int) (h1 : Hp), I1 [V.int IntKind.i64 n2] h1 → ∃ (a1 : Option (Nat × Nat)), ∃ (n3 : Nat), ∃ (f1 : Bool), h1.ld t
  (1 : Nat) = some (V.slc a1 n3 f1) ∧ bif ltI n2 (↑n3 : Int) then ∃ (a2 : Option (Nat × Nat)), ∃ (n4 : Nat), ∃ (f2 : Bool), h1.ld t (1 : Nat) = some (V.slc a2 n4 f2) ∧ ((0 : Int) ≤ n2 ∧ n2 < (↑n4 : Int)) ∧ onS a2 fun (i1 o1 : Nat) => ∃ (n5 :
  Int), h1.ld i1 (o1 + n2.toNat * (3 : Nat) + (0 : Nat)) = some (V.int IntKind.u64 n5) ∧ bif ltI n5 socket then [V.ptr (some (t, (0 : Nat))), V.int IntKind.u64 socket, V.ptr (some (h.next, (0 : Nat)))] = [V.ptr (some (t, (0 : Nat))), V.int
  IntKind.u64 socket, V.ptr (some (h.next, (0 : Nat)))] ∧ I1 [V.int IntKind.i64 (IntKind.i64.wrap (n2 + (1 : Int)))] h1 ∧ x1 [V.int IntKind.i64 (IntKind.i64.wrap (n2 + (1 : Int)))] h1 < x1 [V.int IntKind.i64 n2] h1 else [V.ptr (some (t, (0 :
  Nat))), V.int IntKind.u64 socket, V.ptr (some (h.next, (0 : Nat)))] = [V.ptr (some (t, (0 : Nat))), V.int IntKind.u64 socket, V.ptr (some (h.next, (0 : Nat)))] ∧ Q1 [V.int IntKind.i64 n2] h1 else [V.ptr (some (t, (0 : Nat))), V.int
  IntKind.u64 socket, V.ptr (some (h.next, (0 : Nat)))] = [V.ptr (some (t, (0 : Nat))), V.int IntKind.u64 socket, V.ptr (some (h.next, (0 : Nat)))] ∧ Q1 [V.int IntKind.i64 n2] h1) ∧ ∀ (bs2 : Nat → Option V) (n6 : Int) (h2 : Hp), Q1 [V.int
  IntKind.i64 n6] h2 → ∃ (a3 : Option (Nat × Nat)), ∃ (n7 : Nat), ∃ (f3 : Bool), h2.ld t (1 : Nat) = some (V.slc a3 n7 f3) ∧ ∃ (a4 : Option (Nat × Nat)), ∃ (n8 : Nat), ∃ (f4 : Bool), xslice T h2 (55 : Nat) (V.slc a3 n7 f3) none (some (V.int
  IntKind.i64 n6)) none = some (V.slc a4 n8 f4) ∧ ∃ (p1 : Option (Nat × Nat)), ∃ (n9 : Nat), ∃ (f5 : Bool), ∃ (h'3 : Hp), xapp T h2 (55 : Nat) (55 : Nat) (V.slc none (0 : Nat) true) (V.slc a4 n8 f4) = some (V.slc p1 n9 f5, h'3) ∧ ∃ (n10 :
  Int), ∃ (n11 : Int), h'3.lda h.next (0 : Nat) (2 : Nat) = some (V.agg [V.int IntKind.u32 n10, V.int IntKind.u16 n11]) ∧ ∀ (h'4 : Hp), h'4 = h'3.alloc (O.row [V.int IntKind.u64 socket, V.int IntKind.u32 n10, V.int IntKind.u16 n11] (3 : Nat)
  false) → ∃ (p2 : Option (Nat × Nat)), ∃ (n12 : Nat), ∃ (f6 : Bool), ∃ (h'5 : Hp), xapp T h'4 (55 : Nat) (55 : Nat) (V.slc p1 n9 f5) (V.slc (some (h'3.next, (0 : Nat))) (1 : Nat) true) = some (V.slc p2 n12 f6, h'5) ∧ ∃ (a5 : Option (Nat ×
  Nat)), ∃ (n13 : Nat), ∃ (f7 : Bool), h'5.ld t (1 : Nat) = some (V.slc a5 n13 f7) ∧ ∃ (a6 : Option (Nat × Nat)), ∃ (n14 : Nat), ∃ (f8 : Bool), xslice T h'5 (55 : Nat) (V.slc a5 n13 f7) (some (V.int IntKind.i64 n6)) none none = some (V.slc
  a6 n14 f8) ∧ ∃ (p3 : Option (Nat × Nat)), ∃ (n15 : Nat), ∃ (f9 : Bool), ∃ (h'6 : Hp), xapp T h'5 (55 : Nat) (55 : Nat) (V.slc p2 n12 f6) (V.slc a6 n14 f8) = some (V.slc p3 n15 f9, h'6) ∧ ∃ (h'7 : Hp), h'6.st t (1 : Nat) [V.slc p3 n15 f9] =
  some h'7 ∧ K (V.int IntKind.i64 (0 : Int)) h'7
theorem y19 (h : Hp) (K : V → Hp → Prop) (t : Nat) (socket : Int) (a2_0 : Int) (a2_1 : Int) : X19 h K t socket a2_0 a2_1 = fnX Try.prog T F jl19 jj19 Try.f19 [V.ptr (some (t, (0 : Nat))), V.int IntKind.u64 socket, V.agg [V.int IntKind.u32 a2_0, V.int IntKind.u16 a2_1]] h K := by kernel_rfl
theorem x19 {h : Hp} {K : V → Hp → Prop} (t : Nat) (socket : Int) (a2_0 : Int) (a2_1 : Int) (hx : X19 h K t socket a2_0 a2_1) : XCalls Try.prog 19 [V.ptr (some (t, (0 : Nat))), V.int IntKind.u64 socket, V.agg [V.int IntKind.u32 a2_0, V.int IntKind.u16 a2_1]] h K :=
  XCalls.ofX tok fok mixed (JL := jl19) (JJ := jj19) Try.func19 ((y19 h K t socket a2_0 a2_1) ▸ hx)
/-! 20: (*stevedore/stevedoreref23.Table).Deaf -/
def jl20 : Nat → Option JT := fun r => none
def jj20 : Nat → Option JT := fun r => none
def X20 (h : Hp) (K : V → Hp → Prop) (t : Nat) (socket : Int) : Prop := XCalls Try.prog (35 : Nat) [V.ptr (some (t, (0 : Nat))), V.int IntKind.u64 socket] h fun (v1 : V) (h'1 : Hp) => ∃ (n1 : Int), v1 = V.int IntKind.i64 n1 ∧ bif ltI n1 (0 :
  Int) then K (V.int IntKind.i64 (0 : Int)) h'1 else ∃ (a1 : Option (Nat × Nat)), ∃ (n2 : Nat), ∃ (f1 : Bool), h'1.ld t (1 : Nat) = some (V.slc a1 n2 f1) ∧ ∃ (a2 : Option (Nat × Nat)), ∃ (n3 : Nat), ∃ (f2 : Bool), xslice T h'1 (55 : Nat)
  (V.slc a1 n2 f1) none (some (V.int IntKind.i64 n1)) none = some (V.slc a2 n3 f2) ∧ ∃ (p1 : Option (Nat × Nat)), ∃ (n4 : Nat), ∃ (f3 : Bool), ∃ (h'2 : Hp), xapp T h'1 (55 : Nat) (55 : Nat) (V.slc none (0 : Nat) true) (V.slc a2 n3 f2) = some
  (V.slc p1 n4 f3, h'2) ∧ ∃ (a3 : Option (Nat × Nat)), ∃ (n5 : Nat), ∃ (f4 : Bool), h'2.ld t (1 : Nat) = some (V.slc a3 n5 f4) ∧ ∃ (a4 : Option (Nat × Nat)), ∃ (n6 : Nat), ∃ (f5 : Bool), xslice T h'2 (55 : Nat) (V.slc a3 n5 f4) (some (V.int
  IntKind.i64 (IntKind.i64.wrap (n1 + (1 : Int))))) none none = some (V.slc a4 n6 f5) ∧ ∃ (p2 : Option (Nat × Nat)), ∃ (n7 : Nat), ∃ (f6 : Bool), ∃ (h'3 : Hp), xapp T h'2 (55 : Nat) (55 : Nat) (V.slc p1 n4 f3) (V.slc a4 n6 f5) = some (V.slc
  p2 n7 f6, h'3) ∧ ∃ (h'4 : Hp), h'3.st t (1 : Nat) [V.slc p2 n7 f6] = some h'4 ∧ K (V.int IntKind.i64 (1 : Int)) h'4
theorem y20 (h : Hp) (K : V → Hp → Prop) (t : Nat) (socket : Int) : X20 h K t socket = fnX Try.prog T F jl20 jj20 Try.f20 [V.ptr (some (t, (0 : Nat))), V.int IntKind.u64 socket] h K := by kernel_rfl
theorem x20 {h : Hp} {K : V → Hp → Prop} (t : Nat) (socket : Int) (hx : X20 h K t socket) : XCalls Try.prog 20 [V.ptr (some (t, (0 : Nat))), V.int IntKind.u64 socket] h K :=
  XCalls.ofX tok fok mixed (JL := jl20) (JJ := jj20) Try.func20 ((y20 h K t socket) ▸ hx)
/-! 21: (*stevedore/stevedoreref23.Table).Old -/
-- loop 3: stays t(0), now(1); turns l(5), i(6)
def jl21 : Nat → Option JT := fun r => bif Nat.beq r 3 then some ⟨[0, 1], [5, 6], [V.slc none (0 : Nat) true, V.int IntKind.i64 (0 : Int)]⟩ else none
def jj21 : Nat → Option JT := fun r => none
def X21 (h : Hp) (K : V → Hp → Prop) (t : Nat) (now : Int) : Prop := ∃ (I1 : List V → Hp → Prop), ∃ (x1 : List V → Hp → Nat), ([V.ptr (some (t, (0 : Nat))), V.int IntKind.i64 now] = [V.ptr (some (t, (0 : Nat))), V.int IntKind.i64 now] ∧ I1
  [V.slc none (0 : Nat) true, V.int IntKind.i64 (0 : Int)] h) ∧ ∀ (bs1 : Nat → Option V) (a1 : Option (Nat × Nat)) (n1 : Nat) (f1 : Bool) (n2 : Int) (h1 : Hp), I1 [V.slc a1 n1 f1, V.int IntKind.i64 n2] h1 → ∃ (a2 : Option (Nat × Nat)), ∃ (n3
  : Nat), ∃ (f2 : Bool), h1.ld t (0 : Nat) = some (V.slc a2 n3 f2) ∧ bif ltI n2 (↑n3 : Int) then ∃ (a3 : Option (Nat × Nat)), ∃ (n4 : Nat), ∃ (f3 : Bool), h1.ld t (0 : Nat) = some (V.slc a3 n4 f3) ∧ ((0 : Int) ≤ n2 ∧ n2 < (↑n4 : Int)) ∧ onS
  a3 fun (i1 o1 : Nat) => ∃ (n5 : Int), h1.ld i1 (o1 + n2.toNat * (6 : Nat) + (4 : Nat)) = some (V.int IntKind.u64 n5) ∧ bif n5 != (0 : Int) then ∃ (a4 : Option (Nat × Nat)), ∃ (n6 : Nat), ∃ (f4 : Bool), h1.ld t (0 : Nat) = some (V.slc a4 n6
  f4) ∧ ((0 : Int) ≤ n2 ∧ n2 < (↑n6 : Int)) ∧ onS a4 fun (i2 o2 : Nat) => ∃ (n7 : Int), ∃ (n8 : Int), ∃ (n9 : Int), ∃ (n10 : Int), ∃ (n11 : Int), ∃ (n12 : Int), h1.lda i2 (o2 + n2.toNat * (6 : Nat)) (6 : Nat) = some (V.agg [V.int IntKind.u32
  n7, V.int IntKind.u16 n8, V.int IntKind.u32 n9, V.int IntKind.u16 n10, V.int IntKind.u64 n11, V.int IntKind.i64 n12]) ∧ ∀ (h'1 : Hp), h'1 = h1.alloc (O.row [V.int IntKind.u32 n7, V.int IntKind.u16 n8, V.int IntKind.u32 n9, V.int
  IntKind.u16 n10, V.int IntKind.u64 n11, V.int IntKind.i64 n12] (6 : Nat) false) → ∃ (p1 : Option (Nat × Nat)), ∃ (n13 : Nat), ∃ (f5 : Bool), ∃ (h'2 : Hp), xapp T h'1 (54 : Nat) (54 : Nat) (V.slc a1 n1 f1) (V.slc (some (h1.next, (0 : Nat)))
  (1 : Nat) true) = some (V.slc p1 n13 f5, h'2) ∧ [V.ptr (some (t, (0 : Nat))), V.int IntKind.i64 now] = [V.ptr (some (t, (0 : Nat))), V.int IntKind.i64 now] ∧ I1 [V.slc p1 n13 f5, V.int IntKind.i64 (IntKind.i64.wrap (n2 + (1 : Int)))] h'2 ∧
  x1 [V.slc p1 n13 f5, V.int IntKind.i64 (IntKind.i64.wrap (n2 + (1 : Int)))] h'2 < x1 [V.slc a1 n1 f1, V.int IntKind.i64 n2] h1 else ∃ (a5 : Option (Nat × Nat)), ∃ (n14 : Nat), ∃ (f6 : Bool), h1.ld t (0 : Nat) = some (V.slc a5 n14 f6) ∧ ((0
  : Int) ≤ n2 ∧ n2 < (↑n14 : Int)) ∧ onS a5 fun (i3 o3 : Nat) => ∃ (n15 : Int), h1.ld i3 (o3 + n2.toNat * (6 : Nat) + (5 : Nat)) = some (V.int IntKind.i64 n15) ∧ bif ltI now n15 then ∃ (a6 : Option (Nat × Nat)), ∃ (n16 : Nat), ∃ (f7 : Bool),
  h1.ld t (0 : Nat) = some (V.slc a6 n16 f7) ∧ ((0 : Int) ≤ n2 ∧ n2 < (↑n16 : Int)) ∧ onS a6 fun (i4 o4 : Nat) => ∃ (n17 : Int), ∃ (n18 : Int), ∃ (n19 : Int), ∃ (n20 : Int), ∃ (n21 : Int), ∃ (n22 : Int), h1.lda i4 (o4 + n2.toNat * (6 : Nat))
  (6 : Nat) = some (V.agg [V.int IntKind.u32 n17, V.int IntKind.u16 n18, V.int IntKind.u32 n19, V.int IntKind.u16 n20, V.int IntKind.u64 n21, V.int IntKind.i64 n22]) ∧ ∀ (h'3 : Hp), h'3 = h1.alloc (O.row [V.int IntKind.u32 n17, V.int
  IntKind.u16 n18, V.int IntKind.u32 n19, V.int IntKind.u16 n20, V.int IntKind.u64 n21, V.int IntKind.i64 n22] (6 : Nat) false) → ∃ (p2 : Option (Nat × Nat)), ∃ (n23 : Nat), ∃ (f8 : Bool), ∃ (h'4 : Hp), xapp T h'3 (54 : Nat) (54 : Nat)
  (V.slc a1 n1 f1) (V.slc (some (h1.next, (0 : Nat))) (1 : Nat) true) = some (V.slc p2 n23 f8, h'4) ∧ [V.ptr (some (t, (0 : Nat))), V.int IntKind.i64 now] = [V.ptr (some (t, (0 : Nat))), V.int IntKind.i64 now] ∧ I1 [V.slc p2 n23 f8, V.int
  IntKind.i64 (IntKind.i64.wrap (n2 + (1 : Int)))] h'4 ∧ x1 [V.slc p2 n23 f8, V.int IntKind.i64 (IntKind.i64.wrap (n2 + (1 : Int)))] h'4 < x1 [V.slc a1 n1 f1, V.int IntKind.i64 n2] h1 else [V.ptr (some (t, (0 : Nat))), V.int IntKind.i64 now]
  = [V.ptr (some (t, (0 : Nat))), V.int IntKind.i64 now] ∧ I1 [V.slc a1 n1 f1, V.int IntKind.i64 (IntKind.i64.wrap (n2 + (1 : Int)))] h1 ∧ x1 [V.slc a1 n1 f1, V.int IntKind.i64 (IntKind.i64.wrap (n2 + (1 : Int)))] h1 < x1 [V.slc a1 n1 f1,
  V.int IntKind.i64 n2] h1 else ∃ (a7 : Option (Nat × Nat)), ∃ (n24 : Nat), ∃ (f9 : Bool), h1.ld t (0 : Nat) = some (V.slc a7 n24 f9) ∧ ∃ (h'5 : Hp), h1.st t (0 : Nat) [V.slc a1 n1 f1] = some h'5 ∧ K (V.int IntKind.i64 (IntKind.i64.wrap
  ((↑n24 : Int) - (↑n1 : Int)))) h'5
theorem y21 (h : Hp) (K : V → Hp → Prop) (t : Nat) (now : Int) : X21 h K t now = fnX Try.prog T F jl21 jj21 Try.f21 [V.ptr (some (t, (0 : Nat))), V.int IntKind.i64 now] h K := by kernel_rfl
theorem x21 {h : Hp} {K : V → Hp → Prop} (t : Nat) (now : Int) (hx : X21 h K t now) : XCalls Try.prog 21 [V.ptr (some (t, (0 : Nat))), V.int IntKind.i64 now] h K :=
  XCalls.ofX tok fok mixed (JL := jl21) (JJ := jj21) Try.func21 ((y21 h K t now) ▸ hx)
/-! 22: (*stevedore/stevedoreref23.Table).Find -/
-- loop 14: stays t(0), hash(2), p(5), k(11), want(12); turns l(13), i(14)
-- loop 7: stays t(0), hash(2), p(5); turns k(11)
-- join 12: stays t(0), want(12), hash(2), k(11), p(5); turns 
-- join 6: stays p(5), t(0), hash(2); turns 
-- join 4: stays at(10), now(3), t(0), p(5), hash(2); turns 
def jl22 : Nat → Option JT := fun r => bif Nat.beq r 14 then some ⟨[0, 2, 5, 11, 12], [13, 14], [V.slc none (0 : Nat) true, V.int IntKind.i64 (0 : Int)]⟩ else bif Nat.beq r 7 then some ⟨[0, 2, 5], [11], [V.int IntKind.i64 (0 : Int)]⟩ else none
def jj22 : Nat → Option JT := fun r => bif Nat.beq r 12 then some ⟨[0, 12, 2, 11, 5], [], []⟩ else bif Nat.beq r 6 then some ⟨[5, 0, 2], [], []⟩ else bif Nat.beq r 4 then some ⟨[10, 3, 0, 5, 2], [], []⟩ else none
def X22 (h : Hp) (K : V → Hp → Prop) (t : Nat) (p_0 : Int) (p_1 : Int) (p_2 : Int) (p_3 : Int) (hash : Int) (now : Int) : Prop := ∀ (h'1 : Hp), h'1 = h.alloc (O.row [V.int IntKind.u32 p_0, V.int IntKind.u16 p_1, V.int IntKind.u32 p_2, V.int
  IntKind.u16 p_3] (1 : Nat) false) → ∃ (n1 : Int), ∃ (n2 : Int), ∃ (n3 : Int), ∃ (n4 : Int), h'1.lda h.next (0 : Nat) (4 : Nat) = some (V.agg [V.int IntKind.u32 n1, V.int IntKind.u16 n2, V.int IntKind.u32 n3, V.int IntKind.u16 n4]) ∧ XCalls
  Try.prog (34 : Nat) [V.ptr (some (t, (0 : Nat))), V.agg [V.int IntKind.u32 n1, V.int IntKind.u16 n2, V.int IntKind.u32 n3, V.int IntKind.u16 n4]] h'1 fun (v1 : V) (h'2 : Hp) => ∃ (n5 : Int), v1 = V.int IntKind.i64 n5 ∧ ∃ (Q1 : List V → Hp
  → Prop), (bif !ltI n5 (0 : Int) then ∃ (a1 : Option (Nat × Nat)), ∃ (n6 : Nat), ∃ (f1 : Bool), h'2.ld t (0 : Nat) = some (V.slc a1 n6 f1) ∧ ((0 : Int) ≤ n5 ∧ n5 < (↑n6 : Int)) ∧ onS a1 fun (i1 o1 : Nat) => ∃ (n7 : Int), h'2.ld i1 (o1 +
  n5.toNat * (6 : Nat) + (4 : Nat)) = some (V.int IntKind.u64 n7) ∧ bif n7 != (0 : Int) then ∃ (a2 : Option (Nat × Nat)), ∃ (n8 : Nat), ∃ (f2 : Bool), h'2.ld t (0 : Nat) = some (V.slc a2 n8 f2) ∧ ((0 : Int) ≤ n5 ∧ n5 < (↑n8 : Int)) ∧ onS a2
  fun (i2 o2 : Nat) => ∃ (n9 : Int), h'2.ld i2 (o2 + n5.toNat * (6 : Nat) + (4 : Nat)) = some (V.int IntKind.u64 n9) ∧ K (V.tup [V.int IntKind.u8 (1 : Int), V.int IntKind.u64 n9]) h'2 else [V.int IntKind.i64 n5, V.int IntKind.i64 now, V.ptr
  (some (t, (0 : Nat))), V.ptr (some (h.next, (0 : Nat))), V.int IntKind.u32 hash] = [V.int IntKind.i64 n5, V.int IntKind.i64 now, V.ptr (some (t, (0 : Nat))), V.ptr (some (h.next, (0 : Nat))), V.int IntKind.u32 hash] ∧ Q1 [] h'2 else [V.int
  IntKind.i64 n5, V.int IntKind.i64 now, V.ptr (some (t, (0 : Nat))), V.ptr (some (h.next, (0 : Nat))), V.int IntKind.u32 hash] = [V.int IntKind.i64 n5, V.int IntKind.i64 now, V.ptr (some (t, (0 : Nat))), V.ptr (some (h.next, (0 : Nat))),
  V.int IntKind.u32 hash] ∧ Q1 [] h'2) ∧ ∀ (bs1 : Nat → Option V) (h1 : Hp), Q1 [] h1 → ∃ (Q2 : List V → Hp → Prop), (bif !ltI n5 (0 : Int) then ∃ (a3 : Option (Nat × Nat)), ∃ (n10 : Nat), ∃ (f3 : Bool), h1.ld t (0 : Nat) = some (V.slc a3
  n10 f3) ∧ ((0 : Int) ≤ n5 ∧ n5 < (↑n10 : Int)) ∧ onS a3 fun (i3 o3 : Nat) => ∃ (n11 : Int), h1.ld i3 (o3 + n5.toNat * (6 : Nat) + (5 : Nat)) = some (V.int IntKind.i64 n11) ∧ bif ltI now n11 then K (V.tup [V.int IntKind.u8 (3 : Int), V.int
  IntKind.u64 (0 : Int)]) h1 else [V.ptr (some (h.next, (0 : Nat))), V.ptr (some (t, (0 : Nat))), V.int IntKind.u32 hash] = [V.ptr (some (h.next, (0 : Nat))), V.ptr (some (t, (0 : Nat))), V.int IntKind.u32 hash] ∧ Q2 [] h1 else [V.ptr (some
  (h.next, (0 : Nat))), V.ptr (some (t, (0 : Nat))), V.int IntKind.u32 hash] = [V.ptr (some (h.next, (0 : Nat))), V.ptr (some (t, (0 : Nat))), V.int IntKind.u32 hash] ∧ Q2 [] h1) ∧ ∀ (bs2 : Nat → Option V) (h2 : Hp), Q2 [] h2 → ∃ (I1 : List
  V → Hp → Prop), ∃ (x1 : List V → Hp → Nat), ([V.ptr (some (t, (0 : Nat))), V.int IntKind.u32 hash, V.ptr (some (h.next, (0 : Nat)))] = [V.ptr (some (t, (0 : Nat))), V.int IntKind.u32 hash, V.ptr (some (h.next, (0 : Nat)))] ∧ I1 [V.int
  IntKind.i64 (0 : Int)] h2) ∧ ∀ (bs3 : Nat → Option V) (n12 : Int) (h3 : Hp), I1 [V.int IntKind.i64 n12] h3 → bif ltI n12 (2 : Int) then ∃ (n13 : Int), ∃ (n14 : Int), h3.lda h.next (0 : Nat) (2 : Nat) = some (V.agg [V.int IntKind.u32 n13,
  V.int IntKind.u16 n14]) ∧ ∀ (h'3 : Hp), h'3 = h3.alloc (O.row [V.int IntKind.u32 (0 : Int), V.int IntKind.u16 (0 : Int)] (1 : Nat) false) → ∃ (h'4 : Hp), h'3.st h3.next (0 : Nat) [V.int IntKind.u32 n13, V.int IntKind.u16 n14] = some h'4 ∧
  ∃ (Q3 : List V → Hp → Prop), (bif n12 == (1 : Int) then ∃ (h'5 : Hp), h'4.st h3.next (0 : Nat) [V.int IntKind.u32 (0 : Int)] = some h'5 ∧ [V.ptr (some (t, (0 : Nat))), V.ptr (some (h3.next, (0 : Nat))), V.int IntKind.u32 hash, V.int
  IntKind.i64 n12, V.ptr (some (h.next, (0 : Nat)))] = [V.ptr (some (t, (0 : Nat))), V.ptr (some (h3.next, (0 : Nat))), V.int IntKind.u32 hash, V.int IntKind.i64 n12, V.ptr (some (h.next, (0 : Nat)))] ∧ Q3 [] h'5 else [V.ptr (some (t, (0 :
  Nat))), V.ptr (some (h3.next, (0 : Nat))), V.int IntKind.u32 hash, V.int IntKind.i64 n12, V.ptr (some (h.next, (0 : Nat)))] = [V.ptr (some (t, (0 : Nat))), V.ptr (some (h3.next, (0 : Nat))), V.int IntKind.u32 hash, V.int IntKind.i64 n12,
  V.ptr (some (h.next, (0 : Nat)))] ∧ Q3 [] h'4) ∧ ∀ (bs4 : Nat → Option V) (h4 : Hp), Q3 [] h4 → ∃ (I2 : List V → Hp → Prop), ∃ (x2 : List V → Hp → Nat), ([V.ptr (some (t, (0 : Nat))), V.int IntKind.u32 hash, V.ptr (some (h.next, (0 :
  Nat))), V.int IntKind.i64 n12, V.ptr (some (h3.next, (0 : Nat)))] = [V.ptr (some (t, (0 : Nat))), V.int IntKind.u32 hash, V.ptr (some (h.next, (0 : Nat))), V.int IntKind.i64 n12, V.ptr (some (h3.next, (0 : Nat)))] ∧ I2 [V.slc none (0 :
  Nat) true, V.int IntKind.i64 (0 : Int)] h4) ∧ ∀ (bs5 : Nat → Option V) (a4 : Option (Nat × Nat)) (n15 : Nat) (f4 : Bool) (n16 : Int) (h5 : Hp), I2 [V.slc a4 n15 f4, V.int IntKind.i64 n16] h5 → ∃ (a5 : Option (Nat × Nat)), ∃ (n17 : Nat), ∃
  (f5 : Bool), h5.ld t (1 : Nat) = some (V.slc a5 n17 f5) ∧ bif ltI n16 (↑n17 : Int) then ∃ (a6 : Option (Nat × Nat)), ∃ (n18 : Nat), ∃ (f6 : Bool), h5.ld t (1 : Nat) = some (V.slc a6 n18 f6) ∧ ((0 : Int) ≤ n16 ∧ n16 < (↑n18 : Int)) ∧ onS a6
  fun (i4 o4 : Nat) => ∃ (n19 : Int), ∃ (n20 : Int), h5.lda i4 (o4 + n16.toNat * (3 : Nat) + (1 : Nat)) (2 : Nat) = some (V.agg [V.int IntKind.u32 n19, V.int IntKind.u16 n20]) ∧ ∃ (n21 : Int), ∃ (n22 : Int), h5.lda h3.next (0 : Nat) (2 :
  Nat) = some (V.agg [V.int IntKind.u32 n21, V.int IntKind.u16 n22]) ∧ bif n19 == n21 && (n20 == n22 && true) then ∃ (a7 : Option (Nat × Nat)), ∃ (n23 : Nat), ∃ (f7 : Bool), h5.ld t (1 : Nat) = some (V.slc a7 n23 f7) ∧ ((0 : Int) ≤ n16 ∧ n16
  < (↑n23 : Int)) ∧ onS a7 fun (i5 o5 : Nat) => ∃ (n24 : Int), h5.ld i5 (o5 + n16.toNat * (3 : Nat) + (0 : Nat)) = some (V.int IntKind.u64 n24) ∧ ∀ (h'6 : Hp), h'6 = h5.alloc (O.row [V.int IntKind.u64 n24] (1 : Nat) false) → ∃ (p1 : Option
  (Nat × Nat)), ∃ (n25 : Nat), ∃ (f8 : Bool), ∃ (h'7 : Hp), xapp T h'6 (75 : Nat) (75 : Nat) (V.slc a4 n15 f4) (V.slc (some (h5.next, (0 : Nat))) (1 : Nat) true) = some (V.slc p1 n25 f8, h'7) ∧ [V.ptr (some (t, (0 : Nat))), V.int IntKind.u32
  hash, V.ptr (some (h.next, (0 : Nat))), V.int IntKind.i64 n12, V.ptr (some (h3.next, (0 : Nat)))] = [V.ptr (some (t, (0 : Nat))), V.int IntKind.u32 hash, V.ptr (some (h.next, (0 : Nat))), V.int IntKind.i64 n12, V.ptr (some (h3.next, (0 :
  Nat)))] ∧ I2 [V.slc p1 n25 f8, V.int IntKind.i64 (IntKind.i64.wrap (n16 + (1 : Int)))] h'7 ∧ x2 [V.slc p1 n25 f8, V.int IntKind.i64 (IntKind.i64.wrap (n16 + (1 : Int)))] h'7 < x2 [V.slc a4 n15 f4, V.int IntKind.i64 n16] h5 else [V.ptr
  (some (t, (0 : Nat))), V.int IntKind.u32 hash, V.ptr (some (h.next, (0 : Nat))), V.int IntKind.i64 n12, V.ptr (some (h3.next, (0 : Nat)))] = [V.ptr (some (t, (0 : Nat))), V.int IntKind.u32 hash, V.ptr (some (h.next, (0 : Nat))), V.int
  IntKind.i64 n12, V.ptr (some (h3.next, (0 : Nat)))] ∧ I2 [V.slc a4 n15 f4, V.int IntKind.i64 (IntKind.i64.wrap (n16 + (1 : Int)))] h5 ∧ x2 [V.slc a4 n15 f4, V.int IntKind.i64 (IntKind.i64.wrap (n16 + (1 : Int)))] h5 < x2 [V.slc a4 n15 f4,
  V.int IntKind.i64 n16] h5 else bif ltI (0 : Int) (↑n15 : Int) then ¬(32 : Int) < (0 : Int) ∧ ((0 : Int) ≤ (IntKind.u64.wrap (IntKind.u64.wrap hash * IntKind.u64.wrap (↑n15 : Int))).fdiv ((2 : Int) ^ min (Int.toNat (32 : Int))
  IntKind.u64.bits) ∧ (IntKind.u64.wrap (IntKind.u64.wrap hash * IntKind.u64.wrap (↑n15 : Int))).fdiv ((2 : Int) ^ min (Int.toNat (32 : Int)) IntKind.u64.bits) < (↑n15 : Int)) ∧ onS a4 fun (i6 o6 : Nat) => ∃ (n26 : Int), h5.ld i6 (o6 +
  ((IntKind.u64.wrap (IntKind.u64.wrap hash * IntKind.u64.wrap (↑n15 : Int))).fdiv ((2 : Int) ^ min (Int.toNat (32 : Int)) IntKind.u64.bits)).toNat * (1 : Nat)) = some (V.int IntKind.u64 n26) ∧ K (V.tup [V.int IntKind.u8 (2 : Int), V.int
  IntKind.u64 n26]) h5 else [V.ptr (some (t, (0 : Nat))), V.int IntKind.u32 hash, V.ptr (some (h.next, (0 : Nat)))] = [V.ptr (some (t, (0 : Nat))), V.int IntKind.u32 hash, V.ptr (some (h.next, (0 : Nat)))] ∧ I1 [V.int IntKind.i64
  (IntKind.i64.wrap (n12 + (1 : Int)))] h5 ∧ x1 [V.int IntKind.i64 (IntKind.i64.wrap (n12 + (1 : Int)))] h5 < x1 [V.int IntKind.i64 n12] h3 else K (V.tup [V.int IntKind.u8 (0 : Int), V.int IntKind.u64 (0 : Int)]) h3
theorem y22 (h : Hp) (K : V → Hp → Prop) (t : Nat) (p_0 : Int) (p_1 : Int) (p_2 : Int) (p_3 : Int) (hash : Int) (now : Int) : X22 h K t p_0 p_1 p_2 p_3 hash now = fnX Try.prog T F jl22 jj22 Try.f22 [V.ptr (some (t, (0 : Nat))), V.agg [V.int
  IntKind.u32 p_0, V.int IntKind.u16 p_1, V.int IntKind.u32 p_2, V.int IntKind.u16 p_3], V.int IntKind.u32 hash, V.int IntKind.i64 now] h K := by kernel_rfl
theorem x22 {h : Hp} {K : V → Hp → Prop} (t : Nat) (p_0 : Int) (p_1 : Int) (p_2 : Int) (p_3 : Int) (hash : Int) (now : Int) (hx : X22 h K t p_0 p_1 p_2 p_3 hash now) : XCalls Try.prog 22 [V.ptr (some (t, (0 : Nat))), V.agg [V.int IntKind.u32
  p_0, V.int IntKind.u16 p_1, V.int IntKind.u32 p_2, V.int IntKind.u16 p_3], V.int IntKind.u32 hash, V.int IntKind.i64 now] h K :=
  XCalls.ofX tok fok mixed (JL := jl22) (JJ := jj22) Try.func22 ((y22 h K t p_0 p_1 p_2 p_3 hash now) ▸ hx)
/-! 23: (*stevedore/stevedoreref23.Table).Count -/
-- loop 3: stays t(0); turns n(4), i(5)
def jl23 : Nat → Option JT := fun r => bif Nat.beq r 3 then some ⟨[0], [4, 5], [V.int IntKind.i64 (0 : Int), V.int IntKind.i64 (0 : Int)]⟩ else none
def jj23 : Nat → Option JT := fun r => none
def X23 (h : Hp) (K : V → Hp → Prop) (t : Nat) : Prop := ∃ (I1 : List V → Hp → Prop), ∃ (x1 : List V → Hp → Nat), ([V.ptr (some (t, (0 : Nat)))] = [V.ptr (some (t, (0 : Nat)))] ∧ I1 [V.int IntKind.i64 (0 : Int), V.int IntKind.i64 (0 : Int)]
  h) ∧ ∀ (bs1 : Nat → Option V) (n1 n2 : Int) (h1 : Hp), I1 [V.int IntKind.i64 n1, V.int IntKind.i64 n2] h1 → ∃ (a1 : Option (Nat × Nat)), ∃ (n3 : Nat), ∃ (f1 : Bool), h1.ld t (0 : Nat) = some (V.slc a1 n3 f1) ∧ bif ltI n2 (↑n3 : Int) then ∃
  (a2 : Option (Nat × Nat)), ∃ (n4 : Nat), ∃ (f2 : Bool), h1.ld t (0 : Nat) = some (V.slc a2 n4 f2) ∧ ((0 : Int) ≤ n2 ∧ n2 < (↑n4 : Int)) ∧ onS a2 fun (i1 o1 : Nat) => ∃ (n5 : Int), h1.ld i1 (o1 + n2.toNat * (6 : Nat) + (4 : Nat)) = some
  (V.int IntKind.u64 n5) ∧ bif n5 != (0 : Int) then [V.ptr (some (t, (0 : Nat)))] = [V.ptr (some (t, (0 : Nat)))] ∧ I1 [V.int IntKind.i64 (IntKind.i64.wrap (n1 + (1 : Int))), V.int IntKind.i64 (IntKind.i64.wrap (n2 + (1 : Int)))] h1 ∧ x1
  [V.int IntKind.i64 (IntKind.i64.wrap (n1 + (1 : Int))), V.int IntKind.i64 (IntKind.i64.wrap (n2 + (1 : Int)))] h1 < x1 [V.int IntKind.i64 n1, V.int IntKind.i64 n2] h1 else [V.ptr (some (t, (0 : Nat)))] = [V.ptr (some (t, (0 : Nat)))] ∧ I1
  [V.int IntKind.i64 n1, V.int IntKind.i64 (IntKind.i64.wrap (n2 + (1 : Int)))] h1 ∧ x1 [V.int IntKind.i64 n1, V.int IntKind.i64 (IntKind.i64.wrap (n2 + (1 : Int)))] h1 < x1 [V.int IntKind.i64 n1, V.int IntKind.i64 n2] h1 else ∃ (a3 : Option
  (Nat × Nat)), ∃ (n6 : Nat), ∃ (f3 : Bool), h1.ld t (0 : Nat) = some (V.slc a3 n6 f3) ∧ K (V.tup [V.int IntKind.i64 n1, V.int IntKind.i64 (IntKind.i64.wrap ((↑n6 : Int) - n1))]) h1
theorem y23 (h : Hp) (K : V → Hp → Prop) (t : Nat) : X23 h K t = fnX Try.prog T F jl23 jj23 Try.f23 [V.ptr (some (t, (0 : Nat)))] h K := by kernel_rfl
theorem x23 {h : Hp} {K : V → Hp → Prop} (t : Nat) (hx : X23 h K t) : XCalls Try.prog 23 [V.ptr (some (t, (0 : Nat)))] h K :=
  XCalls.ofX tok fok mixed (JL := jl23) (JJ := jj23) Try.func23 ((y23 h K t) ▸ hx)
/-! 26: stevedore/stevedoreref23.Shard -/
-- loop 3: stays p(1); turns key(3), i(4)
def jl26 : Nat → Option JT := fun r => bif Nat.beq r 3 then some ⟨[1], [3, 4], [V.slc none (0 : Nat) true, V.int IntKind.i64 (0 : Int)]⟩ else none
def jj26 : Nat → Option JT := fun r => none
def X26 (h : Hp) (K : V → Hp → Prop) (p_0 : Int) (p_1 : Int) (p_2 : Int) (p_3 : Int) : Prop := ∀ (h'1 : Hp), h'1 = h.alloc (O.row [V.int IntKind.u32 p_0, V.int IntKind.u16 p_1, V.int IntKind.u32 p_2, V.int IntKind.u16 p_3] (1 : Nat) false) →
  ∃ (I1 : List V → Hp → Prop), ∃ (x1 : List V → Hp → Nat), ([V.ptr (some (h.next, (0 : Nat)))] = [V.ptr (some (h.next, (0 : Nat)))] ∧ I1 [V.slc none (0 : Nat) true, V.int IntKind.i64 (0 : Int)] h'1) ∧ ∀ (bs1 : Nat → Option V) (a1 : Option
  (Nat × Nat)) (n1 : Nat) (f1 : Bool) (n2 : Int) (h1 : Hp), I1 [V.slc a1 n1 f1, V.int IntKind.i64 n2] h1 → bif ltI n2 (20 : Int) then ∀ (h'2 : Hp), h'2 = h1.alloc (O.row [V.int IntKind.u8 (109 : Int), V.int IntKind.u8 (90 : Int)] (1 : Nat)
  false) → ∃ (p1 : Option (Nat × Nat)), ∃ (n3 : Nat), ∃ (f2 : Bool), ∃ (h'3 : Hp), xapp T h'2 (84 : Nat) (84 : Nat) (V.slc a1 n1 f1) (V.slc (some (h1.next, (0 : Nat))) (2 : Nat) true) = some (V.slc p1 n3 f2, h'3) ∧ [V.ptr (some (h.next, (0 :
  Nat)))] = [V.ptr (some (h.next, (0 : Nat)))] ∧ I1 [V.slc p1 n3 f2, V.int IntKind.i64 (IntKind.i64.wrap (n2 + (1 : Int)))] h'3 ∧ x1 [V.slc p1 n3 f2, V.int IntKind.i64 (IntKind.i64.wrap (n2 + (1 : Int)))] h'3 < x1 [V.slc a1 n1 f1, V.int
  IntKind.i64 n2] h1 else ∃ (s1 : List UInt8), xconv T h1 (84 : Nat) (9 : Nat) (V.slc a1 n1 f1) = some (V.str s1) ∧ ∃ (n4 : Int), ∃ (n5 : Int), ∃ (n6 : Int), ∃ (n7 : Int), h1.lda h.next (0 : Nat) (4 : Nat) = some (V.agg [V.int IntKind.u32
  n4, V.int IntKind.u16 n5, V.int IntKind.u32 n6, V.int IntKind.u16 n7]) ∧ XCalls Try.prog (37 : Nat) [V.agg [V.int IntKind.u32 n4, V.int IntKind.u16 n5, V.int IntKind.u32 n6, V.int IntKind.u16 n7]] h1 fun (v1 : V) (h'4 : Hp) => ∃ (s2 : List
  UInt8), v1 = V.str s2 ∧ (∃ (s3 : List UInt8), xconv T h'4 (84 : Nat) (9 : Nat) (V.slc a1 n1 f1) = some (V.str s3) ∧ V.str s3 = V.str s1) ∧ V.slc a1 n1 f1 = V.slc a1 n1 f1 ∧ XCalls Try.prog (36 : Nat) [V.str s1, V.str s2] h'4 fun (v2 : V)
  (h'5 : Hp) => ∃ (n8 : Int), v2 = V.int IntKind.u32 n8 ∧ ¬(8 : Int) = (0 : Int) ∧ K (V.int IntKind.i64 (IntKind.i64.wrap (n8.tmod (8 : Int)))) h'5
theorem y26 (h : Hp) (K : V → Hp → Prop) (p_0 : Int) (p_1 : Int) (p_2 : Int) (p_3 : Int) : X26 h K p_0 p_1 p_2 p_3 = fnX Try.prog T F jl26 jj26 Try.f26 [V.agg [V.int IntKind.u32 p_0, V.int IntKind.u16 p_1, V.int IntKind.u32 p_2, V.int IntKind.u16 p_3]] h K := by kernel_rfl
theorem x26 {h : Hp} {K : V → Hp → Prop} (p_0 : Int) (p_1 : Int) (p_2 : Int) (p_3 : Int) (hx : X26 h K p_0 p_1 p_2 p_3) : XCalls Try.prog 26 [V.agg [V.int IntKind.u32 p_0, V.int IntKind.u16 p_1, V.int IntKind.u32 p_2, V.int IntKind.u16 p_3]] h K :=
  XCalls.ofX tok fok mixed (JL := jl26) (JJ := jj26) Try.func26 ((y26 h K p_0 p_1 p_2 p_3) ▸ hx)
/-! 34: (*stevedore/stevedoreref23.Table).At -/
-- loop 2: stays t(0), p(3); turns i(5)
def jl34 : Nat → Option JT := fun r => bif Nat.beq r 2 then some ⟨[0, 3], [5], [V.int IntKind.i64 (0 : Int)]⟩ else none
def jj34 : Nat → Option JT := fun r => none
def X34 (h : Hp) (K : V → Hp → Prop) (t : Nat) (p_0 : Int) (p_1 : Int) (p_2 : Int) (p_3 : Int) : Prop := ∀ (h'1 : Hp), h'1 = h.alloc (O.row [V.int IntKind.u32 p_0, V.int IntKind.u16 p_1, V.int IntKind.u32 p_2, V.int IntKind.u16 p_3] (1 :
  Nat) false) → ∃ (I1 : List V → Hp → Prop), ∃ (x1 : List V → Hp → Nat), ([V.ptr (some (t, (0 : Nat))), V.ptr (some (h.next, (0 : Nat)))] = [V.ptr (some (t, (0 : Nat))), V.ptr (some (h.next, (0 : Nat)))] ∧ I1 [V.int IntKind.i64 (0 : Int)]
  h'1) ∧ ∀ (bs1 : Nat → Option V) (n1 : Int) (h1 : Hp), I1 [V.int IntKind.i64 n1] h1 → ∃ (a1 : Option (Nat × Nat)), ∃ (n2 : Nat), ∃ (f1 : Bool), h1.ld t (0 : Nat) = some (V.slc a1 n2 f1) ∧ bif ltI n1 (↑n2 : Int) then ∃ (a2 : Option (Nat ×
  Nat)), ∃ (n3 : Nat), ∃ (f2 : Bool), h1.ld t (0 : Nat) = some (V.slc a2 n3 f2) ∧ ((0 : Int) ≤ n1 ∧ n1 < (↑n3 : Int)) ∧ onS a2 fun (i1 o1 : Nat) => ∃ (n4 : Int), ∃ (n5 : Int), ∃ (n6 : Int), ∃ (n7 : Int), h1.lda i1 (o1 + n1.toNat * (6 : Nat)
  + (0 : Nat)) (4 : Nat) = some (V.agg [V.int IntKind.u32 n4, V.int IntKind.u16 n5, V.int IntKind.u32 n6, V.int IntKind.u16 n7]) ∧ ∃ (n8 : Int), ∃ (n9 : Int), ∃ (n10 : Int), ∃ (n11 : Int), h1.lda h.next (0 : Nat) (4 : Nat) = some (V.agg
  [V.int IntKind.u32 n8, V.int IntKind.u16 n9, V.int IntKind.u32 n10, V.int IntKind.u16 n11]) ∧ bif n4 == n8 && (n5 == n9 && true) && (n6 == n10 && (n7 == n11 && true) && true) then K (V.int IntKind.i64 n1) h1 else [V.ptr (some (t, (0 :
  Nat))), V.ptr (some (h.next, (0 : Nat)))] = [V.ptr (some (t, (0 : Nat))), V.ptr (some (h.next, (0 : Nat)))] ∧ I1 [V.int IntKind.i64 (IntKind.i64.wrap (n1 + (1 : Int)))] h1 ∧ x1 [V.int IntKind.i64 (IntKind.i64.wrap (n1 + (1 : Int)))] h1 <
  x1 [V.int IntKind.i64 n1] h1 else K (V.int IntKind.i64 (-1 : Int)) h1
theorem y34 (h : Hp) (K : V → Hp → Prop) (t : Nat) (p_0 : Int) (p_1 : Int) (p_2 : Int) (p_3 : Int) : X34 h K t p_0 p_1 p_2 p_3 = fnX Try.prog T F jl34 jj34 Try.f34 [V.ptr (some (t, (0 : Nat))), V.agg [V.int IntKind.u32 p_0, V.int IntKind.u16
  p_1, V.int IntKind.u32 p_2, V.int IntKind.u16 p_3]] h K := by kernel_rfl
theorem x34 {h : Hp} {K : V → Hp → Prop} (t : Nat) (p_0 : Int) (p_1 : Int) (p_2 : Int) (p_3 : Int) (hx : X34 h K t p_0 p_1 p_2 p_3) : XCalls Try.prog 34 [V.ptr (some (t, (0 : Nat))), V.agg [V.int IntKind.u32 p_0, V.int IntKind.u16 p_1, V.int IntKind.u32 p_2, V.int IntKind.u16 p_3]] h K :=
  XCalls.ofX tok fok mixed (JL := jl34) (JJ := jj34) Try.func34 ((y34 h K t p_0 p_1 p_2 p_3) ▸ hx)
/-! 35: (*stevedore/stevedoreref23.Table).Ear -/
-- loop 2: stays t(0), socket(1); turns i(5)
def jl35 : Nat → Option JT := fun r => bif Nat.beq r 2 then some ⟨[0, 1], [5], [V.int IntKind.i64 (0 : Int)]⟩ else none
def jj35 : Nat → Option JT := fun r => none
def X35 (h : Hp) (K : V → Hp → Prop) (t : Nat) (socket : Int) : Prop := ∃ (I1 : List V → Hp → Prop), ∃ (x1 : List V → Hp → Nat), ([V.ptr (some (t, (0 : Nat))), V.int IntKind.u64 socket] = [V.ptr (some (t, (0 : Nat))), V.int IntKind.u64
  socket] ∧ I1 [V.int IntKind.i64 (0 : Int)] h) ∧ ∀ (bs1 : Nat → Option V) (n1 : Int) (h1 : Hp), I1 [V.int IntKind.i64 n1] h1 → ∃ (a1 : Option (Nat × Nat)), ∃ (n2 : Nat), ∃ (f1 : Bool), h1.ld t (1 : Nat) = some (V.slc a1 n2 f1) ∧ bif ltI n1
  (↑n2 : Int) then ∃ (a2 : Option (Nat × Nat)), ∃ (n3 : Nat), ∃ (f2 : Bool), h1.ld t (1 : Nat) = some (V.slc a2 n3 f2) ∧ ((0 : Int) ≤ n1 ∧ n1 < (↑n3 : Int)) ∧ onS a2 fun (i1 o1 : Nat) => ∃ (n4 : Int), h1.ld i1 (o1 + n1.toNat * (3 : Nat) + (0
  : Nat)) = some (V.int IntKind.u64 n4) ∧ bif n4 == socket then K (V.int IntKind.i64 n1) h1 else [V.ptr (some (t, (0 : Nat))), V.int IntKind.u64 socket] = [V.ptr (some (t, (0 : Nat))), V.int IntKind.u64 socket] ∧ I1 [V.int IntKind.i64
  (IntKind.i64.wrap (n1 + (1 : Int)))] h1 ∧ x1 [V.int IntKind.i64 (IntKind.i64.wrap (n1 + (1 : Int)))] h1 < x1 [V.int IntKind.i64 n1] h1 else K (V.int IntKind.i64 (-1 : Int)) h1
theorem y35 (h : Hp) (K : V → Hp → Prop) (t : Nat) (socket : Int) : X35 h K t socket = fnX Try.prog T F jl35 jj35 Try.f35 [V.ptr (some (t, (0 : Nat))), V.int IntKind.u64 socket] h K := by kernel_rfl
theorem x35 {h : Hp} {K : V → Hp → Prop} (t : Nat) (socket : Int) (hx : X35 h K t socket) : XCalls Try.prog 35 [V.ptr (some (t, (0 : Nat))), V.int IntKind.u64 socket] h K :=
  XCalls.ofX tok fok mixed (JL := jl35) (JJ := jj35) Try.func35 ((y35 h K t socket) ▸ hx)
/-! 36: stevedore/stevedoreref05.Hash -/
-- loop 8: stays key(0), text(1), h(5), i(6); turns w(7), k(8)
-- loop 3: stays key(0), text(1); turns h(5), i(6)
def jl36 : Nat → Option JT := fun r => bif Nat.beq r 8 then some ⟨[0, 1, 5, 6], [7, 8], [V.int IntKind.u32 (0 : Int), V.int IntKind.i64 (0 : Int)]⟩ else bif Nat.beq r 3 then some ⟨[0, 1], [5, 6], [V.int IntKind.u32 (0 : Int), V.int IntKind.i64 (0 : Int)]⟩ else none
def jj36 : Nat → Option JT := fun r => none
def X36 (h : Hp) (K : V → Hp → Prop) (key : List UInt8) (text : List UInt8) : Prop := ∃ (I1 : List V → Hp → Prop), ∃ (x1 : List V → Hp → Nat), ([V.str key, V.str text] = [V.str key, V.str text] ∧ I1 [V.int IntKind.u32 (0 : Int), V.int
  IntKind.i64 (0 : Int)] h) ∧ ∀ (bs1 : Nat → Option V) (n1 n2 : Int) (h1 : Hp), I1 [V.int IntKind.u32 n1, V.int IntKind.i64 n2] h1 → bif ltI n2 (IntKind.i64.wrap ((8 : Int) * (↑text.length : Int))) then XCalls Try.prog (48 : Nat) [V.str
  text, V.int IntKind.i64 n2] h1 fun (v1 : V) (h'1 : Hp) => ∃ (n3 : Int), v1 = V.int IntKind.u32 n3 ∧ bif n3 == (0 : Int) then [V.str key, V.str text] = [V.str key, V.str text] ∧ I1 [V.int IntKind.u32 n1, V.int IntKind.i64 (IntKind.i64.wrap
  (n2 + (1 : Int)))] h'1 ∧ x1 [V.int IntKind.u32 n1, V.int IntKind.i64 (IntKind.i64.wrap (n2 + (1 : Int)))] h'1 < x1 [V.int IntKind.u32 n1, V.int IntKind.i64 n2] h1 else ∃ (I2 : List V → Hp → Prop), ∃ (x2 : List V → Hp → Nat), ([V.str key,
  V.str text, V.int IntKind.u32 n1, V.int IntKind.i64 n2] = [V.str key, V.str text, V.int IntKind.u32 n1, V.int IntKind.i64 n2] ∧ I2 [V.int IntKind.u32 (0 : Int), V.int IntKind.i64 (0 : Int)] h'1) ∧ ∀ (bs2 : Nat → Option V) (n4 n5 : Int) (h2
  : Hp), I2 [V.int IntKind.u32 n4, V.int IntKind.i64 n5] h2 → bif ltI n5 (32 : Int) then ¬(1 : Int) < (0 : Int) ∧ XCalls Try.prog (48 : Nat) [V.str key, V.int IntKind.i64 (IntKind.i64.wrap (n2 + n5))] h2 fun (v2 : V) (h'2 : Hp) => ∃ (n6 :
  Int), v2 = V.int IntKind.u32 n6 ∧ [V.str key, V.str text, V.int IntKind.u32 n1, V.int IntKind.i64 n2] = [V.str key, V.str text, V.int IntKind.u32 n1, V.int IntKind.i64 n2] ∧ I2 [V.int IntKind.u32 (bits BinOp.or IntKind.u32
  (IntKind.u32.wrap (n4 * (2 : Int) ^ min (Int.toNat (1 : Int)) IntKind.u32.bits)) n6), V.int IntKind.i64 (IntKind.i64.wrap (n5 + (1 : Int)))] h'2 ∧ x2 [V.int IntKind.u32 (bits BinOp.or IntKind.u32 (IntKind.u32.wrap (n4 * (2 : Int) ^ min
  (Int.toNat (1 : Int)) IntKind.u32.bits)) n6), V.int IntKind.i64 (IntKind.i64.wrap (n5 + (1 : Int)))] h'2 < x2 [V.int IntKind.u32 n4, V.int IntKind.i64 n5] h2 else [V.str key, V.str text] = [V.str key, V.str text] ∧ I1 [V.int IntKind.u32
  (bits BinOp.xor IntKind.u32 n1 n4), V.int IntKind.i64 (IntKind.i64.wrap (n2 + (1 : Int)))] h2 ∧ x1 [V.int IntKind.u32 (bits BinOp.xor IntKind.u32 n1 n4), V.int IntKind.i64 (IntKind.i64.wrap (n2 + (1 : Int)))] h2 < x1 [V.int IntKind.u32 n1,
  V.int IntKind.i64 n2] h1 else K (V.int IntKind.u32 n1) h1
theorem y36 (h : Hp) (K : V → Hp → Prop) (key : List UInt8) (text : List UInt8) : X36 h K key text = fnX Try.prog T F jl36 jj36 Try.f36 [V.str key, V.str text] h K := by kernel_rfl
theorem x36 {h : Hp} {K : V → Hp → Prop} (key : List UInt8) (text : List UInt8) (hx : X36 h K key text) : XCalls Try.prog 36 [V.str key, V.str text] h K :=
  XCalls.ofX tok fok mixed (JL := jl36) (JJ := jj36) Try.func36 ((y36 h K key text) ▸ hx)
/-! 48: stevedore/stevedoreref05.bit -/
def jl48 : Nat → Option JT := fun r => none
def jj48 : Nat → Option JT := fun r => none
def X48 (h : Hp) (K : V → Hp → Prop) (s : List UInt8) (i : Int) : Prop := ¬(8 : Int) = (0 : Int) ∧ (0 : Int) ≤ IntKind.i64.wrap (i.tdiv (8 : Int)) ∧ ∃ (b1 : UInt8), s.get?Internal (IntKind.i64.wrap (i.tdiv (8 : Int))).toNat = some b1 ∧ ¬(8 :
  Int) = (0 : Int) ∧ ¬IntKind.u64.wrap (IntKind.i64.wrap ((7 : Int) - i.tmod (8 : Int))) < (0 : Int) ∧ K (V.int IntKind.u32 (bits BinOp.and IntKind.u32 (IntKind.u32.wrap ((↑b1.toNat : Int).fdiv ((2 : Int) ^ min (IntKind.u64.wrap
  (IntKind.i64.wrap ((7 : Int) - i.tmod (8 : Int)))).toNat IntKind.u8.bits))) (1 : Int))) h
theorem y48 (h : Hp) (K : V → Hp → Prop) (s : List UInt8) (i : Int) : X48 h K s i = fnX Try.prog T F jl48 jj48 Try.f48 [V.str s, V.int IntKind.i64 i] h K := by kernel_rfl
theorem x48 {h : Hp} {K : V → Hp → Prop} (s : List UInt8) (i : Int) (hx : X48 h K s i) : XCalls Try.prog 48 [V.str s, V.int IntKind.i64 i] h K :=
  XCalls.ofX tok fok mixed (JL := jl48) (JJ := jj48) Try.func48 ((y48 h K s i) ▸ hx) 
end Go.Vex
/- TablePlays (layer 23) (printed by VexPrint).
-/
namespace Go.Vex
open Go.Proofs
/-! 6: stevedore/stevedorelaw23.TablePlays -/
-- loop 6: stays script(0), t(3), r(4); turns i(5)
-- join 24: stays t(3), s(6), r(4), i(5), script(0); turns fine(7)
def jl6 : Nat → Option JT := fun r => bif Nat.beq r 6 then some ⟨[0, 3, 4], [5], [V.int IntKind.i64 (0 : Int)]⟩ else none
def jj6 : Nat → Option JT := fun r => bif Nat.beq r 24 then some ⟨[3, 6, 4, 5, 0], [7], [V.bool false]⟩ else none
def X6 (h : Hp) (K : V → Hp → Prop) (script : Option (Nat × Nat)) (script_n : Nat) (script_f : Bool) : Prop := bif ltI (300 : Int) (↑script_n : Int) then XCalls Try.prog (8 : Nat) [] h fun (v1 : V) (h'1 : Hp) => ∃ (b1 : Bool), v1 = V.bool b1
  ∧ K (V.bool b1) h'1 else XCalls Try.prog (9 : Nat) [] h fun (v2 : V) (h'2 : Hp) => ∃ (a1 : Option (Nat × Nat)), v2 = V.ptr a1 ∧ ∀ (h'3 : Hp), h'3 = h'2.alloc (O.row [V.slc none (0 : Nat) true, V.slc none (0 : Nat) true] (1 : Nat) false) →
  ∃ (I1 : List V → Hp → Prop), ∃ (x1 : List V → Hp → Nat), ([V.slc script script_n script_f, V.ptr a1, V.ptr (some (h'2.next, (0 : Nat)))] = [V.slc script script_n script_f, V.ptr a1, V.ptr (some (h'2.next, (0 : Nat)))] ∧ I1 [V.int
  IntKind.i64 (0 : Int)] h'3) ∧ ∀ (bs1 : Nat → Option V) (n1 : Int) (h1 : Hp), I1 [V.int IntKind.i64 n1] h1 → bif ltI n1 (↑script_n : Int) then ((0 : Int) ≤ n1 ∧ n1 < (↑script_n : Int)) ∧ onS script fun (i1 o1 : Nat) => ∃ (n2 : Int), ∃ (n3 :
  Int), ∃ (n4 : Int), ∃ (n5 : Int), ∃ (n6 : Int), ∃ (n7 : Int), ∃ (n8 : Int), ∃ (n9 : Int), ∃ (n10 : Int), ∃ (n11 : Int), ∃ (n12 : Int), h1.lda i1 (o1 + n1.toNat * (11 : Nat)) (11 : Nat) = some (V.agg [V.int IntKind.i64 n2, V.int IntKind.u32
  n3, V.int IntKind.u16 n4, V.int IntKind.u32 n5, V.int IntKind.u16 n6, V.int IntKind.u32 n7, V.int IntKind.u16 n8, V.int IntKind.u64 n9, V.int IntKind.u64 n10, V.int IntKind.u32 n11, V.int IntKind.i64 n12]) ∧ ∀ (h'4 : Hp), h'4 = h1.alloc
  (O.row [V.int IntKind.i64 (0 : Int), V.int IntKind.u32 (0 : Int), V.int IntKind.u16 (0 : Int), V.int IntKind.u32 (0 : Int), V.int IntKind.u16 (0 : Int), V.int IntKind.u32 (0 : Int), V.int IntKind.u16 (0 : Int), V.int IntKind.u64 (0 : Int),
  V.int IntKind.u64 (0 : Int), V.int IntKind.u32 (0 : Int), V.int IntKind.i64 (0 : Int)] (1 : Nat) false) → ∃ (h'5 : Hp), h'4.st h1.next (0 : Nat) [V.int IntKind.i64 n2, V.int IntKind.u32 n3, V.int IntKind.u16 n4, V.int IntKind.u32 n5, V.int
  IntKind.u16 n6, V.int IntKind.u32 n7, V.int IntKind.u16 n8, V.int IntKind.u64 n9, V.int IntKind.u64 n10, V.int IntKind.u32 n11, V.int IntKind.i64 n12] = some h'5 ∧ ∃ (Q1 : List V → Hp → Prop), (∃ (n13 : Int), h'5.ld h1.next (0 : Nat) =
  some (V.int IntKind.i64 n13) ∧ bif n13 == (0 : Int) then ∃ (n14 : Int), ∃ (n15 : Int), ∃ (n16 : Int), ∃ (n17 : Int), h'5.lda h1.next (1 : Nat) (4 : Nat) = some (V.agg [V.int IntKind.u32 n14, V.int IntKind.u16 n15, V.int IntKind.u32 n16,
  V.int IntKind.u16 n17]) ∧ ∃ (n18 : Int), h'5.ld h1.next (7 : Nat) = some (V.int IntKind.u64 n18) ∧ ∃ (n19 : Int), ∃ (n20 : Int), ∃ (n21 : Int), ∃ (n22 : Int), h'5.lda h1.next (1 : Nat) (4 : Nat) = some (V.agg [V.int IntKind.u32 n19, V.int
  IntKind.u16 n20, V.int IntKind.u32 n21, V.int IntKind.u16 n22]) ∧ ∃ (n23 : Int), h'5.ld h1.next (7 : Nat) = some (V.int IntKind.u64 n23) ∧ XCalls Try.prog (10 : Nat) [V.ptr a1, V.agg [V.int IntKind.u32 n14, V.int IntKind.u16 n15, V.int
  IntKind.u32 n16, V.int IntKind.u16 n17], V.int IntKind.u64 n18] h'5 fun (v3 : V) (h'6 : Hp) => ∃ (n24 : Int), v3 = V.int IntKind.i64 n24 ∧ (∃ (n25 : Int), h'6.ld h1.next (7 : Nat) = some (V.int IntKind.u64 n25) ∧ V.int IntKind.u64 n25 =
  V.int IntKind.u64 n23) ∧ V.ptr (some (h1.next, (7 : Nat))) = V.ptr (some (h1.next, (7 : Nat))) ∧ (∃ (n26 : Int), ∃ (n27 : Int), ∃ (n28 : Int), ∃ (n29 : Int), h'6.lda h1.next (1 : Nat) (4 : Nat) = some (V.agg [V.int IntKind.u32 n26, V.int
  IntKind.u16 n27, V.int IntKind.u32 n28, V.int IntKind.u16 n29]) ∧ V.agg [V.int IntKind.u32 n26, V.int IntKind.u16 n27, V.int IntKind.u32 n28, V.int IntKind.u16 n29] = V.agg [V.int IntKind.u32 n19, V.int IntKind.u16 n20, V.int IntKind.u32
  n21, V.int IntKind.u16 n22]) ∧ V.ptr (some (h1.next, (1 : Nat))) = V.ptr (some (h1.next, (1 : Nat))) ∧ V.ptr (some (h'2.next, (0 : Nat))) = V.ptr (some (h'2.next, (0 : Nat))) ∧ XCalls Try.prog (17 : Nat) [V.ptr (some (h'2.next, (0 :
  Nat))), V.agg [V.int IntKind.u32 n19, V.int IntKind.u16 n20, V.int IntKind.u32 n21, V.int IntKind.u16 n22], V.int IntKind.u64 n23] h'6 fun (v4 : V) (h'7 : Hp) => ∃ (n30 : Int), v4 = V.int IntKind.i64 n30 ∧ [V.ptr a1, V.ptr (some (h1.next,
  (0 : Nat))), V.ptr (some (h'2.next, (0 : Nat))), V.int IntKind.i64 n1, V.slc script script_n script_f] = [V.ptr a1, V.ptr (some (h1.next, (0 : Nat))), V.ptr (some (h'2.next, (0 : Nat))), V.int IntKind.i64 n1, V.slc script script_n
  script_f] ∧ Q1 [V.bool (n24 == n30)] h'7 else bif n13 == (1 : Int) then ∃ (n31 : Int), ∃ (n32 : Int), ∃ (n33 : Int), ∃ (n34 : Int), h'5.lda h1.next (1 : Nat) (4 : Nat) = some (V.agg [V.int IntKind.u32 n31, V.int IntKind.u16 n32, V.int
  IntKind.u32 n33, V.int IntKind.u16 n34]) ∧ ∃ (n35 : Int), h'5.ld h1.next (10 : Nat) = some (V.int IntKind.i64 n35) ∧ ∃ (n36 : Int), ∃ (n37 : Int), ∃ (n38 : Int), ∃ (n39 : Int), h'5.lda h1.next (1 : Nat) (4 : Nat) = some (V.agg [V.int
  IntKind.u32 n36, V.int IntKind.u16 n37, V.int IntKind.u32 n38, V.int IntKind.u16 n39]) ∧ ∃ (n40 : Int), h'5.ld h1.next (10 : Nat) = some (V.int IntKind.i64 n40) ∧ XCalls Try.prog (11 : Nat) [V.ptr a1, V.agg [V.int IntKind.u32 n31, V.int
  IntKind.u16 n32, V.int IntKind.u32 n33, V.int IntKind.u16 n34], V.int IntKind.i64 n35] h'5 fun (v5 : V) (h'8 : Hp) => ∃ (n41 : Int), v5 = V.int IntKind.i64 n41 ∧ (∃ (n42 : Int), h'8.ld h1.next (10 : Nat) = some (V.int IntKind.i64 n42) ∧
  V.int IntKind.i64 n42 = V.int IntKind.i64 n40) ∧ V.ptr (some (h1.next, (10 : Nat))) = V.ptr (some (h1.next, (10 : Nat))) ∧ (∃ (n43 : Int), ∃ (n44 : Int), ∃ (n45 : Int), ∃ (n46 : Int), h'8.lda h1.next (1 : Nat) (4 : Nat) = some (V.agg
  [V.int IntKind.u32 n43, V.int IntKind.u16 n44, V.int IntKind.u32 n45, V.int IntKind.u16 n46]) ∧ V.agg [V.int IntKind.u32 n43, V.int IntKind.u16 n44, V.int IntKind.u32 n45, V.int IntKind.u16 n46] = V.agg [V.int IntKind.u32 n36, V.int
  IntKind.u16 n37, V.int IntKind.u32 n38, V.int IntKind.u16 n39]) ∧ V.ptr (some (h1.next, (1 : Nat))) = V.ptr (some (h1.next, (1 : Nat))) ∧ V.ptr (some (h'2.next, (0 : Nat))) = V.ptr (some (h'2.next, (0 : Nat))) ∧ XCalls Try.prog (18 : Nat)
  [V.ptr (some (h'2.next, (0 : Nat))), V.agg [V.int IntKind.u32 n36, V.int IntKind.u16 n37, V.int IntKind.u32 n38, V.int IntKind.u16 n39], V.int IntKind.i64 n40] h'8 fun (v6 : V) (h'9 : Hp) => ∃ (n47 : Int), v6 = V.int IntKind.i64 n47 ∧
  [V.ptr a1, V.ptr (some (h1.next, (0 : Nat))), V.ptr (some (h'2.next, (0 : Nat))), V.int IntKind.i64 n1, V.slc script script_n script_f] = [V.ptr a1, V.ptr (some (h1.next, (0 : Nat))), V.ptr (some (h'2.next, (0 : Nat))), V.int IntKind.i64
  n1, V.slc script script_n script_f] ∧ Q1 [V.bool (n41 == n47)] h'9 else bif n13 == (2 : Int) then ∃ (n48 : Int), h'5.ld h1.next (7 : Nat) = some (V.int IntKind.u64 n48) ∧ ∃ (n49 : Int), ∃ (n50 : Int), h'5.lda h1.next (5 : Nat) (2 : Nat) =
  some (V.agg [V.int IntKind.u32 n49, V.int IntKind.u16 n50]) ∧ ∃ (n51 : Int), h'5.ld h1.next (7 : Nat) = some (V.int IntKind.u64 n51) ∧ ∃ (n52 : Int), ∃ (n53 : Int), h'5.lda h1.next (5 : Nat) (2 : Nat) = some (V.agg [V.int IntKind.u32 n52,
  V.int IntKind.u16 n53]) ∧ XCalls Try.prog (13 : Nat) [V.ptr a1, V.int IntKind.u64 n48, V.agg [V.int IntKind.u32 n49, V.int IntKind.u16 n50]] h'5 fun (v7 : V) (h'10 : Hp) => ∃ (n54 : Int), v7 = V.int IntKind.i64 n54 ∧ (∃ (n55 : Int), ∃ (n56
  : Int), h'10.lda h1.next (5 : Nat) (2 : Nat) = some (V.agg [V.int IntKind.u32 n55, V.int IntKind.u16 n56]) ∧ V.agg [V.int IntKind.u32 n55, V.int IntKind.u16 n56] = V.agg [V.int IntKind.u32 n52, V.int IntKind.u16 n53]) ∧ V.ptr (some
  (h1.next, (5 : Nat))) = V.ptr (some (h1.next, (5 : Nat))) ∧ (∃ (n57 : Int), h'10.ld h1.next (7 : Nat) = some (V.int IntKind.u64 n57) ∧ V.int IntKind.u64 n57 = V.int IntKind.u64 n51) ∧ V.ptr (some (h1.next, (7 : Nat))) = V.ptr (some
  (h1.next, (7 : Nat))) ∧ V.ptr (some (h'2.next, (0 : Nat))) = V.ptr (some (h'2.next, (0 : Nat))) ∧ XCalls Try.prog (19 : Nat) [V.ptr (some (h'2.next, (0 : Nat))), V.int IntKind.u64 n51, V.agg [V.int IntKind.u32 n52, V.int IntKind.u16 n53]]
  h'10 fun (v8 : V) (h'11 : Hp) => ∃ (n58 : Int), v8 = V.int IntKind.i64 n58 ∧ [V.ptr a1, V.ptr (some (h1.next, (0 : Nat))), V.ptr (some (h'2.next, (0 : Nat))), V.int IntKind.i64 n1, V.slc script script_n script_f] = [V.ptr a1, V.ptr (some
  (h1.next, (0 : Nat))), V.ptr (some (h'2.next, (0 : Nat))), V.int IntKind.i64 n1, V.slc script script_n script_f] ∧ Q1 [V.bool (n54 == n58)] h'11 else bif n13 == (3 : Int) then ∃ (n59 : Int), h'5.ld h1.next (7 : Nat) = some (V.int
  IntKind.u64 n59) ∧ ∃ (n60 : Int), h'5.ld h1.next (8 : Nat) = some (V.int IntKind.u64 n60) ∧ ∀ (h'12 : Hp), h'12 = h'5.alloc (O.row [V.int IntKind.u64 n59, V.int IntKind.u64 n60] (1 : Nat) false) → XCalls Try.prog (16 : Nat) [V.ptr a1,
  V.slc (some (h'5.next, (0 : Nat))) (2 : Nat) true] h'12 fun (v9 : V) (h'13 : Hp) => ∃ (n61 : Int), v9 = V.int IntKind.i64 n61 ∧ ∃ (n62 : Int), h'13.ld h1.next (7 : Nat) = some (V.int IntKind.u64 n62) ∧ XCalls Try.prog (20 : Nat) [V.ptr
  (some (h'2.next, (0 : Nat))), V.int IntKind.u64 n62] h'13 fun (v10 : V) (h'14 : Hp) => ∃ (n63 : Int), v10 = V.int IntKind.i64 n63 ∧ ∃ (n64 : Int), h'14.ld h1.next (8 : Nat) = some (V.int IntKind.u64 n64) ∧ XCalls Try.prog (20 : Nat) [V.ptr
  (some (h'2.next, (0 : Nat))), V.int IntKind.u64 n64] h'14 fun (v11 : V) (h'15 : Hp) => ∃ (n65 : Int), v11 = V.int IntKind.i64 n65 ∧ [V.ptr a1, V.ptr (some (h1.next, (0 : Nat))), V.ptr (some (h'2.next, (0 : Nat))), V.int IntKind.i64 n1,
  V.slc script script_n script_f] = [V.ptr a1, V.ptr (some (h1.next, (0 : Nat))), V.ptr (some (h'2.next, (0 : Nat))), V.int IntKind.i64 n1, V.slc script script_n script_f] ∧ Q1 [V.bool (n61 == IntKind.i64.wrap (n63 + n65))] h'15 else bif n13
  == (4 : Int) then ∃ (n66 : Int), h'5.ld h1.next (10 : Nat) = some (V.int IntKind.i64 n66) ∧ ∃ (n67 : Int), h'5.ld h1.next (10 : Nat) = some (V.int IntKind.i64 n67) ∧ XCalls Try.prog (12 : Nat) [V.ptr a1, V.int IntKind.i64 n66] h'5 fun (v12
  : V) (h'16 : Hp) => ∃ (n68 : Int), v12 = V.int IntKind.i64 n68 ∧ (∃ (n69 : Int), h'16.ld h1.next (10 : Nat) = some (V.int IntKind.i64 n69) ∧ V.int IntKind.i64 n69 = V.int IntKind.i64 n67) ∧ V.ptr (some (h1.next, (10 : Nat))) = V.ptr (some
  (h1.next, (10 : Nat))) ∧ V.ptr (some (h'2.next, (0 : Nat))) = V.ptr (some (h'2.next, (0 : Nat))) ∧ XCalls Try.prog (21 : Nat) [V.ptr (some (h'2.next, (0 : Nat))), V.int IntKind.i64 n67] h'16 fun (v13 : V) (h'17 : Hp) => ∃ (n70 : Int), v13
  = V.int IntKind.i64 n70 ∧ [V.ptr a1, V.ptr (some (h1.next, (0 : Nat))), V.ptr (some (h'2.next, (0 : Nat))), V.int IntKind.i64 n1, V.slc script script_n script_f] = [V.ptr a1, V.ptr (some (h1.next, (0 : Nat))), V.ptr (some (h'2.next, (0 :
  Nat))), V.int IntKind.i64 n1, V.slc script script_n script_f] ∧ Q1 [V.bool (n68 == n70)] h'17 else [V.ptr a1, V.ptr (some (h1.next, (0 : Nat))), V.ptr (some (h'2.next, (0 : Nat))), V.int IntKind.i64 n1, V.slc script script_n script_f] =
  [V.ptr a1, V.ptr (some (h1.next, (0 : Nat))), V.ptr (some (h'2.next, (0 : Nat))), V.int IntKind.i64 n1, V.slc script script_n script_f] ∧ Q1 [V.bool true] h'5) ∧ ∀ (bs2 : Nat → Option V) (b2 : Bool) (h2 : Hp), Q1 [V.bool b2] h2 → ∃ (n71 :
  Int), ∃ (n72 : Int), ∃ (n73 : Int), ∃ (n74 : Int), h2.lda h1.next (1 : Nat) (4 : Nat) = some (V.agg [V.int IntKind.u32 n71, V.int IntKind.u16 n72, V.int IntKind.u32 n73, V.int IntKind.u16 n74]) ∧ ∃ (n75 : Int), h2.ld h1.next (9 : Nat) =
  some (V.int IntKind.u32 n75) ∧ ∃ (n76 : Int), h2.ld h1.next (10 : Nat) = some (V.int IntKind.i64 n76) ∧ XCalls Try.prog (14 : Nat) [V.ptr a1, V.agg [V.int IntKind.u32 n71, V.int IntKind.u16 n72, V.int IntKind.u32 n73, V.int IntKind.u16
  n74], V.int IntKind.u32 n75, V.int IntKind.i64 n76] h2 fun (v14 : V) (h'18 : Hp) => ∃ (n77 : Int), ∃ (n78 : Int), v14 = V.tup [V.int IntKind.u8 n77, V.int IntKind.u64 n78] ∧ ∃ (n79 : Int), ∃ (n80 : Int), ∃ (n81 : Int), ∃ (n82 : Int),
  h'18.lda h1.next (1 : Nat) (4 : Nat) = some (V.agg [V.int IntKind.u32 n79, V.int IntKind.u16 n80, V.int IntKind.u32 n81, V.int IntKind.u16 n82]) ∧ ∃ (n83 : Int), h'18.ld h1.next (9 : Nat) = some (V.int IntKind.u32 n83) ∧ ∃ (n84 : Int),
  h'18.ld h1.next (10 : Nat) = some (V.int IntKind.i64 n84) ∧ XCalls Try.prog (22 : Nat) [V.ptr (some (h'2.next, (0 : Nat))), V.agg [V.int IntKind.u32 n79, V.int IntKind.u16 n80, V.int IntKind.u32 n81, V.int IntKind.u16 n82], V.int
  IntKind.u32 n83, V.int IntKind.i64 n84] h'18 fun (v15 : V) (h'19 : Hp) => ∃ (n85 : Int), ∃ (n86 : Int), v15 = V.tup [V.int IntKind.u8 n85, V.int IntKind.u64 n86] ∧ XCalls Try.prog (23 : Nat) [V.ptr (some (h'2.next, (0 : Nat)))] h'19 fun
  (v16 : V) (h'20 : Hp) => ∃ (n87 : Int), ∃ (n88 : Int), v16 = V.tup [V.int IntKind.i64 n87, V.int IntKind.i64 n88] ∧ bif !b2 then K (V.bool false) h'20 else bif n77 != n85 then K (V.bool false) h'20 else bif n78 != n86 then K (V.bool false)
  h'20 else XCalls Try.prog (24 : Nat) [V.ptr a1] h'20 fun (v17 : V) (h'21 : Hp) => ∃ (n89 : Int), v17 = V.int IntKind.i64 n89 ∧ V.int IntKind.i64 n87 = V.int IntKind.i64 n87 ∧ bif n89 != n87 then K (V.bool false) h'21 else XCalls Try.prog
  (25 : Nat) [V.ptr a1] h'21 fun (v18 : V) (h'22 : Hp) => ∃ (n90 : Int), v18 = V.int IntKind.i64 n90 ∧ V.int IntKind.i64 n88 = V.int IntKind.i64 n88 ∧ bif n90 != n88 then K (V.bool false) h'22 else ∃ (n91 : Int), ∃ (n92 : Int), ∃ (n93 :
  Int), ∃ (n94 : Int), h'22.lda h1.next (1 : Nat) (4 : Nat) = some (V.agg [V.int IntKind.u32 n91, V.int IntKind.u16 n92, V.int IntKind.u32 n93, V.int IntKind.u16 n94]) ∧ ∃ (n95 : Int), ∃ (n96 : Int), ∃ (n97 : Int), ∃ (n98 : Int), h'22.lda
  h1.next (1 : Nat) (4 : Nat) = some (V.agg [V.int IntKind.u32 n95, V.int IntKind.u16 n96, V.int IntKind.u32 n97, V.int IntKind.u16 n98]) ∧ XCalls Try.prog (15 : Nat) [V.agg [V.int IntKind.u32 n91, V.int IntKind.u16 n92, V.int IntKind.u32
  n93, V.int IntKind.u16 n94]] h'22 fun (v19 : V) (h'23 : Hp) => ∃ (n99 : Int), v19 = V.int IntKind.i64 n99 ∧ (∃ (n100 : Int), ∃ (n101 : Int), ∃ (n102 : Int), ∃ (n103 : Int), h'23.lda h1.next (1 : Nat) (4 : Nat) = some (V.agg [V.int
  IntKind.u32 n100, V.int IntKind.u16 n101, V.int IntKind.u32 n102, V.int IntKind.u16 n103]) ∧ V.agg [V.int IntKind.u32 n100, V.int IntKind.u16 n101, V.int IntKind.u32 n102, V.int IntKind.u16 n103] = V.agg [V.int IntKind.u32 n95, V.int
  IntKind.u16 n96, V.int IntKind.u32 n97, V.int IntKind.u16 n98]) ∧ V.ptr (some (h1.next, (1 : Nat))) = V.ptr (some (h1.next, (1 : Nat))) ∧ XCalls Try.prog (26 : Nat) [V.agg [V.int IntKind.u32 n95, V.int IntKind.u16 n96, V.int IntKind.u32
  n97, V.int IntKind.u16 n98]] h'23 fun (v20 : V) (h'24 : Hp) => ∃ (n104 : Int), v20 = V.int IntKind.i64 n104 ∧ bif n99 != n104 then K (V.bool false) h'24 else [V.slc script script_n script_f, V.ptr a1, V.ptr (some (h'2.next, (0 : Nat)))] =
  [V.slc script script_n script_f, V.ptr a1, V.ptr (some (h'2.next, (0 : Nat)))] ∧ I1 [V.int IntKind.i64 (IntKind.i64.wrap (n1 + (1 : Int)))] h'24 ∧ x1 [V.int IntKind.i64 (IntKind.i64.wrap (n1 + (1 : Int)))] h'24 < x1 [V.int IntKind.i64 n1]
  h1 else XCalls Try.prog (8 : Nat) [] h1 fun (v21 : V) (h'25 : Hp) => ∃ (b3 : Bool), v21 = V.bool b3 ∧ K (V.bool b3) h'25
theorem y6 (h : Hp) (K : V → Hp → Prop) (script : Option (Nat × Nat)) (script_n : Nat) (script_f : Bool) : X6 h K script script_n script_f = fnX Try.prog T F jl6 jj6 Try.f6 [V.slc script script_n script_f] h K := by kernel_rfl
theorem x6 {h : Hp} {K : V → Hp → Prop} (script : Option (Nat × Nat)) (script_n : Nat) (script_f : Bool) (hx : X6 h K script script_n script_f) : XCalls Try.prog 6 [V.slc script script_n script_f] h K :=
  XCalls.ofX tok fok mixed (JL := jl6) (JJ := jj6) Try.func6 ((y6 h K script script_n script_f) ▸ hx) 
end Go.Vex
