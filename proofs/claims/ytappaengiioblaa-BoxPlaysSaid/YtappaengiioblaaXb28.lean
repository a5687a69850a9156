/-
  Functions of layer 28 as statements about data (printed by VexPrint).
-/
import Derived.Test.YtappaengiioblaaVexX
import Derived.Test.YtappaengiioblaaTab28
set_option linter.unusedVariables false
namespace Go.Vex
open Go.Proofs
/-! 5: stevedore/stevedorelaw28.BoxOrder -/
-- loop 10: stays script(2), n(7), room(8), b(9); turns put(11), at(12), i(13)
-- join 20: stays b(9), n(7), room(8), at(12), i(13), script(2); turns put(11)
def jl5 : Nat → Option JT := fun r => bif Nat.beq r 10 then some ⟨[2, 7, 8, 9], [11, 12, 13], [V.slc none (0 : Nat) true, V.int IntKind.i64 (0 : Int), V.int IntKind.i64 (0 : Int)]⟩ else none
def jj5 : Nat → Option JT := fun r => bif Nat.beq r 20 then some ⟨[9, 7, 8, 12, 13, 2], [11], [V.slc none (0 : Nat) true]⟩ else none
def X5 (h : Hp) (K : V → Hp → Prop) (most : Int) (bytes : Int) (script : Option (Nat × Nat)) (script_n : Nat) (script_f : Bool) : Prop :=
  XCalls Try.prog (20 : Nat) [V.slc script script_n script_f] h fun (v1 : V) (h'1 : Hp) =>
  ∃ (b1 : Bool),
    v1 = V.bool b1 ∧
      bif b1 then XCalls Try.prog (9 : Nat) [] h'1 fun (v2 : V) (h'2 : Hp) => ∃ (b2 : Bool), v2 = V.bool b2 ∧ K (V.bool b2) h'2
      else
        ¬(256 : Int) = (0 : Int) ∧
          XCalls Try.prog (21 : Nat)
            [V.int IntKind.i64 (IntKind.i64.wrap ((IntKind.i64.wrap most).tmod (256 : Int) + (1 : Int))), V.int IntKind.i64 (IntKind.i64.wrap (IntKind.i64.wrap bytes + (1 : Int)))] h'1
            fun (v3 : V) (h'3 : Hp) =>
            ∃ (a1 : Option (Nat × Nat)),
              ∃ (n1 : Int),
                v3 = V.tup [V.ptr a1, V.int IntKind.i64 n1] ∧
                  bif n1 != (0 : Int) then K (V.bool false) h'3
                  else
                    bif a1.isNone then K (V.bool false) h'3
                    else
                      ∃ (I1 : List V → Hp → Prop),
                        ∃ (x1 : List V → Hp → Nat),
                          ([V.slc script script_n script_f, V.int IntKind.i64 (IntKind.i64.wrap ((IntKind.i64.wrap most).tmod (256 : Int) + (1 : Int))),
                                  V.int IntKind.i64 (IntKind.i64.wrap (IntKind.i64.wrap bytes + (1 : Int))), V.ptr a1] =
                                [V.slc script script_n script_f, V.int IntKind.i64 (IntKind.i64.wrap ((IntKind.i64.wrap most).tmod (256 : Int) + (1 : Int))),
                                  V.int IntKind.i64 (IntKind.i64.wrap (IntKind.i64.wrap bytes + (1 : Int))), V.ptr a1] ∧
                              I1 [V.slc none (0 : Nat) true, V.int IntKind.i64 (0 : Int), V.int IntKind.i64 (0 : Int)] h'3) ∧
                            ∀ (bs1 : Nat → Option V) (a2 : Option (Nat × Nat)) (n2 : Nat) (f1 : Bool) (n3 n4 : Int) (h1 : Hp),
                              I1 [V.slc a2 n2 f1, V.int IntKind.i64 n3, V.int IntKind.i64 n4] h1 →
                                bif ltI n4 (↑script_n : Int) then
                                  ((0 : Int) ≤ n4 ∧ n4 < (↑script_n : Int)) ∧
                                    onS script fun (i1 o1 : Nat) =>
                                      ∃ (b3 : Bool),
                                        h1.ld i1 (o1 + n4.toNat * (6 : Nat) + (0 : Nat)) = some (V.bool b3) ∧
                                          bif b3 then
                                            XCalls Try.prog (22 : Nat) [V.ptr a1] h1 fun (v4 : V) (h'4 : Hp) =>
                                              ∃ (n5 : Int),
                                                ∃ (n6 : Int),
                                                  ∃ (s1 : List UInt8),
                                                    ∃ (b4 : Bool),
                                                      v4 = V.tup [V.agg [V.int IntKind.u32 n5, V.int IntKind.u16 n6, V.str s1], V.bool b4] ∧
                                                        ∀ (h'5 : Hp),
                                                          h'5 = h'4.alloc (O.row [V.int IntKind.u32 (0 : Int), V.int IntKind.u16 (0 : Int), V.str []] (1 : Nat) false) →
                                                            ∃ (h'6 : Hp),
                                                              h'5.st h'4.next (0 : Nat) [V.int IntKind.u32 n5, V.int IntKind.u16 n6, V.str s1] = some h'6 ∧
                                                                bif !b4 == ltI n3 (↑n2 : Int) then K (V.bool false) h'6
                                                                else
                                                                  bif b4 then
                                                                    ∃ (n7 : Int),
                                                                      ∃ (n8 : Int),
                                                                        ∃ (s2 : List UInt8),
                                                                          h'6.lda h'4.next (0 : Nat) (3 : Nat) = some (V.agg [V.int IntKind.u32 n7, V.int IntKind.u16 n8, V.str s2]) ∧
                                                                            ((0 : Int) ≤ n3 ∧ n3 < (↑n2 : Int)) ∧
                                                                              onS a2 fun (i2 o2 : Nat) =>
                                                                                ∃ (n9 : Int),
                                                                                  ∃ (n10 : Int),
                                                                                    ∃ (s3 : List UInt8),
                                                                                      h'6.lda i2 (o2 + n3.toNat * (3 : Nat)) (3 : Nat) =
                                                                                          some (V.agg [V.int IntKind.u32 n9, V.int IntKind.u16 n10, V.str s3]) ∧
                                                                                        bif !(n7 == n9 && (n8 == n10 && true) && (s2 == s3 && true)) then K (V.bool false) h'6
                                                                                        else
                                                                                          bif b4 then
                                                                                            [V.slc script script_n script_f,
                                                                                                  V.int IntKind.i64 (IntKind.i64.wrap ((IntKind.i64.wrap most).tmod (256 : Int) + (1 : Int))),
                                                                                                  V.int IntKind.i64 (IntKind.i64.wrap (IntKind.i64.wrap bytes + (1 : Int))), V.ptr a1] =
                                                                                                [V.slc script script_n script_f,
                                                                                                  V.int IntKind.i64 (IntKind.i64.wrap ((IntKind.i64.wrap most).tmod (256 : Int) + (1 : Int))),
                                                                                                  V.int IntKind.i64 (IntKind.i64.wrap (IntKind.i64.wrap bytes + (1 : Int))), V.ptr a1] ∧
                                                                                              I1
                                                                                                  [V.slc a2 n2 f1, V.int IntKind.i64 (IntKind.i64.wrap (n3 + (1 : Int))),
                                                                                                    V.int IntKind.i64 (IntKind.i64.wrap (n4 + (1 : Int)))]
                                                                                                  h'6 ∧
                                                                                                x1
                                                                                                    [V.slc a2 n2 f1, V.int IntKind.i64 (IntKind.i64.wrap (n3 + (1 : Int))),
                                                                                                      V.int IntKind.i64 (IntKind.i64.wrap (n4 + (1 : Int)))]
                                                                                                    h'6 <
                                                                                                  x1 [V.slc a2 n2 f1, V.int IntKind.i64 n3, V.int IntKind.i64 n4] h1
                                                                                          else
                                                                                            [V.slc script script_n script_f,
                                                                                                  V.int IntKind.i64 (IntKind.i64.wrap ((IntKind.i64.wrap most).tmod (256 : Int) + (1 : Int))),
                                                                                                  V.int IntKind.i64 (IntKind.i64.wrap (IntKind.i64.wrap bytes + (1 : Int))), V.ptr a1] =
                                                                                                [V.slc script script_n script_f,
                                                                                                  V.int IntKind.i64 (IntKind.i64.wrap ((IntKind.i64.wrap most).tmod (256 : Int) + (1 : Int))),
                                                                                                  V.int IntKind.i64 (IntKind.i64.wrap (IntKind.i64.wrap bytes + (1 : Int))), V.ptr a1] ∧
                                                                                              I1 [V.slc a2 n2 f1, V.int IntKind.i64 n3, V.int IntKind.i64 (IntKind.i64.wrap (n4 + (1 : Int)))] h'6 ∧
                                                                                                x1 [V.slc a2 n2 f1, V.int IntKind.i64 n3, V.int IntKind.i64 (IntKind.i64.wrap (n4 + (1 : Int)))] h'6 <
                                                                                                  x1 [V.slc a2 n2 f1, V.int IntKind.i64 n3, V.int IntKind.i64 n4] h1
                                                                  else
                                                                    bif b4 then
                                                                      [V.slc script script_n script_f, V.int IntKind.i64 (IntKind.i64.wrap ((IntKind.i64.wrap most).tmod (256 : Int) + (1 : Int))),
                                                                            V.int IntKind.i64 (IntKind.i64.wrap (IntKind.i64.wrap bytes + (1 : Int))), V.ptr a1] =
                                                                          [V.slc script script_n script_f, V.int IntKind.i64 (IntKind.i64.wrap ((IntKind.i64.wrap most).tmod (256 : Int) + (1 : Int))),
                                                                            V.int IntKind.i64 (IntKind.i64.wrap (IntKind.i64.wrap bytes + (1 : Int))), V.ptr a1] ∧
                                                                        I1
                                                                            [V.slc a2 n2 f1, V.int IntKind.i64 (IntKind.i64.wrap (n3 + (1 : Int))),
                                                                              V.int IntKind.i64 (IntKind.i64.wrap (n4 + (1 : Int)))]
                                                                            h'6 ∧
                                                                          x1
                                                                              [V.slc a2 n2 f1, V.int IntKind.i64 (IntKind.i64.wrap (n3 + (1 : Int))),
                                                                                V.int IntKind.i64 (IntKind.i64.wrap (n4 + (1 : Int)))]
                                                                              h'6 <
                                                                            x1 [V.slc a2 n2 f1, V.int IntKind.i64 n3, V.int IntKind.i64 n4] h1
                                                                    else
                                                                      [V.slc script script_n script_f, V.int IntKind.i64 (IntKind.i64.wrap ((IntKind.i64.wrap most).tmod (256 : Int) + (1 : Int))),
                                                                            V.int IntKind.i64 (IntKind.i64.wrap (IntKind.i64.wrap bytes + (1 : Int))), V.ptr a1] =
                                                                          [V.slc script script_n script_f, V.int IntKind.i64 (IntKind.i64.wrap ((IntKind.i64.wrap most).tmod (256 : Int) + (1 : Int))),
                                                                            V.int IntKind.i64 (IntKind.i64.wrap (IntKind.i64.wrap bytes + (1 : Int))), V.ptr a1] ∧
                                                                        I1 [V.slc a2 n2 f1, V.int IntKind.i64 n3, V.int IntKind.i64 (IntKind.i64.wrap (n4 + (1 : Int)))] h'6 ∧
                                                                          x1 [V.slc a2 n2 f1, V.int IntKind.i64 n3, V.int IntKind.i64 (IntKind.i64.wrap (n4 + (1 : Int)))] h'6 <
                                                                            x1 [V.slc a2 n2 f1, V.int IntKind.i64 n3, V.int IntKind.i64 n4] h1
                                          else
                                            ∃ (Q1 : List V → Hp → Prop),
                                              (((0 : Int) ≤ n4 ∧ n4 < (↑script_n : Int)) ∧
                                                  onS script fun (i3 o3 : Nat) =>
                                                    ∃ (n11 : Int),
                                                      ∃ (n12 : Int),
                                                        ∃ (s4 : List UInt8),
                                                          h1.lda i3 (o3 + n4.toNat * (6 : Nat) + (2 : Nat)) (3 : Nat) = some (V.agg [V.int IntKind.u32 n11, V.int IntKind.u16 n12, V.str s4]) ∧
                                                            XCalls Try.prog (23 : Nat) [V.ptr a1, V.agg [V.int IntKind.u32 n11, V.int IntKind.u16 n12, V.str s4]] h1 fun (v5 : V) (h'7 : Hp) =>
                                                              ∃ (n13 : Int),
                                                                v5 = V.int IntKind.i64 n13 ∧
                                                                  bif n13 == (0 : Int) then
                                                                    ((0 : Int) ≤ n4 ∧ n4 < (↑script_n : Int)) ∧
                                                                      onS script fun (i4 o4 : Nat) =>
                                                                        ∃ (n14 : Int),
                                                                          ∃ (n15 : Int),
                                                                            ∃ (s5 : List UInt8),
                                                                              h'7.lda i4 (o4 + n4.toNat * (6 : Nat) + (2 : Nat)) (3 : Nat) =
                                                                                  some (V.agg [V.int IntKind.u32 n14, V.int IntKind.u16 n15, V.str s5]) ∧
                                                                                ∀ (h'8 : Hp),
                                                                                  h'8 = h'7.alloc (O.row [V.int IntKind.u32 n14, V.int IntKind.u16 n15, V.str s5] (3 : Nat) false) →
                                                                                    ∃ (p1 : Option (Nat × Nat)),
                                                                                      ∃ (n16 : Nat),
                                                                                        ∃ (f2 : Bool),
                                                                                          ∃ (h'9 : Hp),
                                                                                            xapp T h'8 (59 : Nat) (59 : Nat) (V.slc a2 n2 f1) (V.slc (some (h'7.next, (0 : Nat))) (1 : Nat) true) =
                                                                                                some (V.slc p1 n16 f2, h'9) ∧
                                                                                              [V.ptr a1, V.int IntKind.i64 (IntKind.i64.wrap ((IntKind.i64.wrap most).tmod (256 : Int) + (1 : Int))),
                                                                                                    V.int IntKind.i64 (IntKind.i64.wrap (IntKind.i64.wrap bytes + (1 : Int))), V.int IntKind.i64 n3,
                                                                                                    V.int IntKind.i64 n4, V.slc script script_n script_f] =
                                                                                                  [V.ptr a1,
                                                                                                    V.int IntKind.i64 (IntKind.i64.wrap ((IntKind.i64.wrap most).tmod (256 : Int) + (1 : Int))),
                                                                                                    V.int IntKind.i64 (IntKind.i64.wrap (IntKind.i64.wrap bytes + (1 : Int))), V.int IntKind.i64 n3,
                                                                                                    V.int IntKind.i64 n4, V.slc script script_n script_f] ∧
                                                                                                Q1 [V.slc p1 n16 f2] h'9
                                                                  else
                                                                    [V.ptr a1, V.int IntKind.i64 (IntKind.i64.wrap ((IntKind.i64.wrap most).tmod (256 : Int) + (1 : Int))),
                                                                          V.int IntKind.i64 (IntKind.i64.wrap (IntKind.i64.wrap bytes + (1 : Int))), V.int IntKind.i64 n3, V.int IntKind.i64 n4,
                                                                          V.slc script script_n script_f] =
                                                                        [V.ptr a1, V.int IntKind.i64 (IntKind.i64.wrap ((IntKind.i64.wrap most).tmod (256 : Int) + (1 : Int))),
                                                                          V.int IntKind.i64 (IntKind.i64.wrap (IntKind.i64.wrap bytes + (1 : Int))), V.int IntKind.i64 n3, V.int IntKind.i64 n4,
                                                                          V.slc script script_n script_f] ∧
                                                                      Q1 [V.slc a2 n2 f1] h'7) ∧
                                                ∀ (bs2 : Nat → Option V) (a3 : Option (Nat × Nat)) (n17 : Nat) (f3 : Bool) (h2 : Hp),
                                                  Q1 [V.slc a3 n17 f3] h2 →
                                                    XCalls Try.prog (24 : Nat) [V.ptr a1] h2 fun (v6 : V) (h'10 : Hp) =>
                                                      ∃ (n18 : Int),
                                                        ∃ (n19 : Int),
                                                          v6 = V.tup [V.int IntKind.i64 n18, V.int IntKind.i64 n19] ∧
                                                            bif ltI (IntKind.i64.wrap ((IntKind.i64.wrap most).tmod (256 : Int) + (1 : Int))) n18 then K (V.bool false) h'10
                                                            else
                                                              bif ltI (IntKind.i64.wrap (IntKind.i64.wrap bytes + (1 : Int))) n19 then K (V.bool false) h'10
                                                              else
                                                                bif n18 != IntKind.i64.wrap ((↑n17 : Int) - n3) then K (V.bool false) h'10
                                                                else
                                                                  [V.slc script script_n script_f, V.int IntKind.i64 (IntKind.i64.wrap ((IntKind.i64.wrap most).tmod (256 : Int) + (1 : Int))),
                                                                        V.int IntKind.i64 (IntKind.i64.wrap (IntKind.i64.wrap bytes + (1 : Int))), V.ptr a1] =
                                                                      [V.slc script script_n script_f, V.int IntKind.i64 (IntKind.i64.wrap ((IntKind.i64.wrap most).tmod (256 : Int) + (1 : Int))),
                                                                        V.int IntKind.i64 (IntKind.i64.wrap (IntKind.i64.wrap bytes + (1 : Int))), V.ptr a1] ∧
                                                                    I1 [V.slc a3 n17 f3, V.int IntKind.i64 n3, V.int IntKind.i64 (IntKind.i64.wrap (n4 + (1 : Int)))] h'10 ∧
                                                                      x1 [V.slc a3 n17 f3, V.int IntKind.i64 n3, V.int IntKind.i64 (IntKind.i64.wrap (n4 + (1 : Int)))] h'10 <
                                                                        x1 [V.slc a2 n2 f1, V.int IntKind.i64 n3, V.int IntKind.i64 n4] h1
                                else XCalls Try.prog (9 : Nat) [] h1 fun (v7 : V) (h'11 : Hp) => ∃ (b5 : Bool), v7 = V.bool b5 ∧ K (V.bool b5) h'11
theorem x5 {h : Hp} {K : V → Hp → Prop} (most : Int) (bytes : Int) (script : Option (Nat × Nat)) (script_n : Nat) (script_f : Bool) (hx : X5 h K most bytes script script_n script_f) : XCalls Try.prog 5 [V.int IntKind.u8 most, V.int IntKind.u16 bytes, V.slc script script_n script_f] h K :=
  XCalls.ofX tok fok mixed (JL := jl5) (JJ := jj5) Try.func5 (cast (by kernel_rfl) hx)
/-! 20: stevedore/stevedorelaw28.heavy -/
-- loop 3: stays l(0); turns n(3), i(4)
def jl20 : Nat → Option JT := fun r => bif Nat.beq r 3 then some ⟨[0], [3, 4], [V.int IntKind.i64 (0 : Int), V.int IntKind.i64 (0 : Int)]⟩ else none
def jj20 : Nat → Option JT := fun r => none
def X20 (h : Hp) (K : V → Hp → Prop) (l : Option (Nat × Nat)) (l_n : Nat) (l_f : Bool) : Prop :=
  ∃ (I1 : List V → Hp → Prop),
  ∃ (x1 : List V → Hp → Nat),
    ([V.slc l l_n l_f] = [V.slc l l_n l_f] ∧ I1 [V.int IntKind.i64 (0 : Int), V.int IntKind.i64 (0 : Int)] h) ∧
      ∀ (bs1 : Nat → Option V) (n1 n2 : Int) (h1 : Hp),
        I1 [V.int IntKind.i64 n1, V.int IntKind.i64 n2] h1 →
          bif ltI n2 (↑l_n : Int) then
            bif ltI n2 (500 : Int) then
              ((0 : Int) ≤ n2 ∧ n2 < (↑l_n : Int)) ∧
                onS l fun (i1 o1 : Nat) =>
                  ∃ (s1 : List UInt8),
                    h1.ld i1 (o1 + n2.toNat * (6 : Nat) + (2 : Nat) + (2 : Nat)) = some (V.str s1) ∧
                      [V.slc l l_n l_f] = [V.slc l l_n l_f] ∧
                        I1 [V.int IntKind.i64 (IntKind.i64.wrap (n1 + (↑s1.length : Int))), V.int IntKind.i64 (IntKind.i64.wrap (n2 + (1 : Int)))] h1 ∧
                          x1 [V.int IntKind.i64 (IntKind.i64.wrap (n1 + (↑s1.length : Int))), V.int IntKind.i64 (IntKind.i64.wrap (n2 + (1 : Int)))] h1 <
                            x1 [V.int IntKind.i64 n1, V.int IntKind.i64 n2] h1
            else bif ltI (250 : Int) (↑l_n : Int) then K (V.bool true) h1 else K (V.bool (ltI (8192 : Int) n1)) h1
          else bif ltI (250 : Int) (↑l_n : Int) then K (V.bool true) h1 else K (V.bool (ltI (8192 : Int) n1)) h1
theorem x20 {h : Hp} {K : V → Hp → Prop} (l : Option (Nat × Nat)) (l_n : Nat) (l_f : Bool) (hx : X20 h K l l_n l_f) : XCalls Try.prog 20 [V.slc l l_n l_f] h K :=
  XCalls.ofX tok fok mixed (JL := jl20) (JJ := jj20) Try.func20 (cast (by kernel_rfl) hx)
/-! 21: stevedore/inet.NewBox -/
def jl21 : Nat → Option JT := fun r => none
def jj21 : Nat → Option JT := fun r => none
def X21 (h : Hp) (K : V → Hp → Prop) (most : Int) (bytes : Int) : Prop :=
  bif ltI most (1 : Int) then K (V.tup [V.ptr none, V.int IntKind.i64 (2 : Int)]) h
else
  bif ltI (256 : Int) most then K (V.tup [V.ptr none, V.int IntKind.i64 (2 : Int)]) h
  else
    bif ltI bytes (1 : Int) then K (V.tup [V.ptr none, V.int IntKind.i64 (2 : Int)]) h
    else
      bif ltI (16769792 : Int) bytes then K (V.tup [V.ptr none, V.int IntKind.i64 (2 : Int)]) h
      else
        ∀ (h'1 : Hp),
          h'1 =
              h.alloc
                (O.row [V.int IntKind.u64 (0 : Int), V.int IntKind.i64 most, V.int IntKind.i64 bytes, V.slc none (0 : Nat) true, V.int IntKind.i64 (0 : Int), V.int IntKind.i64 (0 : Int)] (1 : Nat)
                  false) →
            K (V.tup [V.ptr (some (h.next, (0 : Nat))), V.int IntKind.i64 (0 : Int)]) h'1
theorem x21 {h : Hp} {K : V → Hp → Prop} (most : Int) (bytes : Int) (hx : X21 h K most bytes) : XCalls Try.prog 21 [V.int IntKind.i64 most, V.int IntKind.i64 bytes] h K :=
  XCalls.ofX tok fok mixed (JL := jl21) (JJ := jj21) Try.func21 (cast (by kernel_rfl) hx)
/-! 22: (*stevedore/inet.Box).Get -/
def jl22 : Nat → Option JT := fun r => none
def jj22 : Nat → Option JT := fun r => none
def X22 (h : Hp) (K : V → Hp → Prop) (b : Nat) : Prop :=
  ∀ (h'1 : Hp),
  h'1 = h.alloc (O.row [V.int IntKind.u32 (0 : Int), V.int IntKind.u16 (0 : Int), V.str []] (1 : Nat) false) →
    ∃ (a1 : Option (Nat × Nat)),
      ∃ (n1 : Nat),
        ∃ (f1 : Bool),
          h'1.ld b (3 : Nat) = some (V.slc a1 n1 f1) ∧
            bif (↑n1 : Int) == (0 : Int) then
              ∃ (h'2 : Hp),
                h'1.st h.next (0 : Nat) [V.int IntKind.u32 (0 : Int), V.int IntKind.u16 (0 : Int), V.str []] = some h'2 ∧
                  ∃ (n2 : Int),
                    ∃ (n3 : Int),
                      ∃ (s1 : List UInt8),
                        h'2.lda h.next (0 : Nat) (3 : Nat) = some (V.agg [V.int IntKind.u32 n2, V.int IntKind.u16 n3, V.str s1]) ∧
                          K (V.tup [V.agg [V.int IntKind.u32 n2, V.int IntKind.u16 n3, V.str s1], V.bool false]) h'2
            else
              ∃ (a2 : Option (Nat × Nat)),
                ∃ (n4 : Nat),
                  ∃ (f2 : Bool),
                    h'1.ld b (3 : Nat) = some (V.slc a2 n4 f2) ∧
                      ((0 : Int) ≤ (0 : Int) ∧ (0 : Int) < (↑n4 : Int)) ∧
                        onS a2 fun (i1 o1 : Nat) =>
                          ∃ (n5 : Int),
                            ∃ (n6 : Int),
                              ∃ (s2 : List UInt8),
                                h'1.lda i1 (o1 + Int.toNat (0 : Int) * (3 : Nat)) (3 : Nat) = some (V.agg [V.int IntKind.u32 n5, V.int IntKind.u16 n6, V.str s2]) ∧
                                  ∀ (h'3 : Hp),
                                    h'3 = h'1.alloc (O.row [V.int IntKind.u32 (0 : Int), V.int IntKind.u16 (0 : Int), V.str []] (1 : Nat) false) →
                                      ∃ (h'4 : Hp),
                                        h'3.st h'1.next (0 : Nat) [V.int IntKind.u32 n5, V.int IntKind.u16 n6, V.str s2] = some h'4 ∧
                                          ∃ (a3 : Option (Nat × Nat)),
                                            ∃ (n7 : Nat),
                                              ∃ (f3 : Bool),
                                                h'4.ld b (3 : Nat) = some (V.slc a3 n7 f3) ∧
                                                  ∃ (a4 : Option (Nat × Nat)),
                                                    ∃ (n8 : Nat),
                                                      ∃ (f4 : Bool),
                                                        xslice T h'4 (59 : Nat) (V.slc a3 n7 f3) (some (V.int IntKind.i64 (1 : Int))) none none = some (V.slc a4 n8 f4) ∧
                                                          ∃ (h'5 : Hp),
                                                            h'4.st b (3 : Nat) [V.slc a4 n8 f4] = some h'5 ∧
                                                              ∃ (n9 : Int),
                                                                h'5.ld b (4 : Nat) = some (V.int IntKind.i64 n9) ∧
                                                                  ∃ (s3 : List UInt8),
                                                                    h'5.ld h'1.next (2 : Nat) = some (V.str s3) ∧
                                                                      ∃ (h'6 : Hp),
                                                                        h'5.st b (4 : Nat) [V.int IntKind.i64 (IntKind.i64.wrap (n9 - (↑s3.length : Int)))] = some h'6 ∧
                                                                          ∃ (n10 : Int),
                                                                            ∃ (n11 : Int),
                                                                              ∃ (s4 : List UInt8),
                                                                                h'6.lda h'1.next (0 : Nat) (3 : Nat) = some (V.agg [V.int IntKind.u32 n10, V.int IntKind.u16 n11, V.str s4]) ∧
                                                                                  ∃ (h'7 : Hp),
                                                                                    h'6.st h.next (0 : Nat) [V.int IntKind.u32 n10, V.int IntKind.u16 n11, V.str s4] = some h'7 ∧
                                                                                      ∃ (n12 : Int),
                                                                                        ∃ (n13 : Int),
                                                                                          ∃ (s5 : List UInt8),
                                                                                            h'7.lda h.next (0 : Nat) (3 : Nat) = some (V.agg [V.int IntKind.u32 n12, V.int IntKind.u16 n13, V.str s5]) ∧
                                                                                              K (V.tup [V.agg [V.int IntKind.u32 n12, V.int IntKind.u16 n13, V.str s5], V.bool true]) h'7
theorem x22 {h : Hp} {K : V → Hp → Prop} (b : Nat) (hx : X22 h K b) : XCalls Try.prog 22 [V.ptr (some (b, (0 : Nat)))] h K :=
  XCalls.ofX tok fok mixed (JL := jl22) (JJ := jj22) Try.func22 (cast (by kernel_rfl) hx)
/-! 23: (*stevedore/inet.Box).Put -/
def jl23 : Nat → Option JT := fun r => none
def jj23 : Nat → Option JT := fun r => none
def X23 (h : Hp) (K : V → Hp → Prop) (b : Nat) (m_0 : Int) (m_1 : Int) (m_2 : List UInt8) : Prop :=
  ∀ (h'1 : Hp),
  h'1 = h.alloc (O.row [V.int IntKind.u32 m_0, V.int IntKind.u16 m_1, V.str m_2] (1 : Nat) false) →
    ∃ (n1 : Int),
      h'1.ld b (1 : Nat) = some (V.int IntKind.i64 n1) ∧
        bif n1 == (0 : Int) then K (V.int IntKind.i64 (1 : Int)) h'1
        else
          ∃ (a1 : Option (Nat × Nat)),
            ∃ (n2 : Nat),
              ∃ (f1 : Bool),
                h'1.ld b (3 : Nat) = some (V.slc a1 n2 f1) ∧
                  ∃ (n3 : Int),
                    h'1.ld b (1 : Nat) = some (V.int IntKind.i64 n3) ∧
                      bif !ltI (↑n2 : Int) n3 then
                        bif !ltI (↑n2 : Int) n3 then XCalls Try.prog (41 : Nat) [V.ptr (some (b, (0 : Nat)))] h'1 fun (v1 : V) (h'2 : Hp) => K (V.int IntKind.i64 (6 : Int)) h'2
                        else
                          ∃ (a2 : Option (Nat × Nat)),
                            ∃ (n4 : Nat),
                              ∃ (f2 : Bool),
                                h'1.ld b (3 : Nat) = some (V.slc a2 n4 f2) ∧
                                  ∃ (n5 : Int),
                                    ∃ (n6 : Int),
                                      ∃ (s1 : List UInt8),
                                        h'1.lda h.next (0 : Nat) (3 : Nat) = some (V.agg [V.int IntKind.u32 n5, V.int IntKind.u16 n6, V.str s1]) ∧
                                          ∀ (h'3 : Hp),
                                            h'3 = h'1.alloc (O.row [V.int IntKind.u32 n5, V.int IntKind.u16 n6, V.str s1] (3 : Nat) false) →
                                              (∃ (a3 : Option (Nat × Nat)), ∃ (n7 : Nat), ∃ (f3 : Bool), h'3.ld b (3 : Nat) = some (V.slc a3 n7 f3) ∧ V.slc a3 n7 f3 = V.slc a2 n4 f2) ∧
                                                V.ptr (some (b, (3 : Nat))) = V.ptr (some (b, (3 : Nat))) ∧
                                                  V.ptr (some (b, (0 : Nat))) = V.ptr (some (b, (0 : Nat))) ∧
                                                    V.ptr (some (b, (0 : Nat))) = V.ptr (some (b, (0 : Nat))) ∧
                                                      V.ptr (some (b, (0 : Nat))) = V.ptr (some (b, (0 : Nat))) ∧
                                                        ∃ (p1 : Option (Nat × Nat)),
                                                          ∃ (n8 : Nat),
                                                            ∃ (f4 : Bool),
                                                              ∃ (h'4 : Hp),
                                                                xapp T h'3 (59 : Nat) (59 : Nat) (V.slc a2 n4 f2) (V.slc (some (h'1.next, (0 : Nat))) (1 : Nat) true) = some (V.slc p1 n8 f4, h'4) ∧
                                                                  V.ptr (some (b, (0 : Nat))) = V.ptr (some (b, (0 : Nat))) ∧
                                                                    ∃ (h'5 : Hp),
                                                                      h'4.st b (3 : Nat) [V.slc p1 n8 f4] = some h'5 ∧
                                                                        ∃ (n9 : Int),
                                                                          h'5.ld b (4 : Nat) = some (V.int IntKind.i64 n9) ∧
                                                                            ∃ (s2 : List UInt8),
                                                                              h'5.ld h.next (2 : Nat) = some (V.str s2) ∧
                                                                                ∃ (h'6 : Hp),
                                                                                  h'5.st b (4 : Nat) [V.int IntKind.i64 (IntKind.i64.wrap (n9 + (↑s2.length : Int)))] = some h'6 ∧
                                                                                    K (V.int IntKind.i64 (0 : Int)) h'6
                      else
                        ∃ (s3 : List UInt8),
                          h'1.ld h.next (2 : Nat) = some (V.str s3) ∧
                            ∃ (n10 : Int),
                              h'1.ld b (2 : Nat) = some (V.int IntKind.i64 n10) ∧
                                ∃ (n11 : Int),
                                  h'1.ld b (4 : Nat) = some (V.int IntKind.i64 n11) ∧
                                    bif ltI (IntKind.i64.wrap (n10 - n11)) (↑s3.length : Int) then
                                      XCalls Try.prog (41 : Nat) [V.ptr (some (b, (0 : Nat)))] h'1 fun (v2 : V) (h'7 : Hp) => K (V.int IntKind.i64 (6 : Int)) h'7
                                    else
                                      ∃ (a4 : Option (Nat × Nat)),
                                        ∃ (n12 : Nat),
                                          ∃ (f5 : Bool),
                                            h'1.ld b (3 : Nat) = some (V.slc a4 n12 f5) ∧
                                              ∃ (n13 : Int),
                                                ∃ (n14 : Int),
                                                  ∃ (s4 : List UInt8),
                                                    h'1.lda h.next (0 : Nat) (3 : Nat) = some (V.agg [V.int IntKind.u32 n13, V.int IntKind.u16 n14, V.str s4]) ∧
                                                      ∀ (h'8 : Hp),
                                                        h'8 = h'1.alloc (O.row [V.int IntKind.u32 n13, V.int IntKind.u16 n14, V.str s4] (3 : Nat) false) →
                                                          (∃ (a5 : Option (Nat × Nat)), ∃ (n15 : Nat), ∃ (f6 : Bool), h'8.ld b (3 : Nat) = some (V.slc a5 n15 f6) ∧ V.slc a5 n15 f6 = V.slc a4 n12 f5) ∧
                                                            V.ptr (some (b, (3 : Nat))) = V.ptr (some (b, (3 : Nat))) ∧
                                                              V.ptr (some (b, (0 : Nat))) = V.ptr (some (b, (0 : Nat))) ∧
                                                                V.ptr (some (b, (0 : Nat))) = V.ptr (some (b, (0 : Nat))) ∧
                                                                  V.ptr (some (b, (0 : Nat))) = V.ptr (some (b, (0 : Nat))) ∧
                                                                    ∃ (p2 : Option (Nat × Nat)),
                                                                      ∃ (n16 : Nat),
                                                                        ∃ (f7 : Bool),
                                                                          ∃ (h'9 : Hp),
                                                                            xapp T h'8 (59 : Nat) (59 : Nat) (V.slc a4 n12 f5) (V.slc (some (h'1.next, (0 : Nat))) (1 : Nat) true) =
                                                                                some (V.slc p2 n16 f7, h'9) ∧
                                                                              V.ptr (some (b, (0 : Nat))) = V.ptr (some (b, (0 : Nat))) ∧
                                                                                ∃ (h'10 : Hp),
                                                                                  h'9.st b (3 : Nat) [V.slc p2 n16 f7] = some h'10 ∧
                                                                                    ∃ (n17 : Int),
                                                                                      h'10.ld b (4 : Nat) = some (V.int IntKind.i64 n17) ∧
                                                                                        ∃ (s5 : List UInt8),
                                                                                          h'10.ld h.next (2 : Nat) = some (V.str s5) ∧
                                                                                            ∃ (h'11 : Hp),
                                                                                              h'10.st b (4 : Nat) [V.int IntKind.i64 (IntKind.i64.wrap (n17 + (↑s5.length : Int)))] = some h'11 ∧
                                                                                                K (V.int IntKind.i64 (0 : Int)) h'11
theorem x23 {h : Hp} {K : V → Hp → Prop} (b : Nat) (m_0 : Int) (m_1 : Int) (m_2 : List UInt8) (hx : X23 h K b m_0 m_1 m_2) : XCalls Try.prog 23 [V.ptr (some (b, (0 : Nat))), V.agg [V.int IntKind.u32 m_0, V.int IntKind.u16 m_1, V.str m_2]] h K :=
  XCalls.ofX tok fok mixed (JL := jl23) (JJ := jj23) Try.func23 (cast (by kernel_rfl) hx)
/-! 24: (*stevedore/inet.Box).Len -/
def jl24 : Nat → Option JT := fun r => none
def jj24 : Nat → Option JT := fun r => none
def X24 (h : Hp) (K : V → Hp → Prop) (b : Nat) : Prop :=
  ∃ (a1 : Option (Nat × Nat)),
  ∃ (n1 : Nat),
    ∃ (f1 : Bool), h.ld b (3 : Nat) = some (V.slc a1 n1 f1) ∧ ∃ (n2 : Int), h.ld b (4 : Nat) = some (V.int IntKind.i64 n2) ∧ K (V.tup [V.int IntKind.i64 (↑n1 : Int), V.int IntKind.i64 n2]) h
theorem x24 {h : Hp} {K : V → Hp → Prop} (b : Nat) (hx : X24 h K b) : XCalls Try.prog 24 [V.ptr (some (b, (0 : Nat)))] h K :=
  XCalls.ofX tok fok mixed (JL := jl24) (JJ := jj24) Try.func24 (cast (by kernel_rfl) hx)
/-! 41: (*stevedore/inet.losses).lose -/
def jl41 : Nat → Option JT := fun r => none
def jj41 : Nat → Option JT := fun r => none
def X41 (h : Hp) (K : V → Hp → Prop) (l : Nat) : Prop :=
  ∃ (n1 : Int), h.ld l (0 : Nat) = some (V.int IntKind.u64 n1) ∧ ∃ (h'1 : Hp), h.st l (0 : Nat) [V.int IntKind.u64 (IntKind.u64.wrap (n1 + (1 : Int)))] = some h'1 ∧ K (V.tup []) h'1
theorem x41 {h : Hp} {K : V → Hp → Prop} (l : Nat) (hx : X41 h K l) : XCalls Try.prog 41 [V.ptr (some (l, (0 : Nat)))] h K :=
  XCalls.ofX tok fok mixed (JL := jl41) (JJ := jj41) Try.func41 (cast (by kernel_rfl) hx)
end Go.Vex
