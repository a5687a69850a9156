/-
  CallPlaces as a statement about data (printed by VexPrint).
-/
import Derived.Test.YtibmhpkmmcgncaaVexX
import Derived.Test.YtibmhpkmmcgncaaTab29
set_option linter.unusedVariables false
set_option maxRecDepth 100000
namespace Go.Vex
open Go.Proofs
/-! 6: stevedore/stevedorelaw29.CallPlaces -/
-- join 10: stays t(7), share(1), a(3); turns proto(9)
def jl6 : Nat → Option JT := fun r => none
def jj6 : Nat → Option JT := fun r => bif Nat.beq r 10 then some ⟨[7, 1, 3], [9], [V.int IntKind.u8 (0 : Int)]⟩ else none
def X6 (h : Hp) (K : V → Hp → Prop) (a_0 : Int) (a_1 : Int) (share : Bool) (udp : Bool) : Prop :=
  ∀ (h'1 : Hp),
  h'1 = h.alloc (O.row [V.int IntKind.u32 a_0, V.int IntKind.u16 a_1] (1 : Nat) false) →
    ∃ (n1 : Int),
      h'1.ld h.next (1 : Nat) = some (V.int IntKind.u16 n1) ∧
        bif n1 == (0 : Int) then XCalls Try.prog (17 : Nat) [] h'1 fun (v1 : V) (h'2 : Hp) => ∃ (b1 : Bool), v1 = V.bool b1 ∧ K (V.bool b1) h'2
        else
          ∃ (n2 : Int),
            h'1.ld h.next (0 : Nat) = some (V.int IntKind.u32 n2) ∧
              ¬(2 : Int) = (0 : Int) ∧
                ∃ (h'3 : Hp),
                  h'1.st h.next (0 : Nat) [V.int IntKind.u32 (IntKind.u32.wrap (n2.tmod (2 : Int) * (7 : Int)))] = some h'3 ∧
                    ∀ (h'4 : Hp),
                      h'4 = h'3.alloc (O.row [V.int IntKind.u32 (7 : Int)] (1 : Nat) false) →
                        XCalls Try.prog (8 : Nat) [V.int IntKind.i64 (9 : Int), V.slc (some (h'3.next, (0 : Nat))) (1 : Nat) true] h'4 fun (v2 : V) (h'5 : Hp) =>
                          ∃ (a1 : Option (Nat × Nat)),
                            ∃ (n3 : Int),
                              v2 = V.tup [V.ptr a1, V.int IntKind.i64 n3] ∧
                                bif n3 != (0 : Int) then K (V.bool false) h'5
                                else
                                  bif a1.isNone then K (V.bool false) h'5
                                  else
                                    ∃ (Q1 : List V → Hp → Prop),
                                      (bif udp then
                                          [V.ptr a1, V.bool share, V.ptr (some (h.next, (0 : Nat)))] = [V.ptr a1, V.bool share, V.ptr (some (h.next, (0 : Nat)))] ∧ Q1 [V.int IntKind.u8 (1 : Int)] h'5
                                        else
                                          [V.ptr a1, V.bool share, V.ptr (some (h.next, (0 : Nat)))] = [V.ptr a1, V.bool share, V.ptr (some (h.next, (0 : Nat)))] ∧
                                            Q1 [V.int IntKind.u8 (2 : Int)] h'5) ∧
                                        ∀ (bs1 : Nat → Option V) (n4 : Int) (h1 : Hp),
                                          Q1 [V.int IntKind.u8 n4] h1 →
                                            XCalls Try.prog (9 : Nat) [V.ptr a1, V.int IntKind.u8 n4] h1 fun (v3 : V) (h'6 : Hp) =>
                                              ∃ (n5 : Int),
                                                ∃ (n6 : Int),
                                                  ∃ (n7 : Int),
                                                    v3 = V.tup [V.int IntKind.i64 n5, V.int IntKind.u64 n6, V.int IntKind.i64 n7] ∧
                                                      XCalls Try.prog (9 : Nat) [V.ptr a1, V.int IntKind.u8 n4] h'6 fun (v4 : V) (h'7 : Hp) =>
                                                        ∃ (n8 : Int),
                                                          ∃ (n9 : Int),
                                                            ∃ (n10 : Int),
                                                              v4 = V.tup [V.int IntKind.i64 n8, V.int IntKind.u64 n9, V.int IntKind.i64 n10] ∧
                                                                XCalls Try.prog (24 : Nat) [V.ptr a1, V.int IntKind.i64 n5, V.bool share] h'7 fun (v5 : V) (h'8 : Hp) =>
                                                                  ∃ (n11 : Int),
                                                                    v5 = V.int IntKind.i64 n11 ∧
                                                                      XCalls Try.prog (24 : Nat) [V.ptr a1, V.int IntKind.i64 n8, V.bool share] h'8 fun (v6 : V) (h'9 : Hp) =>
                                                                        ∃ (n12 : Int),
                                                                          v6 = V.int IntKind.i64 n12 ∧
                                                                            ∃ (n13 : Int),
                                                                              ∃ (n14 : Int),
                                                                                h'9.lda h.next (0 : Nat) (2 : Nat) = some (V.agg [V.int IntKind.u32 n13, V.int IntKind.u16 n14]) ∧
                                                                                  XCalls Try.prog (13 : Nat) [V.ptr a1, V.int IntKind.i64 n5, V.agg [V.int IntKind.u32 n13, V.int IntKind.u16 n14]] h'9
                                                                                    fun (v7 : V) (h'10 : Hp) =>
                                                                                    ∃ (n15 : Int),
                                                                                      v7 = V.int IntKind.i64 n15 ∧
                                                                                        bif n15 != (0 : Int) then K (V.bool false) h'10
                                                                                        else
                                                                                          XCalls Try.prog (24 : Nat) [V.ptr a1, V.int IntKind.i64 n5, V.bool true] h'10 fun (v8 : V) (h'11 : Hp) =>
                                                                                            ∃ (n16 : Int),
                                                                                              v8 = V.int IntKind.i64 n16 ∧
                                                                                                bif n16 != (3 : Int) then K (V.bool false) h'11
                                                                                                else
                                                                                                  ∃ (n17 : Int),
                                                                                                    ∃ (n18 : Int),
                                                                                                      h'11.lda h.next (0 : Nat) (2 : Nat) =
                                                                                                          some (V.agg [V.int IntKind.u32 n17, V.int IntKind.u16 n18]) ∧
                                                                                                        XCalls Try.prog (13 : Nat)
                                                                                                          [V.ptr a1, V.int IntKind.i64 n5, V.agg [V.int IntKind.u32 n17, V.int IntKind.u16 n18]] h'11
                                                                                                          fun (v9 : V) (h'12 : Hp) =>
                                                                                                          ∃ (n19 : Int),
                                                                                                            v9 = V.int IntKind.i64 n19 ∧
                                                                                                              bif n19 != (3 : Int) then K (V.bool false) h'12
                                                                                                              else
                                                                                                                ∃ (n20 : Int),
                                                                                                                  ∃ (n21 : Int),
                                                                                                                    h'12.lda h.next (0 : Nat) (2 : Nat) =
                                                                                                                        some (V.agg [V.int IntKind.u32 n20, V.int IntKind.u16 n21]) ∧
                                                                                                                      XCalls Try.prog (13 : Nat)
                                                                                                                        [V.ptr a1, V.int IntKind.i64 n8,
                                                                                                                          V.agg [V.int IntKind.u32 n20, V.int IntKind.u16 n21]]
                                                                                                                        h'12 fun (v10 : V) (h'13 : Hp) =>
                                                                                                                        ∃ (n22 : Int),
                                                                                                                          v10 = V.int IntKind.i64 n22 ∧
                                                                                                                            bif share then
                                                                                                                              bif n22 == (0 : Int) then
                                                                                                                                ∃ (n23 : Int),
                                                                                                                                  ∃ (n24 : Int),
                                                                                                                                    h'13.lda h.next (0 : Nat) (2 : Nat) =
                                                                                                                                        some (V.agg [V.int IntKind.u32 n23, V.int IntKind.u16 n24]) ∧
                                                                                                                                      XCalls Try.prog (25 : Nat)
                                                                                                                                        [V.ptr a1, V.int IntKind.u8 n4,
                                                                                                                                          V.agg [V.int IntKind.u32 n23, V.int IntKind.u16 n24]]
                                                                                                                                        h'13 fun (v11 : V) (h'14 : Hp) =>
                                                                                                                                        ∃ (a2 : Option (Nat × Nat)),
                                                                                                                                          ∃ (n25 : Nat),
                                                                                                                                            ∃ (f1 : Bool),
                                                                                                                                              v11 = V.slc a2 n25 f1 ∧
                                                                                                                                                bif (↑n25 : Int) == (2 : Int) then
                                                                                                                                                  XCalls Try.prog (17 : Nat) [] h'14
                                                                                                                                                    fun (v12 : V) (h'15 : Hp) =>
                                                                                                                                                    ∃ (b2 : Bool), v12 = V.bool b2 ∧ K (V.bool b2) h'15
                                                                                                                                                else K (V.bool false) h'14
                                                                                                                              else K (V.bool false) h'13
                                                                                                                            else
                                                                                                                              bif n22 != (220 : Int) then K (V.bool false) h'13
                                                                                                                              else
                                                                                                                                XCalls Try.prog (20 : Nat) [V.ptr a1, V.int IntKind.i64 n5] h'13
                                                                                                                                  fun (v13 : V) (h'16 : Hp) =>
                                                                                                                                  ∃ (n26 : Int),
                                                                                                                                    ∃ (n27 : Int),
                                                                                                                                      ∃ (n28 : Int),
                                                                                                                                        ∃ (b3 : Bool),
                                                                                                                                          ∃ (n29 : Int),
                                                                                                                                            v13 =
                                                                                                                                                V.tup
                                                                                                                                                  [V.agg
                                                                                                                                                      [V.int IntKind.u8 n26, V.int IntKind.u8 n27,
                                                                                                                                                        V.int IntKind.u64 n28, V.bool b3],
                                                                                                                                                    V.int IntKind.i64 n29] ∧
                                                                                                                                              ∃ (n30 : Int),
                                                                                                                                                ∃ (n31 : Int),
                                                                                                                                                  h'16.lda h.next (0 : Nat) (2 : Nat) =
                                                                                                                                                      some
                                                                                                                                                        (V.agg
                                                                                                                                                          [V.int IntKind.u32 n30,
                                                                                                                                                            V.int IntKind.u16 n31]) ∧
                                                                                                                                                    XCalls Try.prog (13 : Nat)
                                                                                                                                                      [V.ptr a1, V.int IntKind.i64 n8,
                                                                                                                                                        V.agg
                                                                                                                                                          [V.int IntKind.u32 n30,
                                                                                                                                                            V.int IntKind.u16 n31]]
                                                                                                                                                      h'16 fun (v14 : V) (h'17 : Hp) =>
                                                                                                                                                      ∃ (n32 : Int),
                                                                                                                                                        v14 = V.int IntKind.i64 n32 ∧
                                                                                                                                                          bif n32 != (220 : Int) then
                                                                                                                                                            K (V.bool false) h'17
                                                                                                                                                          else
                                                                                                                                                            XCalls Try.prog (21 : Nat)
                                                                                                                                                              [V.ptr a1, V.int IntKind.u64 n6] h'17
                                                                                                                                                              fun (v15 : V) (h'18 : Hp) =>
                                                                                                                                                              ∃ (b4 : Bool),
                                                                                                                                                                v15 = V.bool b4 ∧
                                                                                                                                                                  bif !b4 then K (V.bool false) h'18
                                                                                                                                                                  else
                                                                                                                                                                    XCalls Try.prog (21 : Nat)
                                                                                                                                                                      [V.ptr a1, V.int IntKind.u64 n6]
                                                                                                                                                                      h'18 fun (v16 : V) (h'19 : Hp) =>
                                                                                                                                                                      ∃ (b5 : Bool),
                                                                                                                                                                        v16 = V.bool b5 ∧
                                                                                                                                                                          bif b5 then
                                                                                                                                                                            K (V.bool false) h'19
                                                                                                                                                                          else
                                                                                                                                                                            ∃ (n33 : Int),
                                                                                                                                                                              ∃ (n34 : Int),
                                                                                                                                                                                h'19.lda h.next
                                                                                                                                                                                      (0 : Nat)
                                                                                                                                                                                      (2 : Nat) =
                                                                                                                                                                                    some
                                                                                                                                                                                      (V.agg
                                                                                                                                                                                        [V.int
                                                                                                                                                                                            IntKind.u32
                                                                                                                                                                                            n33,
                                                                                                                                                                                          V.int
                                                                                                                                                                                            IntKind.u16
                                                                                                                                                                                            n34]) ∧
                                                                                                                                                                                  XCalls Try.prog
                                                                                                                                                                                    (13 : Nat)
                                                                                                                                                                                    [V.ptr a1,
                                                                                                                                                                                      V.int IntKind.i64
                                                                                                                                                                                        n8,
                                                                                                                                                                                      V.agg
                                                                                                                                                                                        [V.int
                                                                                                                                                                                            IntKind.u32
                                                                                                                                                                                            n33,
                                                                                                                                                                                          V.int
                                                                                                                                                                                            IntKind.u16
                                                                                                                                                                                            n34]]
                                                                                                                                                                                    h'19
                                                                                                                                                                                    fun (v17 : V)
                                                                                                                                                                                      (h'20 : Hp) =>
                                                                                                                                                                                    ∃ (n35 : Int),
                                                                                                                                                                                      v17 =
                                                                                                                                                                                          V.int
                                                                                                                                                                                            IntKind.i64
                                                                                                                                                                                            n35 ∧
                                                                                                                                                                                        bif
                                                                                                                                                                                            n35 ==
                                                                                                                                                                                              (0 :
                                                                                                                                                                                                Int) then
                                                                                                                                                                                          ∃ (n36 : Int),
                                                                                                                                                                                            ∃ (n37 :
                                                                                                                                                                                              Int),
                                                                                                                                                                                              h'20.lda
                                                                                                                                                                                                    h.next
                                                                                                                                                                                                    (0 :
                                                                                                                                                                                                      Nat)
                                                                                                                                                                                                    (2 :
                                                                                                                                                                                                      Nat) =
                                                                                                                                                                                                  some
                                                                                                                                                                                                    (V.agg
                                                                                                                                                                                                      [V.int
                                                                                                                                                                                                          IntKind.u32
                                                                                                                                                                                                          n36,
                                                                                                                                                                                                        V.int
                                                                                                                                                                                                          IntKind.u16
                                                                                                                                                                                                          n37]) ∧
                                                                                                                                                                                                XCalls
                                                                                                                                                                                                  Try.prog
                                                                                                                                                                                                  (25 :
                                                                                                                                                                                                    Nat)
                                                                                                                                                                                                  [V.ptr
                                                                                                                                                                                                      a1,
                                                                                                                                                                                                    V.int
                                                                                                                                                                                                      IntKind.u8
                                                                                                                                                                                                      n4,
                                                                                                                                                                                                    V.agg
                                                                                                                                                                                                      [V.int
                                                                                                                                                                                                          IntKind.u32
                                                                                                                                                                                                          n36,
                                                                                                                                                                                                        V.int
                                                                                                                                                                                                          IntKind.u16
                                                                                                                                                                                                          n37]]
                                                                                                                                                                                                  h'20
                                                                                                                                                                                                  fun
                                                                                                                                                                                                    (v18 :
                                                                                                                                                                                                      V)
                                                                                                                                                                                                    (h'21 :
                                                                                                                                                                                                      Hp) =>
                                                                                                                                                                                                  ∃ (a3
                                                                                                                                                                                                    :
                                                                                                                                                                                                    Option
                                                                                                                                                                                                      (Nat ×
                                                                                                                                                                                                        Nat)),
                                                                                                                                                                                                    ∃
                                                                                                                                                                                                      (n38
                                                                                                                                                                                                      :
                                                                                                                                                                                                      Nat),
                                                                                                                                                                                                      ∃
                                                                                                                                                                                                        (f2
                                                                                                                                                                                                        :
                                                                                                                                                                                                        Bool),
                                                                                                                                                                                                        v18 =
                                                                                                                                                                                                            V.slc
                                                                                                                                                                                                              a3
                                                                                                                                                                                                              n38
                                                                                                                                                                                                              f2 ∧
                                                                                                                                                                                                          bif
                                                                                                                                                                                                              (↑n38 :
                                                                                                                                                                                                                  Int) ==
                                                                                                                                                                                                                (1 :
                                                                                                                                                                                                                  Int) then
                                                                                                                                                                                                            XCalls
                                                                                                                                                                                                              Try.prog
                                                                                                                                                                                                              (17 :
                                                                                                                                                                                                                Nat)
                                                                                                                                                                                                              []
                                                                                                                                                                                                              h'21
                                                                                                                                                                                                              fun
                                                                                                                                                                                                                (v19 :
                                                                                                                                                                                                                  V)
                                                                                                                                                                                                                (h'22 :
                                                                                                                                                                                                                  Hp) =>
                                                                                                                                                                                                              ∃
                                                                                                                                                                                                                (b6
                                                                                                                                                                                                                :
                                                                                                                                                                                                                Bool),
                                                                                                                                                                                                                v19 =
                                                                                                                                                                                                                    V.bool
                                                                                                                                                                                                                      b6 ∧
                                                                                                                                                                                                                  K
                                                                                                                                                                                                                    (V.bool
                                                                                                                                                                                                                      b6)
                                                                                                                                                                                                                    h'22
                                                                                                                                                                                                          else
                                                                                                                                                                                                            K
                                                                                                                                                                                                              (V.bool
                                                                                                                                                                                                                false)
                                                                                                                                                                                                              h'21
                                                                                                                                                                                        else
                                                                                                                                                                                          K
                                                                                                                                                                                            (V.bool
                                                                                                                                                                                              false)
                                                                                                                                                                                            h'20
theorem y6 (h : Hp) (K : V → Hp → Prop) (a_0 : Int) (a_1 : Int) (share : Bool) (udp : Bool) : X6 h K a_0 a_1 share udp = fnX Try.prog T F jl6 jj6 Try.f6 [V.agg [V.int IntKind.u32 a_0, V.int IntKind.u16 a_1], V.bool share, V.bool udp] h K := by kernel_rfl
theorem x6 {h : Hp} {K : V → Hp → Prop} (a_0 : Int) (a_1 : Int) (share : Bool) (udp : Bool) (hx : X6 h K a_0 a_1 share udp) : XCalls Try.prog 6 [V.agg [V.int IntKind.u32 a_0, V.int IntKind.u16 a_1], V.bool share, V.bool udp] h K :=
  XCalls.ofX tok fok mixed (JL := jl6) (JJ := jj6) Try.func6 ((y6 h K a_0 a_1 share udp) ▸ hx)
end Go.Vex
