/-
  The document's meter as statements about data (printed by VexPrint).
  The document's meter (layer 4): contracts of At, May, Add, Total, Copy.
  The document's meter (layer 4): contracts of Add.
  The document's meter (layer 4): the contract of Join.
-/
import Derived.Test.YtakkppekchofdaaDoorVexX
import Derived.Test.YtakkppekchofdaaDoorTab04
import Derived.Test.YtakkppekchofdaaDoorVexFF
import Derived.Test.YtakkppekchofdaaDoorPx04
import Derived.Test.YtakkppekchofdaaDoorMx04
set_option linter.unusedVariables false
set_option linter.unusedSimpArgs false
set_option maxRecDepth 100000
namespace Go.Vex
open Go.Proofs
/-! 11: (*stevedore/stevedoreref04.Meter).At -/
-- loop 2: stays m(0), name(1); turns i(5)
def jl11 : Nat → Option JT := fun r => bif Nat.beq r 2 then some ⟨[0, 1], [5], [V.int IntKind.i64 (0 : Int)]⟩ else none
def jj11 : Nat → Option JT := fun r => none
def X11 (h : Hp) (K : V → Hp → Prop) (m : Nat) (name : List UInt8) : Prop :=
  ∃ (I1 : List V → Hp → Prop),
  ∃ (x1 : List V → Hp → Nat),
    ([V.ptr (some (m, (0 : Nat))), V.str name] = [V.ptr (some (m, (0 : Nat))), V.str name] ∧ I1 [V.int IntKind.i64 (0 : Int)] h) ∧
      ∀ (bs1 : Nat → Option V) (n1 : Int) (h1 : Hp),
        I1 [V.int IntKind.i64 n1] h1 →
          ∃ (a1 : Option (Nat × Nat)),
            ∃ (n2 : Nat),
              ∃ (f1 : Bool),
                h1.ld m (0 : Nat) = some (V.slc a1 n2 f1) ∧
                  bif ltI n1 (↑n2 : Int) then
                    ∃ (a2 : Option (Nat × Nat)),
                      ∃ (n3 : Nat),
                        ∃ (f2 : Bool),
                          h1.ld m (0 : Nat) = some (V.slc a2 n3 f2) ∧
                            ((0 : Int) ≤ n1 ∧ n1 < (↑n3 : Int)) ∧
                              onS a2 fun (i1 o1 : Nat) =>
                                ∃ (s1 : List UInt8),
                                  h1.ld i1 (o1 + n1.toNat * (3 : Nat) + (0 : Nat)) = some (V.str s1) ∧
                                    bif s1 == name then K (V.int IntKind.i64 n1) h1
                                    else
                                      [V.ptr (some (m, (0 : Nat))), V.str name] = [V.ptr (some (m, (0 : Nat))), V.str name] ∧
                                        I1 [V.int IntKind.i64 (IntKind.i64.wrap (n1 + (1 : Int)))] h1 ∧ x1 [V.int IntKind.i64 (IntKind.i64.wrap (n1 + (1 : Int)))] h1 < x1 [V.int IntKind.i64 n1] h1
                  else K (V.int IntKind.i64 (-1 : Int)) h1
theorem y11 (h : Hp) (K : V → Hp → Prop) (m : Nat) (name : List UInt8) : X11 h K m name = fnX Tryd.prog T F jl11 jj11 Tryd.f11 [V.ptr (some (m, (0 : Nat))), V.str name] h K := by kernel_rfl
theorem x11 {h : Hp} {K : V → Hp → Prop} (m : Nat) (name : List UInt8) (hx : X11 h K m name) : XCalls Tryd.prog 11 [V.ptr (some (m, (0 : Nat))), V.str name] h K :=
  XCalls.ofX tok fok mixed (JL := jl11) (JJ := jj11) Tryd.func11 ((y11 h K m name) ▸ hx)
/-! 16: stevedore/stevedoreref04.May -/
-- loop 4: stays name(0); turns i(3)
def jl16 : Nat → Option JT := fun r => bif Nat.beq r 4 then some ⟨[0], [3], [V.int IntKind.i64 (0 : Int)]⟩ else none
def jj16 : Nat → Option JT := fun r => none
def X16 (h : Hp) (K : V → Hp → Prop) (name : List UInt8) : Prop :=
  bif ltI (↑name.length : Int) (1 : Int) then K (V.bool false) h
else
  bif ltI (32 : Int) (↑name.length : Int) then K (V.bool false) h
  else
    ∃ (I1 : List V → Hp → Prop),
      ∃ (x1 : List V → Hp → Nat),
        ([V.str name] = [V.str name] ∧ I1 [V.int IntKind.i64 (0 : Int)] h) ∧
          ∀ (bs1 : Nat → Option V) (n1 : Int) (h1 : Hp),
            I1 [V.int IntKind.i64 n1] h1 →
              bif ltI n1 (↑name.length : Int) then
                (0 : Int) ≤ n1 ∧
                  ∃ (b1 : UInt8),
                    name.get?Internal n1.toNat = some b1 ∧
                      bif ltI (↑b1.toNat : Int) (97 : Int) then
                        (0 : Int) ≤ n1 ∧
                          ∃ (b2 : UInt8),
                            name.get?Internal n1.toNat = some b2 ∧
                              bif (↑b2.toNat : Int) != (45 : Int) then K (V.bool false) h1
                              else
                                [V.str name] = [V.str name] ∧
                                  I1 [V.int IntKind.i64 (IntKind.i64.wrap (n1 + (1 : Int)))] h1 ∧ x1 [V.int IntKind.i64 (IntKind.i64.wrap (n1 + (1 : Int)))] h1 < x1 [V.int IntKind.i64 n1] h1
                      else
                        (0 : Int) ≤ n1 ∧
                          ∃ (b3 : UInt8),
                            name.get?Internal n1.toNat = some b3 ∧
                              bif ltI (122 : Int) (↑b3.toNat : Int) then
                                (0 : Int) ≤ n1 ∧
                                  ∃ (b4 : UInt8),
                                    name.get?Internal n1.toNat = some b4 ∧
                                      bif (↑b4.toNat : Int) != (45 : Int) then K (V.bool false) h1
                                      else
                                        [V.str name] = [V.str name] ∧
                                          I1 [V.int IntKind.i64 (IntKind.i64.wrap (n1 + (1 : Int)))] h1 ∧ x1 [V.int IntKind.i64 (IntKind.i64.wrap (n1 + (1 : Int)))] h1 < x1 [V.int IntKind.i64 n1] h1
                              else
                                [V.str name] = [V.str name] ∧
                                  I1 [V.int IntKind.i64 (IntKind.i64.wrap (n1 + (1 : Int)))] h1 ∧ x1 [V.int IntKind.i64 (IntKind.i64.wrap (n1 + (1 : Int)))] h1 < x1 [V.int IntKind.i64 n1] h1
              else K (V.bool true) h1
theorem y16 (h : Hp) (K : V → Hp → Prop) (name : List UInt8) : X16 h K name = fnX Tryd.prog T F jl16 jj16 Tryd.f16 [V.str name] h K := by kernel_rfl
theorem x16 {h : Hp} {K : V → Hp → Prop} (name : List UInt8) (hx : X16 h K name) : XCalls Tryd.prog 16 [V.str name] h K :=
  XCalls.ofX tok fok mixed (JL := jl16) (JJ := jj16) Tryd.func16 ((y16 h K name) ▸ hx)
/-! 23: (*stevedore/stevedoreref04.Meter).Add -/
-- loop 8: stays m(0), name(1), came(2), dropped(3); turns k(10)
-- join 10: stays m(0), name(1), came(2), dropped(3); turns k(10)
def jl23 : Nat → Option JT := fun r => bif Nat.beq r 8 then some ⟨[0, 1, 2, 3], [10], [V.int IntKind.i64 (0 : Int)]⟩ else none
def jj23 : Nat → Option JT := fun r => bif Nat.beq r 10 then some ⟨[0, 1, 2, 3], [10], [V.int IntKind.i64 (0 : Int)]⟩ else none
def X23 (h : Hp) (K : V → Hp → Prop) (m : Nat) (name : List UInt8) (came : Int) (dropped : Int) : Prop :=
  XCalls Tryd.prog (16 : Nat) [V.str name] h fun (v1 : V) (h'1 : Hp) =>
  ∃ (b1 : Bool),
    v1 = V.bool b1 ∧
      bif !b1 then K (V.int IntKind.i64 (2 : Int)) h'1
      else
        bif ltI came (0 : Int) then K (V.int IntKind.i64 (2 : Int)) h'1
        else
          bif ltI (4503599627370496 : Int) came then K (V.int IntKind.i64 (2 : Int)) h'1
          else
            bif ltI dropped (0 : Int) then K (V.int IntKind.i64 (2 : Int)) h'1
            else
              bif ltI (4503599627370496 : Int) dropped then K (V.int IntKind.i64 (2 : Int)) h'1
              else
                XCalls Tryd.prog (11 : Nat) [V.ptr (some (m, (0 : Nat))), V.str name] h'1 fun (v2 : V) (h'2 : Hp) =>
                  ∃ (n1 : Int),
                    v2 = V.int IntKind.i64 n1 ∧
                      bif ltI n1 (0 : Int) then
                        ∃ (a1 : Option (Nat × Nat)),
                          ∃ (n2 : Nat),
                            ∃ (f1 : Bool),
                              h'2.ld m (0 : Nat) = some (V.slc a1 n2 f1) ∧
                                bif !ltI (↑n2 : Int) (64 : Int) then K (V.int IntKind.i64 (6 : Int)) h'2
                                else
                                  ∃ (Q1 : List V → Hp → Prop),
                                    (∃ (I1 : List V → Hp → Prop),
                                        ∃ (x1 : List V → Hp → Nat),
                                          ([V.ptr (some (m, (0 : Nat))), V.str name, V.int IntKind.i64 came, V.int IntKind.i64 dropped] =
                                                [V.ptr (some (m, (0 : Nat))), V.str name, V.int IntKind.i64 came, V.int IntKind.i64 dropped] ∧
                                              I1 [V.int IntKind.i64 (0 : Int)] h'2) ∧
                                            ∀ (bs1 : Nat → Option V) (n3 : Int) (h1 : Hp),
                                              I1 [V.int IntKind.i64 n3] h1 →
                                                ∃ (a2 : Option (Nat × Nat)),
                                                  ∃ (n4 : Nat),
                                                    ∃ (f2 : Bool),
                                                      h1.ld m (0 : Nat) = some (V.slc a2 n4 f2) ∧
                                                        bif ltI n3 (↑n4 : Int) then
                                                          ∃ (a3 : Option (Nat × Nat)),
                                                            ∃ (n5 : Nat),
                                                              ∃ (f3 : Bool),
                                                                h1.ld m (0 : Nat) = some (V.slc a3 n5 f3) ∧
                                                                  ((0 : Int) ≤ n3 ∧ n3 < (↑n5 : Int)) ∧
                                                                    onS a3 fun (i1 o1 : Nat) =>
                                                                      ∃ (s1 : List UInt8),
                                                                        h1.ld i1 (o1 + n3.toNat * (3 : Nat) + (0 : Nat)) = some (V.str s1) ∧
                                                                          bif Op.bytesLess s1 name then
                                                                            [V.ptr (some (m, (0 : Nat))), V.str name, V.int IntKind.i64 came, V.int IntKind.i64 dropped] =
                                                                                [V.ptr (some (m, (0 : Nat))), V.str name, V.int IntKind.i64 came, V.int IntKind.i64 dropped] ∧
                                                                              I1 [V.int IntKind.i64 (IntKind.i64.wrap (n3 + (1 : Int)))] h1 ∧
                                                                                x1 [V.int IntKind.i64 (IntKind.i64.wrap (n3 + (1 : Int)))] h1 < x1 [V.int IntKind.i64 n3] h1
                                                                          else
                                                                            [V.ptr (some (m, (0 : Nat))), V.str name, V.int IntKind.i64 came, V.int IntKind.i64 dropped] =
                                                                                [V.ptr (some (m, (0 : Nat))), V.str name, V.int IntKind.i64 came, V.int IntKind.i64 dropped] ∧
                                                                              Q1 [V.int IntKind.i64 n3] h1
                                                        else
                                                          [V.ptr (some (m, (0 : Nat))), V.str name, V.int IntKind.i64 came, V.int IntKind.i64 dropped] =
                                                              [V.ptr (some (m, (0 : Nat))), V.str name, V.int IntKind.i64 came, V.int IntKind.i64 dropped] ∧
                                                            Q1 [V.int IntKind.i64 n3] h1) ∧
                                      ∀ (bs2 : Nat → Option V) (n6 : Int) (h2 : Hp),
                                        Q1 [V.int IntKind.i64 n6] h2 →
                                          ∃ (a4 : Option (Nat × Nat)),
                                            ∃ (n7 : Nat),
                                              ∃ (f4 : Bool),
                                                h2.ld m (0 : Nat) = some (V.slc a4 n7 f4) ∧
                                                  ∃ (a5 : Option (Nat × Nat)),
                                                    ∃ (n8 : Nat),
                                                      ∃ (f5 : Bool),
                                                        xslice T h2 (46 : Nat) (V.slc a4 n7 f4) none (some (V.int IntKind.i64 n6)) none = some (V.slc a5 n8 f5) ∧
                                                          ∃ (p1 : Option (Nat × Nat)),
                                                            ∃ (n9 : Nat),
                                                              ∃ (f6 : Bool),
                                                                ∃ (h'3 : Hp),
                                                                  xapp T h2 (46 : Nat) (46 : Nat) (V.slc none (0 : Nat) true) (V.slc a5 n8 f5) = some (V.slc p1 n9 f6, h'3) ∧
                                                                    ∀ (h'4 : Hp),
                                                                      h'4 = h'3.alloc (O.row [V.str name, V.int IntKind.i64 came, V.int IntKind.i64 dropped] (3 : Nat) false) →
                                                                        ∃ (p2 : Option (Nat × Nat)),
                                                                          ∃ (n10 : Nat),
                                                                            ∃ (f7 : Bool),
                                                                              ∃ (h'5 : Hp),
                                                                                xapp T h'4 (46 : Nat) (46 : Nat) (V.slc p1 n9 f6) (V.slc (some (h'3.next, (0 : Nat))) (1 : Nat) true) =
                                                                                    some (V.slc p2 n10 f7, h'5) ∧
                                                                                  ∃ (a6 : Option (Nat × Nat)),
                                                                                    ∃ (n11 : Nat),
                                                                                      ∃ (f8 : Bool),
                                                                                        h'5.ld m (0 : Nat) = some (V.slc a6 n11 f8) ∧
                                                                                          ∃ (a7 : Option (Nat × Nat)),
                                                                                            ∃ (n12 : Nat),
                                                                                              ∃ (f9 : Bool),
                                                                                                xslice T h'5 (46 : Nat) (V.slc a6 n11 f8) (some (V.int IntKind.i64 n6)) none none =
                                                                                                    some (V.slc a7 n12 f9) ∧
                                                                                                  ∃ (p3 : Option (Nat × Nat)),
                                                                                                    ∃ (n13 : Nat),
                                                                                                      ∃ (f10 : Bool),
                                                                                                        ∃ (h'6 : Hp),
                                                                                                          xapp T h'5 (46 : Nat) (46 : Nat) (V.slc p2 n10 f7) (V.slc a7 n12 f9) =
                                                                                                              some (V.slc p3 n13 f10, h'6) ∧
                                                                                                            ∃ (h'7 : Hp),
                                                                                                              h'6.st m (0 : Nat) [V.slc p3 n13 f10] = some h'7 ∧ K (V.int IntKind.i64 (0 : Int)) h'7
                      else
                        ∃ (a8 : Option (Nat × Nat)),
                          ∃ (n14 : Nat),
                            ∃ (f11 : Bool),
                              h'2.ld m (0 : Nat) = some (V.slc a8 n14 f11) ∧
                                ((0 : Int) ≤ n1 ∧ n1 < (↑n14 : Int)) ∧
                                  onS a8 fun (i2 o2 : Nat) =>
                                    ∃ (s2 : List UInt8),
                                      ∃ (n15 : Int),
                                        ∃ (n16 : Int),
                                          h'2.lda i2 (o2 + n1.toNat * (3 : Nat)) (3 : Nat) = some (V.agg [V.str s2, V.int IntKind.i64 n15, V.int IntKind.i64 n16]) ∧
                                            ∀ (h'8 : Hp),
                                              h'8 = h'2.alloc (O.row [V.str [], V.int IntKind.i64 (0 : Int), V.int IntKind.i64 (0 : Int)] (1 : Nat) false) →
                                                ∃ (h'9 : Hp),
                                                  h'8.st h'2.next (0 : Nat) [V.str s2, V.int IntKind.i64 n15, V.int IntKind.i64 n16] = some h'9 ∧
                                                    ∃ (n17 : Int),
                                                      h'9.ld h'2.next (1 : Nat) = some (V.int IntKind.i64 n17) ∧
                                                        bif ltI (IntKind.i64.wrap ((4503599627370496 : Int) - came)) n17 then K (V.int IntKind.i64 (9 : Int)) h'9
                                                        else
                                                          ∃ (n18 : Int),
                                                            h'9.ld h'2.next (2 : Nat) = some (V.int IntKind.i64 n18) ∧
                                                              bif ltI (IntKind.i64.wrap ((4503599627370496 : Int) - dropped)) n18 then K (V.int IntKind.i64 (9 : Int)) h'9
                                                              else
                                                                ∃ (n19 : Int),
                                                                  h'9.ld h'2.next (1 : Nat) = some (V.int IntKind.i64 n19) ∧
                                                                    ∃ (h'10 : Hp),
                                                                      h'9.st h'2.next (1 : Nat) [V.int IntKind.i64 (IntKind.i64.wrap (n19 + came))] = some h'10 ∧
                                                                        ∃ (n20 : Int),
                                                                          h'10.ld h'2.next (2 : Nat) = some (V.int IntKind.i64 n20) ∧
                                                                            ∃ (h'11 : Hp),
                                                                              h'10.st h'2.next (2 : Nat) [V.int IntKind.i64 (IntKind.i64.wrap (n20 + dropped))] = some h'11 ∧
                                                                                ∃ (a9 : Option (Nat × Nat)),
                                                                                  ∃ (n21 : Nat),
                                                                                    ∃ (f12 : Bool),
                                                                                      h'11.ld m (0 : Nat) = some (V.slc a9 n21 f12) ∧
                                                                                        ∃ (s3 : List UInt8),
                                                                                          ∃ (n22 : Int),
                                                                                            ∃ (n23 : Int),
                                                                                              h'11.lda h'2.next (0 : Nat) (3 : Nat) =
                                                                                                  some (V.agg [V.str s3, V.int IntKind.i64 n22, V.int IntKind.i64 n23]) ∧
                                                                                                ((0 : Int) ≤ n1 ∧ n1 < (↑n21 : Int)) ∧
                                                                                                  onS a9 fun (i3 o3 : Nat) =>
                                                                                                    ∃ (h'12 : Hp),
                                                                                                      h'11.st i3 (o3 + n1.toNat * (3 : Nat)) [V.str s3, V.int IntKind.i64 n22, V.int IntKind.i64 n23] =
                                                                                                          some h'12 ∧
                                                                                                        K (V.int IntKind.i64 (0 : Int)) h'12
theorem y23 (h : Hp) (K : V → Hp → Prop) (m : Nat) (name : List UInt8) (came : Int) (dropped : Int) : X23 h K m name came dropped = fnX Tryd.prog T F jl23 jj23 Tryd.f23 [V.ptr (some (m, (0 : Nat))), V.str name, V.int IntKind.i64 came, V.int IntKind.i64 dropped] h K := by kernel_rfl
theorem x23 {h : Hp} {K : V → Hp → Prop} (m : Nat) (name : List UInt8) (came : Int) (dropped : Int) (hx : X23 h K m name came dropped) : XCalls Tryd.prog 23 [V.ptr (some (m, (0 : Nat))), V.str name, V.int IntKind.i64 came, V.int IntKind.i64 dropped] h K :=
  XCalls.ofX tok fok mixed (JL := jl23) (JJ := jj23) Tryd.func23 ((y23 h K m name came dropped) ▸ hx)
/-! 24: (*stevedore/stevedoreref04.Meter).Total -/
-- loop 3: stays m(0); turns a(4), b(5), i(6)
def jl24 : Nat → Option JT := fun r => bif Nat.beq r 3 then some ⟨[0], [4, 5, 6], [V.int IntKind.i64 (0 : Int), V.int IntKind.i64 (0 : Int), V.int IntKind.i64 (0 : Int)]⟩ else none
def jj24 : Nat → Option JT := fun r => none
def X24 (h : Hp) (K : V → Hp → Prop) (m : Nat) : Prop :=
  ∃ (I1 : List V → Hp → Prop),
  ∃ (x1 : List V → Hp → Nat),
    ([V.ptr (some (m, (0 : Nat)))] = [V.ptr (some (m, (0 : Nat)))] ∧ I1 [V.int IntKind.i64 (0 : Int), V.int IntKind.i64 (0 : Int), V.int IntKind.i64 (0 : Int)] h) ∧
      ∀ (bs1 : Nat → Option V) (n1 n2 n3 : Int) (h1 : Hp),
        I1 [V.int IntKind.i64 n1, V.int IntKind.i64 n2, V.int IntKind.i64 n3] h1 →
          ∃ (a1 : Option (Nat × Nat)),
            ∃ (n4 : Nat),
              ∃ (f1 : Bool),
                h1.ld m (0 : Nat) = some (V.slc a1 n4 f1) ∧
                  bif ltI n3 (↑n4 : Int) then
                    ∃ (a2 : Option (Nat × Nat)),
                      ∃ (n5 : Nat),
                        ∃ (f2 : Bool),
                          h1.ld m (0 : Nat) = some (V.slc a2 n5 f2) ∧
                            ((0 : Int) ≤ n3 ∧ n3 < (↑n5 : Int)) ∧
                              onS a2 fun (i1 o1 : Nat) =>
                                ∃ (n6 : Int),
                                  h1.ld i1 (o1 + n3.toNat * (3 : Nat) + (1 : Nat)) = some (V.int IntKind.i64 n6) ∧
                                    ∃ (a3 : Option (Nat × Nat)),
                                      ∃ (n7 : Nat),
                                        ∃ (f3 : Bool),
                                          h1.ld m (0 : Nat) = some (V.slc a3 n7 f3) ∧
                                            ((0 : Int) ≤ n3 ∧ n3 < (↑n7 : Int)) ∧
                                              onS a3 fun (i2 o2 : Nat) =>
                                                ∃ (n8 : Int),
                                                  h1.ld i2 (o2 + n3.toNat * (3 : Nat) + (2 : Nat)) = some (V.int IntKind.i64 n8) ∧
                                                    [V.ptr (some (m, (0 : Nat)))] = [V.ptr (some (m, (0 : Nat)))] ∧
                                                      I1
                                                          [V.int IntKind.i64
                                                              (bif ltI (4503599627370496 : Int) (IntKind.i64.wrap (n1 + n6)) then (4503599627370496 : Int) else IntKind.i64.wrap (n1 + n6)),
                                                            V.int IntKind.i64
                                                              (bif ltI (4503599627370496 : Int) (IntKind.i64.wrap (n2 + n8)) then (4503599627370496 : Int) else IntKind.i64.wrap (n2 + n8)),
                                                            V.int IntKind.i64 (IntKind.i64.wrap (n3 + (1 : Int)))]
                                                          h1 ∧
                                                        x1
                                                            [V.int IntKind.i64
                                                                (bif ltI (4503599627370496 : Int) (IntKind.i64.wrap (n1 + n6)) then (4503599627370496 : Int) else IntKind.i64.wrap (n1 + n6)),
                                                              V.int IntKind.i64
                                                                (bif ltI (4503599627370496 : Int) (IntKind.i64.wrap (n2 + n8)) then (4503599627370496 : Int) else IntKind.i64.wrap (n2 + n8)),
                                                              V.int IntKind.i64 (IntKind.i64.wrap (n3 + (1 : Int)))]
                                                            h1 <
                                                          x1 [V.int IntKind.i64 n1, V.int IntKind.i64 n2, V.int IntKind.i64 n3] h1
                  else K (V.tup [V.int IntKind.i64 n1, V.int IntKind.i64 n2]) h1
theorem y24 (h : Hp) (K : V → Hp → Prop) (m : Nat) : X24 h K m = fnX Tryd.prog T F jl24 jj24 Tryd.f24 [V.ptr (some (m, (0 : Nat)))] h K := by kernel_rfl
theorem x24 {h : Hp} {K : V → Hp → Prop} (m : Nat) (hx : X24 h K m) : XCalls Tryd.prog 24 [V.ptr (some (m, (0 : Nat)))] h K :=
  XCalls.ofX tok fok mixed (JL := jl24) (JJ := jj24) Tryd.func24 ((y24 h K m) ▸ hx)
/-! 28: (*stevedore/stevedoreref04.Meter).Copy -/
def jl28 : Nat → Option JT := fun r => none
def jj28 : Nat → Option JT := fun r => none
def X28 (h : Hp) (K : V → Hp → Prop) (m : Nat) : Prop :=
  ∃ (a1 : Option (Nat × Nat)),
  ∃ (n1 : Nat),
    ∃ (f1 : Bool),
      h.ld m (0 : Nat) = some (V.slc a1 n1 f1) ∧
        ∃ (p1 : Option (Nat × Nat)),
          ∃ (n2 : Nat),
            ∃ (f2 : Bool),
              ∃ (h'1 : Hp),
                xapp T h (46 : Nat) (46 : Nat) (V.slc none (0 : Nat) true) (V.slc a1 n1 f1) = some (V.slc p1 n2 f2, h'1) ∧
                  ∀ (h'2 : Hp), h'2 = h'1.alloc (O.row [V.slc p1 n2 f2] (1 : Nat) false) → K (V.ptr (some (h'1.next, (0 : Nat)))) h'2
theorem y28 (h : Hp) (K : V → Hp → Prop) (m : Nat) : X28 h K m = fnX Tryd.prog T F jl28 jj28 Tryd.f28 [V.ptr (some (m, (0 : Nat)))] h K := by kernel_rfl
theorem x28 {h : Hp} {K : V → Hp → Prop} (m : Nat) (hx : X28 h K m) : XCalls Tryd.prog 28 [V.ptr (some (m, (0 : Nat)))] h K :=
  XCalls.ofX tok fok mixed (JL := jl28) (JJ := jj28) Tryd.func28 ((y28 h K m) ▸ hx)
/-! 15: (*stevedore/stevedoreref04.Meter).Join -/
-- loop 9: stays m(0), l(1), x(5), i(6), c(7); turns k(8)
-- loop 3: stays m(0), l(1), x(5); turns i(6)
-- join 8: stays x(5), i(6), l(1), m(0); turns c(7)
def jl15 : Nat → Option JT := fun r => bif Nat.beq r 9 then some ⟨[0, 1, 5, 6, 7], [8], [V.int IntKind.i64 (0 : Int)]⟩ else bif Nat.beq r 3 then some ⟨[0, 1, 5], [6], [V.int IntKind.i64 (0 : Int)]⟩ else none
def jj15 : Nat → Option JT := fun r => bif Nat.beq r 8 then some ⟨[5, 6, 1, 0], [7], [V.ptr none]⟩ else none
def X15 (h : Hp) (K : V → Hp → Prop) (m : Nat) (l : Option (Nat × Nat)) (l_n : Nat) (l_f : Bool) : Prop :=
  XCalls Tryd.prog (28 : Nat) [V.ptr (some (m, (0 : Nat)))] h fun (v1 : V) (h'1 : Hp) =>
  ∃ (a1 : Option (Nat × Nat)),
    v1 = V.ptr a1 ∧
      ∃ (I1 : List V → Hp → Prop),
        ∃ (x1 : List V → Hp → Nat),
          ([V.ptr (some (m, (0 : Nat))), V.slc l l_n l_f, V.ptr a1] = [V.ptr (some (m, (0 : Nat))), V.slc l l_n l_f, V.ptr a1] ∧ I1 [V.int IntKind.i64 (0 : Int)] h'1) ∧
            ∀ (bs1 : Nat → Option V) (n1 : Int) (h1 : Hp),
              I1 [V.int IntKind.i64 n1] h1 →
                bif ltI n1 (↑l_n : Int) then
                  ((0 : Int) ≤ n1 ∧ n1 < (↑l_n : Int)) ∧
                    onS l fun (i1 o1 : Nat) =>
                      ∃ (a2 : Option (Nat × Nat)),
                        h1.ld i1 (o1 + n1.toNat * (1 : Nat)) = some (V.ptr a2) ∧
                          XCalls Tryd.prog (28 : Nat) [V.ptr a2] h1 fun (v2 : V) (h'2 : Hp) =>
                            ∃ (a3 : Option (Nat × Nat)),
                              v2 = V.ptr a3 ∧
                                ∃ (Q1 : List V → Hp → Prop),
                                  (((0 : Int) ≤ n1 ∧ n1 < (↑l_n : Int)) ∧
                                      onS l fun (i2 o2 : Nat) =>
                                        ∃ (a4 : Option (Nat × Nat)),
                                          h'2.ld i2 (o2 + n1.toNat * (1 : Nat)) = some (V.ptr a4) ∧
                                            ∃ (r1 : Bool),
                                              xpeq T h'2 (26 : Nat) a4 (some (m, (0 : Nat))) = some r1 ∧
                                                bif r1 then
                                                  XCalls Tryd.prog (28 : Nat) [V.ptr (some (m, (0 : Nat)))] h'2 fun (v3 : V) (h'3 : Hp) =>
                                                    ∃ (a5 : Option (Nat × Nat)),
                                                      v3 = V.ptr a5 ∧
                                                        [V.ptr a1, V.int IntKind.i64 n1, V.slc l l_n l_f, V.ptr (some (m, (0 : Nat)))] =
                                                            [V.ptr a1, V.int IntKind.i64 n1, V.slc l l_n l_f, V.ptr (some (m, (0 : Nat)))] ∧
                                                          Q1 [V.ptr a5] h'3
                                                else
                                                  [V.ptr a1, V.int IntKind.i64 n1, V.slc l l_n l_f, V.ptr (some (m, (0 : Nat)))] =
                                                      [V.ptr a1, V.int IntKind.i64 n1, V.slc l l_n l_f, V.ptr (some (m, (0 : Nat)))] ∧
                                                    Q1 [V.ptr a3] h'2) ∧
                                    ∀ (bs2 : Nat → Option V) (a6 : Option (Nat × Nat)) (h2 : Hp),
                                      Q1 [V.ptr a6] h2 →
                                        ∃ (I2 : List V → Hp → Prop),
                                          ∃ (x2 : List V → Hp → Nat),
                                            ([V.ptr (some (m, (0 : Nat))), V.slc l l_n l_f, V.ptr a1, V.int IntKind.i64 n1, V.ptr a6] =
                                                  [V.ptr (some (m, (0 : Nat))), V.slc l l_n l_f, V.ptr a1, V.int IntKind.i64 n1, V.ptr a6] ∧
                                                I2 [V.int IntKind.i64 (0 : Int)] h2) ∧
                                              ∀ (bs3 : Nat → Option V) (n2 : Int) (h3 : Hp),
                                                I2 [V.int IntKind.i64 n2] h3 →
                                                  onS a6 fun (i3 o3 : Nat) =>
                                                    ∃ (a7 : Option (Nat × Nat)),
                                                      ∃ (n3 : Nat),
                                                        ∃ (f1 : Bool),
                                                          h3.ld i3 (o3 + (0 : Nat)) = some (V.slc a7 n3 f1) ∧
                                                            bif ltI n2 (↑n3 : Int) then
                                                              onS a6 fun (i4 o4 : Nat) =>
                                                                ∃ (a8 : Option (Nat × Nat)),
                                                                  ∃ (n4 : Nat),
                                                                    ∃ (f2 : Bool),
                                                                      h3.ld i4 (o4 + (0 : Nat)) = some (V.slc a8 n4 f2) ∧
                                                                        ((0 : Int) ≤ n2 ∧ n2 < (↑n4 : Int)) ∧
                                                                          onS a8 fun (i5 o5 : Nat) =>
                                                                            ∃ (s1 : List UInt8),
                                                                              h3.ld i5 (o5 + n2.toNat * (3 : Nat) + (0 : Nat)) = some (V.str s1) ∧
                                                                                onS a6 fun (i6 o6 : Nat) =>
                                                                                  ∃ (a9 : Option (Nat × Nat)),
                                                                                    ∃ (n5 : Nat),
                                                                                      ∃ (f3 : Bool),
                                                                                        h3.ld i6 (o6 + (0 : Nat)) = some (V.slc a9 n5 f3) ∧
                                                                                          ((0 : Int) ≤ n2 ∧ n2 < (↑n5 : Int)) ∧
                                                                                            onS a9 fun (i7 o7 : Nat) =>
                                                                                              ∃ (n6 : Int),
                                                                                                h3.ld i7 (o7 + n2.toNat * (3 : Nat) + (1 : Nat)) = some (V.int IntKind.i64 n6) ∧
                                                                                                  onS a6 fun (i8 o8 : Nat) =>
                                                                                                    ∃ (a10 : Option (Nat × Nat)),
                                                                                                      ∃ (n7 : Nat),
                                                                                                        ∃ (f4 : Bool),
                                                                                                          h3.ld i8 (o8 + (0 : Nat)) = some (V.slc a10 n7 f4) ∧
                                                                                                            ((0 : Int) ≤ n2 ∧ n2 < (↑n7 : Int)) ∧
                                                                                                              onS a10 fun (i9 o9 : Nat) =>
                                                                                                                ∃ (n8 : Int),
                                                                                                                  h3.ld i9 (o9 + n2.toNat * (3 : Nat) + (2 : Nat)) = some (V.int IntKind.i64 n8) ∧
                                                                                                                    XCalls Tryd.prog (23 : Nat)
                                                                                                                      [V.ptr a1, V.str s1, V.int IntKind.i64 n6, V.int IntKind.i64 n8] h3
                                                                                                                      fun (v4 : V) (h'4 : Hp) =>
                                                                                                                      ∃ (n9 : Int),
                                                                                                                        v4 = V.int IntKind.i64 n9 ∧
                                                                                                                          bif n9 != (0 : Int) then K (V.int IntKind.i64 n9) h'4
                                                                                                                          else
                                                                                                                            [V.ptr (some (m, (0 : Nat))), V.slc l l_n l_f, V.ptr a1,
                                                                                                                                  V.int IntKind.i64 n1, V.ptr a6] =
                                                                                                                                [V.ptr (some (m, (0 : Nat))), V.slc l l_n l_f, V.ptr a1,
                                                                                                                                  V.int IntKind.i64 n1, V.ptr a6] ∧
                                                                                                                              I2 [V.int IntKind.i64 (IntKind.i64.wrap (n2 + (1 : Int)))] h'4 ∧
                                                                                                                                x2 [V.int IntKind.i64 (IntKind.i64.wrap (n2 + (1 : Int)))] h'4 <
                                                                                                                                  x2 [V.int IntKind.i64 n2] h3
                                                            else
                                                              [V.ptr (some (m, (0 : Nat))), V.slc l l_n l_f, V.ptr a1] = [V.ptr (some (m, (0 : Nat))), V.slc l l_n l_f, V.ptr a1] ∧
                                                                I1 [V.int IntKind.i64 (IntKind.i64.wrap (n1 + (1 : Int)))] h3 ∧
                                                                  x1 [V.int IntKind.i64 (IntKind.i64.wrap (n1 + (1 : Int)))] h3 < x1 [V.int IntKind.i64 n1] h1
                else
                  onS a1 fun (i10 o10 : Nat) =>
                    ∃ (a11 : Option (Nat × Nat)),
                      ∃ (n10 : Nat),
                        ∃ (f5 : Bool), h1.ld i10 (o10 + (0 : Nat)) = some (V.slc a11 n10 f5) ∧ ∃ (h'5 : Hp), h1.st m (0 : Nat) [V.slc a11 n10 f5] = some h'5 ∧ K (V.int IntKind.i64 (0 : Int)) h'5
theorem y15 (h : Hp) (K : V → Hp → Prop) (m : Nat) (l : Option (Nat × Nat)) (l_n : Nat) (l_f : Bool) : X15 h K m l l_n l_f = fnX Tryd.prog T F jl15 jj15 Tryd.f15 [V.ptr (some (m, (0 : Nat))), V.slc l l_n l_f] h K := by kernel_rfl
theorem x15 {h : Hp} {K : V → Hp → Prop} (m : Nat) (l : Option (Nat × Nat)) (l_n : Nat) (l_f : Bool) (hx : X15 h K m l l_n l_f) : XCalls Tryd.prog 15 [V.ptr (some (m, (0 : Nat))), V.slc l l_n l_f] h K :=
  XCalls.ofX tok fok mixed (JL := jl15) (JJ := jj15) Tryd.func15 ((y15 h K m l l_n l_f) ▸ hx)
end Go.Vex
namespace Go.Vex.Mtr
open Go.Proofs Fl

theorem lam_nat (b : UInt8) : okc b = (bif ltI (b.toNat : Int) 97 then !((b.toNat : Int) != 45) else bif ltI 122 (b.toNat : Int) then !((b.toNat : Int) != 45) else true) := by
  rw [okc_nat, ltI_eq, ltI_eq]
  by_cases h1 : b.toNat < 97
  · rw [decide_eq_true h1, decide_eq_true (show (b.toNat : Int) < 97 by omega)]
    by_cases h2 : b.toNat = 45
    · simp [h2]
    · have : ¬ (b.toNat : Int) = 45 := by omega
      simp [h2, this]
  · rw [decide_eq_false h1, decide_eq_false (show ¬ (b.toNat : Int) < 97 by omega)]
    by_cases h3 : 122 < b.toNat
    · rw [decide_eq_true h3, decide_eq_true (show (122 : Int) < b.toNat by omega)]
      by_cases h2 : b.toNat = 45
      · omega
      · have : ¬ (b.toNat : Int) = 45 := by omega
        simp [h2, this]
    · rw [decide_eq_false h3, decide_eq_false (show ¬ (122 : Int) < b.toNat by omega)]; rfl

theorem rmay_spec {h : Hp} (s : Nm) : XCalls Tryd.prog 16 [.str s] h fun v h' => v = .bool (May s) ∧ h' = h := by
  refine XCalls.cps fun K hK => ?_
  apply x16; unfold X16
  cases h1 : ltI (s.length : Int) 1 with
  | true =>
    rw [ltI_eq, decide_eq_true_eq] at h1
    refine hK _ _ ⟨?_, rfl⟩
    unfold May
    rw [decide_eq_false (by omega)]; rfl
  | false =>
    rw [ltI_eq, decide_eq_false_iff_not] at h1
    cases h2 : ltI 32 (s.length : Int) with
    | true =>
      rw [ltI_eq, decide_eq_true_eq] at h2
      refine hK _ _ ⟨?_, rfl⟩
      unfold May
      rw [decide_eq_false (show ¬ s.length ≤ 32 by omega), Bool.and_false]; rfl
    | false =>
      rw [ltI_eq, decide_eq_false_iff_not] at h2
      have hM : May s = s.all okc := by
        unfold May
        rw [decide_eq_true (show 1 ≤ s.length by omega), decide_eq_true (show s.length ≤ 32 by omega)]; rfl
      refine ⟨fun vs g' => match vs with
        | [.int _ k] => ∃ i : Nat, k = (i : Int) ∧ i ≤ s.length ∧ (s.take i).all okc = true ∧ g' = h
        | _ => False, fun vs _ => match vs with
        | [.int _ k] => ((s.length : Int) - k).toNat
        | _ => 0, ⟨rfl, 0, rfl, by omega, rfl, rfl⟩, ?_⟩
      rintro bs k g1 ⟨i, rfl, hi, hx, rfl⟩
      cases hc : ltI (i : Int) (s.length : Int) with
      | false =>
        rw [ltI_eq, decide_eq_false_iff_not] at hc
        obtain rfl : i = s.length := by omega
        rw [List.take_length] at hx
        exact hK _ _ ⟨by rw [hM, hx], rfl⟩
      | true =>
        rw [ltI_eq, decide_eq_true_eq] at hc
        obtain ⟨b, hb⟩ : ∃ b, s[i]? = some b := ⟨_, List.getElem?_eq_getElem (by omega)⟩
        have hgb : s.get?Internal (Int.toNat (i : Int)) = some b := by rw [Int.toNat_natCast]; exact hb
        have hbad : okc b = false → V.bool false = .bool (May s) := fun h => by
          rw [hM]
          congr 1
          symm
          rw [List.all_eq_false]
          exact ⟨b, List.mem_of_getElem? hb, by rw [h]; simp⟩
        have hgood : okc b = true → [V.str s] = [V.str s] ∧ (∃ u : Nat, IntKind.i64.wrap ((i : Int) + 1) = (u : Int) ∧ u ≤ s.length ∧ (s.take u).all okc = true ∧ g1 = g1) ∧ ((s.length : Int) - IntKind.i64.wrap ((i : Int) + 1)).toNat < ((s.length : Int) - (i : Int)).toNat := fun h => by
          refine ⟨rfl, ⟨i + 1, ?_, by omega, ?_, rfl⟩, ?_⟩
          · rw [wr (by omega) (by omega)]; rfl
          · rw [List.take_add_one, hb, List.all_append, hx]; simp [h]
          · rw [wr (by omega) (by omega)]; omega
        have hl := lam_nat b
        refine ⟨by omega, b, hgb, ?_⟩
        cases c1 : ltI (b.toNat : Int) 97 with
        | true =>
          rw [c1] at hl
          refine ⟨by omega, b, hgb, ?_⟩
          cases c2 : ((b.toNat : Int) != 45) with
          | true => rw [c2] at hl; exact hK _ _ ⟨hbad hl, rfl⟩
          | false => rw [c2] at hl; exact hgood hl
        | false =>
          rw [c1] at hl
          refine ⟨by omega, b, hgb, ?_⟩
          cases c3 : ltI 122 (b.toNat : Int) with
          | true =>
            rw [c3] at hl
            refine ⟨by omega, b, hgb, ?_⟩
            cases c2 : ((b.toNat : Int) != 45) with
            | true => rw [c2] at hl; exact hK _ _ ⟨hbad hl, rfl⟩
            | false => rw [c2] at hl; exact hgood hl
          | false => rw [c3] at hl; exact hgood hl

/-- the document's meter at p -/
def RfR (p : Nat) (R : List Row) (h : Hp) (F : List Nat) : Prop := ∃ a f G, F = p :: G ∧ p ∉ G ∧ h.get p = some (.row [.slc a R.length f] 1 false) ∧ Own 3 a R.length (rws R) h G

theorem RfR.rep (p : Nat) (R : List Row) : Rep (RfR p R) where
  loc := fun h h' F hs ⟨a, f, G, h1, h2, h3, h4⟩ => by
    subst h1
    exact ⟨a, f, G, rfl, h2, by rw [hs p (by simp)]; exact h3, (Own.rep _ _ _ _).loc _ _ _ (fun j hj => hs j (List.mem_cons_of_mem _ hj)) h4⟩
  dom := fun h F ⟨a, f, G, h1, h2, h3, h4⟩ j hj => by
    subst h1
    rcases List.mem_cons.1 hj with rfl | hj
    · exact ⟨_, h3, rfl⟩
    · exact (Own.rep _ _ _ _).dom _ _ h4 j hj

theorem ins_at (s : Nm) (v : Cn) : ∀ (R : List Row) (i : Nat), i ≤ R.length → (∀ r ∈ R.take i, Op.bytesLess r.1 s = true) → (∀ r, R[i]? = some r → Op.bytesLess r.1 s = false) → ins s v R = R.take i ++ (s, v) :: R.drop i
  | [], i, hi, _, _ => by simp [ins]
  | r :: R, 0, _, _, h2 => by
    have := h2 r rfl
    simp [ins, this]
  | r :: R, i + 1, hi, h1, h2 => by
    have hr := h1 r (by simp)
    simp only [ins, hr, if_true, List.take_succ_cons, List.drop_succ_cons, List.cons_append]
    rw [ins_at s v R i (by simpa using hi) (fun x hx => h1 x (by simp [hx])) (fun x hx => h2 x (by simpa using hx))]

theorem mput_set {κ β : Type} [DecidableEq κ] : ∀ {R : List (κ × β)} {i : Nat} {k : κ} {c : β} (v : β), (R.map Prod.fst).Nodup → R[i]? = some (k, c) → mput R k v = R.set i (k, v)
  | [], _, _, _, _, _, h => by simp at h
  | x :: R, 0, k, c, v, _, h => by
    simp at h; subst h
    simp [mput]
  | x :: R, i + 1, k, c, v, hn, h => by
    rw [List.map_cons, List.nodup_cons] at hn
    have h' : R[i]? = some (k, c) := by simpa using h
    have hne : ¬ k = x.1 := fun e => hn.1 (by rw [← e]; exact List.mem_map_of_mem (f := Prod.fst) (List.mem_of_getElem? h'))
    simp only [mput, if_neg hne, List.set_cons_succ]
    rw [mput_set v hn.2 h']

section
variable {h : Hp} {p : Nat} {R : List Row} {F : List Nat}

theorem at_spec (hm : RfR p R h F) (g : Good R) (s : Nm) :
    XCalls Tryd.prog 11 [.ptr (some (p, 0)), .str s] h fun v h' => (∃ x : Int, v = .int .i64 x ∧ ((x = -1 ∧ mget R s = none) ∨ ∃ (i : Nat) (c : Cn), x = i ∧ i < R.length ∧ R[i]? = some (s, c) ∧ mget R s = some c)) ∧ h' = h := by
  obtain ⟨a, f, G, rfl, hpG, hg, ho⟩ := hm
  refine XCalls.cps fun K hK => ?_
  have hgl := g.len
  apply x11; unfold X11
  refine ⟨fun vs g' => match vs with
    | [.int _ k] => ∃ i : Nat, k = (i : Int) ∧ i ≤ R.length ∧ (∀ r ∈ R.take i, r.1 ≠ s) ∧ g' = h
    | _ => False, fun vs _ => match vs with
    | [.int _ k] => ((R.length : Int) - k).toNat
    | _ => 0, ⟨rfl, 0, rfl, by omega, by simp, rfl⟩, ?_⟩
  rintro bs k g1 ⟨i, rfl, hi, hx, rfl⟩
  refine ⟨a, R.length, f, by rw [Hp.ld_of hg]; rfl, ?_⟩
  cases hc : ltI (i : Int) (R.length : Int) with
  | false =>
    rw [ltI_eq, decide_eq_false_iff_not] at hc
    obtain rfl : i = R.length := by omega
    rw [List.take_length] at hx
    refine hK _ _ ⟨⟨-1, rfl, .inl ⟨rfl, ?_⟩⟩, rfl⟩
    cases hq : mget R s with
    | none => rfl
    | some c => exact absurd rfl (hx _ (mget_in hq))
  | true =>
    rw [ltI_eq, decide_eq_true_eq] at hc
    have hk : i < R.length := by omega
    refine ⟨a, R.length, f, by rw [Hp.ld_of hg]; rfl, ⟨by omega, hc⟩, ?_⟩
    obtain ⟨q, o', r0, rfl, hr0, hr1, hld, _⟩ := ho.ld hk
    obtain ⟨r, hrr⟩ : ∃ r, R[i]? = some r := ⟨_, List.getElem?_eq_getElem hk⟩
    rw [rws_get hrr] at hr0
    obtain rfl := Option.some.inj hr0
    refine ⟨r.1, by rw [Int.toNat_natCast, hld 0 (by omega)]; rfl, ?_⟩
    cases he : (r.1 == s) with
    | true =>
      have e : r.1 = s := by simpa using he
      obtain ⟨r1, r2⟩ := r
      subst e
      exact hK _ _ ⟨⟨i, rfl, .inr ⟨i, r2, rfl, hk, hrr, mget_of g.nd (List.mem_of_getElem? hrr)⟩⟩, rfl⟩
    | false =>
      have e : r.1 ≠ s := by simpa using he
      refine ⟨rfl, ⟨i + 1, ?_, by omega, fun x hx' => ?_, rfl⟩, ?_⟩
      · rw [wr (by omega) (by omega)]; rfl
      · rw [List.take_add_one, hrr] at hx'
        rcases List.mem_append.1 hx' with hx' | hx'
        · exact hx x hx'
        · simp at hx'; subst hx'; exact e
      · show ((R.length : Int) - IntKind.i64.wrap ((i : Int) + 1)).toNat < ((R.length : Int) - (i : Int)).toNat
        rw [wr (by omega) (by omega)]; omega

theorem rtotal_spec (hm : RfR p R h F) (g : Good R) : XCalls Tryd.prog 24 [.ptr (some (p, 0))] h fun v h' => v = .tup [.int .i64 (tot R).1, .int .i64 (tot R).2] ∧ h' = h := by
  obtain ⟨a, f, G, rfl, hpG, hg, ho⟩ := hm
  refine XCalls.cps fun K hK => ?_
  have hgl := g.len
  apply x24; unfold X24
  refine ⟨fun vs g' => match vs with
    | [.int _ x, .int _ y, .int _ k] => ∃ i : Nat, k = (i : Int) ∧ i ≤ R.length ∧ x = ((tot (R.take i)).1 : Int) ∧ y = ((tot (R.take i)).2 : Int) ∧ g' = h
    | _ => False, fun vs _ => match vs with
    | [_, _, .int _ k] => ((R.length : Int) - k).toNat
    | _ => 0, ⟨rfl, 0, rfl, by omega, rfl, rfl, rfl⟩, ?_⟩
  rintro bs x y k g1 ⟨i, rfl, hi, rfl, rfl, rfl⟩
  refine ⟨a, R.length, f, by rw [Hp.ld_of hg]; rfl, ?_⟩
  cases hc : ltI (i : Int) (R.length : Int) with
  | false =>
    rw [ltI_eq, decide_eq_false_iff_not] at hc
    obtain rfl : i = R.length := by omega
    rw [List.take_length]
    exact hK _ _ ⟨rfl, rfl⟩
  | true =>
    rw [ltI_eq, decide_eq_true_eq] at hc
    have hk : i < R.length := by omega
    obtain ⟨q, o', r0, rfl, hr0, hr1, hld, _⟩ := ho.ld hk
    obtain ⟨r, hrr⟩ : ∃ r, R[i]? = some r := ⟨_, List.getElem?_eq_getElem hk⟩
    rw [rws_get hrr] at hr0
    obtain rfl := Option.some.inj hr0
    obtain ⟨b1, b2⟩ := g.bnd r (List.mem_of_getElem? hrr)
    obtain ⟨t1, t2⟩ := tot_le (R.take i)
    have eM : MX = 4503599627370496 := rfl
    have cap : ∀ x y : Nat, x ≤ MX → y ≤ MX → (bif ltI 4503599627370496 (IntKind.i64.wrap ((x : Int) + (y : Int))) then (4503599627370496 : Int) else IntKind.i64.wrap ((x : Int) + (y : Int))) = ((min (x + y) MX : Nat) : Int) := by
      intro x y hx hy
      rw [wr (by omega) (by omega), ltI_eq]
      by_cases h : (4503599627370496 : Int) < x + y
      · rw [decide_eq_true h, Nat.min_eq_right (by omega)]; rfl
      · rw [decide_eq_false h, Nat.min_eq_left (by omega)]
        show (x : Int) + y = ((x + y : Nat) : Int)
        omega
    refine ⟨some (q, o'), R.length, f, by rw [Hp.ld_of hg]; rfl, ⟨by omega, hc⟩, r.2.1, by rw [Int.toNat_natCast, hld 1 (by omega)]; rfl, some (q, o'), R.length, f, by rw [Hp.ld_of hg]; rfl, ⟨by omega, hc⟩, r.2.2, by rw [Int.toNat_natCast, hld 2 (by omega)]; rfl, rfl, ⟨i + 1, ?_, by omega, ?_, ?_, rfl⟩, ?_⟩
    · rw [wr (by omega) (by omega)]; rfl
    · rw [cap _ _ t1 b1, tot_snoc R hrr]; rfl
    · rw [cap _ _ t2 b2, tot_snoc R hrr]; rfl
    · show ((R.length : Int) - IntKind.i64.wrap ((i : Int) + 1)).toNat < ((R.length : Int) - (i : Int)).toNat
      rw [wr (by omega) (by omega)]; omega

theorem copy_spec (hw : h.wf) (hm : RfR p R h F) (g : Good R) : XCalls Tryd.prog 28 [.ptr (some (p, 0))] h fun v h' => ∃ q F', v = .ptr (some (q, 0)) ∧ RfR q R h' F' ∧ Quiet h h' ∧ h.next ≤ q ∧ (∀ j ∈ F', h.next ≤ j) := by
  obtain ⟨a, f, G, rfl, hpG, hg, ho⟩ := hm
  have hgl := g.len
  obtain ⟨ti, e, ei, ht, hd, he, hs, hb, hz⟩ := t46
  apply x28; unfold X28
  refine ⟨a, R.length, f, by rw [Hp.ld_of hg]; rfl, ?_⟩
  have hrl := rws_len R
  obtain ⟨a', f', G', h1, hx, ho', u, w⟩ := (Own.nil 3 h).apps (f := true) (u := 46) (y := .slc a R.length f) (news := rws R) hw ht hd ht (by intro k; rw [hd]; exact fun h => by cases h) he hs (by omega) hz
    (by have := ho.ow.news f; rw [this]) (rws_all R) (by rw [hrl]; exact Nat.le_trans (Nat.mul_le_mul (show 0 + R.length ≤ 64 by omega) hb) (by decide)) (by omega)
  rw [hrl, Nat.zero_add] at hx ho'
  rw [List.nil_append] at ho'
  refine ⟨a', R.length, f', h1, hx, ?_⟩
  rintro h2 rfl
  have hGn : ∀ j ∈ G', h.next ≤ j ∧ j < h1.next := fun j hj => ⟨by rcases u.new j hj with h | h; cases h; exact h, (Own.rep _ _ _ _).lt w ho' hj⟩
  have ule := u.le
  refine ⟨h1.next, h1.next :: G', rfl, ⟨a', f', G', rfl, fun hh => by have := hGn _ hh; omega, Hp.get_alloc_self, (Own.rep _ _ _ _).loc _ _ _ (fun j hj => Hp.get_alloc_ne (by have := hGn j hj; omega)) ho'⟩, ⟨fun j hj => by rw [Hp.get_alloc_ne (by omega), u.same j hj (by simp)], by rw [Hp.alloc_next]; omega, w.alloc⟩, ule, fun j hj => ?_⟩
  rcases List.mem_cons.1 hj with rfl | hj
  · exact ule
  · exact (hGn j hj).1
end
end Go.Vex.Mtr
namespace Go.Vex.Mtr
open Go.Proofs Fl

section
variable {h : Hp} {p : Nat} {R : List Row} {F : List Nat}

theorem rws_set (R : List Row) (i : Nat) (r : Row) : rws (R.set i r) = (rws R).set i (rRow r) := by simp [rws, List.map_set]

theorem radd_spec (hw : h.wf) (hm : RfR p R h F) (g : Good R) (s : Nm) (a b : Int) :
    XCalls Tryd.prog 23 [.ptr (some (p, 0)), .str s, .int .i64 a, .int .i64 b] h fun v h' => ∃ F', v = .int .i64 (addR R s a b).1 ∧ RfR p (addR R s a b).2 h' F' ∧ Upd h h' F F' ∧ h'.wf := by
  have hm0 := hm
  obtain ⟨x, f, G, rfl, hpG, hg, ho⟩ := hm
  have hpl := hw.lt hg
  have hgl := g.len
  have hrl := rws_len R
  obtain ⟨ti, e, ei, ht, hd, he, hs, hb, hz⟩ := t46
  refine XCalls.cps fun K hK => ?_
  apply x23; unfold X23
  refine (rmay_spec s).mono ?_
  rintro _ h ⟨rfl, rfl⟩
  refine ⟨_, rfl, ?_⟩
  have bad : (fit a && fit b && May s) = false → K (.int .i64 2) h := fun hh => by
    have e : addR R s a b = (2, R) := by unfold addR; rw [hh, if_neg (by simp)]
    exact hK _ _ ⟨p :: G, by rw [e], by rw [e]; exact hm0, Upd.refl _ _, hw⟩
  cases hM : May s with
  | false => exact bad (by rw [hM, Bool.and_false])
  | true =>
    have fita : ∀ n : Int, fit n = (!ltI n 0 && !ltI 4503599627370496 n) := fun n => by
      rw [ltI_eq, ltI_eq, fit, ← decide_not, ← decide_not]
      simp only [Int.not_lt]
    cases a1 : ltI a 0 with
    | true => exact bad (by rw [fita a, a1]; rfl)
    | false =>
      cases a2 : ltI 4503599627370496 a with
      | true => exact bad (by rw [fita a, a1, a2]; rfl)
      | false =>
        have fa : fit a = true := by rw [fita, a1, a2]; rfl
        cases b1 : ltI b 0 with
        | true => exact bad (by rw [fita b, b1, fa]; rfl)
        | false =>
          cases b2 : ltI 4503599627370496 b with
          | true => exact bad (by rw [fita b, b1, b2, fa]; rfl)
          | false =>
            have fb : fit b = true := by rw [fita, b1, b2]; rfl
            have eR : addR R s a b = addN R s (a.toNat, b.toNat) := by unfold addR; rw [hM, fa, fb]; rfl
            rw [eR] at hK
            clear bad eR fita
            obtain ⟨fa1, fa2, fa3⟩ := fit_le fa
            obtain ⟨fb1, fb2, fb3⟩ := fit_le fb
            have eM : MX = 4503599627370496 := rfl
            refine (at_spec hm0 g s).mono ?_
            rintro _ h ⟨⟨n1, rfl, hn1⟩, rfl⟩
            refine ⟨_, rfl, ?_⟩
            rcases hn1 with ⟨rfl, hq⟩ | ⟨i, w, rfl, hi, hri, hq⟩
            · -- a new one
              refine ⟨x, R.length, f, by rw [Hp.ld_of hg]; rfl, ?_⟩
              cases h64 : ltI (R.length : Int) 64 with
              | false =>
                rw [ltI_eq, decide_eq_false_iff_not] at h64
                have e : addN R s (a.toNat, b.toNat) = (6, R) := by unfold addN; rw [hq]; simp only; rw [if_pos (by omega)]
                exact hK _ _ ⟨p :: G, by rw [e], by rw [e]; exact hm0, Upd.refl _ _, hw⟩
              | true =>
                rw [ltI_eq, decide_eq_true_eq] at h64
                have eA : addN R s (a.toNat, b.toNat) = (0, ins s (a.toNat, b.toNat) R) := by unfold addN; rw [hq]; simp only; rw [if_neg (by omega)]
                rw [eA] at hK
                refine ⟨fun vs g' => match vs with
                  | [.int _ k] => ∃ i : Nat, k = (i : Int) ∧ i ≤ R.length ∧ (∀ r ∈ R.take i, Op.bytesLess r.1 s = true) ∧ (∀ r, R[i]? = some r → Op.bytesLess r.1 s = false) ∧ g' = h
                  | _ => False, ⟨fun vs g' => match vs with
                  | [.int _ k] => ∃ i : Nat, k = (i : Int) ∧ i ≤ R.length ∧ (∀ r ∈ R.take i, Op.bytesLess r.1 s = true) ∧ g' = h
                  | _ => False, fun vs _ => match vs with
                  | [.int _ k] => ((R.length : Int) - k).toNat
                  | _ => 0, ⟨rfl, 0, rfl, by omega, by simp, rfl⟩, ?_⟩, ?_⟩
                · rintro bs k g1 ⟨i, rfl, hi, hx, rfl⟩
                  refine ⟨x, R.length, f, by rw [Hp.ld_of hg]; rfl, ?_⟩
                  cases hc : ltI (i : Int) (R.length : Int) with
                  | false =>
                    rw [ltI_eq, decide_eq_false_iff_not] at hc
                    obtain rfl : i = R.length := by omega
                    exact ⟨rfl, R.length, rfl, hi, hx, fun r hr => (by rw [List.getElem?_eq_none (Nat.le_refl _)] at hr; cases hr), rfl⟩
                  | true =>
                    rw [ltI_eq, decide_eq_true_eq] at hc
                    have hk : i < R.length := by omega
                    refine ⟨x, R.length, f, by rw [Hp.ld_of hg]; rfl, ⟨by omega, hc⟩, ?_⟩
                    obtain ⟨q, o', r0, rfl, hr0, hr1, hld, _⟩ := ho.ld hk
                    obtain ⟨r, hrr⟩ : ∃ r, R[i]? = some r := ⟨_, List.getElem?_eq_getElem hk⟩
                    rw [rws_get hrr] at hr0
                    obtain rfl := Option.some.inj hr0
                    refine ⟨r.1, by rw [Int.toNat_natCast, hld 0 (by omega)]; rfl, ?_⟩
                    cases hl : Op.bytesLess r.1 s with
                    | true =>
                      refine ⟨rfl, ⟨i + 1, ?_, by omega, fun y hy => ?_, rfl⟩, ?_⟩
                      · rw [wr (by omega) (by omega)]; rfl
                      · rw [List.take_add_one, hrr] at hy
                        rcases List.mem_append.1 hy with hy | hy
                        · exact hx y hy
                        · simp at hy; subst hy; exact hl
                      · show ((R.length : Int) - IntKind.i64.wrap ((i : Int) + 1)).toNat < ((R.length : Int) - (i : Int)).toNat
                        rw [wr (by omega) (by omega)]; omega
                    | false => exact ⟨rfl, i, rfl, by omega, hx, fun y hy => (by rw [hrr] at hy; cases hy; exact hl), rfl⟩
                · rintro bs k h ⟨i, rfl, hi, hx1, hx2, rfl⟩
                  refine ⟨x, R.length, f, by rw [Hp.ld_of hg]; rfl, ?_⟩
                  obtain ⟨a5, f5, hc5, ow5⟩ := ho.ow.cut (κ := .i64) (κ' := .i64) (f := f) ht hd he hs (lo := none) (hi := some i) (i := 0) (j := i) rfl rfl (by omega) (by omega)
                  refine ⟨a5, i - 0, f5, hc5, ?_⟩
                  have l5 : (((rws R).take i).drop 0).length = i := by rw [List.drop_zero, List.length_take, hrl]; omega
                  obtain ⟨p1, f6, G1, h3, hx3, o3, u3, w3⟩ := (Own.nil 3 h).apps (f := true) (u := 46) (y := .slc a5 (i - 0) f5) (news := ((rws R).take i).drop 0) hw ht hd ht (by intro k; rw [hd]; exact fun h => by cases h) he hs (by omega) hz
                    (ow5.news f5) (fun r hr => rws_all R r (List.mem_of_mem_take (List.mem_of_mem_drop hr))) (by rw [l5]; exact Nat.le_trans (Nat.mul_le_mul (show 0 + i ≤ 64 by omega) hb) (by decide)) (by omega)
                  rw [l5, Nat.zero_add] at hx3 o3
                  rw [List.nil_append, List.drop_zero] at o3
                  refine ⟨p1, i, f6, h3, hx3, ?_⟩
                  rintro h4 rfl
                  have hG1 : ∀ j ∈ G1, h.next ≤ j := fun j hj => by rcases u3.new j hj with h | h; cases h; exact h
                  obtain ⟨h5, hx5, o5, u5, w5⟩ := app46 (c := rRow (s, (a.toNat, b.toNat))) (f := f6) rfl o3 w3 (by omega)
                  have eab : O.row [.str s, .int .i64 a, .int .i64 b] 3 false = .row (rRow (s, (a.toNat, b.toNat))) 3 false := by
                    unfold rRow
                    simp only [Int.toNat_of_nonneg fa1, Int.toNat_of_nonneg fb1]
                  rw [eab]
                  have le3 := u3.le
                  have le5 := u5.le
                  have s5 : ∀ j, j < h.next → h5.get j = h.get j := fun j hj => by rw [u5.same j (by omega) (fun hh => by have := hG1 j hh; omega), u3.same j hj (by simp)]
                  have gp5 : h5.get p = some (.row [.slc x R.length f] 1 false) := by rw [s5 p hpl]; exact hg
                  have ho5 : Own 3 x R.length (rws R) h5 G := (Own.rep _ _ _ _).loc _ _ _ (fun j hj => s5 j ((Own.rep _ _ _ _).lt hw ho hj)) ho
                  obtain ⟨a7, f9, hc7, ow7⟩ := ho5.ow.cut (κ := .i64) (κ' := .i64) (f := f) ht hd he hs (lo := some i) (hi := none) (i := i) (j := R.length) rfl rfl (by omega) (by omega)
                  refine ⟨some (h3.next + 1, 0), i + 1, false, h5, hx5, x, R.length, f, by rw [Hp.ld_of gp5]; rfl, a7, R.length - i, f9, hc7, ?_⟩
                  have l7 : (((rws R).take R.length).drop i).length = R.length - i := by rw [List.length_drop, List.length_take, hrl]; omega
                  obtain ⟨p3, f10, G3, h6, hx6, o6, u6, w6⟩ := o5.apps (f := false) (u := 46) (y := .slc a7 (R.length - i) f9) (news := ((rws R).take R.length).drop i) w5 ht hd ht (by intro k; rw [hd]; exact fun h => by cases h) he hs (by omega) hz
                    (ow7.news f9) (fun r hr => rws_all R r (List.mem_of_mem_take (List.mem_of_mem_drop hr))) (by rw [l7]; exact Nat.le_trans (Nat.mul_le_mul (show i + 1 + (R.length - i) ≤ 65 by omega) hb) (by decide)) (by omega)
                  rw [l7] at hx6 o6
                  have el : i + 1 + (R.length - i) = (ins s (a.toNat, b.toNat) R).length := by rw [ins_len]; omega
                  have er : (rws R).take i ++ [rRow (s, (a.toNat, b.toNat))] ++ ((rws R).take R.length).drop i = rws (ins s (a.toNat, b.toNat) R) := by
                    rw [ins_at s _ R i hi hx1 hx2]
                    rw [List.take_of_length_le (Nat.le_of_eq hrl)]
                    simp [rws, List.map_take, List.map_drop]
                  rw [el] at hx6 o6
                  rw [er] at o6
                  have le6 := u6.le
                  have hG3 : ∀ j ∈ G3, h.next ≤ j := fun j hj => by
                    rcases u6.new j hj with h | h
                    · rw [List.mem_singleton] at h; omega
                    · omega
                  have s6 : ∀ j, j < h.next → h6.get j = h.get j := fun j hj => by rw [u6.same j (by omega) (by rw [List.mem_singleton]; omega), s5 j hj]
                  have gp6 : h6.get p = some (.row [.slc x R.length f] 1 false) := by rw [s6 p hpl]; exact hg
                  refine ⟨p3, _, f10, h6, hx6, _, Hp.st_of gp6 (Nat.le_of_ble_eq_true rfl), hK _ _ ⟨p :: G3, rfl, ⟨p3, f10, G3, rfl, fun hh => by have := hG3 _ hh; omega, Hp.get_set_self, (Own.rep _ _ _ _).loc _ _ _ (fun j hj => Hp.get_set_ne (by have := hG3 j hj; omega)) o6⟩, ⟨fun j hj hF => ?_, fun j hj => ?_, ?_⟩, w6.set (by omega)⟩⟩
                  · rw [Hp.get_set_ne (fun e => hF (by simp [e])), s6 j hj]
                  · rcases List.mem_cons.1 hj with rfl | hj
                    · exact .inl (List.mem_cons_self ..)
                    · exact .inr (hG3 j hj)
                  · rw [Hp.set_next]; omega
            · -- one that there is
              have hi0 : ltI (i : Int) 0 = false := by rw [ltI_eq, decide_eq_false_iff_not]; omega
              rw [hi0]
              obtain ⟨w1, w2⟩ := g.get hq
              obtain ⟨q, o', r0, rfl, hr0, _, _, hlda⟩ := ho.ld hi
              rw [rws_get hri] at hr0
              obtain rfl := Option.some.inj hr0
              refine ⟨some (q, o'), R.length, f, by rw [Hp.ld_of hg]; rfl, ⟨by omega, by omega⟩, s, w.1, w.2, by rw [Int.toNat_natCast]; exact hlda, ?_⟩
              rintro h8 rfl
              have hg8 : (h.alloc (.row [.str [], .int .i64 0, .int .i64 0] 1 false)).get h.next = some (.row [.str [], .int .i64 0, .int .i64 0] 1 false) := Hp.get_alloc_self
              refine ⟨_, Hp.st_of hg8 (Nat.le_of_ble_eq_true rfl), ?_⟩
              have hg9 : ((h.alloc (.row [.str [], .int .i64 0, .int .i64 0] 1 false)).set h.next (.row (splice [.str [], .int .i64 0, .int .i64 0] 0 [.str s, .int .i64 w.1, .int .i64 w.2]) 1 false)).get h.next = some (.row [.str s, .int .i64 w.1, .int .i64 w.2] 1 false) := Hp.get_set_self
              have q9 : Quiet h ((h.alloc (.row [.str [], .int .i64 0, .int .i64 0] 1 false)).set h.next (.row (splice [.str [], .int .i64 0, .int .i64 0] 0 [.str s, .int .i64 w.1, .int .i64 w.2]) 1 false)) := ⟨fun j hj => by rw [Hp.get_set_ne (by omega), Hp.get_alloc_ne (by omega)], by show h.next ≤ h.next + 1; omega, hw.alloc.set (by show h.next < h.next + 1; omega)⟩
              have n9 : ((h.alloc (.row [.str [], .int .i64 0, .int .i64 0] 1 false)).set h.next (.row (splice [.str [], .int .i64 0, .int .i64 0] 0 [.str s, .int .i64 w.1, .int .i64 w.2]) 1 false)).next = h.next + 1 := rfl
              generalize ((h.alloc (.row [.str [], .int .i64 0, .int .i64 0] 1 false)).set h.next _) = h9 at *
              have m9 : RfR p R h9 (p :: G) := (RfR.rep _ _).loc _ _ _ (fun j hj => q9.same j ((RfR.rep _ _).lt hw hm0 hj)) hm0
              refine ⟨w.1, by rw [Hp.ld_of hg9]; rfl, ?_⟩
              rw [wr (x := 4503599627370496 - a) (by omega) (by omega), wr (x := 4503599627370496 - b) (by omega) (by omega)]
              have over : (MX < w.1 + a.toNat ∨ MX < w.2 + b.toNat) → K (.int .i64 9) h9 := fun hh => by
                have e : addN R s (a.toNat, b.toNat) = (9, R) := by unfold addN; rw [hq]; simp only; rw [if_pos hh]
                exact hK _ _ ⟨p :: G, by rw [e], by rw [e]; exact m9, q9.upd _, q9.wf⟩
              cases c1 : ltI (4503599627370496 - a) (w.1 : Int) with
              | true =>
                rw [ltI_eq, decide_eq_true_eq] at c1
                exact over (.inl (by omega))
              | false =>
                rw [ltI_eq, decide_eq_false_iff_not] at c1
                refine ⟨w.2, by rw [Hp.ld_of hg9]; rfl, ?_⟩
                cases c2 : ltI (4503599627370496 - b) (w.2 : Int) with
                | true =>
                  rw [ltI_eq, decide_eq_true_eq] at c2
                  exact over (.inr (by omega))
                | false =>
                  rw [ltI_eq, decide_eq_false_iff_not] at c2
                  have eA : addN R s (a.toNat, b.toNat) = (0, mput R s (w.1 + a.toNat, w.2 + b.toNat)) := by unfold addN; rw [hq]; simp only; rw [if_neg (by omega)]
                  rw [eA] at hK
                  clear over
                  refine ⟨w.1, by rw [Hp.ld_of hg9]; rfl, _, Hp.st_of hg9 (Nat.le_of_ble_eq_true rfl), ?_⟩
                  rw [wr (x := (w.1 : Int) + a) (by omega) (by omega)]
                  have e1 : (w.1 : Int) + a = ((w.1 + a.toNat : Nat) : Int) := by omega
                  have e2 : (w.2 : Int) + b = ((w.2 + b.toNat : Nat) : Int) := by omega
                  rw [e1]
                  have hg10 : (h9.set h.next (.row (splice [.str s, .int .i64 w.1, .int .i64 w.2] 1 [.int .i64 ((w.1 + a.toNat : Nat) : Int)]) 1 false)).get h.next = some (.row [.str s, .int .i64 ((w.1 + a.toNat : Nat) : Int), .int .i64 w.2] 1 false) := Hp.get_set_self
                  have s10 : ∀ j, j ≠ h.next → (h9.set h.next (.row (splice [.str s, .int .i64 w.1, .int .i64 w.2] 1 [.int .i64 ((w.1 + a.toNat : Nat) : Int)]) 1 false)).get j = h9.get j := fun j hj => Hp.get_set_ne hj
                  have n10 : (h9.set h.next (.row (splice [.str s, .int .i64 w.1, .int .i64 w.2] 1 [.int .i64 ((w.1 + a.toNat : Nat) : Int)]) 1 false)).next = h9.next := rfl
                  have w10 : (h9.set h.next (.row (splice [.str s, .int .i64 w.1, .int .i64 w.2] 1 [.int .i64 ((w.1 + a.toNat : Nat) : Int)]) 1 false)).wf := q9.wf.set (by omega)
                  generalize (h9.set h.next _) = h10 at *
                  refine ⟨w.2, by rw [Hp.ld_of hg10]; rfl, _, Hp.st_of hg10 (Nat.le_of_ble_eq_true rfl), ?_⟩
                  rw [wr (x := (w.2 : Int) + b) (by omega) (by omega), e2]
                  have hg11 : (h10.set h.next (.row (splice [.str s, .int .i64 ((w.1 + a.toNat : Nat) : Int), .int .i64 w.2] 2 [.int .i64 ((w.2 + b.toNat : Nat) : Int)]) 1 false)).get h.next = some (.row (rRow (s, (w.1 + a.toNat, w.2 + b.toNat))) 1 false) := Hp.get_set_self
                  have s11 : ∀ j, j ≠ h.next → (h10.set h.next (.row (splice [.str s, .int .i64 ((w.1 + a.toNat : Nat) : Int), .int .i64 w.2] 2 [.int .i64 ((w.2 + b.toNat : Nat) : Int)]) 1 false)).get j = h10.get j := fun j hj => Hp.get_set_ne hj
                  have n11 : (h10.set h.next (.row (splice [.str s, .int .i64 ((w.1 + a.toNat : Nat) : Int), .int .i64 w.2] 2 [.int .i64 ((w.2 + b.toNat : Nat) : Int)]) 1 false)).next = h10.next := rfl
                  have w11 : (h10.set h.next (.row (splice [.str s, .int .i64 ((w.1 + a.toNat : Nat) : Int), .int .i64 w.2] 2 [.int .i64 ((w.2 + b.toNat : Nat) : Int)]) 1 false)).wf := w10.set (by omega)
                  generalize (h10.set h.next _) = h11 at *
                  have s0 : ∀ j, j < h.next → h11.get j = h.get j := fun j hj => by rw [s11 j (by omega), s10 j (by omega), q9.same j hj]
                  have gp11 : h11.get p = some (.row [.slc (some (q, o')) R.length f] 1 false) := by rw [s0 p hpl]; exact hg
                  have ho11 : Own 3 (some (q, o')) R.length (rws R) h11 G := (Own.rep _ _ _ _).loc _ _ _ (fun j hj => s0 j ((Own.rep _ _ _ _).lt hw ho hj)) ho
                  obtain ⟨q', o'', h12, e12, hst, o12, s12, n12, w12⟩ := ho11.stN w11 hi (row := rRow (s, (w.1 + a.toNat, w.2 + b.toNat))) rfl
                  cases e12
                  refine ⟨some (q, o'), R.length, f, by rw [Hp.ld_of gp11]; rfl, s, _, _, by rw [Hp.lda_of hg11 (Nat.le_of_ble_eq_true rfl)]; rfl, ⟨by omega, by omega⟩, h12, by rw [Int.toNat_natCast]; exact hst, hK _ _ ⟨p :: G, rfl, ⟨some (q, o'), f, G, rfl, hpG, ?_, ?_⟩, ⟨fun j hj hF => ?_, fun _ h => .inl h, by omega⟩, w12⟩⟩
                  · have hne : mget R s ≠ none := by rw [hq]; simp
                    rw [s12 p hpG, mput_len R s _ hne]; exact gp11
                  · have hne : mget R s ≠ none := by rw [hq]; simp
                    have e3 : rws (mput R s (w.1 + a.toNat, w.2 + b.toNat)) = (rws R).set i (rRow (s, (w.1 + a.toNat, w.2 + b.toNat))) := by rw [mput_set _ g.nd hri, rws_set]
                    show Own 3 _ (mput R s (w.1 + a.toNat, w.2 + b.toNat)).length (rws (mput R s (w.1 + a.toNat, w.2 + b.toNat))) h12 G
                    rw [e3, mput_len R s _ hne]; exact o12
                  · rw [s12 j (fun hh => hF (List.mem_cons_of_mem _ hh)), s0 j hj]
end
end Go.Vex.Mtr
namespace Go.Vex.Mtr
open Go.Proofs Fl

theorem peq_of {h : Hp} {q p e e' : Nat} {c c' : List V} (hq : h.get q = some (.row c e false)) (hp : h.get p = some (.row c' e' false)) : xpeq T h 26 (some (q, 0)) (some (p, 0)) = some (Nat.beq q p && Nat.beq 0 0) := by
  have hv : veq T 12 26 (.ptr (some (q, 0))) (.ptr (some (p, 0))) = none := rfl
  obtain ⟨ti, t', ei, ht, hd, he, hs⟩ : ∃ ti t' ei, T 26 = some ti ∧ ti.d = .ptr t' ∧ T t' = some ei ∧ Nat.ble 1 ei.size = true := ⟨_, _, _, rfl, rfl, rfl, rfl⟩
  simp only [xpeq, hv, ht, hd, he, hq, hp, hs, cond_true]

section
variable {h : Hp} {p : Nat} {R : List Row} {F : List Nat}

theorem RfR.row {p : Nat} {R : List Row} {h : Hp} {F : List Nat} (hm : RfR p R h F) : ∃ a f, h.get p = some (.row [.slc a R.length f] 1 false) ∧ p ∈ F := by
  obtain ⟨a, f, G, rfl, _, hg, _⟩ := hm
  exact ⟨a, f, hg, by simp⟩

theorem rjoin_spec (hw : h.wf) (hm : RfR p R h F) (g : Good R) {a : Option (Nat × Nat)} {n : Nat} {f : Bool} {ms : List Nat} {Rs : List (List Row)} {G : List Nat} (ho : Ow 1 a n (ptrs (ms.map fun q => some (q, 0))) h G) (hn : n ≤ 1000000)
    (hl : Rs.length = ms.length) (hms : ∀ (i q : Nat) (Q : List Row), ms[i]? = some q → Rs[i]? = some Q → Good Q ∧ (q = p → Q = R) ∧ ∃ F', RfR q Q h F') :
    XCalls Tryd.prog 15 [.ptr (some (p, 0)), .slc a n f] h fun v h' => ∃ F', v = .int .i64 (joinR R Rs).1 ∧ RfR p (joinR R Rs).2 h' F' ∧ Upd h h' F F' ∧ h'.wf := by
  refine XCalls.cps fun K hK => ?_
  have hnl : ms.length = n := by have := ho.1; simpa [ptrs] using this
  obtain ⟨pa, pf, hgp, hpF⟩ := hm.row
  have hpl := hw.lt hgp
  apply x15; unfold X15
  refine (copy_spec hw hm g).mono ?_
  rintro _ h1 ⟨x, Fx, rfl, rx, q1, hx0, hFx⟩
  refine ⟨_, rfl, ?_⟩
  refine ⟨fun vs g' => match vs with
    | [.int _ k] => ∃ (i : Nat) (X : List Row) (Fx : List Nat), k = (i : Int) ∧ i ≤ n ∧ Quiet h g' ∧ RfR x X g' Fx ∧ (∀ j ∈ Fx, h.next ≤ j) ∧ Good X ∧ joinL R Rs = joinL X (Rs.drop i)
    | _ => False, fun vs _ => match vs with
    | [.int _ k] => ((n : Int) - k).toNat
    | _ => 0, ⟨rfl, 0, R, Fx, rfl, by omega, q1, rx, hFx, g, rfl⟩, ?_⟩
  clear rx hFx
  rintro bs k g1 ⟨i, X, Fx, rfl, hi, q1, rx, hFx, gX, hJ⟩
  have gp1 : g1.get p = some (.row [.slc pa R.length pf] 1 false) := by rw [q1.same p hpl]; exact hgp
  cases hc : ltI (i : Int) (n : Int) with
  | false =>
    rw [ltI_eq, decide_eq_false_iff_not] at hc
    obtain rfl : i = n := by omega
    rw [List.drop_of_length_le (by omega)] at hJ
    have hR : joinR R Rs = (0, X) := by unfold joinR; rw [hJ]; rfl
    obtain ⟨a2, f2, G2, rfl, hxG, hg2, ho2⟩ := rx
    refine ⟨a2, X.length, f2, by rw [Hp.ld_of hg2]; rfl, _, Hp.st_of gp1 (Nat.le_of_ble_eq_true rfl), hK _ _ ⟨p :: G2, by rw [hR], ?_, ⟨fun j hj hF => ?_, fun j hj => ?_, ?_⟩, q1.wf.set (by have := q1.le; omega)⟩⟩
    · rw [hR]
      refine ⟨a2, f2, G2, rfl, fun hh => by have := hFx p (List.mem_cons_of_mem _ hh); omega, Hp.get_set_self, (Own.rep _ _ _ _).loc _ _ _ (fun j hj => Hp.get_set_ne (by have := hFx j (List.mem_cons_of_mem _ hj); omega)) ho2⟩
    · rw [Hp.get_set_ne (fun e : j = p => hF (by rw [e]; exact hpF)), q1.same j hj]
    · rcases List.mem_cons.1 hj with rfl | hj
      · exact .inl hpF
      · exact .inr (hFx j (List.mem_cons_of_mem _ hj))
    · rw [Hp.set_next]; exact q1.le
  | true =>
    rw [ltI_eq, decide_eq_true_eq] at hc
    have hk : i < n := by omega
    refine ⟨⟨by omega, hc⟩, ?_⟩
    have ho1 : Ow 1 a n (ptrs (ms.map fun q => some (q, 0))) g1 G := (Ow.rep _ _ _ _).loc _ _ _ (fun j hj => q1.same j ((Ow.rep _ _ _ _).lt hw ho hj)) ho
    obtain ⟨q, o', r0, rfl, hr0, hr1, hld, _⟩ := ho1.ld hk
    obtain ⟨qm, hqm⟩ : ∃ qm, ms[i]? = some qm := ⟨_, List.getElem?_eq_getElem (by omega)⟩
    obtain ⟨Q, hQ⟩ : ∃ Q, Rs[i]? = some Q := ⟨_, List.getElem?_eq_getElem (by omega)⟩
    rw [List.getElem?_map, List.getElem?_map, hqm] at hr0
    obtain rfl := Option.some.inj hr0
    refine ⟨some (qm, 0), by rw [Int.toNat_natCast]; have := hld 0 (by omega); simpa using this, ?_⟩
    obtain ⟨gQ, hself, F', mQ⟩ := hms i qm Q hqm hQ
    have mQ1 : RfR qm Q g1 F' := (RfR.rep _ _).loc _ _ _ (fun j hj => q1.same j ((RfR.rep _ _).lt hw mQ hj)) mQ
    refine (copy_spec q1.wf mQ1 gQ).mono ?_
    rintro _ g2 ⟨c, Fc, rfl, rc, qa, hc0, hFc⟩
    refine ⟨_, rfl, ?_⟩
    have hQl := gQ.len
    have hdrop : Rs.drop i = Q :: Rs.drop (i + 1) := by
      rw [List.drop_eq_getElem_cons (by omega)]
      congr 1
      rw [List.getElem?_eq_getElem (by omega)] at hQ
      exact Option.some.inj hQ
    rw [hdrop] at hJ
    refine ⟨fun vs g' => match vs with
      | [.ptr c] => ∃ c' Fc, c = some (c', 0) ∧ RfR c' Q g' Fc ∧ Quiet g1 g' ∧ (∀ j ∈ Fc, g1.next ≤ j)
      | _ => False, ⟨⟨by omega, hc⟩, some (qm, 0), ?_, ?_⟩, ?_⟩
    · have ho2 : Ow 1 (some (q, o')) n (ptrs (ms.map fun q => some (q, 0))) g2 G := (Ow.rep _ _ _ _).loc _ _ _ (fun j hj => qa.same j ((Ow.rep _ _ _ _).lt q1.wf ho1 hj)) ho1
      obtain ⟨q', o'', r0, e, hr0, _, hld, _⟩ := ho2.ld hk
      cases e
      rw [List.getElem?_map, List.getElem?_map, hqm] at hr0
      obtain rfl := Option.some.inj hr0
      rw [Int.toNat_natCast]; have := hld 0 (by omega); simpa using this
    · obtain ⟨qa', qf', hgq, hqF⟩ := mQ1.row
      have hg2q : g2.get qm = some (.row [.slc qa' Q.length qf'] 1 false) := by rw [qa.same qm (q1.wf.lt hgq)]; exact hgq
      have hg2p : g2.get p = some (.row [.slc pa R.length pf] 1 false) := by rw [qa.same p (q1.wf.lt gp1)]; exact gp1
      refine ⟨_, peq_of hg2q hg2p, ?_⟩
      cases hb : (Nat.beq qm p && Nat.beq 0 0) with
      | false => exact ⟨rfl, c, Fc, rfl, rc, qa, hFc⟩
      | true =>
        have e : qm = p := by
          rw [Bool.and_eq_true] at hb
          exact Nat.eq_of_beq_eq_true hb.1
        subst e
        have mQ2 : RfR qm Q g2 F' := (RfR.rep _ _).loc _ _ _ (fun j hj => qa.same j ((RfR.rep _ _).lt q1.wf mQ1 hj)) mQ1
        refine (copy_spec qa.wf mQ2 gQ).mono ?_
        rintro _ g3 ⟨c3, F3, rfl, rc3, q3, _, hF3⟩
        exact ⟨_, rfl, rfl, c3, F3, rfl, rc3, qa.trans q3, fun j hj => by have := hF3 j hj; have := qa.le; omega⟩
    · clear rc hFc hc0 Fc c
      rintro bs2 c g2' ⟨c', Fc, rfl, rc, qa', hFc⟩
      have rx2 : RfR x X g2' Fx := (RfR.rep _ _).loc _ _ _ (fun j hj => qa'.same j ((RfR.rep _ _).lt q1.wf rx hj)) rx
      refine ⟨fun vs g' => match vs with
        | [.int _ k] => ∃ (u : Nat) (Y : List Row) (Fy : List Nat), k = (u : Int) ∧ u ≤ Q.length ∧ Quiet h g' ∧ RfR x Y g' Fy ∧ (∀ j ∈ Fy, h.next ≤ j) ∧ (∀ j ∈ Fy, j ∉ Fc) ∧ Good Y ∧ addL X Q = addL Y (Q.drop u) ∧ RfR c' Q g' Fc
        | _ => False, fun vs _ => match vs with
        | [.int _ k] => ((Q.length : Int) - k).toNat
        | _ => 0, ⟨rfl, 0, X, Fx, rfl, by omega, q1.trans qa', rx2, hFx, fun j hj hh => by have := (RfR.rep _ _).lt q1.wf rx hj; have := hFc j hh; omega, gX, rfl, rc⟩, ?_⟩
      clear rc rx2
      rintro bs3 k g3 ⟨u, Y, Fy, rfl, hu, q3, ry, hFy, hdis, gY, hA, rc⟩
      obtain ⟨ca, cf, Gc, hFce, hcG, hgc, hoc⟩ := rc
      refine ⟨ca, Q.length, cf, by rw [Hp.ld_of hgc]; rfl, ?_⟩
      cases hc2 : ltI (u : Int) (Q.length : Int) with
      | false =>
        rw [ltI_eq, decide_eq_false_iff_not] at hc2
        obtain rfl : u = Q.length := by omega
        rw [List.drop_length] at hA
        refine ⟨rfl, ⟨i + 1, Y, Fy, ?_, by omega, q3, ry, hFy, gY, ?_⟩, ?_⟩
        · rw [wr (by omega) (by omega)]; rfl
        · rw [hJ]
          show (if (addL X Q).1 = 0 then joinL (addL X Q).2 (Rs.drop (i + 1)) else addL X Q) = _
          rw [hA]; rfl
        · show ((n : Int) - IntKind.i64.wrap ((i : Int) + 1)).toNat < ((n : Int) - (i : Int)).toNat
          rw [wr (by omega) (by omega)]; omega
      | true =>
        rw [ltI_eq, decide_eq_true_eq] at hc2
        have hku : u < Q.length := by omega
        obtain ⟨q4, o4, r4, rfl, hr4, _, hld4, _⟩ := hoc.ld hku
        obtain ⟨r, hrr⟩ : ∃ r, Q[u]? = some r := ⟨_, List.getElem?_eq_getElem hku⟩
        rw [rws_get hrr] at hr4
        obtain rfl := Option.some.inj hr4
        obtain ⟨b1, b2⟩ := gQ.bnd r (List.mem_of_getElem? hrr)
        have hmay := gQ.may r (List.mem_of_getElem? hrr)
        refine ⟨some (q4, o4), Q.length, cf, by rw [Hp.ld_of hgc]; rfl, ⟨by omega, hc2⟩, r.1, by rw [Int.toNat_natCast, hld4 0 (by omega)]; rfl, some (q4, o4), Q.length, cf, by rw [Hp.ld_of hgc]; rfl, ⟨by omega, hc2⟩, r.2.1, by rw [Int.toNat_natCast, hld4 1 (by omega)]; rfl,
          some (q4, o4), Q.length, cf, by rw [Hp.ld_of hgc]; rfl, ⟨by omega, hc2⟩, r.2.2, by rw [Int.toNat_natCast, hld4 2 (by omega)]; rfl, ?_⟩
        have hadd := radd_spec q3.wf ry gY r.1 r.2.1 r.2.2
        rw [addR_of hmay b1 b2] at hadd
        refine hadd.mono ?_
        rintro _ h7 ⟨Fy', rfl, ry7, u7, w7⟩
        refine ⟨_, rfl, ?_⟩
        have le3 := q3.le
        have le7 := u7.le
        have q7 : Quiet h h7 := ⟨fun j hj => by rw [u7.same j (by omega) (fun hh => by have := hFy j hh; omega), q3.same j hj], by omega, w7⟩
        have hQd : Q.drop u = r :: Q.drop (u + 1) := by
          rw [List.drop_eq_getElem_cons hku]
          congr 1
          rw [List.getElem?_eq_getElem hku] at hrr
          exact Option.some.inj hrr
        rw [hQd] at hA
        have hA' : addL X Q = if (addN Y r.1 r.2).1 = 0 then addL (addN Y r.1 r.2).2 (Q.drop (u + 1)) else addN Y r.1 r.2 := hA
        have rc3 : RfR c' Q g3 Fc := ⟨some (q4, o4), cf, Gc, hFce, hcG, hgc, hoc⟩
        obtain ⟨rc7, hdis7⟩ := u7.frame (RfR.rep _ _) q3.wf rc3 hdis
        by_cases hz : (addN Y r.1 r.2).1 = 0
        · rw [if_pos hz] at hA'
          rw [hz]
          refine ⟨rfl, ⟨u + 1, _, Fy', ?_, by omega, q7, ry7, fun j hj => ?_, hdis7, addN_good gY hmay b1 b2, hA', rc7⟩, ?_⟩
          · rw [wr (by omega) (by omega)]; rfl
          · rcases u7.new j hj with hh | hh
            · exact hFy j hh
            · omega
          · show ((Q.length : Int) - IntKind.i64.wrap ((u : Int) + 1)).toNat < ((Q.length : Int) - (u : Int)).toNat
            rw [wr (by omega) (by omega)]; omega
        · rw [if_neg hz] at hA'
          have hjl : joinL R Rs = addN Y r.1 r.2 := by
            rw [hJ]
            show (if (addL X Q).1 = 0 then joinL (addL X Q).2 (Rs.drop (i + 1)) else addL X Q) = _
            rw [hA', if_neg hz]
          have hR : joinR R Rs = ((addN Y r.1 r.2).1, R) := by unfold joinR; rw [hjl, if_neg hz]
          have hb : ((addN Y r.1 r.2).1 != 0) = true := by simpa using hz
          rw [hb]
          refine hK _ _ ⟨F, by rw [hR], ?_, Upd.quiet _ q7.same q7.le, w7⟩
          rw [hR]
          exact (RfR.rep _ _).loc _ _ _ (fun j hj => q7.same j ((RfR.rep _ _).lt hw hm hj)) hm
end
end Go.Vex.Mtr
