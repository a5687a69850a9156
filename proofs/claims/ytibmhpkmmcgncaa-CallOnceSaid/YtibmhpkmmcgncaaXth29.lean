/-
  call.Table's Connect as statements about data (printed by VexPrint).
-/
import Derived.Test.YtibmhpkmmcgncaaVexX
import Derived.Test.YtibmhpkmmcgncaaTab29
set_option linter.unusedVariables false
set_option maxRecDepth 100000
namespace Go.Vex
open Go.Proofs
/-! 47: (*stevedore/call.Table).Connect$1 -/
def jl47 : Nat → Option JT := fun r => none
def jj47 : Nat → Option JT := fun r => none
def X47 (h : Hp) (K : V → Hp → Prop) (a0 : Nat) (c1 : Nat) (c2 : Nat) (c3 : Nat) : Prop :=
  ∃ (a1 : Option (Nat × Nat)),
  h.ld c1 (0 : Nat) = some (V.ptr a1) ∧
    onS a1 fun (i1 o1 : Nat) =>
      ∃ (a2 : Option (Nat × Nat)),
        ∃ (n1 : Nat),
          ∃ (f1 : Bool),
            h.ld i1 (o1 + (1 : Nat)) = some (V.slc a2 n1 f1) ∧
              ∃ (n2 : Int),
                h.ld c2 (0 : Nat) = some (V.int IntKind.u32 n2) ∧
                  XCalls Try.prog (31 : Nat) [V.slc a2 n1 f1, V.int IntKind.u32 n2] h fun (v1 : V) (h'1 : Hp) =>
                    ∃ (b1 : Bool),
                      v1 = V.bool b1 ∧
                        bif b1 then
                          ∃ (n3 : Int),
                            h'1.ld c3 (0 : Nat) = some (V.int IntKind.u32 n3) ∧
                              bif ltI (0 : Int) n3 then
                                ∃ (n4 : Int),
                                  h'1.ld c3 (1 : Nat) = some (V.int IntKind.u16 n4) ∧
                                    XCalls Try.prog (37 : Nat) [V.bool (ltI (0 : Int) n4), V.int IntKind.i64 (2 : Int)] h'1 fun (v2 : V) (h'2 : Hp) =>
                                      ∃ (n5 : Int), v2 = V.int IntKind.i64 n5 ∧ K (V.int IntKind.i64 n5) h'2
                              else
                                XCalls Try.prog (37 : Nat) [V.bool false, V.int IntKind.i64 (2 : Int)] h'1 fun (v3 : V) (h'3 : Hp) =>
                                  ∃ (n6 : Int), v3 = V.int IntKind.i64 n6 ∧ K (V.int IntKind.i64 n6) h'3
                        else
                          XCalls Try.prog (37 : Nat) [V.bool false, V.int IntKind.i64 (2 : Int)] h'1 fun (v4 : V) (h'4 : Hp) => ∃ (n7 : Int), v4 = V.int IntKind.i64 n7 ∧ K (V.int IntKind.i64 n7) h'4
theorem y47 (h : Hp) (K : V → Hp → Prop) (a0 : Nat) (c1 : Nat) (c2 : Nat) (c3 : Nat) : X47 h K a0 c1 c2 c3 = fnX Try.prog T F jl47 jj47 Try.f47 [V.ptr (some (a0, (0 : Nat))), V.ptr (some (c1, (0 : Nat))), V.ptr (some (c2, (0 : Nat))), V.ptr (some (c3, (0 : Nat)))] h K := by kernel_rfl
theorem x47 {h : Hp} {K : V → Hp → Prop} (a0 : Nat) (c1 : Nat) (c2 : Nat) (c3 : Nat) (hx : X47 h K a0 c1 c2 c3) : XCalls Try.prog 47 [V.ptr (some (a0, (0 : Nat))), V.ptr (some (c1, (0 : Nat))), V.ptr (some (c2, (0 : Nat))), V.ptr (some (c3, (0 : Nat)))] h K :=
  XCalls.ofX tok fok mixed (JL := jl47) (JJ := jj47) Try.func47 ((y47 h K a0 c1 c2 c3) ▸ hx)
/-! 48: (*stevedore/call.Table).Connect$2 -/
def jl48 : Nat → Option JT := fun r => none
def jj48 : Nat → Option JT := fun r => none
def X48 (h : Hp) (K : V → Hp → Prop) (d : Nat) : Prop :=
  ∃ (n1 : Int),
  h.ld d (1 : Nat) = some (V.int IntKind.u8 n1) ∧
    XCalls Try.prog (37 : Nat) [V.bool (n1 != (2 : Int)), V.int IntKind.i64 (3 : Int)] h fun (v1 : V) (h'1 : Hp) => ∃ (n2 : Int), v1 = V.int IntKind.i64 n2 ∧ K (V.int IntKind.i64 n2) h'1
theorem y48 (h : Hp) (K : V → Hp → Prop) (d : Nat) : X48 h K d = fnX Try.prog T F jl48 jj48 Try.f48 [V.ptr (some (d, (0 : Nat)))] h K := by kernel_rfl
theorem x48 {h : Hp} {K : V → Hp → Prop} (d : Nat) (hx : X48 h K d) : XCalls Try.prog 48 [V.ptr (some (d, (0 : Nat)))] h K :=
  XCalls.ofX tok fok mixed (JL := jl48) (JJ := jj48) Try.func48 ((y48 h K d) ▸ hx)
/-! 49: (*stevedore/call.Table).Connect$3 -/
def jl49 : Nat → Option JT := fun r => none
def jj49 : Nat → Option JT := fun r => none
def X49 (h : Hp) (K : V → Hp → Prop) (d : Nat) : Prop :=
  ∃ (n1 : Int),
  h.ld d (1 : Nat) = some (V.int IntKind.u8 n1) ∧
    bif n1 != (3 : Int) then XCalls Try.prog (37 : Nat) [V.bool true, V.int IntKind.i64 (292 : Int)] h fun (v1 : V) (h'1 : Hp) => ∃ (n2 : Int), v1 = V.int IntKind.i64 n2 ∧ K (V.int IntKind.i64 n2) h'1
    else
      ∃ (n3 : Int),
        h.ld d (0 : Nat) = some (V.int IntKind.u8 n3) ∧
          XCalls Try.prog (37 : Nat) [V.bool (n3 == (1 : Int)), V.int IntKind.i64 (292 : Int)] h fun (v2 : V) (h'2 : Hp) => ∃ (n4 : Int), v2 = V.int IntKind.i64 n4 ∧ K (V.int IntKind.i64 n4) h'2
theorem y49 (h : Hp) (K : V → Hp → Prop) (d : Nat) : X49 h K d = fnX Try.prog T F jl49 jj49 Try.f49 [V.ptr (some (d, (0 : Nat)))] h K := by kernel_rfl
theorem x49 {h : Hp} {K : V → Hp → Prop} (d : Nat) (hx : X49 h K d) : XCalls Try.prog 49 [V.ptr (some (d, (0 : Nat)))] h K :=
  XCalls.ofX tok fok mixed (JL := jl49) (JJ := jj49) Try.func49 ((y49 h K d) ▸ hx)
/-! 18: (*stevedore/call.Table).Connect -/
-- join 14: stays d(13), from(17), to(8), (10); turns 
-- join 12: stays d(13), from(17), to(8), (10); turns 
-- join 9: stays d(13), own(7), to(8), (10); turns 
def jl18 : Nat → Option JT := fun r => none
def jj18 : Nat → Option JT := fun r => bif Nat.beq r 14 then some ⟨[13, 17, 8, 10], [], []⟩ else bif Nat.beq r 12 then some ⟨[13, 17, 8, 10], [], []⟩ else bif Nat.beq r 9 then some ⟨[13, 7, 8, 10], [], []⟩ else none
def X18 (h : Hp) (K : V → Hp → Prop) (t : Nat) (fd : Int) (own : Int) (to_0 : Int) (to_1 : Int) (draw : Int) : Prop :=
  ∀ (h'1 : Hp),
  h'1 = h.alloc (O.row [V.ptr (some (t, (0 : Nat)))] (1 : Nat) false) →
    ∀ (h'2 : Hp),
      h'2 = h'1.alloc (O.row [V.int IntKind.u32 own] (1 : Nat) false) →
        ∀ (h'3 : Hp),
          h'3 = h'2.alloc (O.row [V.int IntKind.u32 to_0, V.int IntKind.u16 to_1] (1 : Nat) false) →
            ∀ (h'4 : Hp),
              h'4 = h'3.alloc (O.row [V.int IntKind.u32 (0 : Int), V.int IntKind.u16 (0 : Int), V.int IntKind.u32 (0 : Int), V.int IntKind.u16 (0 : Int)] (1 : Nat) false) →
                ∃ (a1 : Option (Nat × Nat)),
                  h'4.ld h.next (0 : Nat) = some (V.ptr a1) ∧
                    ∀ (h'5 : Hp),
                      h'5 =
                          h'4.alloc
                            (O.row
                              [V.fn (Fn.func (47 : Nat)) [] [V.ptr (some (h.next, (0 : Nat))), V.ptr (some (h'1.next, (0 : Nat))), V.ptr (some (h'2.next, (0 : Nat)))], V.fn (Fn.func (48 : Nat)) [] [],
                                V.fn (Fn.func (49 : Nat)) [] []]
                              (1 : Nat) false) →
                        XCalls Try.prog (35 : Nat) [V.ptr a1, V.int IntKind.i64 fd, V.slc (some (h'4.next, (0 : Nat))) (3 : Nat) true] h'5 fun (v1 : V) (h'6 : Hp) =>
                          ∃ (n1 : Int),
                            ∃ (a2 : Option (Nat × Nat)),
                              ∃ (n2 : Int),
                                v1 = V.tup [V.int IntKind.u64 n1, V.ptr a2, V.int IntKind.i64 n2] ∧
                                  bif n2 != (0 : Int) then
                                    ∃ (h'7 : Hp),
                                      h'6.st h'3.next (0 : Nat) [V.int IntKind.u32 (0 : Int), V.int IntKind.u16 (0 : Int), V.int IntKind.u32 (0 : Int), V.int IntKind.u16 (0 : Int)] = some h'7 ∧
                                        ∃ (n3 : Int),
                                          ∃ (n4 : Int),
                                            ∃ (n5 : Int),
                                              ∃ (n6 : Int),
                                                h'7.lda h'3.next (0 : Nat) (4 : Nat) = some (V.agg [V.int IntKind.u32 n3, V.int IntKind.u16 n4, V.int IntKind.u32 n5, V.int IntKind.u16 n6]) ∧
                                                  K (V.tup [V.agg [V.int IntKind.u32 n3, V.int IntKind.u16 n4, V.int IntKind.u32 n5, V.int IntKind.u16 n6], V.int IntKind.i64 n2]) h'7
                                  else
                                    ∃ (Q1 : List V → Hp → Prop),
                                      (onS a2 fun (i1 o1 : Nat) =>
                                          ∃ (n7 : Int),
                                            h'6.ld i1 (o1 + (0 : Nat) + (1 : Nat)) = some (V.int IntKind.u8 n7) ∧
                                              bif n7 == (0 : Int) then
                                                ∃ (a3 : Option (Nat × Nat)),
                                                  h'6.ld h.next (0 : Nat) = some (V.ptr a3) ∧
                                                    onS a3 fun (i2 o2 : Nat) =>
                                                      ∃ (a4 : Option (Nat × Nat)),
                                                        h'6.ld i2 (o2 + (4 : Nat)) = some (V.ptr a4) ∧
                                                          onS a2 fun (i3 o3 : Nat) =>
                                                            ∃ (n8 : Int),
                                                              h'6.ld i3 (o3 + (0 : Nat) + (0 : Nat)) = some (V.int IntKind.u8 n8) ∧
                                                                ∃ (n9 : Int),
                                                                  h'6.ld h'1.next (0 : Nat) = some (V.int IntKind.u32 n9) ∧
                                                                    XCalls Try.prog (50 : Nat)
                                                                      [V.ptr a4, V.int IntKind.u64 n1, V.agg [V.int IntKind.u8 n8, V.int IntKind.u32 n9, V.int IntKind.u16 (0 : Int), V.bool false],
                                                                        V.int IntKind.u16 draw]
                                                                      h'6 fun (v2 : V) (h'8 : Hp) =>
                                                                      ∃ (n10 : Int),
                                                                        ∃ (n11 : Int),
                                                                          v2 = V.tup [V.int IntKind.u16 n10, V.int IntKind.i64 n11] ∧
                                                                            bif n11 != (0 : Int) then
                                                                              ∃ (h'9 : Hp),
                                                                                h'8.st h'3.next (0 : Nat)
                                                                                      [V.int IntKind.u32 (0 : Int), V.int IntKind.u16 (0 : Int), V.int IntKind.u32 (0 : Int),
                                                                                        V.int IntKind.u16 (0 : Int)] =
                                                                                    some h'9 ∧
                                                                                  ∃ (n12 : Int),
                                                                                    ∃ (n13 : Int),
                                                                                      ∃ (n14 : Int),
                                                                                        ∃ (n15 : Int),
                                                                                          h'9.lda h'3.next (0 : Nat) (4 : Nat) =
                                                                                              some
                                                                                                (V.agg [V.int IntKind.u32 n12, V.int IntKind.u16 n13, V.int IntKind.u32 n14, V.int IntKind.u16 n15]) ∧
                                                                                            K
                                                                                              (V.tup
                                                                                                [V.agg [V.int IntKind.u32 n12, V.int IntKind.u16 n13, V.int IntKind.u32 n14, V.int IntKind.u16 n15],
                                                                                                  V.int IntKind.i64 n11])
                                                                                              h'9
                                                                            else
                                                                              onS a2 fun (i4 o4 : Nat) =>
                                                                                ∃ (n16 : Int),
                                                                                  h'8.ld i4 (o4 + (0 : Nat) + (0 : Nat)) = some (V.int IntKind.u8 n16) ∧
                                                                                    ∃ (n17 : Int),
                                                                                      h'8.ld h'1.next (0 : Nat) = some (V.int IntKind.u32 n17) ∧
                                                                                        onS a2 fun (i5 o5 : Nat) =>
                                                                                          ∃ (h'10 : Hp),
                                                                                            h'8.st i5 (o5 + (0 : Nat) + (2 : Nat))
                                                                                                  [V.int IntKind.u8 n16, V.int IntKind.u32 n17, V.int IntKind.u16 n10, V.bool false] =
                                                                                                some h'10 ∧
                                                                                              [V.ptr a2, V.ptr (some (h'1.next, (0 : Nat))), V.ptr (some (h'2.next, (0 : Nat))),
                                                                                                    V.ptr (some (h'3.next, (0 : Nat)))] =
                                                                                                  [V.ptr a2, V.ptr (some (h'1.next, (0 : Nat))), V.ptr (some (h'2.next, (0 : Nat))),
                                                                                                    V.ptr (some (h'3.next, (0 : Nat)))] ∧
                                                                                                Q1 [] h'10
                                              else
                                                [V.ptr a2, V.ptr (some (h'1.next, (0 : Nat))), V.ptr (some (h'2.next, (0 : Nat))), V.ptr (some (h'3.next, (0 : Nat)))] =
                                                    [V.ptr a2, V.ptr (some (h'1.next, (0 : Nat))), V.ptr (some (h'2.next, (0 : Nat))), V.ptr (some (h'3.next, (0 : Nat)))] ∧
                                                  Q1 [] h'6) ∧
                                        ∀ (bs1 : Nat → Option V) (h1 : Hp),
                                          Q1 [] h1 →
                                            onS a2 fun (i6 o6 : Nat) =>
                                              ∃ (n18 : Int),
                                                h1.ld i6 (o6 + (0 : Nat) + (2 : Nat) + (1 : Nat)) = some (V.int IntKind.u32 n18) ∧
                                                  onS a2 fun (i7 o7 : Nat) =>
                                                    ∃ (n19 : Int),
                                                      h1.ld i7 (o7 + (0 : Nat) + (2 : Nat) + (2 : Nat)) = some (V.int IntKind.u16 n19) ∧
                                                        ∀ (h'11 : Hp),
                                                          h'11 = h1.alloc (O.row [V.int IntKind.u32 (0 : Int), V.int IntKind.u16 (0 : Int)] (1 : Nat) false) →
                                                            V.agg [V.int IntKind.u32 n18, V.int IntKind.u16 n19] = V.agg [V.int IntKind.u32 n18, V.int IntKind.u16 n19] ∧
                                                              (∃ (n20 : Int),
                                                                  h'11.ld i7 (o7 + (0 : Nat) + (2 : Nat) + (2 : Nat)) = some (V.int IntKind.u16 n20) ∧ V.int IntKind.u16 n20 = V.int IntKind.u16 n19) ∧
                                                                V.ptr (some (i7, o7 + (0 : Nat) + (2 : Nat) + (2 : Nat))) = V.ptr (some (i7, o7 + (0 : Nat) + (2 : Nat) + (2 : Nat))) ∧
                                                                  V.ptr (some (i7, o7 + (0 : Nat) + (2 : Nat))) = V.ptr (some (i7, o7 + (0 : Nat) + (2 : Nat))) ∧
                                                                    V.ptr (some (i7, o7 + (0 : Nat))) = V.ptr (some (i7, o7 + (0 : Nat))) ∧
                                                                      (onS a2 fun (i8 o8 : Nat) => V.ptr (some (i8, o8)) = V.ptr (some (i7, o7))) ∧
                                                                        V.ptr a2 = V.ptr a2 ∧
                                                                          (∃ (n21 : Int),
                                                                              h'11.ld i6 (o6 + (0 : Nat) + (2 : Nat) + (1 : Nat)) = some (V.int IntKind.u32 n21) ∧
                                                                                V.int IntKind.u32 n21 = V.int IntKind.u32 n18) ∧
                                                                            V.ptr (some (i6, o6 + (0 : Nat) + (2 : Nat) + (1 : Nat))) = V.ptr (some (i6, o6 + (0 : Nat) + (2 : Nat) + (1 : Nat))) ∧
                                                                              V.ptr (some (i6, o6 + (0 : Nat) + (2 : Nat))) = V.ptr (some (i6, o6 + (0 : Nat) + (2 : Nat))) ∧
                                                                                V.ptr (some (i6, o6 + (0 : Nat))) = V.ptr (some (i6, o6 + (0 : Nat))) ∧
                                                                                  (onS a2 fun (i9 o9 : Nat) => V.ptr (some (i9, o9)) = V.ptr (some (i6, o6))) ∧
                                                                                    V.ptr a2 = V.ptr a2 ∧
                                                                                      ∃ (h'12 : Hp),
                                                                                        h'11.st h1.next (0 : Nat) [V.int IntKind.u32 n18, V.int IntKind.u16 n19] = some h'12 ∧
                                                                                          ∃ (Q2 : List V → Hp → Prop),
                                                                                            (∃ (n22 : Int),
                                                                                                h'12.ld h1.next (0 : Nat) = some (V.int IntKind.u32 n22) ∧
                                                                                                  bif n22 == (0 : Int) then
                                                                                                    ∃ (n23 : Int),
                                                                                                      h'12.ld h'1.next (0 : Nat) = some (V.int IntKind.u32 n23) ∧
                                                                                                        ∃ (h'13 : Hp),
                                                                                                          h'12.st h1.next (0 : Nat) [V.int IntKind.u32 n23] = some h'13 ∧
                                                                                                            [V.ptr a2, V.ptr (some (h1.next, (0 : Nat))), V.ptr (some (h'2.next, (0 : Nat))),
                                                                                                                  V.ptr (some (h'3.next, (0 : Nat)))] =
                                                                                                                [V.ptr a2, V.ptr (some (h1.next, (0 : Nat))), V.ptr (some (h'2.next, (0 : Nat))),
                                                                                                                  V.ptr (some (h'3.next, (0 : Nat)))] ∧
                                                                                                              Q2 [] h'13
                                                                                                  else
                                                                                                    [V.ptr a2, V.ptr (some (h1.next, (0 : Nat))), V.ptr (some (h'2.next, (0 : Nat))),
                                                                                                          V.ptr (some (h'3.next, (0 : Nat)))] =
                                                                                                        [V.ptr a2, V.ptr (some (h1.next, (0 : Nat))), V.ptr (some (h'2.next, (0 : Nat))),
                                                                                                          V.ptr (some (h'3.next, (0 : Nat)))] ∧
                                                                                                      Q2 [] h'12) ∧
                                                                                              ∀ (bs2 : Nat → Option V) (h2 : Hp),
                                                                                                Q2 [] h2 →
                                                                                                  ∃ (Q3 : List V → Hp → Prop),
                                                                                                    (onS a2 fun (i10 o10 : Nat) =>
                                                                                                        ∃ (n24 : Int),
                                                                                                          h2.ld i10 (o10 + (0 : Nat) + (1 : Nat)) = some (V.int IntKind.u8 n24) ∧
                                                                                                            bif n24 != (3 : Int) then
                                                                                                              onS a2 fun (i11 o11 : Nat) =>
                                                                                                                ∃ (n25 : Int),
                                                                                                                  h2.ld i11 (o11 + (0 : Nat) + (1 : Nat)) = some (V.int IntKind.u8 n25) ∧
                                                                                                                    onS a2 fun (i12 o12 : Nat) =>
                                                                                                                      ∃ (h'14 : Hp),
                                                                                                                        h2.st i12 (o12 + (11 : Nat)) [V.int IntKind.u8 n25] = some h'14 ∧
                                                                                                                          [V.ptr a2, V.ptr (some (h1.next, (0 : Nat))),
                                                                                                                                V.ptr (some (h'2.next, (0 : Nat))),
                                                                                                                                V.ptr (some (h'3.next, (0 : Nat)))] =
                                                                                                                              [V.ptr a2, V.ptr (some (h1.next, (0 : Nat))),
                                                                                                                                V.ptr (some (h'2.next, (0 : Nat))),
                                                                                                                                V.ptr (some (h'3.next, (0 : Nat)))] ∧
                                                                                                                            Q3 [] h'14
                                                                                                            else
                                                                                                              [V.ptr a2, V.ptr (some (h1.next, (0 : Nat))), V.ptr (some (h'2.next, (0 : Nat))),
                                                                                                                    V.ptr (some (h'3.next, (0 : Nat)))] =
                                                                                                                  [V.ptr a2, V.ptr (some (h1.next, (0 : Nat))), V.ptr (some (h'2.next, (0 : Nat))),
                                                                                                                    V.ptr (some (h'3.next, (0 : Nat)))] ∧
                                                                                                                Q3 [] h2) ∧
                                                                                                      ∀ (bs3 : Nat → Option V) (h3 : Hp),
                                                                                                        Q3 [] h3 →
                                                                                                          ∃ (n26 : Int),
                                                                                                            ∃ (n27 : Int),
                                                                                                              h3.lda h1.next (0 : Nat) (2 : Nat) =
                                                                                                                  some (V.agg [V.int IntKind.u32 n26, V.int IntKind.u16 n27]) ∧
                                                                                                                ∃ (n28 : Int),
                                                                                                                  ∃ (n29 : Int),
                                                                                                                    h3.lda h'2.next (0 : Nat) (2 : Nat) =
                                                                                                                        some (V.agg [V.int IntKind.u32 n28, V.int IntKind.u16 n29]) ∧
                                                                                                                      onS a2 fun (i13 o13 : Nat) =>
                                                                                                                        ∃ (h'15 : Hp),
                                                                                                                          h3.st i13 (o13 + (0 : Nat) + (1 : Nat)) [V.int IntKind.u8 (3 : Int)] =
                                                                                                                              some h'15 ∧
                                                                                                                            V.agg
                                                                                                                                  [V.int IntKind.u32 n26, V.int IntKind.u16 n27, V.int IntKind.u32 n28,
                                                                                                                                    V.int IntKind.u16 n29] =
                                                                                                                                V.agg
                                                                                                                                  [V.int IntKind.u32 n26, V.int IntKind.u16 n27, V.int IntKind.u32 n28,
                                                                                                                                    V.int IntKind.u16 n29] ∧
                                                                                                                              (∃ (n30 : Int),
                                                                                                                                  ∃ (n31 : Int),
                                                                                                                                    h'15.lda h'2.next (0 : Nat) (2 : Nat) =
                                                                                                                                        some (V.agg [V.int IntKind.u32 n30, V.int IntKind.u16 n31]) ∧
                                                                                                                                      V.agg [V.int IntKind.u32 n30, V.int IntKind.u16 n31] =
                                                                                                                                        V.agg [V.int IntKind.u32 n28, V.int IntKind.u16 n29]) ∧
                                                                                                                                (∃ (n32 : Int),
                                                                                                                                    ∃ (n33 : Int),
                                                                                                                                      h'15.lda h1.next (0 : Nat) (2 : Nat) =
                                                                                                                                          some (V.agg [V.int IntKind.u32 n32, V.int IntKind.u16 n33]) ∧
                                                                                                                                        V.agg [V.int IntKind.u32 n32, V.int IntKind.u16 n33] =
                                                                                                                                          V.agg [V.int IntKind.u32 n26, V.int IntKind.u16 n27]) ∧
                                                                                                                                  V.ptr a2 = V.ptr a2 ∧
                                                                                                                                    onS a2 fun (i14 o14 : Nat) =>
                                                                                                                                      ∃ (h'16 : Hp),
                                                                                                                                        h'15.st i14 (o14 + (0 : Nat) + (6 : Nat))
                                                                                                                                              [V.int IntKind.u32 n26, V.int IntKind.u16 n27,
                                                                                                                                                V.int IntKind.u32 n28, V.int IntKind.u16 n29] =
                                                                                                                                            some h'16 ∧
                                                                                                                                          onS a2 fun (i15 o15 : Nat) =>
                                                                                                                                            ∃ (n34 : Int),
                                                                                                                                              ∃ (n35 : Int),
                                                                                                                                                ∃ (n36 : Int),
                                                                                                                                                  ∃ (n37 : Int),
                                                                                                                                                    h'16.lda i15 (o15 + (0 : Nat) + (6 : Nat))
                                                                                                                                                          (4 : Nat) =
                                                                                                                                                        some
                                                                                                                                                          (V.agg
                                                                                                                                                            [V.int IntKind.u32 n34,
                                                                                                                                                              V.int IntKind.u16 n35,
                                                                                                                                                              V.int IntKind.u32 n36,
                                                                                                                                                              V.int IntKind.u16 n37]) ∧
                                                                                                                                                      ∃ (h'17 : Hp),
                                                                                                                                                        h'16.st h'3.next (0 : Nat)
                                                                                                                                                              [V.int IntKind.u32 n34,
                                                                                                                                                                V.int IntKind.u16 n35,
                                                                                                                                                                V.int IntKind.u32 n36,
                                                                                                                                                                V.int IntKind.u16 n37] =
                                                                                                                                                            some h'17 ∧
                                                                                                                                                          ∃ (n38 : Int),
                                                                                                                                                            ∃ (n39 : Int),
                                                                                                                                                              ∃ (n40 : Int),
                                                                                                                                                                ∃ (n41 : Int),
                                                                                                                                                                  h'17.lda h'3.next (0 : Nat)
                                                                                                                                                                        (4 : Nat) =
                                                                                                                                                                      some
                                                                                                                                                                        (V.agg
                                                                                                                                                                          [V.int IntKind.u32 n38,
                                                                                                                                                                            V.int IntKind.u16 n39,
                                                                                                                                                                            V.int IntKind.u32 n40,
                                                                                                                                                                            V.int IntKind.u16 n41]) ∧
                                                                                                                                                                    K
                                                                                                                                                                      (V.tup
                                                                                                                                                                        [V.agg
                                                                                                                                                                            [V.int IntKind.u32 n38,
                                                                                                                                                                              V.int IntKind.u16 n39,
                                                                                                                                                                              V.int IntKind.u32 n40,
                                                                                                                                                                              V.int IntKind.u16 n41],
                                                                                                                                                                          V.int IntKind.i64 (0 : Int)])
                                                                                                                                                                      h'17
theorem y18 (h : Hp) (K : V → Hp → Prop) (t : Nat) (fd : Int) (own : Int) (to_0 : Int) (to_1 : Int) (draw : Int) : X18 h K t fd own to_0 to_1 draw = fnX Try.prog T F jl18 jj18 Try.f18 [V.ptr (some (t, (0 : Nat))), V.int IntKind.i64 fd, V.int IntKind.u32 own, V.agg [V.int IntKind.u32 to_0, V.int IntKind.u16 to_1], V.int IntKind.u16 draw] h K := by kernel_rfl
theorem x18 {h : Hp} {K : V → Hp → Prop} (t : Nat) (fd : Int) (own : Int) (to_0 : Int) (to_1 : Int) (draw : Int) (hx : X18 h K t fd own to_0 to_1 draw) : XCalls Try.prog 18 [V.ptr (some (t, (0 : Nat))), V.int IntKind.i64 fd, V.int IntKind.u32 own, V.agg [V.int IntKind.u32 to_0, V.int IntKind.u16 to_1], V.int IntKind.u16 draw] h K :=
  XCalls.ofX tok fok mixed (JL := jl18) (JJ := jj18) Try.func18 ((y18 h K t fd own to_0 to_1 draw) ▸ hx)
end Go.Vex
