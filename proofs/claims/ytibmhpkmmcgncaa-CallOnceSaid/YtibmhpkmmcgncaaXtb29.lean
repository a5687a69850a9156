/-
  call.Table as statements about data: sockets (printed by VexPrint).
-/
import Derived.Test.YtibmhpkmmcgncaaVexX
import Derived.Test.YtibmhpkmmcgncaaTab29
set_option linter.unusedVariables false
set_option maxRecDepth 100000
namespace Go.Vex
open Go.Proofs
/-! 9: (*stevedore/call.Table).Socket -/
-- join 5: stays t(0), proto(1); turns 
def jl9 : Nat → Option JT := fun r => none
def jj9 : Nat → Option JT := fun r => bif Nat.beq r 5 then some ⟨[0, 1], [], []⟩ else none
def X9 (h : Hp) (K : V → Hp → Prop) (t : Nat) (proto : Int) : Prop :=
  ∃ (Q1 : List V → Hp → Prop),
  (∃ (r1 : Option Nat),
      h.ld t (2 : Nat) = some (V.map r1) ∧
        bif r1.isNone then K (V.tup [V.int IntKind.i64 (0 : Int), V.int IntKind.u64 (0 : Int), V.int IntKind.i64 (1 : Int)]) h
        else
          bif proto != (1 : Int) then
            bif proto != (2 : Int) then K (V.tup [V.int IntKind.i64 (0 : Int), V.int IntKind.u64 (0 : Int), V.int IntKind.i64 (2 : Int)]) h
            else [V.ptr (some (t, (0 : Nat))), V.int IntKind.u8 proto] = [V.ptr (some (t, (0 : Nat))), V.int IntKind.u8 proto] ∧ Q1 [] h
          else [V.ptr (some (t, (0 : Nat))), V.int IntKind.u8 proto] = [V.ptr (some (t, (0 : Nat))), V.int IntKind.u8 proto] ∧ Q1 [] h) ∧
    ∀ (bs1 : Nat → Option V) (h1 : Hp),
      Q1 [] h1 →
        XCalls Try.prog (34 : Nat) [V.ptr (some (t, (0 : Nat))), V.agg [V.int IntKind.u8 (1 : Int), V.int IntKind.u8 proto, V.int IntKind.u64 (0 : Int), V.bool false]] h1 fun (v1 : V) (h'1 : Hp) =>
          ∃ (n1 : Int),
            ∃ (n2 : Int),
              ∃ (n3 : Int),
                v1 = V.tup [V.int IntKind.i64 n1, V.int IntKind.u64 n2, V.int IntKind.i64 n3] ∧
                  bif n3 == (0 : Int) then
                    ∃ (r2 : Option Nat),
                      h'1.ld t (3 : Nat) = some (V.map r2) ∧
                        ∀ (h'2 : Hp),
                          h'2 =
                              h'1.alloc
                                (O.row
                                  [V.int IntKind.u8 proto, V.int IntKind.u8 (0 : Int), V.int IntKind.u8 (0 : Int), V.int IntKind.u32 (0 : Int), V.int IntKind.u16 (0 : Int), V.bool false,
                                    V.int IntKind.u32 (0 : Int), V.int IntKind.u16 (0 : Int), V.int IntKind.u32 (0 : Int), V.int IntKind.u16 (0 : Int), V.bool false, V.int IntKind.u8 (0 : Int)]
                                  (1 : Nat) false) →
                            ∃ (h'3 : Hp),
                              xput T h'2 (81 : Nat) (V.map r2) (V.int IntKind.u64 n2) (V.ptr (some (h'1.next, (0 : Nat)))) = some h'3 ∧
                                K (V.tup [V.int IntKind.i64 n1, V.int IntKind.u64 n2, V.int IntKind.i64 n3]) h'3
                  else K (V.tup [V.int IntKind.i64 n1, V.int IntKind.u64 n2, V.int IntKind.i64 n3]) h'1
theorem y9 (h : Hp) (K : V → Hp → Prop) (t : Nat) (proto : Int) : X9 h K t proto = fnX Try.prog T F jl9 jj9 Try.f9 [V.ptr (some (t, (0 : Nat))), V.int IntKind.u8 proto] h K := by kernel_rfl
theorem x9 {h : Hp} {K : V → Hp → Prop} (t : Nat) (proto : Int) (hx : X9 h K t proto) : XCalls Try.prog 9 [V.ptr (some (t, (0 : Nat))), V.int IntKind.u8 proto] h K :=
  XCalls.ofX tok fok mixed (JL := jl9) (JJ := jj9) Try.func9 ((y9 h K t proto) ▸ hx)
/-! 10: (*stevedore/call.Table).Accept -/
def jl10 : Nat → Option JT := fun r => none
def jj10 : Nat → Option JT := fun r => none
def X10 (h : Hp) (K : V → Hp → Prop) (t : Nat) (fd : Int) (p_0 : Int) (p_1 : Int) (p_2 : Int) (p_3 : Int) (id : Int) : Prop :=
  ∀ (h'1 : Hp),
  h'1 = h.alloc (O.row [V.ptr (some (t, (0 : Nat)))] (1 : Nat) false) →
    ∀ (h'2 : Hp),
      h'2 = h'1.alloc (O.row [V.int IntKind.u32 p_0, V.int IntKind.u16 p_1, V.int IntKind.u32 p_2, V.int IntKind.u16 p_3] (1 : Nat) false) →
        ∀ (h'3 : Hp),
          h'3 = h'2.alloc (O.row [V.int IntKind.u64 id] (1 : Nat) false) →
            ∃ (a1 : Option (Nat × Nat)),
              h'3.ld h.next (0 : Nat) = some (V.ptr a1) ∧
                ∀ (h'4 : Hp),
                  h'4 =
                      h'3.alloc
                        (O.row
                          [V.fn (Fn.func (36 : Nat)) [] [], V.fn (Fn.func (38 : Nat)) [] [V.ptr (some (h'2.next, (0 : Nat))), V.ptr (some (h.next, (0 : Nat)))],
                            V.fn (Fn.func (39 : Nat)) [] [V.ptr (some (h.next, (0 : Nat)))]]
                          (1 : Nat) false) →
                    XCalls Try.prog (35 : Nat) [V.ptr a1, V.int IntKind.i64 fd, V.slc (some (h'3.next, (0 : Nat))) (3 : Nat) true] h'4 fun (v1 : V) (h'5 : Hp) =>
                      ∃ (n1 : Int),
                        ∃ (a2 : Option (Nat × Nat)),
                          ∃ (n2 : Int),
                            v1 = V.tup [V.int IntKind.u64 n1, V.ptr a2, V.int IntKind.i64 n2] ∧
                              bif n2 != (0 : Int) then K (V.tup [V.int IntKind.i64 (0 : Int), V.int IntKind.i64 n2]) h'5
                              else
                                ∃ (a3 : Option (Nat × Nat)),
                                  h'5.ld h.next (0 : Nat) = some (V.ptr a3) ∧
                                    onS a3 fun (i1 o1 : Nat) =>
                                      ∃ (r1 : Option Nat),
                                        h'5.ld i1 (o1 + (3 : Nat)) = some (V.map r1) ∧
                                          ∃ (n3 : Int),
                                            h'5.ld h'2.next (0 : Nat) = some (V.int IntKind.u64 n3) ∧
                                              ∃ (n4 : Int),
                                                ∃ (n5 : Int),
                                                  ∃ (n6 : Int),
                                                    ∃ (n7 : Int),
                                                      h'5.lda h'1.next (0 : Nat) (4 : Nat) = some (V.agg [V.int IntKind.u32 n4, V.int IntKind.u16 n5, V.int IntKind.u32 n6, V.int IntKind.u16 n7]) ∧
                                                        ∀ (h'6 : Hp),
                                                          h'6 =
                                                              h'5.alloc
                                                                (O.row
                                                                  [V.int IntKind.u8 (2 : Int), V.int IntKind.u8 (3 : Int), V.int IntKind.u8 (0 : Int), V.int IntKind.u32 (0 : Int),
                                                                    V.int IntKind.u16 (0 : Int), V.bool false, V.int IntKind.u32 n4, V.int IntKind.u16 n5, V.int IntKind.u32 n6, V.int IntKind.u16 n7,
                                                                    V.bool false, V.int IntKind.u8 (0 : Int)]
                                                                  (1 : Nat) false) →
                                                            (∃ (n8 : Int), h'6.ld h'2.next (0 : Nat) = some (V.int IntKind.u64 n8) ∧ V.int IntKind.u64 n8 = V.int IntKind.u64 n3) ∧
                                                              (∃ (r2 : Option Nat), h'6.ld i1 (o1 + (3 : Nat)) = some (V.map r2) ∧ V.map r2 = V.map r1) ∧
                                                                V.ptr (some (i1, o1 + (3 : Nat))) = V.ptr (some (i1, o1 + (3 : Nat))) ∧
                                                                  (onS a3 fun (i2 o2 : Nat) => V.ptr (some (i2, o2)) = V.ptr (some (i1, o1))) ∧
                                                                    (∃ (a4 : Option (Nat × Nat)), h'6.ld h.next (0 : Nat) = some (V.ptr a4) ∧ V.ptr a4 = V.ptr a3) ∧
                                                                      ∃ (h'7 : Hp),
                                                                        xput T h'6 (81 : Nat) (V.map r1) (V.int IntKind.u64 n3) (V.ptr (some (h'5.next, (0 : Nat)))) = some h'7 ∧
                                                                          ∃ (a5 : Option (Nat × Nat)),
                                                                            h'7.ld h.next (0 : Nat) = some (V.ptr a5) ∧
                                                                              ∃ (a6 : Option (Nat × Nat)),
                                                                                h'7.ld h.next (0 : Nat) = some (V.ptr a6) ∧
                                                                                  onS a6 fun (i3 o3 : Nat) =>
                                                                                    ∃ (n9 : Int),
                                                                                      h'7.ld i3 (o3 + (5 : Nat)) = some (V.int IntKind.u64 n9) ∧
                                                                                        ∃ (n10 : Int),
                                                                                          h'7.ld h'2.next (0 : Nat) = some (V.int IntKind.u64 n10) ∧
                                                                                            onS a5 fun (i4 o4 : Nat) =>
                                                                                              ∃ (h'8 : Hp),
                                                                                                h'7.st i4 (o4 + (5 : Nat)) [V.int IntKind.u64 (bif ltI n9 n10 then n10 else n9)] = some h'8 ∧
                                                                                                  ∃ (a7 : Option (Nat × Nat)),
                                                                                                    h'8.ld h.next (0 : Nat) = some (V.ptr a7) ∧
                                                                                                      ∃ (n11 : Int),
                                                                                                        h'8.ld h'2.next (0 : Nat) = some (V.int IntKind.u64 n11) ∧
                                                                                                          XCalls Try.prog (40 : Nat)
                                                                                                            [V.ptr a7,
                                                                                                              V.agg
                                                                                                                [V.int IntKind.u8 (1 : Int), V.int IntKind.u8 (2 : Int), V.int IntKind.u64 n11,
                                                                                                                  V.bool false]]
                                                                                                            h'8 fun (v2 : V) (h'9 : Hp) =>
                                                                                                            ∃ (n12 : Int),
                                                                                                              v2 = V.int IntKind.i64 n12 ∧
                                                                                                                K (V.tup [V.int IntKind.i64 n12, V.int IntKind.i64 (0 : Int)]) h'9
theorem y10 (h : Hp) (K : V → Hp → Prop) (t : Nat) (fd : Int) (p_0 : Int) (p_1 : Int) (p_2 : Int) (p_3 : Int) (id : Int) : X10 h K t fd p_0 p_1 p_2 p_3 id = fnX Try.prog T F jl10 jj10 Try.f10 [V.ptr (some (t, (0 : Nat))), V.int IntKind.i64 fd, V.agg [V.int IntKind.u32 p_0, V.int IntKind.u16 p_1, V.int IntKind.u32 p_2, V.int IntKind.u16 p_3], V.int IntKind.u64 id] h K := by kernel_rfl
theorem x10 {h : Hp} {K : V → Hp → Prop} (t : Nat) (fd : Int) (p_0 : Int) (p_1 : Int) (p_2 : Int) (p_3 : Int) (id : Int) (hx : X10 h K t fd p_0 p_1 p_2 p_3 id) : XCalls Try.prog 10 [V.ptr (some (t, (0 : Nat))), V.int IntKind.i64 fd, V.agg [V.int IntKind.u32 p_0, V.int IntKind.u16 p_1, V.int IntKind.u32 p_2, V.int IntKind.u16 p_3], V.int IntKind.u64 id] h K :=
  XCalls.ofX tok fok mixed (JL := jl10) (JJ := jj10) Try.func10 ((y10 h K t fd p_0 p_1 p_2 p_3 id) ▸ hx)
/-! 13: (*stevedore/call.Table).Bind -/
def jl13 : Nat → Option JT := fun r => none
def jj13 : Nat → Option JT := fun r => none
def X13 (h : Hp) (K : V → Hp → Prop) (t : Nat) (fd : Int) (a_0 : Int) (a_1 : Int) : Prop :=
  ∀ (h'1 : Hp),
  h'1 = h.alloc (O.row [V.ptr (some (t, (0 : Nat)))] (1 : Nat) false) →
    ∀ (h'2 : Hp),
      h'2 = h'1.alloc (O.row [V.int IntKind.u32 a_0, V.int IntKind.u16 a_1] (1 : Nat) false) →
        ∃ (a1 : Option (Nat × Nat)),
          h'2.ld h.next (0 : Nat) = some (V.ptr a1) ∧
            ∀ (h'3 : Hp),
              h'3 = h'2.alloc (O.row [V.fn (Fn.func (41 : Nat)) [] [], V.fn (Fn.func (42 : Nat)) [] [V.ptr (some (h'1.next, (0 : Nat))), V.ptr (some (h.next, (0 : Nat)))]] (1 : Nat) false) →
                XCalls Try.prog (35 : Nat) [V.ptr a1, V.int IntKind.i64 fd, V.slc (some (h'2.next, (0 : Nat))) (2 : Nat) true] h'3 fun (v1 : V) (h'4 : Hp) =>
                  ∃ (n1 : Int),
                    ∃ (a2 : Option (Nat × Nat)),
                      ∃ (n2 : Int),
                        v1 = V.tup [V.int IntKind.u64 n1, V.ptr a2, V.int IntKind.i64 n2] ∧
                          bif n2 != (0 : Int) then K (V.int IntKind.i64 n2) h'4
                          else
                            onS a2 fun (i1 o1 : Nat) =>
                              ∃ (n3 : Int),
                                h'4.ld i1 (o1 + (0 : Nat) + (0 : Nat)) = some (V.int IntKind.u8 n3) ∧
                                  ∃ (n4 : Int),
                                    h'4.ld h'1.next (0 : Nat) = some (V.int IntKind.u32 n4) ∧
                                      ∃ (n5 : Int),
                                        h'4.ld h'1.next (1 : Nat) = some (V.int IntKind.u16 n5) ∧
                                          onS a2 fun (i2 o2 : Nat) =>
                                            ∃ (b1 : Bool),
                                              h'4.ld i2 (o2 + (10 : Nat)) = some (V.bool b1) ∧
                                                ∀ (h'5 : Hp),
                                                  h'5 = h'4.alloc (O.row [V.int IntKind.u8 (0 : Int), V.int IntKind.u32 (0 : Int), V.int IntKind.u16 (0 : Int), V.bool false] (1 : Nat) false) →
                                                    V.agg [V.int IntKind.u8 n3, V.int IntKind.u32 n4, V.int IntKind.u16 n5, V.bool b1] =
                                                        V.agg [V.int IntKind.u8 n3, V.int IntKind.u32 n4, V.int IntKind.u16 n5, V.bool b1] ∧
                                                      (∃ (b2 : Bool), h'5.ld i2 (o2 + (10 : Nat)) = some (V.bool b2) ∧ V.bool b2 = V.bool b1) ∧
                                                        V.ptr (some (i2, o2 + (10 : Nat))) = V.ptr (some (i2, o2 + (10 : Nat))) ∧
                                                          (onS a2 fun (i3 o3 : Nat) => V.ptr (some (i3, o3)) = V.ptr (some (i2, o2))) ∧
                                                            V.ptr a2 = V.ptr a2 ∧
                                                              (∃ (n6 : Int), h'5.ld h'1.next (1 : Nat) = some (V.int IntKind.u16 n6) ∧ V.int IntKind.u16 n6 = V.int IntKind.u16 n5) ∧
                                                                V.ptr (some (h'1.next, (1 : Nat))) = V.ptr (some (h'1.next, (1 : Nat))) ∧
                                                                  (∃ (n7 : Int), h'5.ld h'1.next (0 : Nat) = some (V.int IntKind.u32 n7) ∧ V.int IntKind.u32 n7 = V.int IntKind.u32 n4) ∧
                                                                    V.ptr (some (h'1.next, (0 : Nat))) = V.ptr (some (h'1.next, (0 : Nat))) ∧
                                                                      (∃ (n8 : Int), h'5.ld i1 (o1 + (0 : Nat) + (0 : Nat)) = some (V.int IntKind.u8 n8) ∧ V.int IntKind.u8 n8 = V.int IntKind.u8 n3) ∧
                                                                        V.ptr (some (i1, o1 + (0 : Nat) + (0 : Nat))) = V.ptr (some (i1, o1 + (0 : Nat) + (0 : Nat))) ∧
                                                                          V.ptr (some (i1, o1 + (0 : Nat))) = V.ptr (some (i1, o1 + (0 : Nat))) ∧
                                                                            (onS a2 fun (i4 o4 : Nat) => V.ptr (some (i4, o4)) = V.ptr (some (i1, o1))) ∧
                                                                              V.ptr a2 = V.ptr a2 ∧
                                                                                ∃ (h'6 : Hp),
                                                                                  h'5.st h'4.next (0 : Nat) [V.int IntKind.u8 n3, V.int IntKind.u32 n4, V.int IntKind.u16 n5, V.bool b1] = some h'6 ∧
                                                                                    ∃ (a3 : Option (Nat × Nat)),
                                                                                      h'6.ld h.next (0 : Nat) = some (V.ptr a3) ∧
                                                                                        onS a3 fun (i5 o5 : Nat) =>
                                                                                          ∃ (a4 : Option (Nat × Nat)),
                                                                                            h'6.ld i5 (o5 + (4 : Nat)) = some (V.ptr a4) ∧
                                                                                              ∃ (n9 : Int),
                                                                                                ∃ (n10 : Int),
                                                                                                  ∃ (n11 : Int),
                                                                                                    ∃ (b3 : Bool),
                                                                                                      h'6.lda h'4.next (0 : Nat) (4 : Nat) =
                                                                                                          some (V.agg [V.int IntKind.u8 n9, V.int IntKind.u32 n10, V.int IntKind.u16 n11, V.bool b3]) ∧
                                                                                                        XCalls Try.prog (43 : Nat)
                                                                                                          [V.ptr a4, V.int IntKind.u64 n1,
                                                                                                            V.agg [V.int IntKind.u8 n9, V.int IntKind.u32 n10, V.int IntKind.u16 n11, V.bool b3]]
                                                                                                          h'6 fun (v2 : V) (h'7 : Hp) =>
                                                                                                          ∃ (n12 : Int),
                                                                                                            v2 = V.int IntKind.i64 n12 ∧
                                                                                                              bif n12 == (0 : Int) then
                                                                                                                ∃ (n13 : Int),
                                                                                                                  ∃ (n14 : Int),
                                                                                                                    ∃ (n15 : Int),
                                                                                                                      ∃ (b4 : Bool),
                                                                                                                        h'7.lda h'4.next (0 : Nat) (4 : Nat) =
                                                                                                                            some
                                                                                                                              (V.agg
                                                                                                                                [V.int IntKind.u8 n13, V.int IntKind.u32 n14, V.int IntKind.u16 n15,
                                                                                                                                  V.bool b4]) ∧
                                                                                                                          onS a2 fun (i6 o6 : Nat) =>
                                                                                                                            ∃ (h'8 : Hp),
                                                                                                                              h'7.st i6 (o6 + (0 : Nat) + (1 : Nat)) [V.int IntKind.u8 (1 : Int)] =
                                                                                                                                  some h'8 ∧
                                                                                                                                (∃ (n16 : Int),
                                                                                                                                    ∃ (n17 : Int),
                                                                                                                                      ∃ (n18 : Int),
                                                                                                                                        ∃ (b5 : Bool),
                                                                                                                                          h'8.lda h'4.next (0 : Nat) (4 : Nat) =
                                                                                                                                              some
                                                                                                                                                (V.agg
                                                                                                                                                  [V.int IntKind.u8 n16, V.int IntKind.u32 n17,
                                                                                                                                                    V.int IntKind.u16 n18, V.bool b5]) ∧
                                                                                                                                            V.agg
                                                                                                                                                [V.int IntKind.u8 n16, V.int IntKind.u32 n17,
                                                                                                                                                  V.int IntKind.u16 n18, V.bool b5] =
                                                                                                                                              V.agg
                                                                                                                                                [V.int IntKind.u8 n13, V.int IntKind.u32 n14,
                                                                                                                                                  V.int IntKind.u16 n15, V.bool b4]) ∧
                                                                                                                                  V.ptr a2 = V.ptr a2 ∧
                                                                                                                                    onS a2 fun (i7 o7 : Nat) =>
                                                                                                                                      ∃ (h'9 : Hp),
                                                                                                                                        h'8.st i7 (o7 + (0 : Nat) + (2 : Nat))
                                                                                                                                              [V.int IntKind.u8 n13, V.int IntKind.u32 n14,
                                                                                                                                                V.int IntKind.u16 n15, V.bool b4] =
                                                                                                                                            some h'9 ∧
                                                                                                                                          K (V.int IntKind.i64 n12) h'9
                                                                                                              else K (V.int IntKind.i64 n12) h'7
theorem y13 (h : Hp) (K : V → Hp → Prop) (t : Nat) (fd : Int) (a_0 : Int) (a_1 : Int) : X13 h K t fd a_0 a_1 = fnX Try.prog T F jl13 jj13 Try.f13 [V.ptr (some (t, (0 : Nat))), V.int IntKind.i64 fd, V.agg [V.int IntKind.u32 a_0, V.int IntKind.u16 a_1]] h K := by kernel_rfl
theorem x13 {h : Hp} {K : V → Hp → Prop} (t : Nat) (fd : Int) (a_0 : Int) (a_1 : Int) (hx : X13 h K t fd a_0 a_1) : XCalls Try.prog 13 [V.ptr (some (t, (0 : Nat))), V.int IntKind.i64 fd, V.agg [V.int IntKind.u32 a_0, V.int IntKind.u16 a_1]] h K :=
  XCalls.ofX tok fok mixed (JL := jl13) (JJ := jj13) Try.func13 ((y13 h K t fd a_0 a_1) ▸ hx)
/-! 14: (*stevedore/call.Table).Listen -/
def jl14 : Nat → Option JT := fun r => none
def jj14 : Nat → Option JT := fun r => none
def X14 (h : Hp) (K : V → Hp → Prop) (t : Nat) (fd : Int) : Prop :=
  ∀ (h'1 : Hp),
  h'1 = h.alloc (O.row [V.fn (Fn.func (44 : Nat)) [] [], V.fn (Fn.func (45 : Nat)) [] [], V.fn (Fn.func (46 : Nat)) [] []] (1 : Nat) false) →
    XCalls Try.prog (35 : Nat) [V.ptr (some (t, (0 : Nat))), V.int IntKind.i64 fd, V.slc (some (h.next, (0 : Nat))) (3 : Nat) true] h'1 fun (v1 : V) (h'2 : Hp) =>
      ∃ (n1 : Int),
        ∃ (a1 : Option (Nat × Nat)),
          ∃ (n2 : Int),
            v1 = V.tup [V.int IntKind.u64 n1, V.ptr a1, V.int IntKind.i64 n2] ∧
              bif n2 == (0 : Int) then onS a1 fun (i1 o1 : Nat) => ∃ (h'3 : Hp), h'2.st i1 (o1 + (0 : Nat) + (1 : Nat)) [V.int IntKind.u8 (2 : Int)] = some h'3 ∧ K (V.int IntKind.i64 n2) h'3
              else K (V.int IntKind.i64 n2) h'2
theorem y14 (h : Hp) (K : V → Hp → Prop) (t : Nat) (fd : Int) : X14 h K t fd = fnX Try.prog T F jl14 jj14 Try.f14 [V.ptr (some (t, (0 : Nat))), V.int IntKind.i64 fd] h K := by kernel_rfl
theorem x14 {h : Hp} {K : V → Hp → Prop} (t : Nat) (fd : Int) (hx : X14 h K t fd) : XCalls Try.prog 14 [V.ptr (some (t, (0 : Nat))), V.int IntKind.i64 fd] h K :=
  XCalls.ofX tok fok mixed (JL := jl14) (JJ := jj14) Try.func14 ((y14 h K t fd) ▸ hx)
/-! 15: (*stevedore/call.Table).File -/
def jl15 : Nat → Option JT := fun r => none
def jj15 : Nat → Option JT := fun r => none
def X15 (h : Hp) (K : V → Hp → Prop) (t : Nat) (fd : Int) : Prop :=
  ∀ (h'1 : Hp),
  h'1 = h.alloc (O.row [V.int IntKind.u8 (0 : Int), V.int IntKind.u8 (0 : Int), V.int IntKind.u64 (0 : Int), V.bool false] (1 : Nat) false) →
    ∃ (r1 : Option Nat),
      h'1.ld t (2 : Nat) = some (V.map r1) ∧
        ∃ (n1 : Int),
          ∃ (n2 : Int),
            ∃ (n3 : Int),
              ∃ (b1 : Bool),
                ∃ (b'1 : Bool),
                  xlook T h'1 (80 : Nat) (V.map r1) (V.int IntKind.i64 fd) true = some (V.tup [V.agg [V.int IntKind.u8 n1, V.int IntKind.u8 n2, V.int IntKind.u64 n3, V.bool b1], V.bool b'1]) ∧
                    ∀ (h'2 : Hp),
                      h'2 = h'1.alloc (O.row [V.int IntKind.u8 (0 : Int), V.int IntKind.u8 (0 : Int), V.int IntKind.u64 (0 : Int), V.bool false] (1 : Nat) false) →
                        ∃ (h'3 : Hp),
                          h'2.st h'1.next (0 : Nat) [V.int IntKind.u8 n1, V.int IntKind.u8 n2, V.int IntKind.u64 n3, V.bool b1] = some h'3 ∧
                            ∃ (n4 : Int),
                              ∃ (n5 : Int),
                                ∃ (n6 : Int),
                                  ∃ (b2 : Bool),
                                    h'3.lda h'1.next (0 : Nat) (4 : Nat) = some (V.agg [V.int IntKind.u8 n4, V.int IntKind.u8 n5, V.int IntKind.u64 n6, V.bool b2]) ∧
                                      ∃ (h'4 : Hp),
                                        h'3.st h.next (0 : Nat) [V.int IntKind.u8 n4, V.int IntKind.u8 n5, V.int IntKind.u64 n6, V.bool b2] = some h'4 ∧
                                          ∃ (n7 : Int),
                                            ∃ (n8 : Int),
                                              ∃ (n9 : Int),
                                                ∃ (b3 : Bool),
                                                  h'4.lda h.next (0 : Nat) (4 : Nat) = some (V.agg [V.int IntKind.u8 n7, V.int IntKind.u8 n8, V.int IntKind.u64 n9, V.bool b3]) ∧
                                                    K (V.tup [V.agg [V.int IntKind.u8 n7, V.int IntKind.u8 n8, V.int IntKind.u64 n9, V.bool b3], V.bool b'1]) h'4
theorem y15 (h : Hp) (K : V → Hp → Prop) (t : Nat) (fd : Int) : X15 h K t fd = fnX Try.prog T F jl15 jj15 Try.f15 [V.ptr (some (t, (0 : Nat))), V.int IntKind.i64 fd] h K := by kernel_rfl
theorem x15 {h : Hp} {K : V → Hp → Prop} (t : Nat) (fd : Int) (hx : X15 h K t fd) : XCalls Try.prog 15 [V.ptr (some (t, (0 : Nat))), V.int IntKind.i64 fd] h K :=
  XCalls.ofX tok fok mixed (JL := jl15) (JJ := jj15) Try.func15 ((y15 h K t fd) ▸ hx)
/-! 16: (*stevedore/call.Table).Desk -/
def jl16 : Nat → Option JT := fun r => none
def jj16 : Nat → Option JT := fun r => none
def X16 (h : Hp) (K : V → Hp → Prop) (t : Nat) (id : Int) : Prop :=
  ∀ (h'1 : Hp),
  h'1 =
      h.alloc
        (O.row
          [V.int IntKind.u8 (0 : Int), V.int IntKind.u8 (0 : Int), V.int IntKind.u8 (0 : Int), V.int IntKind.u32 (0 : Int), V.int IntKind.u16 (0 : Int), V.bool false, V.int IntKind.u32 (0 : Int),
            V.int IntKind.u16 (0 : Int), V.int IntKind.u32 (0 : Int), V.int IntKind.u16 (0 : Int)]
          (1 : Nat) false) →
    ∃ (r1 : Option Nat),
      h'1.ld t (3 : Nat) = some (V.map r1) ∧
        ∃ (a1 : Option (Nat × Nat)),
          xlook T h'1 (81 : Nat) (V.map r1) (V.int IntKind.u64 id) false = some (V.ptr a1) ∧
            bif a1.isNone then
              ∃ (h'2 : Hp),
                h'1.st h.next (0 : Nat)
                      [V.int IntKind.u8 (0 : Int), V.int IntKind.u8 (0 : Int), V.int IntKind.u8 (0 : Int), V.int IntKind.u32 (0 : Int), V.int IntKind.u16 (0 : Int), V.bool false,
                        V.int IntKind.u32 (0 : Int), V.int IntKind.u16 (0 : Int), V.int IntKind.u32 (0 : Int), V.int IntKind.u16 (0 : Int)] =
                    some h'2 ∧
                  ∃ (n1 : Int),
                    ∃ (n2 : Int),
                      ∃ (n3 : Int),
                        ∃ (n4 : Int),
                          ∃ (n5 : Int),
                            ∃ (b1 : Bool),
                              ∃ (n6 : Int),
                                ∃ (n7 : Int),
                                  ∃ (n8 : Int),
                                    ∃ (n9 : Int),
                                      h'2.lda h.next (0 : Nat) (10 : Nat) =
                                          some
                                            (V.agg
                                              [V.int IntKind.u8 n1, V.int IntKind.u8 n2, V.int IntKind.u8 n3, V.int IntKind.u32 n4, V.int IntKind.u16 n5, V.bool b1, V.int IntKind.u32 n6,
                                                V.int IntKind.u16 n7, V.int IntKind.u32 n8, V.int IntKind.u16 n9]) ∧
                                        K
                                          (V.tup
                                            [V.agg
                                                [V.int IntKind.u8 n1, V.int IntKind.u8 n2, V.int IntKind.u8 n3, V.int IntKind.u32 n4, V.int IntKind.u16 n5, V.bool b1, V.int IntKind.u32 n6,
                                                  V.int IntKind.u16 n7, V.int IntKind.u32 n8, V.int IntKind.u16 n9],
                                              V.bool false])
                                          h'2
            else
              ∃ (r2 : Option Nat),
                h'1.ld t (3 : Nat) = some (V.map r2) ∧
                  ∃ (a2 : Option (Nat × Nat)),
                    xlook T h'1 (81 : Nat) (V.map r2) (V.int IntKind.u64 id) false = some (V.ptr a2) ∧
                      onS a2 fun (i1 o1 : Nat) =>
                        ∃ (n10 : Int),
                          ∃ (n11 : Int),
                            ∃ (n12 : Int),
                              ∃ (n13 : Int),
                                ∃ (n14 : Int),
                                  ∃ (b2 : Bool),
                                    ∃ (n15 : Int),
                                      ∃ (n16 : Int),
                                        ∃ (n17 : Int),
                                          ∃ (n18 : Int),
                                            h'1.lda i1 (o1 + (0 : Nat)) (10 : Nat) =
                                                some
                                                  (V.agg
                                                    [V.int IntKind.u8 n10, V.int IntKind.u8 n11, V.int IntKind.u8 n12, V.int IntKind.u32 n13, V.int IntKind.u16 n14, V.bool b2, V.int IntKind.u32 n15,
                                                      V.int IntKind.u16 n16, V.int IntKind.u32 n17, V.int IntKind.u16 n18]) ∧
                                              ∃ (h'3 : Hp),
                                                h'1.st h.next (0 : Nat)
                                                      [V.int IntKind.u8 n10, V.int IntKind.u8 n11, V.int IntKind.u8 n12, V.int IntKind.u32 n13, V.int IntKind.u16 n14, V.bool b2, V.int IntKind.u32 n15,
                                                        V.int IntKind.u16 n16, V.int IntKind.u32 n17, V.int IntKind.u16 n18] =
                                                    some h'3 ∧
                                                  ∃ (n19 : Int),
                                                    ∃ (n20 : Int),
                                                      ∃ (n21 : Int),
                                                        ∃ (n22 : Int),
                                                          ∃ (n23 : Int),
                                                            ∃ (b3 : Bool),
                                                              ∃ (n24 : Int),
                                                                ∃ (n25 : Int),
                                                                  ∃ (n26 : Int),
                                                                    ∃ (n27 : Int),
                                                                      h'3.lda h.next (0 : Nat) (10 : Nat) =
                                                                          some
                                                                            (V.agg
                                                                              [V.int IntKind.u8 n19, V.int IntKind.u8 n20, V.int IntKind.u8 n21, V.int IntKind.u32 n22, V.int IntKind.u16 n23,
                                                                                V.bool b3, V.int IntKind.u32 n24, V.int IntKind.u16 n25, V.int IntKind.u32 n26, V.int IntKind.u16 n27]) ∧
                                                                        K
                                                                          (V.tup
                                                                            [V.agg
                                                                                [V.int IntKind.u8 n19, V.int IntKind.u8 n20, V.int IntKind.u8 n21, V.int IntKind.u32 n22, V.int IntKind.u16 n23,
                                                                                  V.bool b3, V.int IntKind.u32 n24, V.int IntKind.u16 n25, V.int IntKind.u32 n26, V.int IntKind.u16 n27],
                                                                              V.bool true])
                                                                          h'3
theorem y16 (h : Hp) (K : V → Hp → Prop) (t : Nat) (id : Int) : X16 h K t id = fnX Try.prog T F jl16 jj16 Try.f16 [V.ptr (some (t, (0 : Nat))), V.int IntKind.u64 id] h K := by kernel_rfl
theorem x16 {h : Hp} {K : V → Hp → Prop} (t : Nat) (id : Int) (hx : X16 h K t id) : XCalls Try.prog 16 [V.ptr (some (t, (0 : Nat))), V.int IntKind.u64 id] h K :=
  XCalls.ofX tok fok mixed (JL := jl16) (JJ := jj16) Try.func16 ((y16 h K t id) ▸ hx)
/-! 24: (*stevedore/call.Table).Share -/
def jl24 : Nat → Option JT := fun r => none
def jj24 : Nat → Option JT := fun r => none
def X24 (h : Hp) (K : V → Hp → Prop) (t : Nat) (fd : Int) (is : Bool) : Prop :=
  ∀ (h'1 : Hp),
  h'1 = h.alloc (O.row [V.fn (Fn.func (41 : Nat)) [] []] (1 : Nat) false) →
    XCalls Try.prog (35 : Nat) [V.ptr (some (t, (0 : Nat))), V.int IntKind.i64 fd, V.slc (some (h.next, (0 : Nat))) (1 : Nat) true] h'1 fun (v1 : V) (h'2 : Hp) =>
      ∃ (n1 : Int),
        ∃ (a1 : Option (Nat × Nat)),
          ∃ (n2 : Int),
            v1 = V.tup [V.int IntKind.u64 n1, V.ptr a1, V.int IntKind.i64 n2] ∧
              bif n2 == (0 : Int) then onS a1 fun (i1 o1 : Nat) => ∃ (h'3 : Hp), h'2.st i1 (o1 + (10 : Nat)) [V.bool is] = some h'3 ∧ K (V.int IntKind.i64 n2) h'3 else K (V.int IntKind.i64 n2) h'2
theorem y24 (h : Hp) (K : V → Hp → Prop) (t : Nat) (fd : Int) (is : Bool) : X24 h K t fd is = fnX Try.prog T F jl24 jj24 Try.f24 [V.ptr (some (t, (0 : Nat))), V.int IntKind.i64 fd, V.bool is] h K := by kernel_rfl
theorem x24 {h : Hp} {K : V → Hp → Prop} (t : Nat) (fd : Int) (is : Bool) (hx : X24 h K t fd is) : XCalls Try.prog 24 [V.ptr (some (t, (0 : Nat))), V.int IntKind.i64 fd, V.bool is] h K :=
  XCalls.ofX tok fok mixed (JL := jl24) (JJ := jj24) Try.func24 ((y24 h K t fd is) ▸ hx)
end Go.Vex
