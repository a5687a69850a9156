/-
  Functions of layer 17 as statements about data (printed by VexPrint).
-/
import Derived.Test.YteblfacfbmlceaaVexX
import Derived.Test.YteblfacfbmlceaaTab17
set_option linter.unusedVariables false
set_option maxRecDepth 100000
namespace Go.Vex
open Go.Proofs
/-! 8: stevedore/pool.New -/
def jl8 : Nat → Option JT := fun r => none
def jj8 : Nat → Option JT := fun r => none
def X8 (h : Hp) (K : V → Hp → Prop) (most : Int) : Prop :=
  bif ltI most (1 : Int) then K (V.tup [V.ptr none, V.int IntKind.i64 (2 : Int)]) h
else
  bif ltI (4096 : Int) most then K (V.tup [V.ptr none, V.int IntKind.i64 (2 : Int)]) h
  else
    ∀ (h'1 : Hp),
      h'1 = h.alloc (O.map [] (0 : Nat)) →
        ∀ (h'2 : Hp),
          h'2 = h'1.alloc (O.row [V.int IntKind.i64 most, V.int IntKind.u64 (0 : Int), V.map (some h.next)] (1 : Nat) false) →
            K (V.tup [V.ptr (some (h'1.next, (0 : Nat))), V.int IntKind.i64 (0 : Int)]) h'2
theorem x8 {h : Hp} {K : V → Hp → Prop} (most : Int) (hx : X8 h K most) : XCalls Try.prog 8 [V.int IntKind.i64 most] h K :=
  XCalls.ofX tok fok mixed (JL := jl8) (JJ := jj8) Try.func8 (cast (by kernel_rfl) hx)
/-! 10: (*stevedore/pool.Pool).Take -/
def jl10 : Nat → Option JT := fun r => none
def jj10 : Nat → Option JT := fun r => none
def X10 (h : Hp) (K : V → Hp → Prop) (p : Nat) (holder : List UInt8) (text : List UInt8) : Prop :=
  ∃ (r1 : Option Nat),
  h.ld p (2 : Nat) = some (V.map r1) ∧
    bif r1.isNone then K (V.tup [V.int IntKind.u64 (0 : Int), V.int IntKind.i64 (1 : Int)]) h
    else
      bif holder == [] then K (V.tup [V.int IntKind.u64 (0 : Int), V.int IntKind.i64 (2 : Int)]) h
      else
        bif ltI (65549 : Int) (↑text.length : Int) then K (V.tup [V.int IntKind.u64 (0 : Int), V.int IntKind.i64 (4 : Int)]) h
        else
          ∃ (r2 : Option Nat),
            h.ld p (2 : Nat) = some (V.map r2) ∧
              ∃ (n1 : Int),
                xlen T h (58 : Nat) (V.map r2) = some (V.int IntKind.i64 n1) ∧
                  ∃ (n2 : Int),
                    h.ld p (0 : Nat) = some (V.int IntKind.i64 n2) ∧
                      bif !ltI n1 n2 then K (V.tup [V.int IntKind.u64 (0 : Int), V.int IntKind.i64 (6 : Int)]) h
                      else
                        ∃ (n3 : Int),
                          h.ld p (1 : Nat) = some (V.int IntKind.u64 n3) ∧
                            ∃ (h'1 : Hp),
                              h.st p (1 : Nat) [V.int IntKind.u64 (IntKind.u64.wrap (n3 + (1 : Int)))] = some h'1 ∧
                                ∃ (r3 : Option Nat),
                                  h'1.ld p (2 : Nat) = some (V.map r3) ∧
                                    ∃ (n4 : Int),
                                      h'1.ld p (1 : Nat) = some (V.int IntKind.u64 n4) ∧
                                        ∃ (n5 : Int),
                                          h'1.ld p (1 : Nat) = some (V.int IntKind.u64 n5) ∧
                                            ∀ (h'2 : Hp),
                                              h'2 = h'1.alloc (O.row [V.int IntKind.u64 n5, V.str holder, V.str text] (1 : Nat) false) →
                                                (∃ (n6 : Int), h'2.ld p (1 : Nat) = some (V.int IntKind.u64 n6) ∧ V.int IntKind.u64 n6 = V.int IntKind.u64 n4) ∧
                                                  V.ptr (some (p, (1 : Nat))) = V.ptr (some (p, (1 : Nat))) ∧
                                                    V.ptr (some (p, (0 : Nat))) = V.ptr (some (p, (0 : Nat))) ∧
                                                      V.ptr (some (p, (0 : Nat))) = V.ptr (some (p, (0 : Nat))) ∧
                                                        (∃ (r4 : Option Nat), h'2.ld p (2 : Nat) = some (V.map r4) ∧ V.map r4 = V.map r3) ∧
                                                          V.ptr (some (p, (2 : Nat))) = V.ptr (some (p, (2 : Nat))) ∧
                                                            V.ptr (some (p, (0 : Nat))) = V.ptr (some (p, (0 : Nat))) ∧
                                                              V.ptr (some (p, (0 : Nat))) = V.ptr (some (p, (0 : Nat))) ∧
                                                                ∃ (h'3 : Hp),
                                                                  xput T h'2 (58 : Nat) (V.map r3) (V.int IntKind.u64 n4) (V.ptr (some (h'1.next, (0 : Nat)))) = some h'3 ∧
                                                                    ∃ (n7 : Int), h'3.ld p (1 : Nat) = some (V.int IntKind.u64 n7) ∧ K (V.tup [V.int IntKind.u64 n7, V.int IntKind.i64 (0 : Int)]) h'3
theorem x10 {h : Hp} {K : V → Hp → Prop} (p : Nat) (holder : List UInt8) (text : List UInt8) (hx : X10 h K p holder text) : XCalls Try.prog 10 [V.ptr (some (p, (0 : Nat))), V.str holder, V.str text] h K :=
  XCalls.ofX tok fok mixed (JL := jl10) (JJ := jj10) Try.func10 (cast (by kernel_rfl) hx)
/-! 11: (*stevedore/pool.Pool).Move -/
def jl11 : Nat → Option JT := fun r => none
def jj11 : Nat → Option JT := fun r => none
def X11 (h : Hp) (K : V → Hp → Prop) (p : Nat) (id : Int) (a2 : List UInt8) (to : List UInt8) : Prop :=
  ∃ (r1 : Option Nat),
  h.ld p (2 : Nat) = some (V.map r1) ∧
    bif !r1.isNone then
      bif to == [] then K (V.int IntKind.i64 (2 : Int)) h
      else
        XCalls Try.prog (21 : Nat) [V.ptr (some (p, (0 : Nat))), V.int IntKind.u64 id, V.str a2] h fun (v1 : V) (h'1 : Hp) =>
          ∃ (a1 : Option (Nat × Nat)),
            ∃ (n1 : Int),
              v1 = V.tup [V.ptr a1, V.int IntKind.i64 n1] ∧
                bif n1 == (0 : Int) then onS a1 fun (i1 o1 : Nat) => ∃ (h'2 : Hp), h'1.st i1 (o1 + (1 : Nat)) [V.str to] = some h'2 ∧ K (V.int IntKind.i64 n1) h'2 else K (V.int IntKind.i64 n1) h'1
    else
      XCalls Try.prog (21 : Nat) [V.ptr (some (p, (0 : Nat))), V.int IntKind.u64 id, V.str a2] h fun (v2 : V) (h'3 : Hp) =>
        ∃ (a2 : Option (Nat × Nat)),
          ∃ (n2 : Int),
            v2 = V.tup [V.ptr a2, V.int IntKind.i64 n2] ∧
              bif n2 == (0 : Int) then onS a2 fun (i2 o2 : Nat) => ∃ (h'4 : Hp), h'3.st i2 (o2 + (1 : Nat)) [V.str to] = some h'4 ∧ K (V.int IntKind.i64 n2) h'4 else K (V.int IntKind.i64 n2) h'3
theorem x11 {h : Hp} {K : V → Hp → Prop} (p : Nat) (id : Int) (a2 : List UInt8) (to : List UInt8) (hx : X11 h K p id a2 to) : XCalls Try.prog 11 [V.ptr (some (p, (0 : Nat))), V.int IntKind.u64 id, V.str a2, V.str to] h K :=
  XCalls.ofX tok fok mixed (JL := jl11) (JJ := jj11) Try.func11 (cast (by kernel_rfl) hx)
/-! 12: (*stevedore/pool.Pool).Give -/
-- loop 15: stays p(0), (49), (50); turns (51)
-- loop 5: stays p(0), holder(1), ids(2), gone(7), (24), (25); turns (26)
def jl12 : Nat → Option JT := fun r => bif Nat.beq r 15 then some ⟨[0, 49, 50], [51], [V.int IntKind.i64 (0 : Int)]⟩ else bif Nat.beq r 5 then some ⟨[0, 1, 2, 7, 24, 25], [26], [V.int IntKind.i64 (0 : Int)]⟩ else none
def jj12 : Nat → Option JT := fun r => none
def X12 (h : Hp) (K : V → Hp → Prop) (p : Nat) (holder : List UInt8) (ids : Option (Nat × Nat)) (ids_n : Nat) (ids_f : Bool) : Prop :=
  ∃ (r1 : Option Nat),
  h.ld p (2 : Nat) = some (V.map r1) ∧
    bif r1.isNone then K (V.int IntKind.i64 (1 : Int)) h
    else
      ∀ (h'1 : Hp),
        h'1 = h.alloc (O.map [] (0 : Nat)) →
          ∃ (I1 : List V → Hp → Prop),
            ∃ (x1 : List V → Hp → Nat),
              ([V.ptr (some (p, (0 : Nat))), V.str holder, V.slc ids ids_n ids_f, V.map (some h.next), V.slc ids ids_n ids_f, V.int IntKind.i64 (↑ids_n : Int)] =
                    [V.ptr (some (p, (0 : Nat))), V.str holder, V.slc ids ids_n ids_f, V.map (some h.next), V.slc ids ids_n ids_f, V.int IntKind.i64 (↑ids_n : Int)] ∧
                  I1 [V.int IntKind.i64 (0 : Int)] h'1) ∧
                ∀ (bs1 : Nat → Option V) (n1 : Int) (h1 : Hp),
                  I1 [V.int IntKind.i64 n1] h1 →
                    bif ltI n1 (↑ids_n : Int) then
                      ((0 : Int) ≤ n1 ∧ n1 < (↑ids_n : Int)) ∧
                        onS ids fun (i1 o1 : Nat) =>
                          ∃ (n2 : Int),
                            h1.ld i1 (o1 + n1.toNat * (1 : Nat)) = some (V.int IntKind.u64 n2) ∧
                              XCalls Try.prog (21 : Nat) [V.ptr (some (p, (0 : Nat))), V.int IntKind.u64 n2, V.str holder] h1 fun (v1 : V) (h'2 : Hp) =>
                                ∃ (a1 : Option (Nat × Nat)),
                                  ∃ (n3 : Int),
                                    v1 = V.tup [V.ptr a1, V.int IntKind.i64 n3] ∧
                                      ∃ (n4 : Int),
                                        xlook T h'2 (32 : Nat) (V.map (some h.next)) (V.int IntKind.u64 n2) false = some (V.int IntKind.i64 n4) ∧
                                          ∃ (h'3 : Hp),
                                            xput T h'2 (32 : Nat) (V.map (some h.next)) (V.int IntKind.u64 n2) (V.int IntKind.i64 (IntKind.i64.wrap (n4 + (1 : Int)))) = some h'3 ∧
                                              ∃ (n5 : Int),
                                                xlook T h'3 (32 : Nat) (V.map (some h.next)) (V.int IntKind.u64 n2) false = some (V.int IntKind.i64 n5) ∧
                                                  bif ltI (1 : Int) n5 then K (V.int IntKind.i64 (5 : Int)) h'3
                                                  else
                                                    bif n3 != (0 : Int) then K (V.int IntKind.i64 n3) h'3
                                                    else
                                                      [V.ptr (some (p, (0 : Nat))), V.str holder, V.slc ids ids_n ids_f, V.map (some h.next), V.slc ids ids_n ids_f, V.int IntKind.i64 (↑ids_n : Int)] =
                                                          [V.ptr (some (p, (0 : Nat))), V.str holder, V.slc ids ids_n ids_f, V.map (some h.next), V.slc ids ids_n ids_f,
                                                            V.int IntKind.i64 (↑ids_n : Int)] ∧
                                                        I1 [V.int IntKind.i64 (IntKind.i64.wrap (n1 + (1 : Int)))] h'3 ∧
                                                          x1 [V.int IntKind.i64 (IntKind.i64.wrap (n1 + (1 : Int)))] h'3 < x1 [V.int IntKind.i64 n1] h1
                    else
                      ∃ (I2 : List V → Hp → Prop),
                        ∃ (x2 : List V → Hp → Nat),
                          ([V.ptr (some (p, (0 : Nat))), V.slc ids ids_n ids_f, V.int IntKind.i64 (↑ids_n : Int)] =
                                [V.ptr (some (p, (0 : Nat))), V.slc ids ids_n ids_f, V.int IntKind.i64 (↑ids_n : Int)] ∧
                              I2 [V.int IntKind.i64 (0 : Int)] h1) ∧
                            ∀ (bs2 : Nat → Option V) (n6 : Int) (h2 : Hp),
                              I2 [V.int IntKind.i64 n6] h2 →
                                bif ltI n6 (↑ids_n : Int) then
                                  ((0 : Int) ≤ n6 ∧ n6 < (↑ids_n : Int)) ∧
                                    onS ids fun (i2 o2 : Nat) =>
                                      ∃ (n7 : Int),
                                        h2.ld i2 (o2 + n6.toNat * (1 : Nat)) = some (V.int IntKind.u64 n7) ∧
                                          ∃ (r2 : Option Nat),
                                            h2.ld p (2 : Nat) = some (V.map r2) ∧
                                              ∃ (h'4 : Hp),
                                                xdel T h2 (58 : Nat) (V.map r2) (V.int IntKind.u64 n7) = some h'4 ∧
                                                  [V.ptr (some (p, (0 : Nat))), V.slc ids ids_n ids_f, V.int IntKind.i64 (↑ids_n : Int)] =
                                                      [V.ptr (some (p, (0 : Nat))), V.slc ids ids_n ids_f, V.int IntKind.i64 (↑ids_n : Int)] ∧
                                                    I2 [V.int IntKind.i64 (IntKind.i64.wrap (n6 + (1 : Int)))] h'4 ∧
                                                      x2 [V.int IntKind.i64 (IntKind.i64.wrap (n6 + (1 : Int)))] h'4 < x2 [V.int IntKind.i64 n6] h2
                                else K (V.int IntKind.i64 (0 : Int)) h2
theorem x12 {h : Hp} {K : V → Hp → Prop} (p : Nat) (holder : List UInt8) (ids : Option (Nat × Nat)) (ids_n : Nat) (ids_f : Bool) (hx : X12 h K p holder ids ids_n ids_f) : XCalls Try.prog 12 [V.ptr (some (p, (0 : Nat))), V.str holder, V.slc ids ids_n ids_f] h K :=
  XCalls.ofX tok fok mixed (JL := jl12) (JJ := jj12) Try.func12 (cast (by kernel_rfl) hx)
/-! 13: (*stevedore/pool.Pool).Free -/
def jl13 : Nat → Option JT := fun r => none
def jj13 : Nat → Option JT := fun r => none
def X13 (h : Hp) (K : V → Hp → Prop) (p : Nat) : Prop :=
  ∃ (n1 : Int),
  h.ld p (0 : Nat) = some (V.int IntKind.i64 n1) ∧
    ∃ (r1 : Option Nat), h.ld p (2 : Nat) = some (V.map r1) ∧ ∃ (n2 : Int), xlen T h (58 : Nat) (V.map r1) = some (V.int IntKind.i64 n2) ∧ K (V.int IntKind.i64 (IntKind.i64.wrap (n1 - n2))) h
theorem x13 {h : Hp} {K : V → Hp → Prop} (p : Nat) (hx : X13 h K p) : XCalls Try.prog 13 [V.ptr (some (p, (0 : Nat)))] h K :=
  XCalls.ofX tok fok mixed (JL := jl13) (JJ := jj13) Try.func13 (cast (by kernel_rfl) hx)
/-! 17: (*stevedore/pool.Pool).Get -/
def jl17 : Nat → Option JT := fun r => none
def jj17 : Nat → Option JT := fun r => none
def X17 (h : Hp) (K : V → Hp → Prop) (p : Nat) (id : Int) : Prop :=
  ∀ (h'1 : Hp),
  h'1 = h.alloc (O.row [V.int IntKind.u64 (0 : Int), V.str [], V.str []] (1 : Nat) false) →
    ∃ (r1 : Option Nat),
      h'1.ld p (2 : Nat) = some (V.map r1) ∧
        ∃ (a1 : Option (Nat × Nat)),
          xlook T h'1 (58 : Nat) (V.map r1) (V.int IntKind.u64 id) false = some (V.ptr a1) ∧
            bif a1.isNone then
              ∃ (h'2 : Hp),
                h'1.st h.next (0 : Nat) [V.int IntKind.u64 (0 : Int), V.str [], V.str []] = some h'2 ∧
                  ∃ (n1 : Int),
                    ∃ (s1 : List UInt8),
                      ∃ (s2 : List UInt8),
                        h'2.lda h.next (0 : Nat) (3 : Nat) = some (V.agg [V.int IntKind.u64 n1, V.str s1, V.str s2]) ∧ K (V.tup [V.agg [V.int IntKind.u64 n1, V.str s1, V.str s2], V.bool false]) h'2
            else
              ∃ (r2 : Option Nat),
                h'1.ld p (2 : Nat) = some (V.map r2) ∧
                  ∃ (a2 : Option (Nat × Nat)),
                    xlook T h'1 (58 : Nat) (V.map r2) (V.int IntKind.u64 id) false = some (V.ptr a2) ∧
                      onS a2 fun (i1 o1 : Nat) =>
                        ∃ (n2 : Int),
                          ∃ (s3 : List UInt8),
                            ∃ (s4 : List UInt8),
                              h'1.lda i1 o1 (3 : Nat) = some (V.agg [V.int IntKind.u64 n2, V.str s3, V.str s4]) ∧
                                ∃ (h'3 : Hp),
                                  h'1.st h.next (0 : Nat) [V.int IntKind.u64 n2, V.str s3, V.str s4] = some h'3 ∧
                                    ∃ (n3 : Int),
                                      ∃ (s5 : List UInt8),
                                        ∃ (s6 : List UInt8),
                                          h'3.lda h.next (0 : Nat) (3 : Nat) = some (V.agg [V.int IntKind.u64 n3, V.str s5, V.str s6]) ∧
                                            K (V.tup [V.agg [V.int IntKind.u64 n3, V.str s5, V.str s6], V.bool true]) h'3
theorem x17 {h : Hp} {K : V → Hp → Prop} (p : Nat) (id : Int) (hx : X17 h K p id) : XCalls Try.prog 17 [V.ptr (some (p, (0 : Nat))), V.int IntKind.u64 id] h K :=
  XCalls.ofX tok fok mixed (JL := jl17) (JJ := jj17) Try.func17 (cast (by kernel_rfl) hx)
/-! 19: (*stevedore/pool.Pool).Set -/
def jl19 : Nat → Option JT := fun r => none
def jj19 : Nat → Option JT := fun r => none
def X19 (h : Hp) (K : V → Hp → Prop) (p : Nat) (id : Int) (holder : List UInt8) (text : List UInt8) : Prop :=
  XCalls Try.prog (21 : Nat) [V.ptr (some (p, (0 : Nat))), V.int IntKind.u64 id, V.str holder] h fun (v1 : V) (h'1 : Hp) =>
  ∃ (a1 : Option (Nat × Nat)),
    ∃ (n1 : Int),
      v1 = V.tup [V.ptr a1, V.int IntKind.i64 n1] ∧
        bif n1 != (0 : Int) then K (V.int IntKind.i64 n1) h'1
        else
          bif ltI (65549 : Int) (↑text.length : Int) then K (V.int IntKind.i64 (4 : Int)) h'1
          else onS a1 fun (i1 o1 : Nat) => ∃ (h'2 : Hp), h'1.st i1 (o1 + (2 : Nat)) [V.str text] = some h'2 ∧ K (V.int IntKind.i64 (0 : Int)) h'2
theorem x19 {h : Hp} {K : V → Hp → Prop} (p : Nat) (id : Int) (holder : List UInt8) (text : List UInt8) (hx : X19 h K p id holder text) : XCalls Try.prog 19 [V.ptr (some (p, (0 : Nat))), V.int IntKind.u64 id, V.str holder, V.str text] h K :=
  XCalls.ofX tok fok mixed (JL := jl19) (JJ := jj19) Try.func19 (cast (by kernel_rfl) hx)
/-! 21: (*stevedore/pool.Pool).of -/
def jl21 : Nat → Option JT := fun r => none
def jj21 : Nat → Option JT := fun r => none
def X21 (h : Hp) (K : V → Hp → Prop) (p : Nat) (id : Int) (holder : List UInt8) : Prop :=
  ∃ (r1 : Option Nat),
  h.ld p (2 : Nat) = some (V.map r1) ∧
    bif r1.isNone then K (V.tup [V.ptr none, V.int IntKind.i64 (1 : Int)]) h
    else
      ∃ (r2 : Option Nat),
        h.ld p (2 : Nat) = some (V.map r2) ∧
          ∃ (a1 : Option (Nat × Nat)),
            xlook T h (58 : Nat) (V.map r2) (V.int IntKind.u64 id) false = some (V.ptr a1) ∧
              bif a1.isNone then K (V.tup [V.ptr none, V.int IntKind.i64 (5 : Int)]) h
              else
                onS a1 fun (i1 o1 : Nat) =>
                  ∃ (s1 : List UInt8),
                    h.ld i1 (o1 + (1 : Nat)) = some (V.str s1) ∧ bif !s1 == holder then K (V.tup [V.ptr none, V.int IntKind.i64 (3 : Int)]) h else K (V.tup [V.ptr a1, V.int IntKind.i64 (0 : Int)]) h
theorem x21 {h : Hp} {K : V → Hp → Prop} (p : Nat) (id : Int) (holder : List UInt8) (hx : X21 h K p id holder) : XCalls Try.prog 21 [V.ptr (some (p, (0 : Nat))), V.int IntKind.u64 id, V.str holder] h K :=
  XCalls.ofX tok fok mixed (JL := jl21) (JJ := jj21) Try.func21 (cast (by kernel_rfl) hx)
end Go.Vex
