/-
  Functions of layer 26 as statements about data (printed by VexPrint).
-/
import Derived.Test.YtkdjjjpfkdkgoaaVexX
import Derived.Test.YtkdjjjpfkdkgoaaTab26
set_option linter.unusedVariables false
set_option maxRecDepth 100000
namespace Go.Vex
open Go.Proofs
/-! 9: stevedore/stevedorelaw26.heavy -/
-- loop 3: stays l(0); turns n(3), i(4)
def jl9 : Nat → Option JT := fun r => bif Nat.beq r 3 then some ⟨[0], [3, 4], [V.int IntKind.i64 (0 : Int), V.int IntKind.i64 (0 : Int)]⟩ else none
def jj9 : Nat → Option JT := fun r => none
def X9 (h : Hp) (K : V → Hp → Prop) (l : Option (Nat × Nat)) (l_n : Nat) (l_f : Bool) : Prop :=
  ∃ (I1 : List V → Hp → Prop),
  ∃ (x1 : List V → Hp → Nat),
    ([V.slc l l_n l_f] = [V.slc l l_n l_f] ∧ I1 [V.int IntKind.i64 (0 : Int), V.int IntKind.i64 (0 : Int)] h) ∧
      ∀ (bs1 : Nat → Option V) (n1 n2 : Int) (h1 : Hp),
        I1 [V.int IntKind.i64 n1, V.int IntKind.i64 n2] h1 →
          bif ltI n2 (↑l_n : Int) then
            bif ltI n2 (500 : Int) then
              ((0 : Int) ≤ n2 ∧ n2 < (↑l_n : Int)) ∧
                onS l fun (i1 o1 : Nat) =>
                  ∃ (s1 : List UInt8),
                    h1.ld i1 (o1 + n2.toNat * (4 : Nat) + (1 : Nat)) = some (V.str s1) ∧
                      [V.slc l l_n l_f] = [V.slc l l_n l_f] ∧
                        I1 [V.int IntKind.i64 (IntKind.i64.wrap (n1 + (↑s1.length : Int))), V.int IntKind.i64 (IntKind.i64.wrap (n2 + (1 : Int)))] h1 ∧
                          x1 [V.int IntKind.i64 (IntKind.i64.wrap (n1 + (↑s1.length : Int))), V.int IntKind.i64 (IntKind.i64.wrap (n2 + (1 : Int)))] h1 <
                            x1 [V.int IntKind.i64 n1, V.int IntKind.i64 n2] h1
            else bif ltI (250 : Int) (↑l_n : Int) then K (V.bool true) h1 else K (V.bool (ltI (8192 : Int) n1)) h1
          else bif ltI (250 : Int) (↑l_n : Int) then K (V.bool true) h1 else K (V.bool (ltI (8192 : Int) n1)) h1
theorem x9 {h : Hp} {K : V → Hp → Prop} (l : Option (Nat × Nat)) (l_n : Nat) (l_f : Bool) (hx : X9 h K l l_n l_f) : XCalls Try.prog 9 [V.slc l l_n l_f] h K :=
  XCalls.ofX tok fok mixed (JL := jl9) (JJ := jj9) Try.func9 (cast (by kernel_rfl) hx)
/-! 11: stevedore/flow.NewOut -/
def jl11 : Nat → Option JT := fun r => none
def jj11 : Nat → Option JT := fun r => none
def X11 (h : Hp) (K : V → Hp → Prop) (a0 : Int) (most : Int) : Prop :=
  bif ltI most (1 : Int) then K (V.tup [V.ptr none, V.int IntKind.i64 (2 : Int)]) h
else
  bif ltI (16384 : Int) most then K (V.tup [V.ptr none, V.int IntKind.i64 (2 : Int)]) h
  else
    ∀ (h'1 : Hp),
      h'1 = h.alloc (O.row [V.int IntKind.u32 a0, V.slc none (0 : Nat) true, V.int IntKind.i64 (0 : Int), V.int IntKind.i64 most] (1 : Nat) false) →
        K (V.tup [V.ptr (some (h.next, (0 : Nat))), V.int IntKind.i64 (0 : Int)]) h'1
theorem x11 {h : Hp} {K : V → Hp → Prop} (a0 : Int) (most : Int) (hx : X11 h K a0 most) : XCalls Try.prog 11 [V.int IntKind.u32 a0, V.int IntKind.i64 most] h K :=
  XCalls.ofX tok fok mixed (JL := jl11) (JJ := jj11) Try.func11 (cast (by kernel_rfl) hx)
/-! 12: (*stevedore/flow.Out).Write -/
def jl12 : Nat → Option JT := fun r => none
def jj12 : Nat → Option JT := fun r => none
def X12 (h : Hp) (K : V → Hp → Prop) (o : Nat) (text : List UInt8) : Prop :=
  XCalls Try.prog (21 : Nat) [V.ptr (some (o, (0 : Nat)))] h fun (v1 : V) (h'1 : Hp) =>
  ∃ (n1 : Int),
    v1 = V.int IntKind.i64 n1 ∧
      bif ltI (0 : Int) (bif ltI n1 (↑text.length : Int) then n1 else (↑text.length : Int)) then
        ∃ (a1 : Option (Nat × Nat)),
          ∃ (n2 : Nat),
            ∃ (f1 : Bool),
              h'1.ld o (1 : Nat) = some (V.slc a1 n2 f1) ∧
                ((0 : Int) ≤ bif ltI n1 (↑text.length : Int) then n1 else (↑text.length : Int)) ∧
                  ((0 : Nat) ≤ (bif ltI n1 (↑text.length : Int) then n1 else (↑text.length : Int)).toNat ∧ (bif ltI n1 (↑text.length : Int) then n1 else (↑text.length : Int)).toNat ≤ text.length) ∧
                    ∃ (p1 : Option (Nat × Nat)),
                      ∃ (n3 : Nat),
                        ∃ (f2 : Bool),
                          ∃ (h'2 : Hp),
                            xapp T h'1 (68 : Nat) (9 : Nat) (V.slc a1 n2 f1)
                                  (V.str (List.take ((bif ltI n1 (↑text.length : Int) then n1 else (↑text.length : Int)).toNat - (0 : Nat)) (List.drop (0 : Nat) text))) =
                                some (V.slc p1 n3 f2, h'2) ∧
                              V.ptr (some (o, (0 : Nat))) = V.ptr (some (o, (0 : Nat))) ∧
                                ∃ (h'3 : Hp), h'2.st o (1 : Nat) [V.slc p1 n3 f2] = some h'3 ∧ K (V.int IntKind.i64 (bif ltI n1 (↑text.length : Int) then n1 else (↑text.length : Int))) h'3
      else K (V.int IntKind.i64 (bif ltI n1 (↑text.length : Int) then n1 else (↑text.length : Int))) h'1
theorem x12 {h : Hp} {K : V → Hp → Prop} (o : Nat) (text : List UInt8) (hx : X12 h K o text) : XCalls Try.prog 12 [V.ptr (some (o, (0 : Nat))), V.str text] h K :=
  XCalls.ofX tok fok mixed (JL := jl12) (JJ := jj12) Try.func12 (cast (by kernel_rfl) hx)
/-! 14: (*stevedore/flow.Out).Sent -/
def jl14 : Nat → Option JT := fun r => none
def jj14 : Nat → Option JT := fun r => none
def X14 (h : Hp) (K : V → Hp → Prop) (o : Nat) (to : Int) : Prop :=
  ∃ (n1 : Int),
  h.ld o (3 : Nat) = some (V.int IntKind.i64 n1) ∧
    bif n1 == (0 : Int) then K (V.int IntKind.i64 (1 : Int)) h
    else
      XCalls Try.prog (40 : Nat) [V.ptr (some (o, (0 : Nat))), V.int IntKind.u32 to] h fun (v1 : V) (h'1 : Hp) =>
        ∃ (n2 : Int),
          ∃ (b1 : Bool),
            v1 = V.tup [V.int IntKind.i64 n2, V.bool b1] ∧
              bif !b1 then K (V.int IntKind.i64 (2 : Int)) h'1
              else
                ∃ (n3 : Int),
                  h'1.ld o (2 : Nat) = some (V.int IntKind.i64 n3) ∧
                    ∃ (h'2 : Hp), h'1.st o (2 : Nat) [V.int IntKind.i64 (bif ltI n3 n2 then n2 else n3)] = some h'2 ∧ K (V.int IntKind.i64 (0 : Int)) h'2
theorem x14 {h : Hp} {K : V → Hp → Prop} (o : Nat) (to : Int) (hx : X14 h K o to) : XCalls Try.prog 14 [V.ptr (some (o, (0 : Nat))), V.int IntKind.u32 to] h K :=
  XCalls.ofX tok fok mixed (JL := jl14) (JJ := jj14) Try.func14 (cast (by kernel_rfl) hx)
/-! 16: (*stevedore/flow.Out).Ack -/
def jl16 : Nat → Option JT := fun r => none
def jj16 : Nat → Option JT := fun r => none
def X16 (h : Hp) (K : V → Hp → Prop) (o : Nat) (to : Int) : Prop :=
  XCalls Try.prog (40 : Nat) [V.ptr (some (o, (0 : Nat))), V.int IntKind.u32 to] h fun (v1 : V) (h'1 : Hp) =>
  ∃ (n1 : Int),
    ∃ (b1 : Bool),
      v1 = V.tup [V.int IntKind.i64 n1, V.bool b1] ∧
        bif !b1 then K (V.tup [V.int IntKind.i64 (0 : Int), V.bool false]) h'1
        else
          bif n1 == (0 : Int) then K (V.tup [V.int IntKind.i64 (0 : Int), V.bool false]) h'1
          else
            ∃ (n2 : Int),
              h'1.ld o (2 : Nat) = some (V.int IntKind.i64 n2) ∧
                bif ltI n2 n1 then K (V.tup [V.int IntKind.i64 (0 : Int), V.bool false]) h'1
                else
                  ∃ (a1 : Option (Nat × Nat)),
                    ∃ (n3 : Nat),
                      ∃ (f1 : Bool),
                        h'1.ld o (1 : Nat) = some (V.slc a1 n3 f1) ∧
                          ∃ (a2 : Option (Nat × Nat)),
                            ∃ (n4 : Nat),
                              ∃ (f2 : Bool),
                                xslice T h'1 (68 : Nat) (V.slc a1 n3 f1) (some (V.int IntKind.i64 n1)) none none = some (V.slc a2 n4 f2) ∧
                                  XCalls Try.prog (42 : Nat) [V.slc a2 n4 f2] h'1 fun (v2 : V) (h'2 : Hp) =>
                                    ∃ (a3 : Option (Nat × Nat)),
                                      ∃ (n5 : Nat),
                                        ∃ (f3 : Bool),
                                          v2 = V.slc a3 n5 f3 ∧
                                            ∃ (h'3 : Hp),
                                              h'2.st o (1 : Nat) [V.slc a3 n5 f3] = some h'3 ∧
                                                ∃ (n6 : Int),
                                                  h'3.ld o (2 : Nat) = some (V.int IntKind.i64 n6) ∧
                                                    ∃ (h'4 : Hp),
                                                      h'3.st o (0 : Nat) [V.int IntKind.u32 to] = some h'4 ∧
                                                        ∃ (h'5 : Hp), h'4.st o (2 : Nat) [V.int IntKind.i64 (IntKind.i64.wrap (n6 - n1))] = some h'5 ∧ K (V.tup [V.int IntKind.i64 n1, V.bool true]) h'5
theorem x16 {h : Hp} {K : V → Hp → Prop} (o : Nat) (to : Int) (hx : X16 h K o to) : XCalls Try.prog 16 [V.ptr (some (o, (0 : Nat))), V.int IntKind.u32 to] h K :=
  XCalls.ofX tok fok mixed (JL := jl16) (JJ := jj16) Try.func16 (cast (by kernel_rfl) hx)
/-! 18: (*stevedore/flow.Out).Una -/
def jl18 : Nat → Option JT := fun r => none
def jj18 : Nat → Option JT := fun r => none
def X18 (h : Hp) (K : V → Hp → Prop) (o : Nat) : Prop :=
  ∃ (n1 : Int), h.ld o (0 : Nat) = some (V.int IntKind.u32 n1) ∧ K (V.int IntKind.u32 n1) h
theorem x18 {h : Hp} {K : V → Hp → Prop} (o : Nat) (hx : X18 h K o) : XCalls Try.prog 18 [V.ptr (some (o, (0 : Nat)))] h K :=
  XCalls.ofX tok fok mixed (JL := jl18) (JJ := jj18) Try.func18 (cast (by kernel_rfl) hx)
/-! 19: (*stevedore/flow.Out).Nxt -/
def jl19 : Nat → Option JT := fun r => none
def jj19 : Nat → Option JT := fun r => none
def X19 (h : Hp) (K : V → Hp → Prop) (o : Nat) : Prop :=
  ∃ (n1 : Int), h.ld o (0 : Nat) = some (V.int IntKind.u32 n1) ∧ ∃ (n2 : Int), h.ld o (2 : Nat) = some (V.int IntKind.i64 n2) ∧ K (V.int IntKind.u32 (IntKind.u32.wrap (n1 + IntKind.u32.wrap n2))) h
theorem x19 {h : Hp} {K : V → Hp → Prop} (o : Nat) (hx : X19 h K o) : XCalls Try.prog 19 [V.ptr (some (o, (0 : Nat)))] h K :=
  XCalls.ofX tok fok mixed (JL := jl19) (JJ := jj19) Try.func19 (cast (by kernel_rfl) hx)
/-! 20: (*stevedore/flow.Out).End -/
def jl20 : Nat → Option JT := fun r => none
def jj20 : Nat → Option JT := fun r => none
def X20 (h : Hp) (K : V → Hp → Prop) (o : Nat) : Prop :=
  ∃ (n1 : Int),
  h.ld o (0 : Nat) = some (V.int IntKind.u32 n1) ∧
    ∃ (a1 : Option (Nat × Nat)), ∃ (n2 : Nat), ∃ (f1 : Bool), h.ld o (1 : Nat) = some (V.slc a1 n2 f1) ∧ K (V.int IntKind.u32 (IntKind.u32.wrap (n1 + IntKind.u32.wrap (↑n2 : Int)))) h
theorem x20 {h : Hp} {K : V → Hp → Prop} (o : Nat) (hx : X20 h K o) : XCalls Try.prog 20 [V.ptr (some (o, (0 : Nat)))] h K :=
  XCalls.ofX tok fok mixed (JL := jl20) (JJ := jj20) Try.func20 (cast (by kernel_rfl) hx)
/-! 21: (*stevedore/flow.Out).Room -/
def jl21 : Nat → Option JT := fun r => none
def jj21 : Nat → Option JT := fun r => none
def X21 (h : Hp) (K : V → Hp → Prop) (o : Nat) : Prop :=
  ∃ (n1 : Int),
  h.ld o (3 : Nat) = some (V.int IntKind.i64 n1) ∧
    ∃ (a1 : Option (Nat × Nat)), ∃ (n2 : Nat), ∃ (f1 : Bool), h.ld o (1 : Nat) = some (V.slc a1 n2 f1) ∧ K (V.int IntKind.i64 (IntKind.i64.wrap (n1 - (↑n2 : Int)))) h
theorem x21 {h : Hp} {K : V → Hp → Prop} (o : Nat) (hx : X21 h K o) : XCalls Try.prog 21 [V.ptr (some (o, (0 : Nat)))] h K :=
  XCalls.ofX tok fok mixed (JL := jl21) (JJ := jj21) Try.func21 (cast (by kernel_rfl) hx)
/-! 22: (*stevedore/flow.Out).Get -/
def jl22 : Nat → Option JT := fun r => none
def jj22 : Nat → Option JT := fun r => none
def X22 (h : Hp) (K : V → Hp → Prop) (o : Nat) (a1 : Int) (n : Int) : Prop :=
  XCalls Try.prog (40 : Nat) [V.ptr (some (o, (0 : Nat))), V.int IntKind.u32 a1] h fun (v1 : V) (h'1 : Hp) =>
  ∃ (n1 : Int),
    ∃ (b1 : Bool),
      v1 = V.tup [V.int IntKind.i64 n1, V.bool b1] ∧
        bif !b1 then K (V.str []) h'1
        else
          bif !ltI (0 : Int) n then K (V.str []) h'1
          else
            ∃ (a1 : Option (Nat × Nat)),
              ∃ (n2 : Nat),
                ∃ (f1 : Bool),
                  h'1.ld o (1 : Nat) = some (V.slc a1 n2 f1) ∧
                    ∃ (a2 : Option (Nat × Nat)),
                      ∃ (n3 : Nat),
                        ∃ (f2 : Bool),
                          h'1.ld o (1 : Nat) = some (V.slc a2 n3 f2) ∧
                            ∃ (a3 : Option (Nat × Nat)),
                              ∃ (n4 : Nat),
                                ∃ (f3 : Bool),
                                  xslice T h'1 (68 : Nat) (V.slc a1 n2 f1) (some (V.int IntKind.i64 n1))
                                        (some
                                          (V.int IntKind.i64
                                            (bif ltI (IntKind.i64.wrap (n1 + bif ltI (16384 : Int) n then (16384 : Int) else n)) (↑n3 : Int) then
                                              IntKind.i64.wrap (n1 + bif ltI (16384 : Int) n then (16384 : Int) else n)
                                            else (↑n3 : Int))))
                                        none =
                                      some (V.slc a3 n4 f3) ∧
                                    ∃ (s1 : List UInt8), xconv T h'1 (68 : Nat) (9 : Nat) (V.slc a3 n4 f3) = some (V.str s1) ∧ K (V.str s1) h'1
theorem x22 {h : Hp} {K : V → Hp → Prop} (o : Nat) (a1 : Int) (n : Int) (hx : X22 h K o a1 n) : XCalls Try.prog 22 [V.ptr (some (o, (0 : Nat))), V.int IntKind.u32 a1, V.int IntKind.i64 n] h K :=
  XCalls.ofX tok fok mixed (JL := jl22) (JJ := jj22) Try.func22 (cast (by kernel_rfl) hx)
/-! 40: (*stevedore/flow.Out).place -/
def jl40 : Nat → Option JT := fun r => none
def jj40 : Nat → Option JT := fun r => none
def X40 (h : Hp) (K : V → Hp → Prop) (o : Nat) (a1 : Int) : Prop :=
  ∃ (n1 : Int),
  h.ld o (3 : Nat) = some (V.int IntKind.i64 n1) ∧
    bif n1 == (0 : Int) then K (V.tup [V.int IntKind.i64 (0 : Int), V.bool false]) h
    else
      ∃ (n2 : Int),
        h.ld o (0 : Nat) = some (V.int IntKind.u32 n2) ∧
          ∃ (a1_1 : Option (Nat × Nat)),
            ∃ (n3 : Nat),
              ∃ (f1 : Bool),
                h.ld o (1 : Nat) = some (V.slc a1_1 n3 f1) ∧
                  bif ltI (IntKind.u64.wrap (↑n3 : Int)) (IntKind.u64.wrap (IntKind.u32.wrap (a1 - n2))) then K (V.tup [V.int IntKind.i64 (0 : Int), V.bool false]) h
                  else ∃ (n4 : Int), h.ld o (0 : Nat) = some (V.int IntKind.u32 n4) ∧ K (V.tup [V.int IntKind.i64 (IntKind.i64.wrap (IntKind.u32.wrap (a1 - n4))), V.bool true]) h
theorem x40 {h : Hp} {K : V → Hp → Prop} (o : Nat) (a1 : Int) (hx : X40 h K o a1) : XCalls Try.prog 40 [V.ptr (some (o, (0 : Nat))), V.int IntKind.u32 a1] h K :=
  XCalls.ofX tok fok mixed (JL := jl40) (JJ := jj40) Try.func40 (cast (by kernel_rfl) hx)
/-! 42: slices.Clone[[]byte,byte] -/
def jl42 : Nat → Option JT := fun r => none
def jj42 : Nat → Option JT := fun r => none
def X42 (h : Hp) (K : V → Hp → Prop) (s : Option (Nat × Nat)) (s_n : Nat) (s_f : Bool) : Prop :=
  bif s.isNone then K (V.slc none (0 : Nat) true) h
else
  ∀ (h'1 : Hp),
    h'1 = h.alloc (O.row [] (1 : Nat) false) →
      ∃ (p1 : Option (Nat × Nat)),
        ∃ (n1 : Nat),
          ∃ (f1 : Bool), ∃ (h'2 : Hp), xapp T h'1 (68 : Nat) (68 : Nat) (V.slc (some (h.next, (0 : Nat))) (0 : Nat) true) (V.slc s s_n s_f) = some (V.slc p1 n1 f1, h'2) ∧ K (V.slc p1 n1 f1) h'2
theorem x42 {h : Hp} {K : V → Hp → Prop} (s : Option (Nat × Nat)) (s_n : Nat) (s_f : Bool) (hx : X42 h K s s_n s_f) : XCalls Try.prog 42 [V.slc s s_n s_f] h K :=
  XCalls.ofX tok fok mixed (JL := jl42) (JJ := jj42) Try.func42 (cast (by kernel_rfl) hx)
end Go.Vex
