/-
  VEX, part HH: the evaluator, with calls that hold no reference run aside: from the empty heap, so that they leave nothing behind.
-/
import Derived.Test.YtkfnokgfgcfldaaGreatVexEE
set_option linter.unusedVariables false
namespace Go.Vex

def Rn.asideC (S : FuncId → Bool) (E : Rn) (f : FuncId) (vs : List V) (h : Hp) : Option (V × Hp) :=
  bif S f && V.noRefs vs then (match E.call f vs h0 with
    | some r => bif r.1.noRef then some (r.1, h) else E.call f vs h
    | none => E.call f vs h) else E.call f vs h

def Rn.aside (S : FuncId → Bool) (E : Rn) : Rn := { E with call := Rn.asideC S E }

def rnP (T : TT) (F : FTab) (S : FuncId → Bool) : Nat → Rn
  | 0 => .bot
  | n + 1 => ((rnP T F S n).next T F).aside S

def Ev.asideC (S : FuncId → Bool) (R : Rn) (E : Ev) (f : FuncId) (vs : List V) (h : Hp) (k : V → Hp → Bool) : Bool :=
  bif S f && V.noRefs vs then (match R.call f vs h0 with
    | some r => bif r.1.noRef then E.call f vs h0 (fun u _ => sameV u r.1) && k r.1 h else E.call f vs h k
    | none => E.call f vs h k) else E.call f vs h k

def Ev.aside (S : FuncId → Bool) (R : Rn) (E : Ev) : Ev := { E with call := Ev.asideC S R E }

def evP (T : TT) (F : FTab) (sp : FuncId → List Nat) (S : FuncId → Bool) : Nat → Ev
  | 0 => .bot
  | n + 1 => ((evP T F sp S n).next T F sp (rnP T F S n)).aside S (rnP T F S (n + 1))

section
variable {P : Program} {T : TT} {F : FTab} {sp : FuncId → List Nat} {S : FuncId → Bool}

theorem aside_good {n : Nat} {E : Ev} (hE : EGood P n E) (R : Rn) : EGood P n (E.aside S R) := by
  refine ⟨hE.code, hE.loop, hE.scope, fun f vs h k hx => ?_⟩
  simp only [Ev.aside, Ev.asideC] at hx
  cases hs : S f && V.noRefs vs with
  | false => rw [hs] at hx; exact hE.call _ _ _ _ hx
  | true =>
    rw [hs] at hx
    simp only [cond_true] at hx
    split at hx
    · rename_i r hr
      cases hn : r.1.noRef with
      | false => rw [hn] at hx; exact hE.call _ _ _ _ hx
      | true =>
        rw [hn] at hx
        simp only [cond_true, Bool.and_eq_true] at hx hs
        have h1 : XCalls P f vs h0 fun u _ => u = r.1 := (hE.call _ _ _ _ hx.1).mono fun u h' hu => sameV_eq hu
        refine (XCalls.aside hs.2 (fun v hv => by rw [hv]; exact hn) h1).mono fun v h' hv => ?_
        obtain ⟨rfl, rfl⟩ := hv
        exact hx.2
    · exact hE.call _ _ _ _ hx

theorem evP_good (hT : TTok P T) (hF : FOK P F) (hm : P.follows .mixedOrders = true) : ∀ n, EGood P n (evP T F sp S n)
  | 0 => ⟨fun _ _ _ _ _ _ h => (nomatch h), fun _ _ _ _ _ _ h => (nomatch h), fun _ _ _ _ _ _ _ h => (nomatch h), fun _ _ _ _ h => (nomatch h)⟩
  | n + 1 => aside_good (next_good hT hF hm (evP_good hT hF hm n) _) _

theorem XCalls.evP (hT : TTok P T) (hF : FOK P F) (hm : P.follows .mixedOrders = true) (sp : FuncId → List Nat) (S : FuncId → Bool) (n : Nat) {f : FuncId} {vs : List V} {h : Hp} {k : V → Hp → Bool} {K : V → Hp → Prop}
    (hx : (Vex.evP T F sp S n).call f vs h k = true) (hk : ∀ v h, k v h = true → K v h) : XCalls P f vs h K := ((evP_good hT hF hm n).call _ _ _ _ hx).mono hk
end
end Go.Vex
