/-
  VEX, part II: a long closed run in pieces: calls whose effect on a heap is known by a theorem of its own; what is no longer reached is forgotten.
-/
import Derived.Test.YtkfnokgfgcfldaaGreatVexHH
set_option linter.unusedVariables false
namespace Go.Vex

/-- a heap out of its objects -/
def mkHp (n : Nat) : List (Nat × O) → Hp
  | [] => ⟨.nil, n⟩
  | (i, o) :: r => (mkHp n r).set i o

theorem mkHp_next (n : Nat) : ∀ l, (mkHp n l).next = n
  | [] => rfl
  | (i, o) :: r => mkHp_next n r

/-- do these stand there? -/
def stand (h : Hp) : List (Nat × O) → Bool
  | [] => true
  | (i, o) :: r => (match h.get i with | some o' => sameO o' o | none => false) && stand h r

theorem stand_sub {h : Hp} {n : Nat} : ∀ {l : List (Nat × O)}, stand h l = true → ∀ j o, (mkHp n l).get j = some o → h.get j = some o
  | [], _, j, o, hj => by simp [mkHp, Hp.get, Tr.get] at hj
  | (i, x) :: r, hs, j, o, hj => by
    simp only [stand, Bool.and_eq_true] at hs
    simp only [mkHp] at hj
    rw [Hp.get_set] at hj
    split at hj
    · rename_i e
      subst e
      cases hj
      have := hs.1
      split at this
      · rename_i o' ho; rw [ho, sameO_eq _ _ this]
      · cases this
    · exact stand_sub hs.2 j o hj

section
variable {P : Program} {T : TT} {F : FTab} {sp : FuncId → List Nat}

/-- WHAT IS FORGOTTEN: of the heap behind a call only these objects are kept. -/
theorem XCalls.forget {f : FuncId} {vs : List V} {h : Hp} {v : V} {n : Nat} {l : List (Nat × O)} (hx : XCalls P f vs h fun u g => u = v ∧ g.next = n ∧ stand g l = true) :
    XCalls P f vs h fun u g => u = v ∧ g = mkHp n l := by
  intro B ρ w args hs ha
  refine (hx B ρ w args hs ha).mono fun e w' hp => ?_
  obtain ⟨z, he, u, ρ', h', h1, h2, h3, h4, h5, rfl, rfl, h6⟩ := hp
  have sub := stand_sub (n := h'.next) h6
  refine ⟨z, he, u, ρ', mkHp h'.next l, by rw [mkHp_next]; exact h1, h2, ⟨fun i o hi => ?_, fun i j o p hi hj => h3.sep i j o p (sub i o hi) (sub j p hj), h3.base⟩, by rw [mkHp_next]; exact h4, h5, rfl, rfl⟩
  rw [mkHp_next]
  exact h3.obj i o (sub i o hi)

def endAs (v : V) (n : Nat) (l : List (Nat × O)) : V → Hp → Bool := fun u g => sameV u v && (Nat.beq g.next n && stand g l)

theorem endAs_spec {v : V} {n : Nat} {l : List (Nat × O)} {u : V} {g : Hp} (h : endAs v n l u g = true) : u = v ∧ g.next = n ∧ stand g l = true := by
  simp only [endAs, Bool.and_eq_true, nbeq] at h
  exact ⟨sameV_eq h.1, h.2⟩

abbrev Known := FuncId → List V → Hp → Option (V × Hp)

def Ev.seenC (A : Known) (E : Ev) (f : FuncId) (vs : List V) (h : Hp) (k : V → Hp → Bool) : Bool :=
  match A f vs h with
  | some r => k r.1 r.2
  | none => E.call f vs h k

def Ev.seen (A : Known) (E : Ev) : Ev := { E with call := Ev.seenC A E }

def evK (T : TT) (F : FTab) (sp : FuncId → List Nat) (S : FuncId → Bool) (A : Known) : Nat → Ev
  | 0 => .bot
  | n + 1 => (((evK T F sp S A n).next T F sp (rnP T F S n)).aside S (rnP T F S (n + 1))).seen A

theorem seen_good {n : Nat} {E : Ev} {A : Known} (hE : EGood P n E) (hA : ∀ f vs h r, A f vs h = some r → XCalls P f vs h fun u g => u = r.1 ∧ g = r.2) : EGood P n (E.seen A) := by
  refine ⟨hE.code, hE.loop, hE.scope, fun f vs h k hx => ?_⟩
  simp only [Ev.seen, Ev.seenC] at hx
  split at hx
  · rename_i r hr
    refine (hA f vs h r hr).mono ?_
    rintro _ _ ⟨rfl, rfl⟩
    exact hx
  · exact hE.call _ _ _ _ hx

theorem evK_good (hT : TTok P T) (hF : FOK P F) (hm : P.follows .mixedOrders = true) {S : FuncId → Bool} {A : Known} (hA : ∀ f vs h r, A f vs h = some r → XCalls P f vs h fun u g => u = r.1 ∧ g = r.2) : ∀ n, EGood P n (evK T F sp S A n)
  | 0 => ⟨fun _ _ _ _ _ _ h => (nomatch h), fun _ _ _ _ _ _ h => (nomatch h), fun _ _ _ _ _ _ _ h => (nomatch h), fun _ _ _ _ h => (nomatch h)⟩
  | n + 1 => seen_good (aside_good (next_good hT hF hm (evK_good hT hF hm hA n) _) _) hA

theorem XCalls.evK (hT : TTok P T) (hF : FOK P F) (hm : P.follows .mixedOrders = true) (sp : FuncId → List Nat) (S : FuncId → Bool) {A : Known} (hA : ∀ f vs h r, A f vs h = some r → XCalls P f vs h fun u g => u = r.1 ∧ g = r.2) (n : Nat) {f : FuncId} {vs : List V} {h : Hp} {k : V → Hp → Bool} {K : V → Hp → Prop}
    (hx : (Vex.evK T F sp S A n).call f vs h k = true) (hk : ∀ v h, k v h = true → K v h) : XCalls P f vs h K := ((evK_good hT hF hm hA n).call _ _ _ _ hx).mono hk

/-- one piece: what a call does to a heap -/
structure Piece where
  f : FuncId
  vs : List V
  n : Nat
  l : List (Nat × O)
  v : V
  n' : Nat
  l' : List (Nat × O)

def Piece.ok (P : Program) (p : Piece) : Prop := XCalls P p.f p.vs (mkHp p.n p.l) fun u g => u = p.v ∧ g = mkHp p.n' p.l'

/-- the pieces, looked for by the heap's size -/
def pick : List Piece → Known
  | [], _, _, _ => none
  | p :: r, f, vs, h => bif Nat.beq p.n h.next && (Nat.beq p.f f && (sameVs p.vs vs && sameHp h (mkHp p.n p.l))) then some (p.v, mkHp p.n' p.l') else pick r f vs h

theorem pick_ok {ps : List Piece} (hp : ∀ p ∈ ps, p.ok P) : ∀ f vs h r, pick ps f vs h = some r → XCalls P f vs h fun u g => u = r.1 ∧ g = r.2 := by
  induction ps with
  | nil => intro f vs h r hr; cases hr
  | cons p ps ih =>
    intro f vs h r hr
    simp only [pick] at hr
    cases hc : (Nat.beq p.n h.next && (Nat.beq p.f f && (sameVs p.vs vs && sameHp h (mkHp p.n p.l)))) with
    | false => rw [hc] at hr; exact ih (fun q hq => hp q (List.mem_cons_of_mem _ hq)) f vs h r hr
    | true =>
      rw [hc] at hr
      cases hr
      simp only [Bool.and_eq_true, nbeq] at hc
      obtain ⟨_, rfl, e1, e2⟩ := hc
      rw [← sameVs_eq e1, sameHp_eq e2]
      exact hp p (List.mem_cons_self ..)

theorem Piece.of (hT : TTok P T) (hF : FOK P F) (hm : P.follows .mixedOrders = true) (S : FuncId → Bool) (p : Piece) (hx : (Vex.evP T F (fun _ => []) S 100000).call p.f p.vs (mkHp p.n p.l) (endAs p.v p.n' p.l') = true) : p.ok P :=
  XCalls.forget (XCalls.evP hT hF hm (fun _ => []) S 100000 hx fun _ _ h => endAs_spec h)
end
end Go.Vex
