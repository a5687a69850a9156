/-
  VEX, part S: the walk by rewriting: code without loops comes apart into what is asked of its calls, its loops and its end.
-/
import Derived.Test.YtkfnokgfgcfldaaGreatVexR
set_option linter.unusedSimpArgs false
set_option linter.unusedVariables false
namespace Go.Vex
open Go.RowKit (Below)

/-- the operations of a region, in the text's order -/
def opsS (P : Program) (T : TT) (ro : Option Nat) (ops : Array Oper) : List Oper → St → Hp → (St → Hp → Prop) → Prop
  | [], s, h, K => K s h
  | o :: r, s, h, K =>
    match wantB ops o s with
    | some true => match xq T h s.ev o.op with
      | some v => opsS P T ro ops r (s.put o.dst v) h K
      | none => match xe T h s.ev o.op with
        | some [(v, h')] => opsS P T ro ops r (s.put o.dst v) h' K
        | _ => XOp P ro o s.ev h fun v h' => opsS P T ro ops r (s.put o.dst v) h' K
    | some false => opsS P T ro ops r (s.put o.dst (.tup [])) h K
    | none => False

def evS (P : Program) (T : TT) (ro : Option Nat) : Code → St → Hp → XK → Prop
  | .skip, s, h, K => K .normal s h
  | .label _, s, h, K => K .normal s h
  | .exit i, s, h, K => K (.exit i) s h
  | .goto l, s, h, K => K (.goto l) s h
  | .ret, s, h, K => K .ret s h
  | .seq x y, s, h, K => evS P T ro x s h (thenK (fun s h => evS P T ro y s h K) K)
  | .cond c x y, s, h, K => match s.ev c with
    | some (.bool b) => (b = true → evS P T ro x s h K) ∧ (b = false → evS P T ro y s h K)
    | _ => False
  | .block id c, s, h, K => evS P T ro c s h (blockK id K)
  | .region id ops false, s, h, K => opsS P T ro ops ops.toList s h (fun s h => K .normal s h)
  | .region id ops true, s, h, K => XWp P ro (.region id ops true) K s h
  | .loop c, s, h, K => XWp P ro (.loop c) K s h
  | .scope c, s, h, K => XWp P ro (.scope c) K s h
  | .rangeFunc g ps as bd, s, h, K => XWp P ro (.rangeFunc g ps as bd) K s h
  | .refuse y, s, h, K => False

section
variable {P : Program} {T : TT} {ro : Option Nat}

open Classical in
/-- any operation, as a question -/
noncomputable def Eff.ask (P : Program) (ro : Option Nat) : Eff := fun o s h k => decide (XOp P ro o s.ev h fun v h' => k v h' = true)

theorem Eff.ask_sound : ESound P ro (Eff.ask P ro) := fun o s h k hx => by simpa [Eff.ask] using hx

open Classical in
theorem opsS_sound (hT : TTok P T) {ops : Array Oper} {K : St → Hp → Prop} : ∀ (l : List Oper) (s : St) (h : Hp), opsS P T ro ops l s h K → seqR T (Eff.ask P ro) [] ops l s h (fun s h => decide (K s h)) = true
  | [], s, h, hx => by simpa [seqR, opsS] using hx
  | o :: r, s, h, hx => by
    have ih := opsS_sound hT (ops := ops) (K := K) r
    simp only [opsS] at hx
    simp only [seqR]
    split at hx
    · rename_i hw
      rw [hw]
      simp only
      split at hx
      · rename_i v hv
        rw [hv]
        exact ih _ _ hx
      · rename_i hv
        rw [hv]
        simp only [Eff.ask, decide_eq_true_eq]
        split at hx
        · rename_i v h' he
          exact XOp.effect hT he fun r hr => by
            rw [List.mem_singleton] at hr
            subst hr
            exact ih _ _ hx
        · exact hx.mono fun v h' hh => ih _ _ hh
    · rename_i hw
      rw [hw]
      exact ih _ _ hx
    · cases hx

theorem XWp.ofS (hT : TTok P T) : ∀ (c : Code) {s : St} {h : Hp} {K : XK}, evS P T ro c s h K → XWp P ro c K s h
  | .skip, _, _, _, hx => XWp.skip hx
  | .label _, _, _, _, hx => XWp.label hx
  | .exit _, _, _, _, hx => XWp.exit hx
  | .goto _, _, _, _, hx => XWp.goto hx
  | .ret, _, _, _, hx => XWp.ret hx
  | .seq x y, _, _, _, hx => XWp.seq ((XWp.ofS hT x hx).mono (thenK_mono fun _ _ hh => XWp.ofS hT y hh))
  | .cond c x y, s, h, K, hx => by
    simp only [evS] at hx
    split at hx
    · rename_i b hb
      refine XWp.cond hb ?_
      cases b with
      | true => exact XWp.ofS hT x (hx.1 rfl)
      | false => exact XWp.ofS hT y (hx.2 rfl)
    · cases hx
  | .block id c, _, _, _, hx => XWp.block (XWp.ofS hT c hx)
  | .region id ops false, s, h, K, hx => XWp.region hT Eff.ask_sound (opsS_sound hT _ _ _ hx) fun s h hh => by simpa using hh
  | .region id ops true, _, _, _, hx => hx
  | .loop _, _, _, _, hx => hx
  | .scope _, _, _, _, hx => hx
  | .rangeFunc _ _ _ _, _, _, _, hx => hx
  | .refuse _, _, _, _, hx => hx.elim

/-- a function's body -/
theorem XCalls.ofS (hT : TTok P T) {f : FuncId} {fn : Func} {c : Code} {vs : List V} {h : Hp} {K : V → Hp → Prop} (hf : P.funcs[f]? = some fn) (hb : fn.body = some c)
    (hc : evS P T none c (St.enter vs fn.ntmps) h (retK T fn K)) : XCalls P f vs h K := XCalls.body hT hf hb (XWp.ofS hT c hc)

/-- by the evaluator -/
theorem XCalls.ev {F : FTab} (hT : TTok P T) (hF : FOK P F) (hm : P.follows .mixedOrders = true) (sp : FuncId → List Nat) (n : Nat) {f : FuncId} {vs : List V} {h : Hp} {k : V → Hp → Bool} {K : V → Hp → Prop}
    (hx : (ev T F sp n).call f vs h k = true) (hk : ∀ v h, k v h = true → K v h) : XCalls P f vs h K := ((ev_good hT hF hm n).call _ _ _ _ hx).mono hk
end

/-! ### the evaluator with answers that are known by other means -/

def Ev.know (A : FuncId → List V → Option V) (E : Ev) : Ev := { E with call := fun f vs h k => match A f vs with | some v => k v h | none => E.call f vs h k }

def evA (T : TT) (F : FTab) (sp : FuncId → List Nat) (A : FuncId → List V → Option V) : Nat → Ev
  | 0 => .bot
  | n + 1 => ((evA T F sp A n).next T F sp (rn T F n)).know A

theorem evA_good {P : Program} {T : TT} {F : FTab} {sp : FuncId → List Nat} {A : FuncId → List V → Option V} (hT : TTok P T) (hF : FOK P F) (hm : P.follows .mixedOrders = true) (hA : ∀ f vs v h, A f vs = some v → XCalls P f vs h fun u h' => u = v ∧ h' = h) : ∀ n, EGood P n (evA T F sp A n)
  | 0 => ⟨fun _ _ _ _ _ _ h => (nomatch h), fun _ _ _ _ _ _ h => (nomatch h), fun _ _ _ _ _ _ _ h => (nomatch h), fun _ _ _ _ h => (nomatch h)⟩
  | n + 1 => by
    obtain ⟨g1, g2, g3, g4⟩ := next_good (sp := sp) hT hF hm (evA_good (sp := sp) hT hF hm hA n) (rn T F n)
    refine ⟨g1, g2, g3, fun f vs h k hx => ?_⟩
    simp only [evA, Ev.know] at hx
    split at hx
    · rename_i v hv
      refine (hA f vs v h hv).mono ?_
      rintro _ _ ⟨rfl, rfl⟩
      exact hx
    · exact g4 _ _ _ _ hx

theorem XCalls.evA {P : Program} {T : TT} {F : FTab} {A : FuncId → List V → Option V} (hT : TTok P T) (hF : FOK P F) (hm : P.follows .mixedOrders = true) (hA : ∀ f vs v h, A f vs = some v → XCalls P f vs h fun u h' => u = v ∧ h' = h) (sp : FuncId → List Nat) (n : Nat) {f : FuncId} {vs : List V} {h : Hp} {k : V → Hp → Bool} {K : V → Hp → Prop}
    (hx : (Vex.evA T F sp A n).call f vs h k = true) (hk : ∀ v h, k v h = true → K v h) : XCalls P f vs h K := ((evA_good hT hF hm hA n).call _ _ _ _ hx).mono hk

/-! ### tables -/

def sameTD : TD → TD → Bool
  | .bool, .bool => true
  | .int j, .int k => decide (j = k)
  | .str, .str => true
  | .ptr a, .ptr b => Nat.beq a b
  | .slc a, .slc b => Nat.beq a b
  | .arr m a, .arr n b => Nat.beq m n && Nat.beq a b
  | .map a b, .map c d => Nat.beq a c && Nat.beq b d
  | .struct f, .struct g => decide (f = g)
  | .func, .func => true
  | .ifc, .ifc => true
  | .cplx j, .cplx k => decide (j = k)
  | .flt j, .flt k => decide (j = k)
  | .other, .other => true
  | _, _ => false

theorem sameTD_eq {a b : TD} (h : sameTD a b = true) : a = b := by
  cases a <;> cases b <;> simp only [sameTD, Bool.and_eq_true, decide_eq_true_eq, nbeq, Bool.false_eq_true] at h <;> first | (exact h.elim; done) | rfl | (simp_all; done)

def sameTI (a b : TI) : Bool := sameTD a.d b.d && Nat.beq a.size b.size && Nat.beq a.bytes b.bytes && (match a.zero, b.zero with | some x, some y => sameV x y | none, none => true | _, _ => false) && (!b.eqs || a.eqs)

theorem sameTI_eq {a b : TI} (h : sameTI a b = true) : a.d = b.d ∧ a.size = b.size ∧ a.bytes = b.bytes ∧ a.zero = b.zero ∧ (b.eqs = true → a.eqs = true) := by
  obtain ⟨a1, a2, a3, a4, a5⟩ := a
  obtain ⟨b1, b2, b3, b4, b5⟩ := b
  simp only [sameTI, Bool.and_eq_true, nbeq, Bool.or_eq_true, Bool.not_eq_true'] at h
  obtain ⟨⟨⟨⟨h1, h2⟩, h3⟩, h4⟩, h5⟩ := h
  refine ⟨sameTD_eq h1, h2, h3, ?_, fun e => ?_⟩
  · cases a4 <;> cases b4 <;> simp only [Bool.false_eq_true] at h4 <;> first | rfl | (simp only; rw [sameV_eq h4])
  · simp only at e
    rcases h5 with h5 | h5
    · rw [h5] at e; cases e
    · exact h5

def ttab (n : Nat) (t : Tr TI) : TT := fun i => bif Nat.blt i n then t.get i else none

def tcheck (P : Program) (t : Tr TI) : Nat → Bool
  | 0 => true
  | n + 1 => (match t.get n with | some ti => (match TI.of P n with | some tj => sameTI tj ti | none => false) | none => true) && tcheck P t n

theorem tcheck_get {P : Program} {t : Tr TI} : ∀ {n : Nat}, tcheck P t n = true → ∀ i, i < n → ∀ ti, t.get i = some ti → ∃ tj, TI.of P i = some tj ∧ sameTI tj ti = true
  | 0, _, i, hi, _, _ => absurd hi (Nat.not_lt_zero _)
  | n + 1, h, i, hi, ti, ht => by
    simp only [tcheck, Bool.and_eq_true] at h
    rcases Nat.lt_succ_iff_lt_or_eq.1 hi with hi | rfl
    · exact tcheck_get h.2 i hi ti ht
    · have := h.1
      rw [ht] at this
      simp only at this
      split at this
      · rename_i tj hj; exact ⟨tj, hj, this⟩
      · cases this

theorem TTok.ofTree {P : Program} {t : Tr TI} {n : Nat} (h : tcheck P t n = true) : TTok P (ttab n t) := by
  refine ⟨fun i ti hi => ?_⟩
  unfold ttab at hi
  rw [blt_eq] at hi
  by_cases hn : i < n
  · rw [decide_eq_true hn] at hi
    obtain ⟨tj, h1, h2⟩ := tcheck_get h i hn ti hi
    obtain ⟨x, d, g1, g2, g3, g4, g5, g6, g7⟩ := (TTok.of P (TI.of P) fun _ _ h => h).ok i tj h1
    obtain ⟨e1, e2, e3, e4, e5⟩ := sameTI_eq h2
    exact ⟨x, d, g1, g2, g3.trans e1, g4.trans e2, g5.trans e3, fun z hz => g6 z (e4.trans hz), fun e => g7 (e5 e)⟩
  · rw [decide_eq_false hn] at hi
    cases hi

def flook : List (Nat × Func) → FTab
  | [], _ => none
  | (g, fn) :: r, x => bif Nat.beq g x then some fn else flook r x

theorem FOK.nil {P : Program} : FOK P (flook []) := fun _ _ h => by cases h
theorem FOK.cons {P : Program} {g : Nat} {fn : Func} {r : List (Nat × Func)} (h1 : P.funcs[g]? = some fn) (h2 : (fn.name == "runtime.NumGoroutine") = false) (h3 : fn.body.isSome = true) (hr : FOK P (flook r)) : FOK P (flook ((g, fn) :: r)) := by
  intro x fx h
  simp only [flook] at h
  cases hb : Nat.beq g x with
  | true => rw [hb] at h; cases h; rw [← Nat.eq_of_beq_eq_true hb]; exact ⟨h1, h2, h3⟩
  | false => rw [hb] at h; exact hr x fx h
end Go.Vex
