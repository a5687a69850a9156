/-
  VEX, part R: the evaluator: it answers 'true' only where the walk ends as asked.
-/
import Derived.Test.YtkfnokgfgcfldaaGreatVexQ
set_option linter.unusedSimpArgs false
set_option linter.unusedVariables false
namespace Go.Vex
open Go.RowKit (Below)

structure Ev where
  code : List Nat → Option Nat → Code → St → Hp → (Exit → St → Hp → Bool) → Bool
  loop : List Nat → Option Nat → Code → St → Hp → (Exit → St → Hp → Bool) → Bool
  scope : List Nat → Option Nat → Code → Code → St → Hp → (Exit → St → Hp → Bool) → Bool
  call : FuncId → List V → Hp → (V → Hp → Bool) → Bool

def Ev.bot : Ev := ⟨fun _ _ _ _ _ _ => false, fun _ _ _ _ _ _ => false, fun _ _ _ _ _ _ _ => false, fun _ _ _ _ => false⟩

def endRoundB (l : Nat) (f : LoopState → Option Code → Option (LoopState × Option Code)) (b : Bool) (h : Hp) (k : V → Hp → Bool) : Bool :=
  match loopTo l f h with
  | some r => k (.bool b) r.2
  | none => false

def roundB (l : Nat) (k : V → Hp → Bool) : Exit → St → Hp → Bool
  | .normal, _, h => endRoundB l toReady true h k
  | .ret, _, h => endRoundB l (toDone .ret) false h k
  | .exit i, _, h => endRoundB l (toDone (.exit i)) false h k
  | .goto t, _, h => endRoundB l (toDone (.goto t)) false h k
  | _, _, _ => false

def beginB (E : Ev) (l : Nat) (bd : Code) (k : V → Hp → Bool) : Exit → St → Hp → Bool
  | .normal, s, h => match loopTo l toBusy h with
    | some r => E.code [] (some l) bd s r.2 (roundB l k)
    | none => false
  | _, _, _ => false

def Ev.round (E : Ev) (l : Nat) (vs : List V) (h : Hp) (k : V → Hp → Bool) : Bool :=
  match h.get l with
  | some (.loop _ _ tm sz ps as bd _) =>
    bif Nat.beq vs.length ps.length then E.code [] (some l) as ⟨fillParams ps vs tm sz, sz, []⟩ h (beginB E l bd k) else false
  | _ => false

def Ev.eff (T : TT) (F : FTab) (E : Ev) (ro : Option Nat) : Eff := fun o s h k =>
  match xe T h s.ev o.op with
  | some l => l.all fun r => k r.1 r.2
  | none => match o.op with
    | .call { callee := .value f, args, argTypes := _ } => match s.ev f, evs s.ev args.toList with
      | some (.fn (.func g) first cap), some vs => match F g with
        | some _ => E.call g (first ++ vs ++ cap) h k
        | none => false
      | some (.yld l), some vs => E.round l vs h k
      | _, _ => false
    | _ => false

def thenB (next : St → Hp → Bool) (k : Exit → St → Hp → Bool) : Exit → St → Hp → Bool
  | .normal, s, h => next s h
  | e, s, h => k e s h

def blockB (id : Nat) (k : Exit → St → Hp → Bool) : Exit → St → Hp → Bool
  | .exit i, s, h => bif Nat.beq i id then k .normal s h else k (.exit i) s h
  | e, s, h => k e s h

def scopeB (c : Code) (J : Code → St → Hp → Bool) (k : Exit → St → Hp → Bool) : Exit → St → Hp → Bool
  | .goto l, s, h => match findLabel c l with
    | some rest => J rest s h
    | none => k (.goto l) s h
  | e, s, h => k e s h

def overB (E : Ev) (S : List Nat) (ro : Option Nat) (l : Nat) (s : St) (k : Exit → St → Hp → Bool) : V → Hp → Bool := fun _ h =>
  match loopTo l toOver h with
  | some r => match r.1 with
    | none => k .normal s r.2
    | some c => E.code S ro c s r.2 k
  | none => false

def leaveB (T : TT) (fn : Func) (k : V → Hp → Bool) (s : St) (h : Hp) : Bool :=
  match shut s.dfs h with
  | some h' => match xresults T h' s fn.results.toList with
    | some v => k v h'
    | none => false
  | none => false

def retB (T : TT) (fn : Func) (k : V → Hp → Bool) : Exit → St → Hp → Bool
  | .normal, s, h => leaveB T fn k s h
  | .ret, s, h => leaveB T fn k s h
  | _, _, _ => false

/-! ### a guess: the run in the text's order, whatever it is worth -/

structure Rn where
  code : Code → St → Hp → Option (Exit × St × Hp)
  scope : Code → Code → St → Hp → Option (Exit × St × Hp)
  call : FuncId → List V → Hp → Option (V × Hp)

def Rn.bot : Rn := ⟨fun _ _ _ => none, fun _ _ _ _ => none, fun _ _ _ => none⟩

def Rn.eff (T : TT) (E : Rn) (o : Oper) (s : St) (h : Hp) : Option (V × Hp) :=
  match xe T h s.ev o.op with
  | some (r :: _) => some r
  | some [] => none
  | none => match o.op with
    | .call { callee := .value f, args, argTypes := _ } => match s.ev f, evs s.ev args.toList with
      | some (.fn (.func g) first cap), some vs => E.call g (first ++ vs ++ cap) h
      | _, _ => none
    | _ => none

def seqG (T : TT) (E : Rn) (ops : Array Oper) (L : Nat) : List (Oper × Nat) → St → Hp → Option (St × Hp)
  | [], s, h => some (s, h)
  | (o, i) :: r, s, h =>
    bif L.testBit i then seqG T E ops L r s h else
    match wantB ops o s with
    | some false => seqG T E ops L r (s.put o.dst (.tup [])) h
    | some true => match xq T h s.ev o.op with
      | some v => seqG T E ops L r (s.put o.dst v) h
      | none => match E.eff T o s h with
        | some x => seqG T E ops L r (s.put o.dst x.1) x.2
        | none => none
    | none => none

def Rn.next (T : TT) (F : FTab) (E : Rn) : Rn where
  code c s h := match c with
    | .skip => some (.normal, s, h)
    | .label _ => some (.normal, s, h)
    | .exit i => some (.exit i, s, h)
    | .goto l => some (.goto l, s, h)
    | .ret => some (.ret, s, h)
    | .seq x y => match E.code x s h with
      | some (.normal, s, h) => E.code y s h
      | r => r
    | .cond c x y => match s.ev c with
      | some (.bool b) => E.code (bif b then x else y) s h
      | _ => none
    | .block id c => match E.code c s h with
      | some (.exit i, s, h) => bif Nat.beq i id then some (.normal, s, h) else some (.exit i, s, h)
      | r => r
    | .loop c => match E.code c s h with
      | some (.normal, s, h) => E.code (.loop c) s h
      | r => r
    | .scope c => E.scope c c s h
    | .region _ ops _ => (seqG T E ops 0 ops.toList.zipIdx s h).map fun r => (.normal, r.1, r.2)
    | _ => none
  scope c x s h := match E.code x s h with
    | some (.goto l, s, h) => match findLabel c l with
      | some rest => E.scope c rest s h
      | none => some (.goto l, s, h)
    | r => r
  call f vs h := match F f with
    | some fn => match fn.body with
      | some c => match E.code c (St.enter vs fn.ntmps) h with
        | some (_, s, h) => match shut s.dfs h with
          | some h' => (xresults T h' s fn.results.toList).map fun v => (v, h')
          | none => none
        | none => none
      | none => none
    | none => none

def rn (T : TT) (F : FTab) : Nat → Rn
  | 0 => .bot
  | n + 1 => (rn T F n).next T F

def Rn.guess (T : TT) (E : Rn) (ops : Array Oper) : Guess := fun L s h => (seqG T E ops L ops.toList.zipIdx s h).map fun r => (r.1.tr.tr, r.2)

def Ev.next (T : TT) (F : FTab) (sp : FuncId → List Nat) (E : Ev) (R : Rn) : Ev where
  code S ro c s h k := match c with
    | .skip => k .normal s h
    | .label _ => k .normal s h
    | .exit i => k (.exit i) s h
    | .goto l => k (.goto l) s h
    | .ret => k .ret s h
    | .seq x y => E.code S ro x s h (thenB (fun s h => E.code S ro y s h k) k)
    | .cond c x y => match s.ev c with
      | some (.bool b) => E.code S ro (bif b then x else y) s h k
      | _ => false
    | .block id c => E.code S ro c s h (blockB id k)
    | .loop c => E.loop S ro c s h k
    | .scope c => E.scope S ro c c s h k
    | .region _ ops draw => bif draw then drawR2 T (E.eff T F ro) (R.guess T ops) ops s h (fun s h => k .normal s h) else seqR T (E.eff T F ro) S ops ops.toList s h (fun s h => k .normal s h)
    | .rangeFunc g ps as bd => match s.ev g with
      | some (.fn (.func f) first cap) => match F f with
        | some _ => match ro with
          | none => E.call f (first ++ [.yld (h.next + 1)] ++ cap) ((h.alloc (.dfr true)).alloc (.loop .ready none s.tr s.sz ps.toList as bd h.next)) (overB E S none (h.next + 1) ⟨s.tr, s.sz, h.next :: s.dfs⟩ k)
          | some r => match h.get r with
            | some (.loop _ _ _ _ _ _ _ d) => E.call f (first ++ [.yld h.next] ++ cap) (h.alloc (.loop .ready none s.tr s.sz ps.toList as bd d)) (overB E S (some r) h.next s k)
            | _ => false
        | none => false
      | _ => false
    | .refuse _ => false
  loop S ro c s h k := E.code S ro c s h (thenB (fun s h => E.loop S ro c s h k) k)
  scope S ro c x s h k := E.code S ro x s h (scopeB c (fun x s h => E.scope S ro c x s h k) k)
  call f vs h k := match F f with
    | some fn => match fn.body with
      | some c => E.code (sp f) none c (St.enter vs fn.ntmps) h (retB T fn k)
      | none => false
    | none => false

def ev (T : TT) (F : FTab) (sp : FuncId → List Nat) : Nat → Ev
  | 0 => .bot
  | n + 1 => (ev T F sp n).next T F sp (rn T F n)

abbrev tr3 (k : Exit → St → Hp → Bool) : XK := fun e s h => k e s h = true
abbrev tr2 (k : V → Hp → Bool) : V → Hp → Prop := fun v h => k v h = true

structure EGood (P : Program) (n : Nat) (E : Ev) : Prop where
  code : ∀ S ro c s h k, E.code S ro c s h k = true → XWp P ro c (tr3 k) s h
  loop : ∀ S ro c s h k, E.loop S ro c s h k = true → XLoop P ro c (tr3 k) n s h
  scope : ∀ S ro c x s h k, E.scope S ro c x s h k = true → XScope P ro c (tr3 k) n x s h
  call : ∀ f vs h k, E.call f vs h k = true → XCalls P f vs h (tr2 k)

section
variable {P : Program} {T : TT} {F : FTab} {sp : FuncId → List Nat}

theorem XCalls.mono {f : FuncId} {vs : List V} {h : Hp} {K K' : V → Hp → Prop} (hx : XCalls P f vs h K) (hk : ∀ v h, K v h → K' v h) : XCalls P f vs h K' :=
  fun B ρ w args hs hv => CallsIn.mono (hx B ρ w args hs hv) fun e w' hp =>
    let ⟨z, he, v, ρ', h', h1, h2, h3, h4, h5, h6⟩ := hp
    ⟨z, he, v, ρ', h', h1, h2, h3, h4, h5, hk _ _ h6⟩

theorem endRoundB_spec {l : Nat} {f : LoopState → Option Code → Option (LoopState × Option Code)} {b : Bool} {h : Hp} {k : V → Hp → Bool} (hx : endRoundB l f b h k = true) : ∃ pe h', loopTo l f h = some (pe, h') ∧ tr2 k (.bool b) h' := by
  unfold endRoundB at hx
  split at hx
  · rename_i r hr; exact ⟨r.1, r.2, hr, hx⟩
  · cases hx

theorem roundB_spec {l : Nat} {k : V → Hp → Bool} : ∀ e s h, roundB l k e s h = true → roundK l (tr2 k) e s h
  | .normal, _, _, h => endRoundB_spec h
  | .ret, _, _, h => endRoundB_spec h
  | .exit _, _, _, h => endRoundB_spec h
  | .goto _, _, _, h => endRoundB_spec h
  | .panic _, _, _, h => by cases h
  | .outgrown, _, _, h => by cases h

theorem thenB_spec {n : St → Hp → Bool} {N : St → Hp → Prop} {k : Exit → St → Hp → Bool} (hn : ∀ s h, n s h = true → N s h) : ∀ e s h, thenB n k e s h = true → thenK N (tr3 k) e s h
  | .normal, _, _, h => hn _ _ h
  | .ret, _, _, h => h
  | .exit _, _, _, h => h
  | .goto _, _, _, h => h
  | .panic _, _, _, h => h
  | .outgrown, _, _, h => h

theorem round_sound {n : Nat} {E : Ev} (hE : EGood P n E) {ro : Option Nat} {o : Oper} {ev : Operand → Option V} {h : Hp} {k : V → Hp → Bool} {f : Operand} {args : Array Operand} {ats : Array TypeId} {l : Nat} {vs : List V}
    (ho : o.op = .call { callee := .value f, args, argTypes := ats }) (hf : ev f = some (.yld l)) (hv : evs ev args.toList = some vs) (hx : E.round l vs h k = true) : XOp P ro o ev h (tr2 k) := by
  unfold Ev.round at hx
  split at hx
  · rename_i st pe tm sz ps as bd d hg
    cases hb : Nat.beq vs.length ps.length with
    | false => rw [hb] at hx; cases hx
    | true =>
      rw [hb] at hx
      refine XOp.yield ho hf hv hg (Nat.eq_of_beq_eq_true hb) ((hE.code _ _ _ _ _ _ hx).mono ?_)
      intro e s h' he
      cases e with
      | normal =>
        simp only [tr3, beginB] at he
        split at he
        · rename_i r hr
          exact ⟨r.1, r.2, hr, (hE.code _ _ _ _ _ _ he).mono roundB_spec⟩
        · cases he
      | _ => cases he
  · cases hx

theorem eff_sound (hT : TTok P T) (hF : FOK P F) {n : Nat} {E : Ev} (hE : EGood P n E) (ro : Option Nat) : ESound P ro (E.eff T F ro) := by
  intro o s h k hx
  unfold Ev.eff at hx
  split at hx
  · rename_i l hl
    exact XOp.effect hT hl fun r hr => (List.all_eq_true.1 hx) r hr
  · split at hx
    · rename_i f args ats ho
      split at hx
      · rename_i g first cap vs hf hv
        split at hx
        · rename_i fn hg
          exact XOp.call hF ho hf hv hg (hE.call _ _ _ _ hx)
        · cases hx
      · rename_i l vs hf hv
        exact round_sound hE ho hf hv hx
      · cases hx
    · cases hx

theorem over_sound {n : Nat} {E : Ev} (hE : EGood P n E) {S : List Nat} {ro : Option Nat} {l : Nat} {s : St} {k : Exit → St → Hp → Bool} : ∀ v h, overB E S ro l s k v h = true → overK P ro l s (tr3 k) v h := by
  intro v h hx
  unfold overB at hx
  split at hx
  · rename_i r hr
    refine ⟨r.1, r.2, hr, ?_⟩
    split at hx
    · rename_i e; rw [e]; exact hx
    · rename_i c e; rw [e]; exact hE.code _ _ _ _ _ _ hx
  · cases hx

theorem next_good (hT : TTok P T) (hF : FOK P F) (hm : P.follows .mixedOrders = true) {n : Nat} {E : Ev} (hE : EGood P n E) (R : Rn) : EGood P (n + 1) (E.next T F sp R) where
  code S ro c s h k hx := by
    cases c with
    | skip => exact XWp.skip hx
    | label l => exact XWp.label hx
    | exit i => exact XWp.exit hx
    | goto l => exact XWp.goto hx
    | ret => exact XWp.ret hx
    | refuse y => cases hx
    | seq x y => exact XWp.seq ((hE.code _ _ _ _ _ _ hx).mono (thenB_spec fun s h hh => hE.code _ _ _ _ _ _ hh))
    | cond c x y =>
      simp only [Ev.next] at hx
      split at hx
      · rename_i b hb
        refine XWp.cond hb ?_
        have := hE.code _ _ _ _ _ _ hx
        cases b <;> exact this
      · cases hx
    | block id c =>
      refine XWp.block ((hE.code _ _ _ _ _ _ hx).mono ?_)
      intro e s h he
      cases e with
      | exit i =>
        simp only [tr3, blockB] at he
        simp only [blockK]
        cases hb : Nat.beq i id with
        | true => rw [hb] at he; rw [if_pos (Nat.eq_of_beq_eq_true hb)]; exact he
        | false => rw [hb] at he; rw [if_neg (fun e => by rw [e, Nat.beq_refl] at hb; cases hb)]; exact he
      | _ => exact he
    | loop c => exact XWp.rounds _ (hE.loop _ _ _ _ _ _ hx)
    | scope c => exact XWp.scope _ (hE.scope _ _ _ _ _ _ _ hx)
    | region id ops draw =>
      simp only [Ev.next] at hx
      cases draw with
      | true => exact XWp.draw2 hT (eff_sound hT hF hE ro) hm hx fun s h hh => hh
      | false => exact XWp.region hT (eff_sound hT hF hE ro) hx fun s h hh => hh
    | rangeFunc g ps as bd =>
      simp only [Ev.next] at hx
      split at hx
      · rename_i f first cap hg
        split at hx
        · rename_i fn hf
          split at hx
          · exact XWp.rangeFunc hF hg hf ((hE.call _ _ _ _ hx).mono (over_sound hE))
          · rename_i r
            split at hx
            · rename_i st pe tm sz ps' as' bd' d hl
              exact XWp.rangeFuncIn hF hg hf hl ((hE.call _ _ _ _ hx).mono (over_sound hE))
            · cases hx
        · cases hx
      · cases hx
  loop S ro c s h k hx := (hE.code _ _ _ _ _ _ hx).mono (thenB_spec fun s h hh => hE.loop _ _ _ _ _ _ hh)
  scope S ro c x s h k hx := by
    refine (hE.code _ _ _ _ _ _ hx).mono ?_
    intro e s h he
    cases e with
    | goto l =>
      simp only [tr3, scopeB] at he
      simp only [scopeK]
      split at he
      · rename_i rest hr; rw [hr]; exact hE.scope _ _ _ _ _ _ _ he
      · rename_i hr; rw [hr]; exact he
    | _ => exact he
  call f vs h k hx := by
    simp only [Ev.next] at hx
    split at hx
    · rename_i fn hf
      split at hx
      · rename_i c hb
        refine XCalls.body hT (hF f fn hf).1 hb ((hE.code _ _ _ _ _ _ hx).mono ?_)
        intro e s h he
        have key : leaveB T fn k s h = true → ∃ h' v, shut s.dfs h = some h' ∧ xresults T h' s fn.results.toList = some v ∧ tr2 k v h' := by
          intro he
          unfold leaveB at he
          split at he
          · rename_i h' hsh
            split at he
            · rename_i v hv; exact ⟨h', v, hsh, hv, he⟩
            · cases he
          · cases he
        cases e with
        | normal => exact ⟨.inl rfl, key he⟩
        | ret => exact ⟨.inr rfl, key he⟩
        | _ => cases he
      · cases hx
    · cases hx

theorem ev_good (hT : TTok P T) (hF : FOK P F) (hm : P.follows .mixedOrders = true) : ∀ n, EGood P n (ev T F sp n)
  | 0 => ⟨fun _ _ _ _ _ _ h => (nomatch h), fun _ _ _ _ _ _ h => (nomatch h), fun _ _ _ _ _ _ _ h => (nomatch h), fun _ _ _ _ h => (nomatch h)⟩
  | n + 1 => next_good hT hF hm (ev_good hT hF hm n) _
end
end Go.Vex
