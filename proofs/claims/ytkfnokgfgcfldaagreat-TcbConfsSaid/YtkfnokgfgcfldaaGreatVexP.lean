/-
  VEX, part P: calls: of functions, of closures, of yield; a range over a function.
-/
import Derived.Test.YtkfnokgfgcfldaaGreatVexO
import Derived.Laws.Sem
set_option linter.unusedSimpArgs false
set_option linter.unusedVariables false
namespace Go.Vex
open Go.RowKit (Below)

/-! ### a function's frame -/

def fillFrom : List V → Nat → Tm → Tm
  | [], _, t => t
  | v :: vs, i, t => fillFrom vs (i + 1) (t.set i (some v))

def St.enter (vs : List V) (ntmps : Nat) : St := ⟨fillFrom vs 0 .nil, vs.length + (ntmps - vs.length), []⟩

theorem fillFrom_get : ∀ (vs : List V) (i : Nat) (t : Tm) (j : Nat), (fillFrom vs i t).get j = if i ≤ j ∧ j < i + vs.length then vs[j - i]? else t.get j
  | [], i, t, j => by simp only [fillFrom, List.length_nil, Nat.add_zero]; rw [if_neg (by omega)]
  | v :: vs, i, t, j => by
    simp only [fillFrom]
    rw [fillFrom_get vs (i + 1), Tm.get_set]
    simp only [List.length_cons]
    by_cases h1 : i + 1 ≤ j ∧ j < i + 1 + vs.length
    · rw [if_pos h1, if_pos (by omega), show j - i = (j - (i + 1)) + 1 from by omega]
      simp
    · rw [if_neg h1]
      by_cases h2 : j = i
      · subst h2; simp
      · rw [if_neg h2, if_neg (by omega)]

theorem TRel.enter {N : Nat} {ρ : Env} {vs : List V} {args : Array Value} {n : Nat} (h : VRs N ρ vs args.toList) : TRel N ρ (St.enter vs n) { tmps := args ++ Array.replicate (n - args.size) undef, defers := [] } := by
  have hl : args.size = vs.length := by have := h.length; simpa using this
  refine ⟨by simp [St.enter, hl], fun t => ?_, fun d hd => by simp [St.enter] at hd, rfl⟩
  simp only [St.get, St.enter, fillFrom_get, Nat.zero_le, true_and, Nat.zero_add, Nat.sub_zero, Tm.get_nil]
  simp only [Array.getD_eq_getD_getElem?]
  by_cases ht : t < vs.length
  · rw [if_pos ht]
    obtain ⟨x, hx, hv⟩ := h.get (List.getElem?_eq_getElem ht)
    rw [List.getElem?_eq_getElem ht]
    simp only [Array.getElem?_toList] at hx
    rw [Array.getElem?_append_left (by omega), hx]
    exact hv
  · rw [if_neg ht]
    rw [Array.getElem?_append_right (by omega), Array.getElem?_replicate]
    split <;> exact vr_unit _ _

/-- the marks of the loops over functions are come to -/
def shut : List Nat → Hp → Option Hp
  | [], h => some h
  | d :: ds, h => match h.get d with
    | some (.dfr true) => shut ds (h.set d (.dfr false))
    | _ => none

def xres (T : TT) (h : Hp) (s : St) : List ResultVar → Option (List V)
  | [] => some []
  | .tmp t :: r => (xres T h s r).map fun l => s.get t :: l
  | .cell a t :: r => match xload T h t (s.get a), xres T h s r with
    | some v, some l => some (v :: l)
    | _, _ => none

def xresults (T : TT) (h : Hp) (s : St) (rs : List ResultVar) : Option V :=
  match xres T h s rs with
  | some [v] => some v
  | some l => some (.tup l)
  | none => none

section
variable {P : Program} {T : TT} {B : Nat} {ρ : Env} {h : Hp} {w : World}

theorem Sat.putObj (s : Sat B ρ h w) {i : Nat} {o o' : O} {ob : Obj} (hi : h.get i = some o) (hr : o.rw = true) (ho : OSat h.next ρ B (w.putObj (ρ i).blk ob) (ρ i) o') :
    Sat B ρ (h.set i o') (w.putObj (ρ i).blk ob) ∧ Below B w (w.putObj (ρ i).blk ob) := by
  obtain ⟨h1, h2⟩ := s.obj i o hi
  have hB := h2.own hr
  exact ⟨s.write hi hr (by simp) (fun k hk _ => World.putObj_heap_other hk) ho, ⟨rfl, rfl, rfl, by simp, fun k hk => World.putObj_heap_other (by omega)⟩⟩

theorem shut_sound {F : Fence} {n : Nat} {fn : Func} {tmps : Array Value} {R : Ending → World → Prop} : ∀ {ds : List Nat} {h h' : Hp} {w : World}, Sat B ρ h w → (∀ d ∈ ds, d < h.next) → shut ds h = some h' →
    (∀ w', Sat B ρ h' w' → Below B w w' → ∃ v, (results fn tmps).run P w' = .ok v w' ∧ R (.returned v) w') →
    LeavesInM F n P fn tmps R (ds.map fun d => { target := .collected (ρ d).blk, args := #[] }) .returning w
  | [], h, h', w, hs, _, hx, hk => by
    cases hx
    exact hk w hs (Below.refl _ _)
  | d :: ds, h, h', w, hs, hd, hx, hk => by
    simp only [shut] at hx
    split at hx
    · rename_i hg
      obtain ⟨h1, hb, hw⟩ := hs.obj d _ hg
      simp only [if_true] at hw
      have hlt := (Array.getElem?_eq_some_iff.1 hw).1
      have hput := hs.putObj (ob := .deferred none) hg rfl (o' := .dfr false) ⟨hb, by simp [World.putObj_heap_same hlt]⟩
      refine ⟨by simp, .inl ⟨(ρ d).blk, w.putObj (ρ d).blk (.deferred none), rfl, run_takeDeferred hw, ?_⟩⟩
      exact shut_sound hput.1 (fun e he => by simpa using hd e (List.mem_cons_of_mem _ he)) hx fun w' hs' hb' => hk w' hs' (hput.2.trans hb')
    · cases hx

theorem xres_sound (hT : TTok P T) (hs : Sat B ρ h w) {s : St} {tmps : Array Value} (ht : ∀ t, VR h.next ρ (s.get t) (tmps.getD t undef)) : ∀ (rs : List ResultVar) {l : List V}, xres T h s rs = some l →
    ∃ xs, (rs.mapM fun | .tmp t => pure (tmps.getD t undef) | .cell a t => do loadVar t (← asAddr (tmps.getD a undef)) : Sem (List Value)).run P w = .ok xs w ∧ VRs h.next ρ l xs
  | [], l, hx => by cases hx; exact ⟨[], by simp, rfl⟩
  | .tmp t :: r, l, hx => by
    simp only [xres] at hx
    obtain ⟨l', h1, rfl⟩ := Option.map_eq_some_iff.1 hx
    obtain ⟨xs, h2, h3⟩ := xres_sound hT hs ht r h1
    exact ⟨tmps.getD t undef :: xs, by simp only [List.mapM_cons, Sem.run_bind, Sem.run_pure, Result.andThen_ok, h2], _, _, rfl, ht t, h3⟩
  | .cell a t :: r, l, hx => by
    simp only [xres] at hx
    split at hx
    · rename_i v l' hv hl
      cases hx
      obtain ⟨xs, h2, h3⟩ := xres_sound hT hs ht r hl
      obtain ⟨z, h4, h5⟩ := xload_sound hT hs (ht a) hv
      have hp : ∃ p, tmps.getD a undef = .pointer (some p) := by
        have := ht a
        unfold xload at hv
        split at hv
        · rename_i i o e
          rw [e] at this
          exact ⟨_, this.2⟩
        · cases hv
      obtain ⟨p, hp⟩ := hp
      have h6 : (loadVar t p).run P w = .ok z w := by
        rw [hp] at h4
        simpa [Instr.loadAt, Instr.sureAddr, Sem.run_bind] using h4
      refine ⟨z :: xs, ?_, _, _, rfl, h5, h3⟩
      have h7 : (asAddr (tmps.getD a undef)).run P w = .ok p w := by rw [hp]; rfl
      simp only [List.mapM_cons, Sem.run_bind, h7, Sem.run_pure, Result.andThen_ok, h6, h2]
    · cases hx

theorem xresults_sound (hT : TTok P T) (hs : Sat B ρ h w) {s : St} {fn : Func} {tmps : Array Value} (ht : ∀ t, VR h.next ρ (s.get t) (tmps.getD t undef)) {v : V} (hx : xresults T h s fn.results.toList = some v) :
    ∃ z, (results fn tmps).run P w = .ok z w ∧ VR h.next ρ v z := by
  unfold xresults at hx
  have key : ∀ l, xres T h s fn.results.toList = some l → ∃ xs : Array Value, (results fn tmps).run P w = .ok (if h : xs.size = 1 then xs[0] else .tuple xs) w ∧ VRs h.next ρ l xs.toList := by
    intro l hl
    obtain ⟨xs, h1, h2⟩ := xres_sound hT hs ht _ hl
    refine ⟨xs.toArray, ?_, by simpa using h2⟩
    unfold results
    rw [Array.mapM_eq_mapM_toList, map_eq_pure_bind, bind_assoc]
    rw [Sem.run_bind]
    refine (congrArg (fun r => Result.andThen r _) h1).trans ?_
    simp
  split at hx
  · rename_i u hl
    cases hx
    obtain ⟨xs, h1, h2⟩ := key _ hl
    have hlen := VRs.length h2
    have h1s : xs.size = 1 := by simpa using hlen
    rw [dif_pos h1s] at h1
    refine ⟨_, h1, ?_⟩
    obtain ⟨x, r, he, hv, _⟩ := h2
    have : xs[0] = x := by
      have := congrArg (fun l => l[0]?) he
      simp only [Array.getElem?_toList, List.getElem?_cons_zero] at this
      rw [Array.getElem?_eq_getElem (by omega)] at this
      exact Option.some.inj this
    rw [this]; exact hv
  · rename_i l hno hl
    cases hx
    obtain ⟨xs, h1, h2⟩ := key _ hl
    have hlen := VRs.length h2
    have hne : xs.size ≠ 1 := fun e => by
      have : l.length = 1 := by simp at hlen; omega
      match l, this with
      | [u], _ => exact hno u rfl
    rw [dif_neg hne] at h1
    exact ⟨_, h1, xs, rfl, h2⟩
  · cases hx

/-! ### calls -/

/-- the functions at hand -/
abbrev FTab := Nat → Option Func

def FOK (P : Program) (F : FTab) : Prop := ∀ g fn, F g = some fn → P.funcs[g]? = some fn ∧ (fn.name == "runtime.NumGoroutine") = false ∧ fn.body.isSome = true

/-- A CALL of function 'f' on these arguments, from every world that holds the heap, comes back with a value and a heap at which 'K' holds. -/
def XCalls (P : Program) (f : FuncId) (vs : List V) (h : Hp) (K : V → Hp → Prop) : Prop :=
  ∀ (B : Nat) (ρ : Env) (w : World) (args : Array Value), Sat B ρ h w → VRs h.next ρ vs args.toList →
    CallsIn Fence.wide 0 P f args w fun e w' => ∃ z, e = .returned z ∧ ∃ v ρ' h', h.next ≤ h'.next ∧ Ext h.next ρ ρ' ∧ Sat B ρ' h' w' ∧ VR h'.next ρ' v z ∧ Below B w w' ∧ K v h'

/-- how a function's body ends -/
def retK (T : TT) (fn : Func) (K : V → Hp → Prop) : XK := fun e s h =>
  (e = .normal ∨ e = .ret) ∧ ∃ h' v, shut s.dfs h = some h' ∧ xresults T h' s fn.results.toList = some v ∧ K v h'

theorem shut_next : ∀ {ds : List Nat} {h h' : Hp}, shut ds h = some h' → h'.next = h.next
  | [], h, h', hx => by cases hx; rfl
  | d :: ds, h, h', hx => by
    simp only [shut] at hx
    split at hx
    · rw [shut_next hx]; rfl
    · cases hx

theorem XCalls.body (hT : TTok P T) {f : FuncId} {fn : Func} {c : Code} {vs : List V} {K : V → Hp → Prop} (hf : P.funcs[f]? = some fn) (hb : fn.body = some c)
    (hc : XWp P none c (retK T fn K) (St.enter vs fn.ntmps) h) : XCalls P f vs h K := by
  intro B ρ w args hs hv
  refine callsIn_of_wp_marks hf hb trivial ?_
  have h1 := hc B ρ w _ (fun l hl => by cases hl) hs (TRel.enter (n := fn.ntmps) hv)
  refine wpIn_mono h1 fun e a w' hp => ?_
  obtain ⟨ρ', s', h', hN, he, hs', ht', hB, hends, h2, v, hsh, hres, hK⟩ := hp
  have key : LeavesInM Fence.wide 0 P fn a.tmps (fun e w' => ∃ z, e = .returned z ∧ ∃ v ρ' h', h.next ≤ h'.next ∧ Ext h.next ρ ρ' ∧ Sat B ρ' h' w' ∧ VR h'.next ρ' v z ∧ Below B w w' ∧ K v h') a.defers .returning w' := by
    rw [ht'.2.2.2]
    refine shut_sound hs' ht'.2.2.1 hsh fun w2 hs2 hb2 => ?_
    have hn := shut_next hsh
    obtain ⟨z, hz, hvz⟩ := xresults_sound hT hs2 (tmps := a.tmps) (fun t => by rw [hn]; exact ht'.2.1 t) hres
    exact ⟨z, hz, z, rfl, v, ρ', h2, by rw [hn]; exact hN, he, hs2, hvz, hB.trans hb2, hK⟩
  rcases hends with rfl | rfl
  · exact key
  · exact key

theorem run_callFunc {F : FTab} (hF : FOK P F) {g : Nat} {fn : Func} (hg : F g = some fn) (args : Array Value) (w : World) : (callFunc g args).run P w = .ok (.enter g args) w := by
  obtain ⟨h1, h2, h3⟩ := hF g fn hg
  have h3' : fn.body.isNone = false := by cases hb : fn.body with
    | none => rw [hb] at h3; cases h3
    | some c => rfl
  have h2' : ¬ fn.name = "runtime.NumGoroutine" := by simpa using h2
  have h4 : ¬ fn.body = none := fun e => by rw [e] at h3; cases h3
  simp [callFunc, Sem.run_bind, h1, h2', h4]

theorem XOp.call {F : FTab} (hF : FOK P F) {ro : Option Nat} {o : Oper} {ev : Operand → Option V} {K : V → Hp → Prop} {f : Operand} {args : Array Operand} {ats : Array TypeId} {g : Nat} {fn : Func} {first cap vs : List V}
    (ho : o.op = .call { callee := .value f, args, argTypes := ats }) (hf : ev f = some (.fn (.func g) first cap)) (hv : evs ev args.toList = some vs) (hg : F g = some fn) (hc : XCalls P g (first ++ vs ++ cap) h K) : XOp P ro o ev h K := by
  intro B ρ w a hr hs he Q K' hK
  obtain ⟨ev', h1, h2⟩ := evOn o.op.operands ev he
  have hops : ∀ x ∈ args.toList, ev x = ev' x := fun x hx => h1 x (by rw [ho]; simp [Op.operands, Call.operands]; first | exact .inl (by simpa using hx) | exact .inr (by simpa using hx))
  have hf' : ev f = ev' f := h1 f (by rw [ho]; simp [Op.operands, Call.operands])
  rw [evs_congr hops] at hv
  rw [hf'] at hf
  obtain ⟨_, us, cs, e1, e2, e3⟩ := h2 f _ hf
  have hargs := evs_sound h2 hv
  refine ⟨fun f _ => fen_fn _ _ _, ?_⟩
  rw [semAt_eq (fun c e => by rw [ho] at e; cases e)]
  have hrun : (execOp a.eval o).run P w = .ok (.enter g (us ++ args.map a.eval ++ cs)) w := by
    simp only [execOp, ho, Sem.run_bind, resolve, e1, Deferred.ofValue, Sem.run_pure, Result.andThen_ok, invoke]
    exact run_callFunc hF hg _ _
  rw [hrun]
  refine ⟨(fun h => by cases h), ?_⟩
  have hcall := hc B ρ w (us ++ args.map a.eval ++ cs) hs (by simp only [Array.toList_append, Array.toList_map]; exact (e2.append hargs).append e3)
  refine CallsIn.mono (show CallsIn (fen ρ ro) 0 P g _ w _ from hcall) fun e w' hp => ?_
  obtain ⟨z, rfl, v, ρ', h', g1, g2, g3, g4, g5, g6⟩ := hp
  exact hK v z ρ' h' w' g1 g2 g3 g4 g5 g6

/-! ### rounds of a loop over a function -/

def fillParams : List Nat → List V → Tm → Nat → Tm
  | p :: ps, v :: vs, t, n => fillParams ps vs (bif Nat.blt p n then t.set p (some v) else t) n
  | _, _, t, _ => t

/-- where the loop's record stands -/
def loopTo (l : Nat) (f : LoopState → Option Code → Option (LoopState × Option Code)) (h : Hp) : Option (Option Code × Hp) :=
  match h.get l with
  | some (.loop st pe tm sz ps as bd d) => match f st pe with
    | some (st', pe') => some (pe, h.set l (.loop st' pe' tm sz ps as bd d))
    | none => none
  | _ => none

def toBusy : LoopState → Option Code → Option (LoopState × Option Code)
  | .ready, pe => some (.busy, pe)
  | _, _ => none
def toReady : LoopState → Option Code → Option (LoopState × Option Code) := fun _ _ => some (.ready, none)
def toDone (c : Code) : LoopState → Option Code → Option (LoopState × Option Code) := fun _ _ => some (.done, some c)
def toOver : LoopState → Option Code → Option (LoopState × Option Code)
  | .busy, _ => none
  | _, pe => some (.exhausted, pe)

theorem loopTo_sound (hs : Sat B ρ h w) {l : Nat} {f : LoopState → Option Code → Option (LoopState × Option Code)} {pe : Option Code} {h' : Hp} (hx : loopTo l f h = some (pe, h')) :
    ∃ (r : Loop) (st' : LoopState) (pe' : Option Code), w.heap[(ρ l).blk]? = some (.loop r) ∧ r.pending = pe ∧ f r.state pe = some (st', pe') ∧ h'.next = h.next ∧
      Sat B ρ h' (w.putObj (ρ l).blk (.loop { r with state := st', pending := pe' })) ∧ Below B w (w.putObj (ρ l).blk (.loop { r with state := st', pending := pe' })) := by
  unfold loopTo at hx
  split at hx
  · rename_i st pe0 tm sz ps as bd d hg
    split at hx
    · rename_i st' pe' hf
      cases hx
      obtain ⟨h1, hb, hd, fn, ts, h2, h3, h4⟩ := hs.obj l _ hg
      have hlt := (Array.getElem?_eq_some_iff.1 h2).1
      have hput := hs.putObj (ob := .loop { state := st', pending := pe', fn := fn, tmps := ts, params := ps.toArray, assign := as, body := bd, defers := (ρ d).blk }) hg rfl (o' := .loop st' pe' tm sz ps as bd d) ⟨hb, hd, fn, ts, World.putObj_heap_same hlt, h3, h4⟩
      exact ⟨_, st', pe', h2, rfl, hf, rfl, hput.1, hput.2⟩
    · cases hx
  · cases hx

/-- how a round ends -/
def roundK (l : Nat) (K : V → Hp → Prop) : XK
  | .normal, s, h => ∃ pe h', loopTo l toReady h = some (pe, h') ∧ K (.bool true) h'
  | .ret, s, h => ∃ pe h', loopTo l (toDone .ret) h = some (pe, h') ∧ K (.bool false) h'
  | .exit i, s, h => ∃ pe h', loopTo l (toDone (.exit i)) h = some (pe, h') ∧ K (.bool false) h'
  | .goto t, s, h => ∃ pe h', loopTo l (toDone (.goto t)) h = some (pe, h') ∧ K (.bool false) h'
  | _, _, _ => False

def beginK (P : Program) (l : Nat) (bd : Code) (K : V → Hp → Prop) : XK := thenK (fun s h => ∃ pe h', loopTo l toBusy h = some (pe, h') ∧ XWp P (some l) bd (roundK l K) s h') fun _ _ _ => False

theorem fillParams_rel {N : Nat} {ρ : Env} : ∀ (ps : List Nat) (vs : List V) (xs : List Value) (t : Tm) (ts : Array Value), VRs N ρ vs xs → vs.length = ps.length → (∀ i, VR N ρ ((t.get i).getD (.tup [])) (ts.getD i undef)) →
    (((ps.zip xs).foldl (fun tmps (q : Nat × Value) => tmps.setIfInBounds q.1 q.2) ts).size = ts.size ∧ ∀ i, VR N ρ (((fillParams ps vs t ts.size).get i).getD (.tup [])) (((ps.zip xs).foldl (fun tmps (q : Nat × Value) => tmps.setIfInBounds q.1 q.2) ts).getD i undef))
  | [], vs, xs, t, ts, hv, hl, ht => by
    have : vs = [] := List.length_eq_zero_iff.1 hl
    subst this
    exact ⟨rfl, ht⟩
  | p :: ps, [], xs, t, ts, hv, hl, ht => by simp at hl
  | p :: ps, v :: vs, xs, t, ts, hv, hl, ht => by
    obtain ⟨x, r, rfl, h1, h2⟩ := hv
    have ih := fillParams_rel ps vs r (bif Nat.blt p ts.size then t.set p (some v) else t) (ts.setIfInBounds p x) h2 (by simpa using hl) (fun i => by
      rw [blt_eq]
      simp only [Array.getD_eq_getD_getElem?, Array.getElem?_setIfInBounds]
      have := ht i
      simp only [Array.getD_eq_getD_getElem?] at this
      by_cases hp : p < ts.size
      · simp only [hp, decide_true, cond_true, if_true]
        rw [Tm.get_set]
        by_cases e : i = p
        · subst e; simpa using h1
        · rw [if_neg e, if_neg (fun e' => e e'.symm)]; exact this
      · simp only [hp, decide_false, cond_false]
        by_cases e : p = i
        · subst e
          simp only [if_true, if_false]
          rw [Array.getElem?_eq_none (by omega)] at this
          exact this
        · rw [if_neg e]; exact this)
    simp only [Array.size_setIfInBounds] at ih
    exact ih

theorem XOp.yield {ro : Option Nat} {o : Oper} {ev : Operand → Option V} {K : V → Hp → Prop} {f : Operand} {args : Array Operand} {ats : Array TypeId} {l : Nat} {vs : List V}
    {st : LoopState} {pe : Option Code} {tm : Tm} {sz : Nat} {ps : List Nat} {as bd : Code} {d : Nat}
    (ho : o.op = .call { callee := .value f, args, argTypes := ats }) (hf : ev f = some (.yld l)) (hv : evs ev args.toList = some vs) (hg : h.get l = some (.loop st pe tm sz ps as bd d)) (hl : vs.length = ps.length)
    (hc : XWp P (some l) as (beginK P l bd K) ⟨fillParams ps vs tm sz, sz, []⟩ h) : XOp P ro o ev h K := by
  intro B ρ w a hr hs he Q K' hK
  obtain ⟨ev', h1, h2⟩ := evOn o.op.operands ev he
  have hops : ∀ x ∈ args.toList, ev x = ev' x := fun x hx => h1 x (by rw [ho]; simp [Op.operands, Call.operands]; first | exact .inl (by simpa using hx) | exact .inr (by simpa using hx))
  have hf' : ev f = ev' f := h1 f (by rw [ho]; simp [Op.operands, Call.operands])
  rw [evs_congr hops] at hv
  rw [hf'] at hf
  obtain ⟨hlN, e1⟩ := h2 f _ hf
  have hargs := evs_sound h2 hv
  obtain ⟨_, hb, hd, fn, ts, hw, hsz, hts⟩ := hs.obj l _ hg
  refine ⟨fun f _ => fen_fn _ _ _, ?_⟩
  rw [semAt_eq (fun c e => by rw [ho] at e; cases e)]
  have hlen : (args.map a.eval).size = ps.length := by
    have := hargs.length
    simp only [List.length_map, Array.length_toList] at this
    simp [this, hl]
  have hrun : (execOp a.eval o).run P w = .ok (.round (ρ l).blk fn ((ps.zip (args.toList.map a.eval)).foldl (fun tmps (q : Nat × Value) => tmps.setIfInBounds q.1 q.2) ts) as bd) w := by
    simp only [execOp, ho, Sem.run_bind, resolve, e1, Deferred.ofValue, Sem.run_pure, Result.andThen_ok, invoke]
    rw [run_yield hw (by simpa using hlen)]
    congr 2
    simp only [Array.empty_append]
    rw [← Array.foldl_toList, Array.toList_zip]
    simp
  rw [hrun]
  refine ⟨(fun h => by cases h), ?_⟩
  have hfill := fillParams_rel ps vs _ tm ts hargs hl hts
  rw [hsz] at hfill
  have hrel : TRel h.next ρ ⟨fillParams ps vs tm sz, sz, []⟩ { tmps := (ps.zip (args.toList.map a.eval)).foldl (fun tmps (q : Nat × Value) => tmps.setIfInBounds q.1 q.2) ts, defers := [] } :=
    ⟨hfill.1, hfill.2, fun d hd => by simp at hd, rfl⟩
  have hsome : ∀ {n : Nat}, l < n → ∀ x, some l = some x → x < n := fun hlt x e => by cases e; exact hlt
  refine roundIn_of_wpIn trivial ?_
  have hasg := hc B ρ w _ (hsome hlN) hs hrel
  refine wpIn_mono (show Code.wpIn ((fen ρ ro).inRound (ρ l).blk) 0 P as _ _ w from hasg) fun e a1 w1 hp => ?_
  obtain ⟨ρ1, s1, h1', n1, x1, sat1, t1, b1, k1⟩ := hp
  cases e with
  | normal =>
    obtain ⟨pe1, h2', hbz, hbody⟩ := k1
    obtain ⟨r, st', pe', g1, g2, g3, g4, g5, g6⟩ := loopTo_sound sat1 hbz
    have hst : r.state = .ready ∧ st' = .busy ∧ pe' = pe1 := by
      unfold toBusy at g3
      split at g3
      · cases g3; exact ⟨by assumption, rfl, rfl⟩
      · cases g3
    obtain ⟨hready, rfl, rfl⟩ := hst
    have hblk : (ρ1 l).blk = (ρ l).blk := by rw [x1 l hlN]
    rw [hblk] at g1 g5 g6
    refine ⟨_, run_beginRound g1 hready, ?_⟩
    have hsame : ({ r with state := LoopState.busy, pending := pe' } : Loop) = { r with state := LoopState.busy } := by rw [← g2]
    rw [hsame] at g5 g6
    have hl1 : l < h1'.next := Nat.lt_of_lt_of_le hlN n1
    have hbd := hbody B ρ1 _ a1 (hsome (by rw [g4]; exact hl1)) g5 (by rw [g4]; exact t1)
    have hfe : fen ρ1 (some l) = (fen ρ ro).inRound (ρ l).blk := by
      rw [fen_ext x1 (hsome hlN)]; rfl
    rw [hfe] at hbd
    refine wpIn_mono hbd fun e2 a2 w2 hp2 => ?_
    obtain ⟨ρ2, s2, h3, n2, x2, sat2, t2, b2, k2⟩ := hp2
    have hN : h.next ≤ h3.next := by rw [g4] at n2; exact Nat.le_trans n1 n2
    have hX : Ext h.next ρ ρ2 := x1.trans (by rw [g4] at x2; exact x2) n1
    have hblk2 : (ρ2 l).blk = (ρ l).blk := by rw [hX l hlN]
    have fin : ∀ (j : Option Code) (f : LoopState → Option Code → Option (LoopState × Option Code)) (b : Bool) (pe : Option Code) (h' : Hp), (∀ st pe, f st pe = some (if j.isNone then .ready else .done, j)) → b = j.isNone → loopTo l f h3 = some (pe, h') → K (.bool b) h' →
        ∃ v w', (Instr.endRound (ρ l).blk j).run P w2 = .ok v w' ∧ K' (a.put o.dst v) w' := by
      intro j f b pe h' hfj hb hto hk
      obtain ⟨r2, st2, pe2, q1, q2, q3, q4, q5, q6⟩ := loopTo_sound sat2 hto
      rw [hfj] at q3
      cases q3
      rw [hblk2] at q1 q5 q6
      refine ⟨_, _, run_endRound j q1, ?_⟩
      refine hK (.bool b) (.bool j.isNone) ρ2 h' _ (by rw [q4]; exact hN) hX q5 (by rw [hb]; rfl) (b1.trans (g6.trans (b2.trans q6))) hk
    cases e2 with
    | normal => obtain ⟨pe, h', q1, q2⟩ := k2; exact fin none toReady true pe h' (fun _ _ => rfl) rfl q1 q2
    | ret => obtain ⟨pe, h', q1, q2⟩ := k2; exact fin (some .ret) (toDone .ret) false pe h' (fun _ _ => rfl) rfl q1 q2
    | exit i => obtain ⟨pe, h', q1, q2⟩ := k2; exact fin (some (.exit i)) (toDone (.exit i)) false pe h' (fun _ _ => rfl) rfl q1 q2
    | goto i => obtain ⟨pe, h', q1, q2⟩ := k2; exact fin (some (.goto i)) (toDone (.goto i)) false pe h' (fun _ _ => rfl) rfl q1 q2
    | panic c => exact k2.elim
    | outgrown => exact k2.elim
  | exit i => exact k1.elim
  | goto i => exact k1.elim
  | ret => exact k1.elim
  | panic c => exact k1.elim
  | outgrown => exact k1.elim

end
end Go.Vex
