/-
  VEX, part N: regions: in the text's order, and with the order drawn.
-/
import Derived.Test.YtkfnokgfgcfldaaGreatVexM
import Derived.Test.YtkfnokgfgcfldaaGreatVexL
import Derived.OrdersIn
import Derived.TacticsIn
set_option linter.unusedSimpArgs false
set_option linter.unusedVariables false
namespace Go.Vex
open Go.RowKit (Below)

/-! ### what is asked of the operands alone -/

theorem evs_congr {ev ev' : Operand → Option V} : ∀ {l : List Operand}, (∀ x ∈ l, ev x = ev' x) → evs ev l = evs ev' l
  | [], _ => rfl
  | x :: xs, h => by
    simp only [evs, h x List.mem_cons_self, evs_congr (l := xs) fun y hy => h y (List.mem_cons_of_mem _ hy)]

theorem evp_congr {ev ev' : Operand → Option V} : ∀ {l : List (Nat × Operand)}, (∀ x ∈ l.map (·.2), ev x = ev' x) → evp ev l = evp ev' l
  | [], _ => rfl
  | (i, x) :: xs, h => by
    simp only [evp, h x (by simp), evp_congr (l := xs) fun y hy => h y (by simp only [List.map_cons]; exact List.mem_cons_of_mem _ hy)]

theorem evo_congr {ev ev' : Operand → Option V} : ∀ {x : Option Operand}, (∀ y ∈ x, ev y = ev' y) → evo ev x = evo ev' x
  | none, _ => rfl
  | some x, h => by simp only [evo, h x rfl]

theorem xq_congr {T : TT} {h : Hp} {ev ev' : Operand → Option V} {op : Op} (hh : ∀ x ∈ op.operands, ev x = ev' x) : xq T h ev op = xq T h ev' op := by
  cases op
  case build t ps =>
    simp only [Op.operands] at hh
    simp only [xq]
    rw [evp_congr (fun x hx => hh x (by simpa using hx))]
  case makeFunc f fs cs =>
    simp only [Op.operands] at hh
    cases f <;> simp only [xq] <;> rw [evs_congr (l := fs.toList) (fun x hx => hh x (by simp at hx ⊢; exact .inl hx)), evs_congr (l := cs.toList) (fun x hx => hh x (by simp at hx ⊢; exact .inr hx))]
  case slice t x lo hi mx =>
    simp only [Op.operands] at hh
    simp only [xq]
    rw [hh x (by simp), evo_congr (x := lo) (fun y hy => hh y (by cases hy; simp)), evo_congr (x := hi) (fun y hy => hh y (by cases hy; simp)), evo_congr (x := mx) (fun y hy => hh y (by cases hy; simp))]
  case call c =>
    obtain ⟨callee, args, ats⟩ := c
    simp only [Op.operands, Call.operands] at hh
    have hargs : ∀ x ∈ args.toList, ev x = ev' x := fun x hx => hh x (by cases callee <;> simp only [Array.mem_append, Array.mem_toList_iff, List.mem_toArray] at hx ⊢ <;> first | exact hx | exact Or.inr hx | exact Or.inl hx | (simp [hx]; done))
    cases callee with
    | builtin b =>
      cases b <;> simp only [xq] <;> first | rfl | (rw [evs_congr hargs]; done) | skip
      · split
        · rename_i x t hx ht; rw [hargs x (by rw [hx]; simp)]
        · rfl
    | _ => rfl
  all_goals (first | rfl | (simp only [Op.operands] at hh; simp only [xq]; first | rfl | (simp_all; done)))

theorem xe_congr {T : TT} {h : Hp} {ev ev' : Operand → Option V} {op : Op} (hh : ∀ x ∈ op.operands, ev x = ev' x) : xe T h ev op = xe T h ev' op := by
  cases op
  case buildSlice t n ps =>
    simp only [Op.operands] at hh
    simp only [xe]
    rw [evp_congr (fun x hx => hh x (by simpa using hx))]
  case makeMap t r =>
    simp only [Op.operands] at hh
    simp only [xe]
    rw [evo_congr (x := r) (fun y hy => hh y (by cases hy; simp))]
  case call c =>
    obtain ⟨callee, args, ats⟩ := c
    simp only [Op.operands, Call.operands] at hh
    have hargs : ∀ x ∈ args.toList, ev x = ev' x := fun x hx => hh x (by cases callee <;> simp only [Array.mem_append, Array.mem_toList_iff, List.mem_toArray] at hx ⊢ <;> first | exact hx | exact Or.inr hx | exact Or.inl hx | (simp [hx]; done))
    cases callee with
    | builtin b =>
      cases b <;> simp only [xe] <;> first | rfl | skip
      all_goals
        split
        · rename_i hx ht
          rw [hx] at hargs
          simp only [List.mem_cons, List.not_mem_nil, or_false, forall_eq_or_imp, forall_eq] at hargs
          simp only [hargs]
        · rfl
    | _ => rfl
  all_goals (first | rfl | (simp only [Op.operands] at hh; simp only [xe]; first | rfl | (simp_all; done)))

/-! ### one operation -/

/-- AN OPERATION, its operands as 'ev' says: from every world that holds the heap it yields a value and a heap at which 'K' holds. -/
def XOp (P : Program) (ro : Option Nat) (o : Oper) (ev : Operand → Option V) (h : Hp) (K : V → Hp → Prop) : Prop :=
  ∀ B ρ w a, (∀ l, ro = some l → l < h.next) → Sat B ρ h w → (∀ x ∈ o.op.operands, ∀ v, ev x = some v → VR h.next ρ v (a.eval x)) →
    ∀ (Q : Exit → Act → World → Prop) (K' : Act → World → Prop),
      (∀ v z ρ' h' w', h.next ≤ h'.next → Ext h.next ρ ρ' → Sat B ρ' h' w' → VR h'.next ρ' v z → Below B w w' → K v h' → K' (a.put o.dst z) w') →
      o.wpIn (fen ρ ro) 0 P a w K' Q

theorem XOp.mono {P : Program} {ro : Option Nat} {o : Oper} {ev : Operand → Option V} {h : Hp} {K K' : V → Hp → Prop} (hx : XOp P ro o ev h K) (hk : ∀ v h, K v h → K' v h) : XOp P ro o ev h K' :=
  fun B ρ w a hr hs he Q K2 hK => hx B ρ w a hr hs he Q K2 fun v z ρ' h' w' h1 h2 h3 h4 h5 h6 => hK v z ρ' h' w' h1 h2 h3 h4 h5 (hk _ _ h6)

theorem fen_fn (ρ : Env) (ro : Option Nat) (f : FuncId) : (fen ρ ro).fn f := trivial

theorem semAt_eq {r : Option Nat} {ρ : Operand → Value} {o : Oper} (h : ∀ c, o.op ≠ .defer c) : o.semAt r ρ = execOp ρ o := by
  cases r with
  | none => exact Oper.semAt_none _ _
  | some l => exact Oper.semAt_some _ _ _ h

open Classical in
theorem evOn (S : Array Operand) (ev : Operand → Option V) {N : Nat} {ρ : Env} {rv : Operand → Value} (he : ∀ x ∈ S, ∀ v, ev x = some v → VR N ρ v (rv x)) :
    ∃ ev' : Operand → Option V, (∀ x ∈ S, ev x = ev' x) ∧ EvR N ρ ev' rv :=
  ⟨fun x => if x ∈ S then ev x else none, fun x hx => by simp [hx], fun x v hx => by
    simp only at hx
    split at hx
    · rename_i hm; exact he x hm v hx
    · cases hx⟩

section
variable {P : Program} {T : TT} {ro : Option Nat} {o : Oper} {ev : Operand → Option V} {h : Hp} {K : V → Hp → Prop}

theorem XOp.quiet (hT : TTok P T) {v : V} (hv : xq T h ev o.op = some v) (hk : K v h) : XOp P ro o ev h K := by
  intro B ρ w a hr hs he Q K' hK
  obtain ⟨ev', h1, h2⟩ := evOn o.op.operands ev he
  rw [xq_congr h1] at hv
  obtain ⟨z, h3, h4⟩ := xq_sound hT hs h2 o hv
  have hd : ∀ c, o.op ≠ .defer c := fun c e => by rw [e] at hv; simp [xq] at hv
  refine ⟨fun f _ => fen_fn _ _ _, ?_⟩
  rw [semAt_eq hd, h3]
  exact hK v z ρ h w (Nat.le_refl _) (Ext.refl _ _) hs h4 (Below.refl _ _) hk

theorem XOp.effect (hT : TTok P T) {l : List (V × Hp)} (hv : xe T h ev o.op = some l) (hk : ∀ r ∈ l, K r.1 r.2) : XOp P ro o ev h K := by
  intro B ρ w a hr hs he Q K' hK
  obtain ⟨ev', h1, h2⟩ := evOn o.op.operands ev he
  rw [xe_congr h1] at hv
  obtain ⟨nx, z, w', r, h', ρ', hx⟩ := xe_sound hT hs h2 o hv
  have hd : ∀ c, o.op ≠ .defer c := fun c e => by rw [e] at hv; simp [xe] at hv
  refine ⟨fun f _ => fen_fn _ _ _, ?_⟩
  rw [semAt_eq hd, hx.run]
  have hfin := hK r z ρ' h' w' hx.le hx.ext hx.sat hx.val hx.below (hk _ hx.mem)
  rcases hx.res with e | ⟨e, e'⟩
  · rw [e]; exact hfin
  · rw [e]; rw [e'] at hfin; exact hfin
end

/-! ### guards -/

def wantB (ops : Array Oper) (o : Oper) (s : St) : Option Bool :=
  match o.guard with
  | none => some true
  | some (g, want) =>
    match (ops[g]?).bind (·.dst) with
    | none => some false
    | some t => match s.get t with
      | .bool b => some (bif b then want else !want)
      | .tup [] => some false
      | _ => none

theorem wantB_sound {ops : Array Oper} {o : Oper} {s : St} {N : Nat} {ρ : Env} {tmps : Array Value} {b : Bool}
    (ht : ∀ t, t ∈ o.looksAt ops → VR N ρ (s.get t) (tmps.getD t undef)) (h : wantB ops o s = some b) : Region.wanted o (yielded ops tmps) = b := by
  unfold wantB at h
  unfold Region.wanted
  split at h
  · rename_i hg; rw [hg]; cases h; rfl
  · rename_i g want hg
    rw [hg]
    simp only
    split at h
    · rename_i hd
      cases h
      simp [yielded, hd]
    · rename_i t hd
      have hv := ht t (by simp [Oper.looksAt, hg, hd])
      have hy : yielded ops tmps g = match tmps[t]? with | some (.bool b) => some b | _ => none := by simp only [yielded, hd, Option.bind_some]; rfl
      rw [Array.getD_eq_getD_getElem?] at hv
      split at h
      · rename_i c hc
        rw [hc] at hv
        cases h
        have : tmps[t]? = some (.bool c) := by
          cases ht' : tmps[t]? with
          | none => rw [ht'] at hv; cases hv
          | some x => rw [ht'] at hv; exact congrArg some hv
        rw [hy, this]
        cases c <;> cases want <;> rfl
      · rename_i hc
        rw [hc] at hv
        cases h
        rw [hy]
        obtain ⟨vs, e, hvs⟩ := hv
        cases ht' : tmps[t]? with
        | none => simp
        | some x =>
          rw [ht'] at e
          simp only [Option.getD_some] at e
          rw [e]
          rfl
      · cases h

/-! ### a region in the text's order -/

abbrev Eff := Oper → St → Hp → (V → Hp → Bool) → Bool

/-- 'E' answers for the operations that write, make or call. -/
def ESound (P : Program) (ro : Option Nat) (E : Eff) : Prop := ∀ o s h k, E o s h k = true → XOp P ro o s.ev h fun v h' => k v h' = true

def memN : List Nat → Nat → Bool
  | [], _ => false
  | t :: S, u => bif Nat.beq t u then true else memN S u

/-- a slot of 'S' that is written a truth value is followed both ways -/
def splitP (S : List Nat) (d : Option Nat) (v : V) (k : V → Bool) : Bool :=
  match S with
  | [] => k v
  | t :: S => match d, v with
    | some u, .bool b => bif memN (t :: S) u then (k (.bool true) || !b) && (k (.bool false) || b) else k v
    | _, _ => k v

theorem splitP_spec {S : List Nat} {d : Option Nat} {v : V} {k : V → Bool} (h : splitP S d v k = true) : k v = true := by
  cases S with
  | nil => exact h
  | cons t S =>
    cases d with
    | none => exact h
    | some u =>
      cases v with
      | bool b =>
        simp only [splitP] at h
        revert h
        generalize memN (t :: S) u = c
        intro h
        cases c with
        | false => exact h
        | true =>
          simp only [cond_true, Bool.and_eq_true, Bool.or_eq_true, Bool.not_eq_true'] at h
          cases b with
          | true => exact h.1.resolve_right (by simp)
          | false => exact h.2.resolve_right (by simp)
      | _ => exact h

def seqR (T : TT) (E : Eff) (S : List Nat) (ops : Array Oper) : List Oper → St → Hp → (St → Hp → Bool) → Bool
  | [], s, h, k => k s h
  | o :: r, s, h, k =>
    match wantB ops o s with
    | some true => match xq T h s.ev o.op with
      | some v => splitP S o.dst v fun v => seqR T E S ops r (s.put o.dst v) h k
      | none => E o s h fun v h' => splitP S o.dst v fun v => seqR T E S ops r (s.put o.dst v) h' k
    | some false => seqR T E S ops r (s.put o.dst (.tup [])) h k
    | none => false

section
variable {P : Program} {T : TT} {ro : Option Nat} {E : Eff} {S : List Nat} {ops : Array Oper}

theorem seqR_sound (hT : TTok P T) (hE : ESound P ro E) {k : St → Hp → Bool} (Q : Exit → Act → World → Prop) {B : Nat} (Good : Env → Hp → World → Prop) (ρ0 : Env) (N0 : Nat) (hr0 : ∀ l, ro = some l → l < N0)
    (hgood : ∀ ρ h w ρ' h' w', Good ρ h w → h.next ≤ h'.next → Ext h.next ρ ρ' → Below B w w' → Good ρ' h' w')
    (hQ : ∀ ρ s h w a, N0 ≤ h.next → Ext N0 ρ0 ρ → Good ρ h w → Sat B ρ h w → TRel h.next ρ s a → k s h = true → Q .normal a w) :
    ∀ (l : List Oper) (s : St) (h : Hp) (ρ : Env) (w : World) (a : Act), N0 ≤ h.next → Ext N0 ρ0 ρ → Good ρ h w → Sat B ρ h w → TRel h.next ρ s a → seqR T E S ops l s h k = true →
      wpListIn (fen ρ0 ro) 0 P ops Q l a w
  | [], s, h, ρ, w, a, hN, he, hg, hs, ht, hk => hQ ρ s h w a hN he hg hs ht hk
  | o :: r, s, h, ρ, w, a, hN, he, hg, hs, ht, hk => by
    have ih := seqR_sound hT hE Q Good ρ0 N0 hr0 hgood hQ r
    have hr : ∀ l, ro = some l → l < h.next := fun l hl => Nat.lt_of_lt_of_le (hr0 l hl) hN
    simp only [seqR] at hk
    simp only [wpListIn]
    cases hw : wantB ops o s with
    | none => rw [hw] at hk; cases hk
    | some b =>
      rw [hw] at hk
      rw [wantB_sound (fun t _ => ht.2.1 t) hw]
      cases b with
      | false =>
        simp only [Bool.false_eq_true, if_false]
        exact ⟨fun f _ => fen_fn _ _ _, ih _ _ ρ w _ hN he hg hs (ht.put o.dst (vr_unit _ _)) hk⟩
      | true =>
        simp only [if_true]
        have hop : XOp P ro o s.ev h fun v h' => seqR T E S ops r (s.put o.dst v) h' k = true := by
          simp only at hk
          split at hk
          · rename_i v hv; exact XOp.quiet hT hv (splitP_spec hk)
          · exact (hE o s h _ hk).mono fun v h' hh => splitP_spec hh
        have := hop B ρ w a hr hs (fun x _ v hv => ht.ev x v hv) Q (wpListIn (fen ρ0 ro) 0 P ops Q r)
        rw [fen_ext he hr0] at this
        refine this fun v z ρ' h' w' h1 h2 h3 h4 h5 h6 => ?_
        exact ih _ _ ρ' w' _ (Nat.le_trans hN h1) (he.trans h2 hN) (hgood _ _ _ _ _ _ hg h1 h2 h5) h3 ((ht.ext h1 h2).put o.dst h4) h6

theorem XWp.region (hT : TTok P T) (hE : ESound P ro E) {id : Nat} {s : St} {h : Hp} {k : St → Hp → Bool} {K : XK} (hk : seqR T E S ops ops.toList s h k = true) (hK : ∀ s h, k s h = true → K .normal s h) : XWp P ro (.region id ops false) K s h := by
  intro B ρ w a hr hs ht
  refine wpIn_region_list ?_
  refine seqR_sound hT hE (k := k) _ (B := B) (fun ρ' h' w' => Below B w w') ρ h.next hr (fun _ _ _ _ _ _ g _ _ b => g.trans b) ?_ _ s h ρ w a (Nat.le_refl _) (Ext.refl _ _) (Below.refl _ _) hs ht hk
  intro ρ' s' h' w' a' h1 h2 h3 h4 h5 h6
  exact ⟨ρ', s', h', h1, h2, h4, h5, h3, hK _ _ h6⟩
end
end Go.Vex
