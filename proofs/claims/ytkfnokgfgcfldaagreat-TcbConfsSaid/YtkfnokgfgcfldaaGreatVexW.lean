/-
  VEX, part W: code as a statement about data: conditions, joins, loops, the end of a call; what works from nothing works from any heap.
-/
import Derived.Test.YtkfnokgfgcfldaaGreatVexV
set_option linter.unusedSimpArgs false
set_option linter.unusedVariables false
namespace Go.Vex
open Go.RowKit (Below)

/-! ### frames whose other slots are unknown -/

def fillAt : List Nat → List V → Tr V → Tr V
  | t :: ts, v :: vs, m => fillAt ts vs (m.set t (some v))
  | _, _, m => m

theorem fillAt_get (f : Nat → V) : ∀ (ts : List Nat) (m : Tr V) (u : Nat), (fillAt ts (ts.map f) m).get u = if u ∈ ts then some (f u) else m.get u
  | [], m, u => by simp [fillAt]
  | t :: ts, m, u => by
    simp only [List.map_cons, fillAt]
    rw [fillAt_get f ts, Tr.get_set]
    by_cases h1 : u ∈ ts
    · simp [h1]
    · by_cases h2 : u = t
      · subst h2; simp
      · simp [h1, h2]

/-- what is carried over a loop's head or a join: the slots that stay, those that turn, and the forms of what is in these -/
structure JT where
  keep : List Nat
  ms : List Nat
  zs : List V

def JT.st (j : JT) (s : St) (vs : List V) (bs : Nat → Option V) : St :=
  ⟨⟨fillAt j.keep (j.keep.map s.get) (fillAt j.ms vs .nil), bs⟩, s.sz, []⟩

/-- arrived: the slots that stay have stayed; 'k' of those that turn -/
def JT.arr (j : JT) (s0 s : St) (k : List V → Prop) : Prop :=
  j.keep.map s.get = j.keep.map s0.get ∧ bif Nat.beq s.sz s0.sz && (s.dfs.isEmpty && shpBs j.zs (j.ms.map s.get)) then k (j.ms.map s.get) else False

theorem JT.arr_spec {j : JT} {s0 s : St} {k : List V → Prop} (h : j.arr s0 s k) :
    j.keep.map s.get = j.keep.map s0.get ∧ s.sz = s0.sz ∧ s.dfs = [] ∧ shpBs j.zs (j.ms.map s.get) = true ∧ k (j.ms.map s.get) := by
  obtain ⟨h1, h2⟩ := h
  cases hb : (Nat.beq s.sz s0.sz && (s.dfs.isEmpty && shpBs j.zs (j.ms.map s.get))) with
  | false => rw [hb] at h2; exact h2.elim
  | true =>
    rw [hb] at h2
    simp only [Bool.and_eq_true, nbeq, List.isEmpty_iff] at hb
    exact ⟨h1, hb.1, hb.2.1, hb.2.2, h2⟩

def St.same (s s' : St) : Prop := (∀ t, s'.get t = s.get t) ∧ s'.sz = s.sz ∧ s'.dfs = s.dfs

theorem TRel.same {N : Nat} {ρ : Env} {s s' : St} {a : Act} (h : TRel N ρ s a) (e : St.same s s') : TRel N ρ s' a := by
  obtain ⟨e1, e2, e3⟩ := e
  refine ⟨by rw [e2]; exact h.1, fun t => by rw [e1]; exact h.2.1 t, fun d hd => h.2.2.1 d (by rwa [e3] at hd), by rw [e3]; exact h.2.2.2⟩

theorem XWp.same {P : Program} {ro : Option Nat} {c : Code} {K : XK} {s s' : St} {h : Hp} (e : St.same s s') (hw : XWp P ro c K s' h) : XWp P ro c K s h :=
  fun B ρ w a hr hs ht => hw B ρ w a hr hs (ht.same e)

theorem JT.same (j : JT) {s0 s : St} (hk : j.keep.map s.get = j.keep.map s0.get) (hz : s.sz = s0.sz) (hd : s.dfs = []) : St.same s (j.st s0 (j.ms.map s.get) fun t => some (s.get t)) := by
  have key : ∀ (m : Tr V) (bs : Nat → Option V) (sz : Nat) (t : Nat), St.get ⟨⟨m, bs⟩, sz, []⟩ t = match m.get t with | some v => v | none => (bs t).getD (.tup []) := by
    intro m bs sz t
    simp only [St.get, Tm.get]
    cases m.get t <;> rfl
  refine ⟨fun t => ?_, hz.symm, hd.symm⟩
  simp only [JT.st]
  rw [key, ← hk, fillAt_get s.get, fillAt_get s.get]
  by_cases h1 : t ∈ j.keep
  · simp [h1]
  · by_cases h2 : t ∈ j.ms
    · simp [h1, h2]
    · simp [h1, h2, Tr.get_nil]

def firstR : Code → Option Nat
  | .region id _ _ => some id
  | .seq a _ => firstR a
  | .block _ c => firstR c
  | .loop c => firstR c
  | .scope c => firstR c
  | _ => none

def jAt (J : Nat → Option JT) (c : Code) : Option JT :=
  match firstR c with
  | some r => J r
  | none => none

/-! ### rounds of a loop over a function -/

/-- the record of a loop over a function, by how it stands -/
structure LRec (rec : LoopState → Option Code → O) : Prop where
  ex : ∃ tm sz ps as bd d, rec = fun st pe => .loop st pe tm sz ps as bd d

/-- how a round ends -/
def roundX (l : Nat) (rec : LoopState → Option Code → O) (K : V → Hp → Prop) : XK
  | .normal, _, h => h.get l = some (rec .busy none) ∧ ∀ h', h' = h.set l (rec .ready none) → K (.bool true) h'
  | .ret, _, h => h.get l = some (rec .busy none) ∧ ∀ h', h' = h.set l (rec .done (some .ret)) → K (.bool false) h'
  | .exit i, _, h => h.get l = some (rec .busy none) ∧ ∀ h', h' = h.set l (rec .done (some (.exit i))) → K (.bool false) h'
  | .goto i, _, h => h.get l = some (rec .busy none) ∧ ∀ h', h' = h.set l (rec .done (some (.goto i))) → K (.bool false) h'
  | _, _, _ => False

/-- the type of what comes to slot p -/
def asgT (p : Nat) : Code → Option TypeId
  | .region _ ops _ => (ops.toList.find? fun o => match o.op with
    | .assign (.tmp q) => Nat.beq q p
    | .move (.tmp q) => Nat.beq q p
    | .box _ (.tmp q) => Nat.beq q p
    | .store _ _ (.tmp q) => Nat.beq q p
    | _ => false).map (fun o => match o.op with
    | .box t _ => t
    | .store t _ _ => t
    | _ => o.type)
  | .seq a b => match asgT p a with
    | some t => some t
    | none => asgT p b
  | _ => none

def allP (T : TT) : List (Option TypeId) → (List V → Prop) → Prop
  | [], k => k []
  | none :: ts, k => ∀ v : V, allP T ts fun l => k (v :: l)
  | some t :: ts, k => match T t with
    | some ti => match ti.zero with
      | some z => allS z fun v => allP T ts fun l => k (v :: l)
      | none => ∀ v : V, allP T ts fun l => k (v :: l)
    | none => ∀ v : V, allP T ts fun l => k (v :: l)

mutual
theorem allS_of : ∀ (z : V) {k : V → Prop}, (∀ v, k v) → allS z k
  | .bool _, _, h => by simp only [allS]; exact fun _ => h _
  | .int _ _, _, h => by simp only [allS]; exact fun _ => h _
  | .str _, _, h => by simp only [allS]; exact fun _ => h _
  | .ptr _, _, h => by simp only [allS]; exact fun _ => h _
  | .slc _ _ _, _, h => by simp only [allS]; exact fun _ _ _ => h _
  | .map _, _, h => by simp only [allS]; exact fun _ => h _
  | .cplx _ _ _, _, h => by simp only [allS]; exact fun _ _ => h _
  | .flt _ _, _, h => by simp only [allS]; exact fun _ => h _
  | .agg cs, _, h => by simp only [allS]; exact allSs_of cs fun _ => h _
  | .tup cs, _, h => by simp only [allS]; exact allSs_of cs fun _ => h _
  | .fn _ _ _, _, h => by simp only [allS]; exact h
  | .yld _, _, h => by simp only [allS]; exact h
  | .nilFn, _, h => by simp only [allS]; exact h
  | .ifc _ _, _, h => by simp only [allS]; exact h
  | .nilIfc, _, h => by simp only [allS]; exact h
theorem allSs_of : ∀ (zs : List V) {k : List V → Prop}, (∀ l, k l) → allSs zs k
  | [], _, h => by simp only [allSs]; exact h _
  | z :: zs, _, h => by simp only [allSs]; exact allS_of z fun v => allSs_of zs fun l => h _
end

theorem allP_of {T : TT} : ∀ (ts : List (Option TypeId)) {k : List V → Prop}, (∀ l, l.length = ts.length → k l) → allP T ts k
  | [], _, h => h [] rfl
  | none :: ts, k, h => fun v => allP_of ts fun l hl => h _ (by simp [hl])
  | some t :: ts, k, h => by
    simp only [allP]
    split
    · split
      · exact allS_of _ fun v => allP_of ts fun l hl => h _ (by simp [hl])
      · exact fun v => allP_of ts fun l hl => h _ (by simp [hl])
    · exact fun v => allP_of ts fun l hl => h _ (by simp [hl])

/-- the jumps out of a round -/
def addC (c : Code) (l : List Code) : List Code :=
  bif l.any (fun d => match c, d with
    | .ret, .ret => true
    | .exit i, .exit j => Nat.beq i j
    | .goto i, .goto j => Nat.beq i j
    | _, _ => false) then l else c :: l

def jumps : Code → List Code → List Code
  | .exit i, l => addC (.exit i) l
  | .goto i, l => addC (.goto i) l
  | .ret, l => addC .ret l
  | .seq x y, l => jumps x (jumps y l)
  | .cond _ x y, l => jumps x (jumps y l)
  | .block _ c, l => jumps c l
  | .loop c, l => jumps c l
  | .scope c, l => jumps c l
  | _, l => l

def jumpX (K : XK) (s : St) (h : Hp) : Code → Prop
  | .ret => K .ret s h
  | .exit i => K (.exit i) s h
  | .goto i => K (.goto i) s h
  | _ => False

def overJ (l : Nat) (rec : LoopState → Option Code → O) (K : XK) (s : St) (h : Hp) : List Code → Prop
  | [] => False
  | c :: r => (h.get l = some (rec .done (some c)) ∧ ∀ h', h' = h.set l (rec .exhausted (some c)) → jumpX K s h' c) ∨ overJ l rec K s h r

/-- what comes behind the function that was ranged over -/
def overX (l : Nat) (rec : LoopState → Option Code → O) (js : List Code) (K : XK) (s : St) : V → Hp → Prop := fun _ h =>
  (h.get l = some (rec .ready none) ∧ ∀ h', h' = h.set l (rec .exhausted none) → K .normal s h') ∨ overJ l rec K s h js

/-- the first label of a scope -/
def labelIn : Code → Option Nat
  | .seq a b => match labelIn a with
    | some l => some l
    | none => labelIn b
  | .label l => some l
  | _ => none

/-- ends of a scope's code: a jump to its label is told 'J' -/
def gotoK (c : Code) (l : Nat) (J : St → Hp → Prop) (K : XK) : XK
  | .goto t, s, h => bif Nat.beq t l then J s h else match findLabel c t with
    | none => K (.goto t) s h
    | some _ => False
  | e, s, h => K e s h

mutual
def evX (P : Program) (T : TT) (F : FTab) (ro : Option Nat) (JL JJ : Nat → Option JT) : Code → St → Hp → XK → Prop
  | .skip, s, h, K => K .normal s h
  | .label _, s, h, K => K .normal s h
  | .exit i, s, h, K => K (.exit i) s h
  | .goto l, s, h, K => K (.goto l) s h
  | .ret, s, h, K => K .ret s h
  | .seq x y, s, h, K => match jAt JJ y with
    | none => evX P T F ro JL JJ x s h (thenK (fun s h => evX P T F ro JL JJ y s h K) K)
    | some j => ∃ Q : List V → Hp → Prop, evX P T F ro JL JJ x s h (thenK (fun s' h' => j.arr s s' fun vs => Q vs h') K) ∧
        ∀ bs, allSs j.zs fun vs => ∀ h, Q vs h → evX P T F ro JL JJ y (j.st s vs bs) h K
  | .cond c x y, s, h, K => match s.ev c with
    | some (.bool b) => bif b then evX P T F ro JL JJ x s h K else evX P T F ro JL JJ y s h K
    | _ => False
  | .block id c, s, h, K => evX P T F ro JL JJ c s h (blockK id K)
  | .region id ops false, s, h, K => opsX P T F ro ops (gslots ops ops.toList) ops.toList s h (fun s h => K .normal s h)
  | .region id ops true, s, h, K => drawY P T F ro ops s h (fun s h => K .normal s h)
  | .loop c, s, h, K => match jAt JL c with
    | none => XWp P ro (.loop c) K s h
    | some j => ∃ (I : List V → Hp → Prop) (μ : List V → Hp → Nat), (j.arr s s fun vs => I vs h) ∧
        ∀ bs, allSs j.zs fun vs => ∀ h, I vs h → evX P T F ro JL JJ c (j.st s vs bs) h (thenK (fun s' h' => j.arr s s' fun ws => I ws h' ∧ μ ws h' < μ vs h) K)
  | .scope c, s, h, K => match labelIn c with
    | none => XWp P ro (.scope c) K s h
    | some l => match JL (1000000 + l), findLabel c l with
      | some j, some _ => ∃ (I : List V → Hp → Prop) (μ : List V → Hp → Nat) (N : Nat), evX P T F ro JL JJ c s h (gotoK c l (fun s' h' => j.arr s s' fun vs => I vs h' ∧ μ vs h' < N) K) ∧
          ∀ bs, allSs j.zs fun vs => ∀ h, I vs h → evAt P T F ro JL JJ l c (j.st s vs bs) h (gotoK c l (fun s' h' => j.arr s s' fun ws => I ws h' ∧ μ ws h' < μ vs h) K)
      | _, _ => XWp P ro (.scope c) K s h
  | .rangeFunc g ps as bd, s, h, K => match ro, s.ev g with
    | none, some (.fn (.func f) first cap) => match F f with
      | some _ => ∀ rec, LRec rec → ∀ h', h' = (h.alloc (.dfr true)).alloc (rec .ready none) →
          (allP T (ps.toList.map fun p => asgT p as) fun vs => ∀ (h1 : Hp) (K1 : V → Hp → Prop), h1.get (h.next + 1) = some (rec .ready none) →
            evX P T F (some (h.next + 1)) JL JJ as ⟨fillParams ps.toList vs s.tr s.sz, s.sz, []⟩ h1 (thenK (fun s1 h2 => h2.get (h.next + 1) = some (rec .ready none) ∧
              ∀ h3, h3 = h2.set (h.next + 1) (rec .busy none) → evX P T F (some (h.next + 1)) JL JJ bd s1 h3 (roundX (h.next + 1) rec K1)) fun _ _ _ => False) →
            XYield P (h.next + 1) vs h1 K1) →
          XCalls P f (first ++ [.yld (h.next + 1)] ++ cap) h' (overX (h.next + 1) rec (jumps bd []) K ⟨s.tr, s.sz, h.next :: s.dfs⟩)
      | none => False
    | _, _ => XWp P ro (.rangeFunc g ps as bd) K s h
  | .refuse y, s, h, K => False
termination_by structural c => c

/-- from a label on -/
def evAt (P : Program) (T : TT) (F : FTab) (ro : Option Nat) (JL JJ : Nat → Option JT) (l : Nat) : Code → St → Hp → XK → Prop
  | .seq a b, s, h, K => match findLabel a l with
    | some _ => evAt P T F ro JL JJ l a s h (thenK (fun s h => evX P T F ro JL JJ b s h K) K)
    | none => evAt P T F ro JL JJ l b s h K
  | .label _, s, h, K => K .normal s h
  | _, _, _, _ => False
termination_by structural c => c
end

section
variable {P : Program} {T : TT} {F : FTab} {ro : Option Nat} {JL JJ : Nat → Option JT}

omit T F JL JJ in
theorem overJ_ex {l : Nat} {rec : LoopState → Option Code → O} {K : XK} {s : St} {h : Hp} : ∀ {js : List Code}, overJ l rec K s h js → ∃ c, h.get l = some (rec .done (some c)) ∧ ∀ h', h' = h.set l (rec .exhausted (some c)) → jumpX K s h' c
  | [], hx => hx.elim
  | c :: r, hx => by
    rcases hx with hx | hx
    · exact ⟨c, hx⟩
    · exact overJ_ex hx

omit T F JL JJ in
theorem jumpX_sound {K : XK} {s : St} {h : Hp} {c : Code} (hx : jumpX K s h c) : XWp P ro c K s h := by
  cases c <;> first | exact hx.elim | (exact XWp.ret hx) | (exact XWp.exit hx) | (exact XWp.goto hx)

omit T F JL JJ in
theorem XWp.scopeInv {c rest : Code} {l : Nat} {K : XK} {s : St} {h : Hp} (hf : findLabel c l = some rest) (I : St → Hp → Prop) (μ : St → Hp → Nat) (N : Nat)
    (first : XWp P ro c (gotoK c l (fun s h => I s h ∧ μ s h < N) K) s h) (round : ∀ s h, I s h → XWp P ro rest (gotoK c l (fun s' h' => I s' h' ∧ μ s' h' < μ s h) K) s h) : XWp P ro (.scope c) K s h := by
  have key : ∀ m s h, I s h → μ s h < m → XScope P ro c K m rest s h := by
    intro m
    induction m with
    | zero => intro s h _ hm; omega
    | succ m ih =>
      intro s h hI hm
      refine XWp.mono (round s h hI) fun e s' h' hh => ?_
      cases e with
      | goto t =>
        simp only [gotoK] at hh
        simp only [scopeK]
        cases hb : Nat.beq t l with
        | true =>
          obtain rfl := Nat.eq_of_beq_eq_true hb
          rw [hb] at hh
          rw [hf]
          exact ih s' h' hh.1 (by have := hh.2; omega)
        | false =>
          rw [hb] at hh
          simp only [cond_false] at hh
          split at hh
          · rename_i hn; rw [hn]; exact hh
          · exact hh.elim
      | normal => exact hh
      | exit i => exact hh
      | ret => exact hh
      | panic p => exact hh
      | outgrown => exact hh
  refine XWp.scope (N + 1) (XWp.mono first fun e s' h' hh => ?_)
  cases e with
  | goto t =>
    simp only [gotoK] at hh
    simp only [scopeK]
    cases hb : Nat.beq t l with
    | true =>
      obtain rfl := Nat.eq_of_beq_eq_true hb
      rw [hb] at hh
      rw [hf]
      exact key N s' h' hh.1 hh.2
    | false =>
      rw [hb] at hh
      simp only [cond_false] at hh
      split at hh
      · rename_i hn; rw [hn]; exact hh
      · exact hh.elim
  | normal => exact hh
  | exit i => exact hh
  | ret => exact hh
  | panic p => exact hh
  | outgrown => exact hh

omit T F JL JJ in
theorem gotoK_mono {c : Code} {l : Nat} {J J' : St → Hp → Prop} {K : XK} (hj : ∀ s h, J s h → J' s h) : ∀ e s h, gotoK c l J K e s h → gotoK c l J' K e s h
  | .goto t, s, h, hx => by
    simp only [gotoK] at hx ⊢
    cases hb : Nat.beq t l with
    | true => rw [hb] at hx; exact hj _ _ hx
    | false => rw [hb] at hx; exact hx
  | .normal, _, _, hx => hx
  | .exit _, _, _, hx => hx
  | .ret, _, _, hx => hx
  | .panic _, _, _, hx => hx
  | .outgrown, _, _, hx => hx

mutual
theorem evX_sound (hT : TTok P T) (hF : FOK P F) (hm : P.follows .mixedOrders = true) : ∀ (c : Code) {ro : Option Nat} {s : St} {h : Hp} {K : XK}, evX P T F ro JL JJ c s h K → XWp P ro c K s h
  | .skip, _, _, _, _, hx => XWp.skip hx
  | .label _, _, _, _, _, hx => XWp.label hx
  | .exit _, _, _, _, _, hx => XWp.exit hx
  | .goto _, _, _, _, _, hx => XWp.goto hx
  | .ret, _, _, _, _, hx => XWp.ret hx
  | .seq x y, ro, s, h, K, hx => by
    simp only [evX] at hx
    split at hx
    · exact XWp.seq ((evX_sound hT hF hm x hx).mono (thenK_mono fun _ _ hh => evX_sound hT hF hm y hh))
    · rename_i j hj
      obtain ⟨Q, h1, h2⟩ := hx
      refine XWp.seq ((evX_sound hT hF hm x h1).mono (thenK_mono fun s' h' hh => ?_))
      obtain ⟨g1, g2, g3, g4, g5⟩ := JT.arr_spec hh
      exact XWp.same (j.same g1 g2 g3) (evX_sound hT hF hm y (allSs_spec _ _ (h2 _) g4 _ g5))
  | .cond c x y, ro, s, h, K, hx => by
    simp only [evX] at hx
    split at hx
    · rename_i b hb
      refine XWp.cond hb ?_
      cases b with
      | true => exact evX_sound hT hF hm x hx
      | false => exact evX_sound hT hF hm y hx
    · exact hx.elim
  | .block id c, _, _, _, _, hx => XWp.block (evX_sound hT hF hm c hx)
  | .region id ops false, ro, s, h, K, hx => XWp.region hT Eff.ask_sound (opsX_sound hT hF _ _ _ hx) fun s h hh => by simpa using hh
  | .region id ops true, ro, s, h, K, hx => drawY_sound hT hF hm hx fun s h hh => hh
  | .loop c, ro, s, h, K, hx => by
    simp only [evX] at hx
    split at hx
    · exact hx
    · rename_i j hj
      obtain ⟨I, μ, h0, h1⟩ := hx
      obtain ⟨g1, g2, g3, g4, g5⟩ := JT.arr_spec h0
      refine XWp.loop (fun s' h' => j.keep.map s'.get = j.keep.map s.get ∧ s'.sz = s.sz ∧ s'.dfs = [] ∧ shpBs j.zs (j.ms.map s'.get) = true ∧ I (j.ms.map s'.get) h')
        (fun s' h' => μ (j.ms.map s'.get) h') ⟨rfl, rfl, g3, g4, g5⟩ ?_
      rintro s1 h' ⟨e1, e2, e3, e4, e5⟩
      refine XWp.same (j.same e1 e2 e3) ((evX_sound hT hF hm c (allSs_spec _ _ (h1 _) e4 _ e5)).mono (thenK_mono fun s2 h2 hh => ?_))
      obtain ⟨f1, f2, f3, f4, f5, f6⟩ := JT.arr_spec hh
      exact ⟨⟨f1, f2, f3, f4, f5⟩, f6⟩
  | .scope c, ro, s, h, K, hx => by
    simp only [evX] at hx
    split at hx
    · exact hx
    · rename_i l hl
      split at hx
      · rename_i j rest hj hf
        obtain ⟨I, μ, N, h0, h1⟩ := hx
        refine XWp.scopeInv hf (fun s' h' => j.keep.map s'.get = j.keep.map s.get ∧ s'.sz = s.sz ∧ s'.dfs = [] ∧ shpBs j.zs (j.ms.map s'.get) = true ∧ I (j.ms.map s'.get) h')
          (fun s' h' => μ (j.ms.map s'.get) h') N ((evX_sound hT hF hm c h0).mono (gotoK_mono fun s' h' hh => ?_)) ?_
        · obtain ⟨g1, g2, g3, g4, g5, g6⟩ := JT.arr_spec hh
          exact ⟨⟨g1, g2, g3, g4, g5⟩, g6⟩
        · rintro s1 h' ⟨e1, e2, e3, e4, e5⟩
          refine XWp.same (j.same e1 e2 e3) ((evAt_sound hT hF hm c hf (allSs_spec _ _ (h1 _) e4 _ e5)).mono (gotoK_mono fun s2 h2 hh => ?_))
          obtain ⟨f1, f2, f3, f4, f5, f6⟩ := JT.arr_spec hh
          exact ⟨⟨f1, f2, f3, f4, f5⟩, f6⟩
      · exact hx
  | .rangeFunc g ps as bd, ro, s, h, K, hx => by
    simp only [evX] at hx
    split at hx
    · rename_i f first cap hg
      split at hx
      · rename_i fn hf
        have hrec : LRec fun st pe => O.loop st pe s.tr s.sz ps.toList as bd h.next := ⟨_, _, _, _, _, _, rfl⟩
        refine XWp.rangeFunc hF hg hf ((hx _ hrec _ rfl (allP_of _ fun vs hl => ?_)).mono fun v h1 hh => ?_)
        · intro h1 K1 hr1 hev ro o ev f args ats ho hf hv
          refine XOp.yield ho hf hv hr1 (by simpa using hl) ?_
          refine (evX_sound hT hF hm as hev).mono fun e s1 h2 hh => ?_
          cases e <;> try exact hh.elim
          obtain ⟨h3, h4⟩ := hh
          refine ⟨none, _, by unfold loopTo; rw [h3]; rfl, ?_⟩
          refine (evX_sound hT hF hm bd (h4 _ rfl)).mono fun e s2 h5 hh => ?_
          cases e with
          | normal => obtain ⟨h6, h7⟩ := hh; exact ⟨none, _, by unfold loopTo; rw [h6]; rfl, h7 _ rfl⟩
          | ret => obtain ⟨h6, h7⟩ := hh; exact ⟨none, _, by unfold loopTo; rw [h6]; rfl, h7 _ rfl⟩
          | exit i => obtain ⟨h6, h7⟩ := hh; exact ⟨none, _, by unfold loopTo; rw [h6]; rfl, h7 _ rfl⟩
          | goto i => obtain ⟨h6, h7⟩ := hh; exact ⟨none, _, by unfold loopTo; rw [h6]; rfl, h7 _ rfl⟩
          | panic c => exact hh.elim
          | outgrown => exact hh.elim
        · rcases hh with ⟨h2, h3⟩ | hh
          · exact ⟨none, _, by unfold loopTo; rw [h2]; rfl, h3 _ rfl⟩
          · obtain ⟨c, h2, h3⟩ := overJ_ex hh
            refine ⟨some c, _, by unfold loopTo; rw [h2]; rfl, jumpX_sound (h3 _ rfl)⟩
      · exact hx.elim
    · exact hx
  | .refuse _, _, _, _, _, hx => hx.elim
termination_by structural c => c

theorem evAt_sound (hT : TTok P T) (hF : FOK P F) (hm : P.follows .mixedOrders = true) {l : Nat} : ∀ (c : Code) {rest : Code} {ro : Option Nat} {s : St} {h : Hp} {K : XK}, findLabel c l = some rest → evAt P T F ro JL JJ l c s h K → XWp P ro rest K s h
  | .seq a b, rest, ro, s, h, K, hf, hx => by
    simp only [evAt] at hx
    simp only [findLabel] at hf
    split at hx
    · rename_i r hr
      rw [hr] at hf
      cases hf
      exact XWp.seq ((evAt_sound hT hF hm a hr hx).mono (thenK_mono fun _ _ hh => evX_sound hT hF hm b hh))
    · rename_i hr
      rw [hr] at hf
      exact evAt_sound hT hF hm b hf hx
  | .label l', rest, ro, s, h, K, hf, hx => by
    simp only [findLabel] at hf
    split at hf
    · cases hf; exact XWp.skip hx
    · cases hf
  | .skip, _, _, _, _, _, _, hx => hx.elim
  | .exit _, _, _, _, _, _, _, hx => hx.elim
  | .goto _, _, _, _, _, _, _, hx => hx.elim
  | .ret, _, _, _, _, _, _, hx => hx.elim
  | .cond _ _ _, _, _, _, _, _, _, hx => hx.elim
  | .block _ _, _, _, _, _, _, _, hx => hx.elim
  | .region _ _ _, _, _, _, _, _, _, hx => hx.elim
  | .loop _, _, _, _, _, _, _, hx => hx.elim
  | .scope _, _, _, _, _, _, _, hx => hx.elim
  | .rangeFunc _ _ _ _, _, _, _, _, _, _, hx => hx.elim
  | .refuse _, _, _, _, _, _, _, hx => hx.elim
termination_by structural c => c
end

/-- how a function's body ends -/
def resvX (T : TT) (h : Hp) (s : St) : List ResultVar → (List V → Prop) → Prop
  | [], k => k []
  | .tmp t :: r, k => resvX T h s r fun l => k (s.get t :: l)
  | .cell a t :: r, k => quietX T h s.ev (.load t (.tmp a)) fun v => resvX T h s r fun l => k (v :: l)

def leaveX (T : TT) (fn : Func) (K : V → Hp → Prop) (s : St) (h : Hp) : Prop :=
  match s.dfs with
  | [] => resvX T h s fn.results.toList fun l => match l with
    | [v] => K v h
    | l => K (.tup l) h
  | ds => ∃ h', shut ds h = some h' ∧ resvX T h' s fn.results.toList fun l => match l with
    | [v] => K v h'
    | l => K (.tup l) h'

def retX (T : TT) (fn : Func) (K : V → Hp → Prop) : XK
  | .normal, s, h => leaveX T fn K s h
  | .ret, s, h => leaveX T fn K s h
  | _, _, _ => False

theorem resvX_sound {h : Hp} {s : St} : ∀ {rs : List ResultVar} {k : List V → Prop}, resvX T h s rs k → ∃ l, xres T h s rs = some l ∧ k l
  | [], k, hx => ⟨[], rfl, hx⟩
  | .tmp t :: r, k, hx => by
    obtain ⟨l, hl, hk⟩ := resvX_sound (rs := r) hx
    exact ⟨_, by simp only [xres, hl]; rfl, hk⟩
  | .cell a t :: r, k, hx => by
    obtain ⟨v, hv, hx⟩ := quietX_sound hx
    obtain ⟨l, hl, hk⟩ := resvX_sound (rs := r) hx
    have hv' : xload T h t (s.get a) = some v := by simpa [xq, St.ev] using hv
    exact ⟨_, by simp only [xres, hl, hv'], hk⟩

theorem retX_sound {fn : Func} {K : V → Hp → Prop} : ∀ e s h, retX T fn K e s h → retK T fn K e s h := by
  intro e s h hx
  have key : leaveX T fn K s h → ∃ h' v, shut s.dfs h = some h' ∧ xresults T h' s fn.results.toList = some v ∧ K v h' := by
    intro hx
    have hx : ∃ h', shut s.dfs h = some h' ∧ resvX T h' s fn.results.toList fun l => match l with
        | [v] => K v h'
        | l => K (.tup l) h' := by
      unfold leaveX at hx
      split at hx
      · rename_i hs; rw [hs]; exact ⟨h, rfl, hx⟩
      · exact hx
    · obtain ⟨h', hs, hx⟩ := hx
      obtain ⟨l, hl, hk⟩ := resvX_sound hx
      cases l with
      | nil => exact ⟨h', .tup [], hs, by simp [xresults, hl], hk⟩
      | cons v r =>
        cases r with
        | nil => exact ⟨h', v, hs, by simp [xresults, hl], hk⟩
        | cons u r => exact ⟨h', .tup (v :: u :: r), hs, by simp [xresults, hl], hk⟩
  cases e with
  | normal => exact ⟨.inl rfl, key hx⟩
  | ret => exact ⟨.inr rfl, key hx⟩
  | _ => exact hx.elim

/-- A FUNCTION, as a statement about data -/
def fnX (P : Program) (T : TT) (F : FTab) (JL JJ : Nat → Option JT) (fn : Func) (vs : List V) (h : Hp) (K : V → Hp → Prop) : Prop :=
  match fn.body with
  | some c => evX P T F none JL JJ c (St.enter vs fn.ntmps) h (retX T fn K)
  | none => False

theorem XCalls.ofX (hT : TTok P T) (hF : FOK P F) (hm : P.follows .mixedOrders = true) {f : FuncId} {fn : Func} {vs : List V} {h : Hp} {K : V → Hp → Prop} (hf : P.funcs[f]? = some fn)
    (hx : fnX P T F JL JJ fn vs h K) : XCalls P f vs h K := by
  unfold fnX at hx
  split at hx
  · rename_i c hc
    exact XCalls.body hT hf hc ((evX_sound hT hF hm c hx).mono retX_sound)
  · exact hx.elim

/-! ### from a heap that knows of nothing -/

mutual
def V.noRef : V → Bool
  | .bool _ | .int _ _ | .str _ | .ptr none | .slc none _ _ | .map none | .nilFn | .nilIfc | .cplx _ _ _ | .flt _ _ => true
  | .agg cs => V.noRefs cs
  | .tup cs => V.noRefs cs
  | _ => false
def V.noRefs : List V → Bool
  | [] => true
  | v :: vs => v.noRef && V.noRefs vs
end

mutual
theorem VR.noRef {N N' : Nat} {ρ ρ' : Env} : ∀ {v : V} {x : Value}, v.noRef = true → VR N ρ v x → VR N' ρ' v x
  | .bool _, _, _, h => h
  | .int _ _, _, _, h => h
  | .str _, _, _, h => h
  | .ptr none, _, _, h => h
  | .ptr (some _), _, e, _ => by simp [V.noRef] at e
  | .slc none _ _, _, _, h => h
  | .slc (some _) _ _, _, e, _ => by simp [V.noRef] at e
  | .map none, _, _, h => h
  | .map (some _), _, e, _ => by simp [V.noRef] at e
  | .fn _ _ _, _, e, _ => by simp [V.noRef] at e
  | .yld _, _, e, _ => by simp [V.noRef] at e
  | .nilFn, _, _, h => h
  | .ifc _ _, _, e, _ => by simp [V.noRef] at e
  | .nilIfc, _, _, h => h
  | .agg _, _, e, h => by
    obtain ⟨xs, hx, hy⟩ := h
    exact ⟨xs, hx, VRs.noRef (by simpa [V.noRef] using e) hy⟩
  | .tup _, _, e, h => by
    obtain ⟨xs, hx, hy⟩ := h
    exact ⟨xs, hx, VRs.noRef (by simpa [V.noRef] using e) hy⟩
  | .cplx _ _ _, _, _, h => h
  | .flt _ _, _, _, h => h
theorem VRs.noRef {N N' : Nat} {ρ ρ' : Env} : ∀ {vs : List V} {xs : List Value}, V.noRefs vs = true → VRs N ρ vs xs → VRs N' ρ' vs xs
  | [], _, _, h => h
  | _ :: _, _, e, h => by
    obtain ⟨x, r, hx, h1, h2⟩ := h
    simp only [V.noRefs, Bool.and_eq_true] at e
    exact ⟨x, r, hx, VR.noRef e.1 h1, VRs.noRef e.2 h2⟩
end

/-- WHAT IS TRUE FROM NOTHING is true from any heap: of a call whose arguments and answer lead nowhere. -/
theorem XCalls.fresh {f : FuncId} {vs : List V} {h : Hp} {K : V → Prop} (ha : V.noRefs vs = true) (hk : ∀ v, K v → v.noRef = true) (hx : XCalls P f vs h0 fun v _ => K v) :
    XCalls P f vs h fun v h' => K v ∧ h'.next = h.next := by
  intro B ρ w args hs hv
  have hs0 : Sat B ρ h0 w := ⟨fun i o h => by simp [h0, Hp.get, Tr.get] at h, fun i j o p h => by simp [h0, Hp.get, Tr.get] at h, hs.base⟩
  refine (hx B ρ w args hs0 (VRs.noRef ha hv)).mono fun e w' hp => ?_
  obtain ⟨z, he, v, ρ', h', h1, h2, h3, h4, h5, h6⟩ := hp
  exact ⟨z, he, v, ρ, ⟨.nil, h.next⟩, Nat.le_refl _, Ext.refl _ _, ⟨fun i o h => by simp [Hp.get, Tr.get] at h, fun i j o p h => by simp [Hp.get, Tr.get] at h, h3.base⟩,
    VR.noRef (hk v h6) h4, h5, h6, rfl⟩

/-- .. and leaves that heap as it is: all of it lies below the call's own blocks. -/
theorem XCalls.aside {f : FuncId} {vs : List V} {h : Hp} {K : V → Prop} (ha : V.noRefs vs = true) (hk : ∀ v, K v → v.noRef = true) (hx : XCalls P f vs h0 fun v _ => K v) :
    XCalls P f vs h fun v h' => K v ∧ h' = h := by
  intro B ρ w args hs hv
  have hs0 : Sat w.heap.size ρ h0 w := ⟨fun i o h => by simp [h0, Hp.get, Tr.get] at h, fun i j o p h => by simp [h0, Hp.get, Tr.get] at h, Nat.le_refl _⟩
  refine (hx w.heap.size ρ w args hs0 (VRs.noRef ha hv)).mono fun e w' hp => ?_
  obtain ⟨z, he, v, ρ', h', h1, h2, h3, h4, h5, h6⟩ := hp
  refine ⟨z, he, v, ρ, h, Nat.le_refl _, Ext.refl _ _, ⟨fun i o hi => ?_, hs.sep, Nat.le_trans hs.base h5.size⟩, VR.noRef (hk v h6) h4, ⟨h5.os, h5.tape, h5.output, h5.size, fun k hk => h5.block k (Nat.lt_of_lt_of_le hk hs.base)⟩, h6, rfl⟩
  obtain ⟨q1, q2⟩ := hs.obj i o hi
  exact ⟨q1, q2.keep (Nat.le_refl _) (Ext.refl _ _) (h5.block _ q2.lt)⟩
end
end Go.Vex
