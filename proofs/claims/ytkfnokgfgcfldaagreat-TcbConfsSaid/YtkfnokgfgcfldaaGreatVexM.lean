/-
  VEX, part M: code, over the abstract heap: 'XWp' and its rules.
-/
import Derived.Test.YtkfnokgfgcfldaaGreatVexL
import Derived.CallsIn
import Derived.LoopNIn
import Derived.RangeFuncCalls
import Derived.RangeFuncRecord
set_option linter.unusedSimpArgs false
set_option linter.unusedVariables false
namespace Go.Vex
open Go.RowKit (Below)

/-- the open fence, in a round of the loop whose record lies in block l -/
def FW (r : Option Nat) : Fence := { Fence.wide with round := r }

theorem FW_room (r : Option Nat) (n : Nat) : (FW r).room n := fun d h => by cases h
theorem FW_depth (r : Option Nat) : (FW r).depth.isSome = true → 1 ≤ 0 := fun h => by cases h

abbrev XK := Exit → St → Hp → Prop

/-- what is asked of a world at the end: it holds some heap at which 'K' holds -/
def Post (B : Nat) (w0 : World) (N0 : Nat) (ρ0 : Env) (K : XK) : Exit → Act → World → Prop := fun e a w =>
  ∃ ρ s h, N0 ≤ h.next ∧ Ext N0 ρ0 ρ ∧ Sat B ρ h w ∧ TRel h.next ρ s a ∧ Below B w0 w ∧ K e s h

theorem Post.mono {B : Nat} {w0 : World} {N0 : Nat} {ρ0 : Env} {K K' : XK} (h : ∀ e s h, K e s h → K' e s h) {e : Exit} {a : Act} {w : World} (hp : Post B w0 N0 ρ0 K e a w) : Post B w0 N0 ρ0 K' e a w :=
  let ⟨ρ, s, hh, h1, h2, h3, h4, h5, h6⟩ := hp
  ⟨ρ, s, hh, h1, h2, h3, h4, h5, h _ _ _ h6⟩

theorem Post.later {B : Nat} {w0 w1 : World} {N0 N1 : Nat} {ρ0 ρ1 : Env} {K : XK} (hN : N0 ≤ N1) (he : Ext N0 ρ0 ρ1) (hb : Below B w0 w1) {e : Exit} {a : Act} {w : World} (hp : Post B w1 N1 ρ1 K e a w) : Post B w0 N0 ρ0 K e a w :=
  let ⟨ρ, s, hh, h1, h2, h3, h4, h5, h6⟩ := hp
  ⟨ρ, s, hh, Nat.le_trans hN h1, he.trans h2 hN, h3, h4, hb.trans h5, h6⟩

/-- the fence of a frame: 'ro': the record of the loop of which the frame is a round -/
def fen (ρ : Env) (ro : Option Nat) : Fence := FW (ro.map fun l => (ρ l).blk)

theorem fen_ext {N : Nat} {ρ ρ' : Env} (he : Ext N ρ ρ') {ro : Option Nat} (hr : ∀ l, ro = some l → l < N) : fen ρ' ro = fen ρ ro := by
  unfold fen
  cases ro with
  | none => rfl
  | some l => simp only [Option.map_some]; rw [he l (hr l rfl)]

/-- CODE: from every world that holds the heap it comes to an end at which 'K' holds. -/
def XWp (P : Program) (ro : Option Nat) (c : Code) (K : XK) (s : St) (h : Hp) : Prop :=
  ∀ B ρ w a, (∀ l, ro = some l → l < h.next) → Sat B ρ h w → TRel h.next ρ s a → c.wpIn (fen ρ ro) 0 P (Post B w h.next ρ K) a w

section
variable {P : Program} {ro : Option Nat} {K K' : XK} {s : St} {h : Hp}

theorem XWp.mono {c : Code} (hw : XWp P ro c K s h) (hk : ∀ e s h, K e s h → K' e s h) : XWp P ro c K' s h :=
  fun B ρ w a hr hs ht => wpIn_mono (hw B ρ w a hr hs ht) fun _ _ _ hp => hp.mono hk

theorem Post.now {B : Nat} {ρ : Env} {w : World} {a : Act} {e : Exit} (hs : Sat B ρ h w) (ht : TRel h.next ρ s a) (hk : K e s h) : Post B w h.next ρ K e a w :=
  ⟨ρ, s, h, Nat.le_refl _, Ext.refl _ _, hs, ht, Below.refl _ _, hk⟩

theorem XWp.skip (hk : K .normal s h) : XWp P ro .skip K s h := fun B ρ w a hr hs ht => wpIn_skip (Post.now hs ht hk)
theorem XWp.label {l : Nat} (hk : K .normal s h) : XWp P ro (.label l) K s h := fun B ρ w a hr hs ht => wpIn_label (Post.now hs ht hk)
theorem XWp.exit {i : Nat} (hk : K (.exit i) s h) : XWp P ro (.exit i) K s h := fun B ρ w a hr hs ht => wpIn_exit (Post.now hs ht hk)
theorem XWp.goto {l : Nat} (hk : K (.goto l) s h) : XWp P ro (.goto l) K s h := fun B ρ w a hr hs ht => wpIn_goto (Post.now hs ht hk)
theorem XWp.ret (hk : K .ret s h) : XWp P ro .ret K s h := fun B ρ w a hr hs ht => wpIn_ret (Post.now hs ht hk)

/-- what comes behind: where it goes on, 'next'; else 'K' -/
def thenK (next : St → Hp → Prop) (K : XK) : XK
  | .normal, s, h => next s h
  | e, s, h => K e s h

theorem XWp.seq {x y : Code} (hx : XWp P ro x (thenK (XWp P ro y K) K) s h) : XWp P ro (.seq x y) K s h := by
  intro B ρ w a hr hs ht
  refine wpIn_seq (wpIn_mono (hx B ρ w a hr hs ht) fun e a' w' hp => ?_)
  obtain ⟨ρ', s', h', h1, h2, h3, h4, h5, h6⟩ := hp
  cases e with
  | normal =>
    have hr' : ∀ l, ro = some l → l < h'.next := fun l hl => Nat.lt_of_lt_of_le (hr l hl) h1
    have := h6 B ρ' w' a' hr' h3 h4
    rw [fen_ext h2 hr] at this
    exact wpIn_mono this fun _ _ _ hp => hp.later h1 h2 h5
  | _ => exact ⟨ρ', s', h', h1, h2, h3, h4, h5, h6⟩

theorem XWp.cond {c : Operand} {x y : Code} {t : Bool} (hc : s.ev c = some (.bool t)) (hk : XWp P ro (if t then x else y) K s h) : XWp P ro (.cond c x y) K s h :=
  fun B ρ w a hr hs ht => wpIn_cond (show a.eval c = .bool t from ht.ev c _ hc) (hk B ρ w a hr hs ht)

def blockK (id : Nat) (K : XK) : XK
  | .exit i, s, h => if i = id then K .normal s h else K (.exit i) s h
  | e, s, h => K e s h

theorem XWp.block {id : Nat} {c : Code} (hk : XWp P ro c (blockK id K) s h) : XWp P ro (.block id c) K s h := by
  intro B ρ w a hr hs ht
  refine wpIn_block (wpIn_mono (hk B ρ w a hr hs ht) fun e a' w' hp => ?_)
  obtain ⟨ρ', s', h', h1, h2, h3, h4, h5, h6⟩ := hp
  cases e with
  | exit i =>
    simp only [Exit.inBlock]
    simp only [blockK] at h6
    split
    · rename_i e; rw [if_pos e] at h6; exact ⟨ρ', s', h', h1, h2, h3, h4, h5, h6⟩
    · rename_i e; rw [if_neg e] at h6; exact ⟨ρ', s', h', h1, h2, h3, h4, h5, h6⟩
  | _ => exact ⟨ρ', s', h', h1, h2, h3, h4, h5, h6⟩

/-! ### loops -/

def XLoop (P : Program) (ro : Option Nat) (c : Code) (K : XK) : Nat → St → Hp → Prop
  | 0, _, _ => False
  | m + 1, s, h => XWp P ro c (thenK (XLoop P ro c K m) K) s h

theorem XWp.rounds {c : Code} (m : Nat) (hm : XLoop P ro c K m s h) : XWp P ro (.loop c) K s h := by
  intro B ρ0 w0 a0 hr hs ht
  refine wpIn_loop_rounds m ?_
  have key : ∀ m s' h' ρ w a, h.next ≤ h'.next → Ext h.next ρ0 ρ → Below B w0 w → XLoop P ro c K m s' h' → Sat B ρ h' w → TRel h'.next ρ s' a → Code.roundsIn (fen ρ0 ro) 0 P c (Post B w0 h.next ρ0 K) m a w := by
    intro m
    induction m with
    | zero => intro s' h' ρ w a _ _ _ hx; exact hx.elim
    | succ m ih =>
      intro s' h' ρ w a hN he hb hx hs' ht'
      have hr' : ∀ l, ro = some l → l < h'.next := fun l hl => Nat.lt_of_lt_of_le (hr l hl) hN
      have h1 := hx B ρ w a hr' hs' ht'
      rw [fen_ext he hr] at h1
      rw [roundsIn_succ]
      refine wpIn_mono h1 fun e a' w' hp => ?_
      obtain ⟨ρ', s2, h2, g1, g2, g3, g4, g5, g6⟩ := hp
      cases e with
      | normal => exact ih s2 h2 ρ' w' a' (Nat.le_trans hN g1) (he.trans g2 hN) (hb.trans g5) g6 g3 g4
      | _ => exact ⟨ρ', s2, h2, Nat.le_trans hN g1, he.trans g2 hN, g3, g4, hb.trans g5, g6⟩
  exact key m s h ρ0 w0 a0 (Nat.le_refl _) (Ext.refl _ _) (Below.refl _ _) hm hs ht

theorem thenK_mono {n n' : St → Hp → Prop} (hn : ∀ s h, n s h → n' s h) : ∀ e s h, thenK n K e s h → thenK n' K e s h
  | .normal, _, _, hx => hn _ _ hx
  | .exit _, _, _, hx => hx
  | .goto _, _, _, hx => hx
  | .ret, _, _, hx => hx
  | .panic _, _, _, hx => hx
  | .outgrown, _, _, hx => hx

theorem XLoop.mono {c : Code} : ∀ {m m' : Nat} {s : St} {h : Hp}, m ≤ m' → XLoop P ro c K m s h → XLoop P ro c K m' s h
  | 0, _, _, _, _, hx => hx.elim
  | m + 1, 0, _, _, hle, _ => absurd hle (by omega)
  | m + 1, m' + 1, s, h, hle, hx => XWp.mono hx (thenK_mono fun _ _ hy => XLoop.mono (by omega) hy)

/-- A LOOP by what holds at each round's head and a measure that each round lowers. -/
theorem XWp.loop {c : Code} (I : St → Hp → Prop) (μ : St → Hp → Nat) (h0 : I s h) (round : ∀ s h, I s h → XWp P ro c (thenK (fun s' h' => I s' h' ∧ μ s' h' < μ s h) K) s h) : XWp P ro (.loop c) K s h := by
  have key : ∀ m s h, I s h → μ s h < m → XLoop P ro c K m s h := by
    intro m
    induction m with
    | zero => intro s h _ hm; omega
    | succ m ih =>
      intro s h hI hm
      exact XWp.mono (round s h hI) (thenK_mono fun s' h' hy => ih s' h' hy.1 (by omega))
  exact XWp.rounds _ (key _ s h h0 (Nat.lt_succ_self _))

/-! ### a scope with labels -/

def scopeK (c : Code) (J : Code → St → Hp → Prop) (K : XK) : XK
  | .goto l, s, h => match findLabel c l with
    | some rest => J rest s h
    | none => K (.goto l) s h
  | e, s, h => K e s h

def XScope (P : Program) (ro : Option Nat) (c : Code) (K : XK) : Nat → Code → St → Hp → Prop
  | 0, _, _, _ => False
  | m + 1, x, s, h => XWp P ro x (scopeK c (XScope P ro c K m) K) s h

theorem stepR_scope {b : Frame} {a : Act} {k : List Item} {cs : List Frame} {w : World} {c : Code} : step P (lone (b.atR a (.code (.scope c) :: k)) cs w) = .next (lone (b.atR a (.code c :: .inScope c :: k)) cs w) :=
  step_lone_go (by simp [stepG, stepG.exec, Frame.atR])
theorem stepR_inScope {b : Frame} {a : Act} {k : List Item} {cs : List Frame} {w : World} {c : Code} : step P (lone (b.atR a (.inScope c :: k)) cs w) = .next (lone (b.atR a k) cs w) :=
  step_lone_go (by simp [stepG, stepG.exec, Frame.atR])

theorem XWp.scope {c : Code} (m : Nat) (hm : XScope P ro c K m c s h) : XWp P ro (.scope c) K s h := by
  intro B ρ0 w0 a0 hr hs ht b k cs hro hb hroom
  have key : ∀ m x s' h' ρ w a, h.next ≤ h'.next → Ext h.next ρ0 ρ → Below B w0 w → XScope P ro c K m x s' h' → Sat B ρ h' w → TRel h'.next ρ s' a →
      ∃ e a' w', Post B w0 h.next ρ0 K e a' w' ∧ ArrivesIn (Machine.fenced P (fen ρ0 ro)) P (lone (b.atR a (.code x :: .inScope c :: k)) cs w) b k cs e a' w' := by
    intro m
    induction m with
    | zero => intro x s' h' ρ w a _ _ _ hx; exact hx.elim
    | succ m ih =>
      intro x s' h' ρ w a hN he hb' hx hs' ht'
      have hr' : ∀ l, ro = some l → l < h'.next := fun l hl => Nat.lt_of_lt_of_le (hr l hl) hN
      have h1 := hx B ρ w a hr' hs' ht'
      rw [fen_ext he hr] at h1
      obtain ⟨e, a₁, w₁, hq, harr⟩ := h1 b (.inScope c :: k) cs hro hb hroom
      obtain ⟨ρ', s2, h2, g1, g2, g3, g4, g5, g6⟩ := hq
      have stop : ∀ e, K e s2 h2 → Post B w0 h.next ρ0 K e a₁ w₁ := fun e hk => ⟨ρ', s2, h2, Nat.le_trans hN g1, he.trans g2 hN, g3, g4, hb'.trans g5, hk⟩
      cases e with
      | normal => exact ⟨.normal, a₁, w₁, stop _ g6, StepsIn.trans harr (.one (fenced_calm hb hroom rfl) stepR_inScope)⟩
      | exit id =>
        have hx : ∀ i, exitTo i (Item.inScope c :: k) = exitTo i k := fun i => by simp [exitTo]
        refine ⟨.exit id, a₁, w₁, stop _ g6, fun k' hk => harr.1 k' (by rw [hx]; exact hk), fun h1 h2 => harr.2 h1 (by rw [hx]; exact h2)⟩
      | goto l =>
        cases hf : findLabel c l with
        | some rest =>
          simp only [scopeK, hf] at g6
          obtain ⟨e₂, a₂, w₂, hq₂, harr₂⟩ := ih rest s2 h2 ρ' w₁ a₁ (Nat.le_trans hN g1) (he.trans g2 hN) (hb'.trans g5) g6 g3 g4
          exact ⟨e₂, a₂, w₂, hq₂, .of_steps (harr.1 _ (by simp [gotoIn, hf])) harr₂⟩
        | none =>
          simp only [scopeK, hf] at g6
          have hx : gotoIn l (Item.inScope c :: k) = gotoIn l k := by simp [gotoIn, hf]
          exact ⟨.goto l, a₁, w₁, stop _ g6, fun k' hk => harr.1 k' (by rw [hx]; exact hk), fun h1 h2 => harr.2 h1 (by rw [hx]; exact h2)⟩
      | ret => exact ⟨_, a₁, w₁, stop _ g6, harr⟩
      | panic ch => exact ⟨_, a₁, w₁, stop _ g6, harr⟩
      | outgrown => exact ⟨_, a₁, w₁, stop _ g6, harr⟩
  obtain ⟨e, a', w', hq, harr⟩ := key m c s h ρ0 w0 a0 (Nat.le_refl _) (Ext.refl _ _) (Below.refl _ _) hm hs ht
  exact ⟨e, a', w', hq, .of_steps (.one (fenced_calm hb hroom rfl) stepR_scope) harr⟩

end
end Go.Vex
