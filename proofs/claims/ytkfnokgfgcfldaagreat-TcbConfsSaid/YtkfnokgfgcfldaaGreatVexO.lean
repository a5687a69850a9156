/-
  VEX, part O: a region that draws its order: all its orders come to what the eager one comes to.
-/
import Derived.Test.YtkfnokgfgcfldaaGreatVexN
set_option linter.unusedSimpArgs false
set_option linter.unusedVariables false
namespace Go.Vex
open Go.RowKit (Below)

mutual
def sameV : V → V → Bool
  | .bool a, .bool b => a == b
  | .int j a, .int k b => decide (j = k) && decide (a = b)
  | .str a, .str b => a == b
  | .ptr a, .ptr b => decide (a = b)
  | .slc a l f, .slc b m g => decide (a = b) && Nat.beq l m && f == g
  | .map a, .map b => decide (a = b)
  | .fn f x y, .fn g u v => decide (f = g) && sameVs x u && sameVs y v
  | .yld a, .yld b => Nat.beq a b
  | .nilFn, .nilFn => true
  | .ifc t a, .ifc u b => Nat.beq t u && sameV a b
  | .nilIfc, .nilIfc => true
  | .agg a, .agg b => sameVs a b
  | .tup a, .tup b => sameVs a b
  | .cplx j a b, .cplx k c d => decide (j = k) && Nat.beq a c && Nat.beq b d
  | .flt j a, .flt k b => decide (j = k) && Nat.beq a b
  | _, _ => false
def sameVs : List V → List V → Bool
  | [], [] => true
  | a :: as, b :: bs => sameV a b && sameVs as bs
  | _, _ => false
end

theorem nbeq (a b : Nat) : (Nat.beq a b = true) = (a = b) := propext ⟨Nat.eq_of_beq_eq_true, fun e => e ▸ Nat.beq_refl a⟩

mutual
theorem sameV_eq : ∀ {a b : V}, sameV a b = true → a = b := by
  intro a b h
  cases a <;> cases b <;> simp only [sameV, Bool.and_eq_true, decide_eq_true_eq, beq_iff_eq, nbeq, Bool.false_eq_true] at h <;> first | (exact h.elim; done) | skip
  all_goals first
    | rfl
    | (simp_all; done)
    | (obtain ⟨⟨h1, h2⟩, h3⟩ := h; rw [h1, sameVs_eq h2, sameVs_eq h3]; done)
    | (obtain ⟨h1, h2⟩ := h; rw [h1, sameV_eq h2]; done)
    | (rw [sameVs_eq h]; done)
theorem sameVs_eq : ∀ {a b : List V}, sameVs a b = true → a = b
  | [], [], _ => rfl
  | a :: as, b :: bs, h => by
    simp only [sameVs, Bool.and_eq_true] at h
    rw [sameV_eq h.1, sameVs_eq h.2]
  | [], _ :: _, h => by simp [sameVs] at h
  | _ :: _, [], h => by simp [sameVs] at h
end

mutual
@[simp] theorem sameV_refl : ∀ (a : V), sameV a a = true := by
  intro a
  cases a <;> simp only [sameV, Bool.and_eq_true, decide_eq_true_eq, beq_self_eq_true, Nat.beq_refl, and_self, and_true, true_and]
  case fn f x y => exact ⟨sameVs_refl x, sameVs_refl y⟩
  case ifc t v => exact sameV_refl v
  case agg l => exact sameVs_refl l
  case tup l => exact sameVs_refl l
@[simp] theorem sameVs_refl : ∀ (a : List V), sameVs a a = true
  | [] => rfl
  | a :: as => by simp only [sameVs, sameV_refl a, sameVs_refl as, Bool.and_self]
end

/-! ### the eager order -/

/-- the operations that must have come before -/
def dir (o : Oper) : List Nat := (o.after.toList.filter (Region.binds .any)).map (·.on)

theorem mem_dir {o : Oper} {e : Edge} (he : e ∈ o.after) (hb : Region.binds .any e = true) : e.on ∈ dir o :=
  List.mem_map.2 ⟨e, List.mem_filter.2 ⟨by simpa using he, hb⟩, rfl⟩

theorem of_mem_dir {o : Oper} {i : Nat} (h : i ∈ dir o) : ∃ e ∈ o.after, Region.binds .any e = true ∧ e.on = i := by
  obtain ⟨e, he, rfl⟩ := List.mem_map.1 h
  obtain ⟨h1, h2⟩ := List.mem_filter.1 he
  exact ⟨e, by simpa using h1, h2, rfl⟩

def addB (m : Nat) : List Nat → Nat
  | [] => m
  | i :: l => addB (m ||| 2 ^ i) l

theorem tb_or (m i j : Nat) : (m ||| 2 ^ i).testBit j = (m.testBit j || decide (i = j)) := by
  rw [Nat.testBit_or, Nat.testBit_two_pow]

theorem addB_sub {S : Nat → Prop} : ∀ {l : List Nat} {m : Nat}, (∀ i, m.testBit i = true → S i) → (∀ i ∈ l, S i) → ∀ i, (addB m l).testBit i = true → S i
  | [], _, hm, _, i, h => hm i h
  | k :: l, m, hm, hl, i, h => by
    refine addB_sub (l := l) (m := m ||| 2 ^ k) (fun j hj => ?_) (fun j hj => hl j (List.mem_cons_of_mem _ hj)) i h
    rw [tb_or, Bool.or_eq_true, decide_eq_true_eq] at hj
    rcases hj with hj | rfl
    · exact hm j hj
    · exact hl _ List.mem_cons_self

/-- with each the ones that must come before it: the list from the last to the first -/
def force : List (Oper × Nat) → Nat → Nat
  | [], m => m
  | (o, i) :: r, m => force r (bif m.testBit i then addB m (dir o) else m)

theorem force_sub {S : Nat → Prop} : ∀ {l : List (Oper × Nat)} {m : Nat}, (∀ p ∈ l, S p.2 → ∀ e ∈ dir p.1, S e) → (∀ i, m.testBit i = true → S i) → ∀ i, (force l m).testBit i = true → S i
  | [], _, _, hm, i, h => hm i h
  | (o, k) :: r, m, hl, hm, i, h => by
    refine force_sub (l := r) (fun p hp => hl p (List.mem_cons_of_mem _ hp)) ?_ i h
    cases hk : m.testBit k with
    | false => simpa using hm
    | true => exact addB_sub hm (hl (o, k) List.mem_cons_self (hm k hk))

def rdy (L : Nat) (o : Oper) : Bool := (dir o).all fun e => L.testBit e

def dstIs (o : Oper) (t : Nat) : Bool := match o.dst with | some d => Nat.beq d t | none => false
def sees (ops : Array Oper) (o : Oper) (d : Option Nat) : Bool := match d with | some t => (o.looksAt ops).contains t | none => false

/-- what is asked of a region that draws -/
def okR (ops : Array Oper) (full : List (Oper × Nat)) (rev : List (Oper × Nat)) : Bool :=
  full.all fun p => (dir p.1).all (fun e => Nat.blt e p.2) &&
    let m := force rev (addB 0 (dir p.1))
    full.all fun q => (m.testBit q.2 || !sees ops p.1 q.1.dst) && (Nat.beq p.2 q.2 || match q.1.dst with | some t => !dstIs p.1 t | none => true)

def quietV (T : TT) (ops : Array Oper) (h : Hp) (o : Oper) (s : St) : Option V :=
  match wantB ops o s with
  | some true => xq T h s.ev o.op
  | some false => some (.tup [])
  | none => none

abbrev Pend := List (Nat × Oper × V)

def pass (T : TT) (ops : Array Oper) (h : Hp) : List (Oper × Nat) → Nat → St → Pend → (Nat → St → Pend → Bool) → Bool
  | [], L, s, p, k => k L s p
  | (o, i) :: r, L, s, p, k =>
    bif L.testBit i then pass T ops h r L s p k else
    bif rdy L o then
      match quietV T ops h o s with
      | some v => pass T ops h r (L ||| 2 ^ i) (s.put o.dst v) ((i, o, v) :: p) k
      | none => pass T ops h r L s p k
    else pass T ops h r L s p k

def stillV (T : TT) (ops : Array Oper) (h : Hp) (o : Oper) (s : St) (v : V) : Bool :=
  match quietV T ops h o s with
  | some u => sameV u v
  | none => false

def stage (T : TT) (E : Eff) (ops : Array Oper) (full rev : List (Oper × Nat)) (k : St → Hp → Bool) : Nat → Nat → Pend → St → Hp → Bool
  | 0, _, _, _, _ => false
  | f + 1, L, p, s, h =>
    match full.filter (fun q => !L.testBit q.2 && rdy L q.1) with
    | [] => k s h
    | l => l.all fun q =>
      let o := q.1
      let j := q.2
      let m := force rev (addB 0 (dir o))
      let p' := p.filter fun q => !m.testBit q.1
      match wantB ops o s with
      | some true => E o s h fun v h' =>
        let s' := s.put o.dst v
        p'.all (fun q => stillV T ops h' q.2.1 s' q.2.2) && pass T ops h' full (L ||| 2 ^ j) s' p' fun L' s2 p2 => stage T E ops full rev k f L' p2 s2 h'
      | _ => false

def drawR (T : TT) (E : Eff) (ops : Array Oper) (s : St) (h : Hp) (k : St → Hp → Bool) : Bool :=
  let full := ops.toList.zipIdx
  let rev := full.reverse
  okR ops full rev && pass T ops h full 0 s [] fun L s p => stage T E ops full rev k (ops.size + 1) L p s h

/-! ### several operations may come next: what they come to is guessed, and asked of each order -/

def sameTr {α : Type} (f : α → α → Bool) : Tr α → Tr α → Bool
  | .nil, .nil => true
  | .node l x r, .node l' x' r' => sameTr f l l' && (match x, x' with | some a, some b => f a b | none, none => true | _, _ => false) && sameTr f r r'
  | _, _ => false

theorem sameTr_eq {α : Type} {f : α → α → Bool} (hf : ∀ a b, f a b = true → a = b) : ∀ {a b : Tr α}, sameTr f a b = true → a = b
  | .nil, .nil, _ => rfl
  | .nil, .node _ _ _, h => by simp [sameTr] at h
  | .node _ _ _, .nil, h => by simp [sameTr] at h
  | .node l x r, .node l' x' r', h => by
    simp only [sameTr, Bool.and_eq_true] at h
    obtain ⟨⟨h1, h2⟩, h3⟩ := h
    rw [sameTr_eq hf h1, sameTr_eq hf h3]
    cases x <;> cases x' <;> simp only [Bool.false_eq_true] at h2
    · rfl
    · rw [hf _ _ h2]

theorem sameTr_refl {α : Type} {f : α → α → Bool} (hf : ∀ a, f a a = true) : ∀ (a : Tr α), sameTr f a a = true
  | .nil => rfl
  | .node l x r => by
    simp only [sameTr, sameTr_refl hf l, sameTr_refl hf r, Bool.true_and, Bool.and_true]
    cases x with
    | none => rfl
    | some a => exact hf a

def sameEnts : List Ent → List Ent → Bool
  | [], [] => true
  | a :: as, b :: bs => sameV a.key b.key && sameV a.val b.val && Nat.beq a.born b.born && sameEnts as bs
  | _, _ => false

theorem sameEnts_eq : ∀ {a b : List Ent}, sameEnts a b = true → a = b
  | [], [], _ => rfl
  | [], _ :: _, h => by simp [sameEnts] at h
  | _ :: _, [], h => by simp [sameEnts] at h
  | a :: as, b :: bs, h => by
    simp only [sameEnts, Bool.and_eq_true, nbeq] at h
    obtain ⟨⟨⟨h1, h2⟩, h3⟩, h4⟩ := h
    obtain ⟨k, v, n⟩ := a
    obtain ⟨k', v', n'⟩ := b
    simp only at h1 h2 h3
    rw [sameV_eq h1, sameV_eq h2, h3, sameEnts_eq h4]

def sameO : O → O → Bool
  | .row c e r, .row c' e' r' => sameVs c c' && Nat.beq e e' && (r == r')
  | .map es k, .map es' k' => sameEnts es es' && Nat.beq k k'
  | .miter m a l b, .miter m' a' l' b' => decide (m = m') && Nat.beq a a' && decide (l = l') && Nat.beq b b'
  | .siter x a, .siter x' a' => decide (x = x') && Nat.beq a a'
  | .dfr a, .dfr b => a == b
  | _, _ => false

theorem sameO_eq : ∀ (a b : O), sameO a b = true → a = b := by
  intro a b h
  cases a <;> cases b <;> simp only [sameO, Bool.and_eq_true, decide_eq_true_eq, beq_iff_eq, nbeq, Bool.false_eq_true] at h
  · obtain ⟨⟨h1, h2⟩, h3⟩ := h; rw [sameVs_eq h1, h2, h3]
  · obtain ⟨h1, h2⟩ := h; rw [sameEnts_eq h1, h2]
  · obtain ⟨⟨⟨h1, h2⟩, h3⟩, h4⟩ := h; rw [h1, h2, h3, h4]
  · obtain ⟨h1, h2⟩ := h; rw [h1, h2]
  · rw [h]

def sameHp (a b : Hp) : Bool := Nat.beq a.next b.next && sameTr sameO a.tr b.tr

theorem sameHp_eq {a b : Hp} (h : sameHp a b = true) : a = b := by
  simp only [sameHp, Bool.and_eq_true, nbeq] at h
  obtain ⟨x, n⟩ := a
  obtain ⟨y, m⟩ := b
  simp only at h
  rw [h.1, sameTr_eq sameO_eq h.2]

abbrev Guess := Nat → St → Hp → Option (Tr V × Hp)

def stage2 (T : TT) (E : Eff) (G : Guess) (ops : Array Oper) (full rev : List (Oper × Nat)) (k : St → Hp → Bool) : Nat → Nat → Pend → St → Hp → Bool
  | 0, _, _, _, _ => false
  | f + 1, L, p, s, h =>
    match full.filter (fun q => !L.testBit q.2 && rdy L q.1) with
    | [] => k s h
    | l => match (match l with | _ :: _ :: _ => G L s h | _ => none) with
      | some g => stage T E ops full rev (fun s2 h2 => sameTr sameV s2.tr.tr g.1 && sameHp h2 g.2) (f + 1) L p s h && k ⟨⟨g.1, s.tr.bs⟩, s.sz, s.dfs⟩ g.2
      | none => l.all fun q =>
        let o := q.1
        let j := q.2
        let m := force rev (addB 0 (dir o))
        let p' := p.filter fun q => !m.testBit q.1
        match wantB ops o s with
        | some true => E o s h fun v h' =>
          let s' := s.put o.dst v
          p'.all (fun q => stillV T ops h' q.2.1 s' q.2.2) && pass T ops h' full (L ||| 2 ^ j) s' p' fun L' s2 p2 => stage2 T E G ops full rev k f L' p2 s2 h'
        | _ => false

def drawR2 (T : TT) (E : Eff) (G : Guess) (ops : Array Oper) (s : St) (h : Hp) (k : St → Hp → Bool) : Bool :=
  let full := ops.toList.zipIdx
  let rev := full.reverse
  okR ops full rev && pass T ops h full 0 s [] fun L s p => stage2 T E G ops full rev k (ops.size + 1) L p s h

/-- two states of one frame -/
def Fr (s s' : St) : Prop := s'.tr.bs = s.tr.bs ∧ s'.sz = s.sz ∧ s'.dfs = s.dfs

theorem Fr.refl (s : St) : Fr s s := ⟨rfl, rfl, rfl⟩
theorem Fr.trans {a b c : St} (x : Fr a b) (y : Fr b c) : Fr a c := ⟨y.1.trans x.1, y.2.1.trans x.2.1, y.2.2.trans x.2.2⟩
theorem Fr.put (s : St) (d : Option Nat) (v : V) : Fr s (s.put d v) := by
  cases d with
  | none => exact ⟨rfl, rfl, rfl⟩
  | some t =>
    show Fr s (s.set t v)
    unfold St.set
    cases Nat.blt t s.sz <;> exact ⟨rfl, rfl, rfl⟩

theorem pass_congr {T : TT} {ops : Array Oper} {h : Hp} {s0 : St} {k k' : Nat → St → Pend → Bool} (hk : ∀ L s p, Fr s0 s → k L s p = k' L s p) : ∀ (l : List (Oper × Nat)) (L : Nat) (s : St) (p : Pend), Fr s0 s → pass T ops h l L s p k = pass T ops h l L s p k'
  | [], L, s, p, hs => hk L s p hs
  | (o, i) :: r, L, s, p, hs => by
    simp only [pass]
    cases L.testBit i with
    | true => exact pass_congr hk r L s p hs
    | false =>
      cases rdy L o with
      | false => exact pass_congr hk r L s p hs
      | true =>
        simp only [cond_true, cond_false]
        split
        · exact pass_congr hk r _ _ _ (hs.trans (Fr.put _ _ _))
        · exact pass_congr hk r L s p hs

theorem stage_congr {T : TT} {E : Eff} {ops : Array Oper} {full rev : List (Oper × Nat)} {s0 : St} {k k' : St → Hp → Bool} (hk : ∀ s h, Fr s0 s → k s h = k' s h) : ∀ (f L : Nat) (p : Pend) (s : St) (h : Hp), Fr s0 s → stage T E ops full rev k f L p s h = stage T E ops full rev k' f L p s h
  | 0, _, _, _, _, _ => rfl
  | f + 1, L, p, s, h, hs => by
    simp only [stage]
    split
    · exact hk s h hs
    · congr 1
      funext q
      split
      · congr 1
        funext v h'
        congr 1
        exact pass_congr (fun L s p hs => stage_congr hk f L p s h' hs) _ _ _ _ (hs.trans (Fr.put _ _ _))
      · rfl

/-- what a guess, asked of each order, is worth -/
theorem stage2_cases {T : TT} {E : Eff} {G : Guess} {ops : Array Oper} {full rev : List (Oper × Nat)} {k : St → Hp → Bool} {f L : Nat} {p : Pend} {s : St} {h : Hp} (hx : stage2 T E G ops full rev k f L p s h = true) :
    (∃ kd : St → Hp → Bool, stage T E ops full rev kd f L p s h = true ∧ ∀ s2 h2, kd s2 h2 = true → k s2 h2 = true) ∨
    ∃ f', f = f' + 1 ∧ (full.filter (fun q => !L.testBit q.2 && rdy L q.1) = [] → k s h = true) ∧ ∀ q ∈ full.filter (fun q => !L.testBit q.2 && rdy L q.1),
      (let o := q.1
        let j := q.2
        let m := force rev (addB 0 (dir o))
        let p' := p.filter fun q => !m.testBit q.1
        match wantB ops o s with
        | some true => E o s h fun v h' =>
          let s' := s.put o.dst v
          p'.all (fun q => stillV T ops h' q.2.1 s' q.2.2) && pass T ops h' full (L ||| 2 ^ j) s' p' fun L' s2 p2 => stage2 T E G ops full rev k f' L' p2 s2 h'
        | _ => false) = true := by
  cases f with
  | zero => cases hx
  | succ f =>
    simp only [stage2] at hx
    split at hx
    · rename_i hf
      right
      refine ⟨f, rfl, fun _ => hx, fun q hq => ?_⟩
      rw [hf] at hq; cases hq
    · rename_i hf
      split at hx
      · rename_i g hg
        left
        rw [Bool.and_eq_true] at hx
        obtain ⟨h1, h2⟩ := hx
        obtain ⟨kd, hkd⟩ : ∃ kd : St → Hp → Bool, ∀ s2 h2, kd s2 h2 = true ↔ (s2 = ⟨⟨g.1, s.tr.bs⟩, s.sz, s.dfs⟩ ∧ h2 = g.2 ∧ sameHp h2 g.2 = true) := ⟨fun s2 h2 => @decide _ (Classical.propDecidable _), fun _ _ => @decide_eq_true_iff _ (Classical.propDecidable _)⟩
        refine ⟨kd, (stage_congr (s0 := s) (fun s2 h2 hs => ?_) _ _ _ _ _ (Fr.refl s)).trans h1, fun s2 h3 hd => ?_⟩
        · obtain ⟨e1, e2, e3⟩ := hs
          rw [Bool.eq_iff_iff, hkd, Bool.and_eq_true]
          constructor
          · rintro ⟨rfl, _, b⟩
            exact ⟨sameTr_refl sameV_refl _, b⟩
          · rintro ⟨a, b⟩
            refine ⟨?_, sameHp_eq b, b⟩
            obtain ⟨⟨t2, b2⟩, z2, d2⟩ := s2
            simp only at e1 e2 e3 a
            rw [sameTr_eq (fun _ _ => sameV_eq) a, e1, e2, e3]
        · rw [hkd] at hd
          obtain ⟨rfl, rfl, _⟩ := hd
          exact h2
      · right
        exact ⟨f, rfl, fun h0 => absurd h0 (by assumption), fun q hq => List.all_eq_true.1 hx q hq⟩

/-! ### what is asked of the region's form -/

structure RForm (ops : Array Oper) : Prop where
  acyc : ∀ (i : Nat) (o : Oper), ops[i]? = some o → ∀ e ∈ dir o, e < i
  dist : ∀ (i j : Nat) (oi oj : Oper) (t : Nat), ops[i]? = some oi → ops[j]? = some oj → oi.dst = some t → oj.dst = some t → i = j
  clos : ∀ (i k : Nat) (oi ok : Oper) (t : Nat), ops[i]? = some oi → ops[k]? = some ok → ok.dst = some t → t ∈ oi.looksAt ops → ∀ S : Nat → Prop, (∀ e ∈ dir oi, S e) → (∀ (j : Nat) (oj : Oper), ops[j]? = some oj → S j → ∀ e ∈ dir oj, S e) → S k

theorem mem_full {ops : Array Oper} {o : Oper} {i : Nat} : (o, i) ∈ ops.toList.zipIdx ↔ ops[i]? = some o := by
  rw [List.mem_zipIdx_iff_getElem?]
  simp

theorem okR_form {ops : Array Oper} (h : okR ops ops.toList.zipIdx ops.toList.zipIdx.reverse = true) : RForm ops := by
  unfold okR at h
  rw [List.all_eq_true] at h
  have g : ∀ (i : Nat) (o : Oper), ops[i]? = some o → _ := fun i o hi => h (o, i) (mem_full.2 hi)
  simp only [Bool.and_eq_true, List.all_eq_true, blt_eq, decide_eq_true_eq, Bool.or_eq_true, Bool.not_eq_true'] at g
  refine ⟨fun i o hi e he => (g i o hi).1 e he, ?_, ?_⟩
  · intro i j oi oj t hi hj di dj
    have := ((g i oi hi).2 (oj, j) (mem_full.2 hj)).2
    rw [nbeq] at this
    rcases this with this | this
    · exact this
    · simp [dj, dstIs, di] at this
  · intro i k oi ok t hi hk dk hl S h1 h2
    have := ((g i oi hi).2 (ok, k) (mem_full.2 hk)).1
    rcases this with this | this
    · refine force_sub (S := S) (fun p hp hs e he => ?_) (addB_sub (by simp) h1) k this
      exact h2 p.2 p.1 (mem_full.1 (by simpa using hp)) hs e he
    · simp [sees, dk] at this
      exact absurd hl this

theorem dir_ready {ops : Array Oper} {A : Array Bool} {i : Nat} {o : Oper} (ho : ops[i]? = some o) (h : i ∈ Region.ready .any ops A) : ∀ e ∈ dir o, A.getD e false = true := by
  obtain ⟨_, o', ho', hall⟩ := mem_ready.1 h
  rw [ho] at ho'
  cases ho'
  intro e he
  obtain ⟨d, hd, hb, rfl⟩ := of_mem_dir he
  exact hall d hd hb

/-! ### what the frame's slots are between the eager run and the one that is behind it -/

theorem wantB_put {ops : Array Oper} {o : Oper} {s : St} {d : Option Nat} {v : V} (h : ∀ t, d = some t → t ∉ o.looksAt ops) : wantB ops o (s.put d v) = wantB ops o s := by
  unfold wantB
  split
  · rfl
  · rename_i g want hg
    split
    · rfl
    · rename_i t ht
      have : (s.put d v).get t = s.get t := by
        cases d with
        | none => rfl
        | some u =>
          have hne : t ≠ u := fun e => h u rfl (by subst e; simp [Oper.looksAt, hg, ht])
          simp only [St.put, St.get_set]
          rw [if_neg (fun e => hne e.1)]
      rw [this]

theorem ev_put {ops : Array Oper} {o : Oper} {s : St} {d : Option Nat} {v : V} (h : ∀ t, d = some t → t ∉ o.looksAt ops) : ∀ x ∈ o.op.operands, (s.put d v).ev x = s.ev x := by
  intro x hx
  cases x with
  | tmp t =>
    cases d with
    | none => rfl
    | some u =>
      have hne : t ≠ u := fun e => h u rfl (by
        subst e
        exact List.mem_append_left _ (List.mem_filterMap.2 ⟨.tmp t, by simpa using hx, rfl⟩))
      simp only [St.ev, St.put, St.get_set]
      rw [if_neg (fun e => hne e.1)]
  | _ => rfl

theorem quietV_put {T : TT} {h : Hp} {ops : Array Oper} {o : Oper} {s : St} {d : Option Nat} {v : V} (hd : ∀ t, d = some t → t ∉ o.looksAt ops) : quietV T ops h o (s.put d v) = quietV T ops h o s := by
  unfold quietV
  rw [wantB_put hd, xq_congr (ev_put hd)]

/-- the eager run -/
structure CI (T : TT) (ops : Array Oper) (L : Nat) (p : Pend) (s : St) (h : Hp) : Prop where
  down : ∀ (i : Nat) (o : Oper), ops[i]? = some o → L.testBit i = true → ∀ e ∈ dir o, L.testBit e = true
  pend : ∀ q ∈ p, ops[q.1]? = some q.2.1 ∧ L.testBit q.1 = true ∧ quietV T ops h q.2.1 s = some q.2.2 ∧ ∀ t, q.2.1.dst = some t → t < s.sz → s.get t = q.2.2

/-- the run at hand, behind it -/
structure AI (ops : Array Oper) (A : Array Bool) (L : Nat) (p : Pend) : Prop where
  size : A.size = ops.size
  sub : ∀ i, A.getD i false = true → L.testBit i = true
  down : ∀ (i : Nat) (o : Oper), ops[i]? = some o → A.getD i false = true → ∀ e ∈ dir o, A.getD e false = true
  hid : ∀ (i : Nat) (o : Oper), ops[i]? = some o → L.testBit i = true → A.getD i false = true ∨ ∃ v, (i, o, v) ∈ p

/-- slot 't' waits for an operation of the run at hand -/
def Hid (A : Array Bool) (p : Pend) (s : St) (t : Nat) : Prop := t < s.sz ∧ ∃ q ∈ p, A.getD q.1 false = false ∧ q.2.1.dst = some t

structure ARel (A : Array Bool) (p : Pend) (N : Nat) (ρ : Env) (s : St) (a : Act) : Prop where
  size : a.tmps.size = s.sz
  val : ∀ t, ¬ Hid A p s t → VR N ρ (s.get t) (a.tmps.getD t undef)
  dfs : ∀ d ∈ s.dfs, d < N
  defers : a.defers = s.dfs.map fun d => { target := .collected (ρ d).blk, args := #[] }

theorem ARel.ext {A : Array Bool} {p : Pend} {N N' : Nat} {ρ ρ' : Env} (hN : N ≤ N') (he : Ext N ρ ρ') {s : St} {a : Act} (h : ARel A p N ρ s a) : ARel A p N' ρ' s a :=
  ⟨h.size, fun t ht => (h.val t ht).ext hN he, fun d hd => Nat.lt_of_lt_of_le (h.dfs d hd) hN, by
    rw [h.defers]
    exact List.map_congr_left fun d hd => by rw [he d (h.dfs d hd)]⟩

theorem ARel.full {A : Array Bool} {p : Pend} {N : Nat} {ρ : Env} {s : St} {a : Act} (h : ARel A p N ρ s a) (hA : ∀ q ∈ p, A.getD q.1 false = true) : TRel N ρ s a :=
  ⟨h.size, fun t => h.val t (fun ⟨_, q, hq, h1, _⟩ => absurd (hA q hq) (by rw [h1]; simp)), h.dfs, h.defers⟩

theorem TRel.a {N : Nat} {ρ : Env} {s : St} {a : Act} {A : Array Bool} (h : TRel N ρ s a) : ARel A [] N ρ s a :=
  ⟨h.1, fun t _ => h.2.1 t, h.2.2.1, h.2.2.2⟩

theorem put_getD (a : Act) (d : Option Nat) (z : Value) (t : Nat) : (a.put d z).tmps.getD t undef = if d = some t ∧ t < a.tmps.size then z else a.tmps.getD t undef := by
  cases d with
  | none => simp [Act.put]
  | some u =>
    simp only [Act.put, Array.getD_eq_getD_getElem?, Array.getElem?_setIfInBounds, Option.some.injEq]
    by_cases e : u = t
    · subst e
      by_cases hl : u < a.tmps.size
      · simp [hl]
      · simp [hl]
    · simp [e]

theorem put_get (s : St) (d : Option Nat) (v : V) (t : Nat) : (s.put d v).get t = if d = some t ∧ t < s.sz then v else s.get t := by
  cases d with
  | none => simp [St.put]
  | some u =>
    simp only [St.put, St.get_set, Option.some.injEq]
    by_cases e : u = t
    · subst e; simp
    · rw [if_neg (fun h => e h.1.symm), if_neg (fun h => e h.1)]

theorem put_size (a : Act) (d : Option Nat) (z : Value) : (a.put d z).tmps.size = a.tmps.size := by cases d <;> simp [Act.put]
theorem put_defers (a : Act) (d : Option Nat) (z : Value) : (a.put d z).defers = a.defers := by cases d <;> rfl

theorem AI.sees {T : TT} {ops : Array Oper} (F : RForm ops) {A : Array Bool} {L : Nat} {p : Pend} {s : St} {h : Hp} (ai : AI ops A L p) (ci : CI T ops L p s h) {i : Nat} {o : Oper} (ho : ops[i]? = some o) (hr : ∀ e ∈ dir o, A.getD e false = true) {t : Nat} (ht : t ∈ o.looksAt ops) : ¬ Hid A p s t := by
  rintro ⟨_, q, hq, h1, h2⟩
  have := F.clos i q.1 o q.2.1 t ho (ci.pend q hq).1 h2 ht (fun j => A.getD j false = true) hr ai.down
  rw [h1] at this
  cases this

theorem ev_on {N : Nat} {ρ : Env} {s : St} {a : Act} {ops : Array Oper} {o : Oper} (hv : ∀ t, t ∈ o.looksAt ops → VR N ρ (s.get t) (a.tmps.getD t undef)) : ∀ x ∈ o.op.operands, ∀ v, s.ev x = some v → VR N ρ v (a.eval x) := by
  intro x hx v hv'
  cases x with
  | tmp t =>
    simp only [St.ev, Option.some.injEq] at hv'; subst hv'
    exact hv t (List.mem_append_left _ (List.mem_filterMap.2 ⟨.tmp t, by simpa using hx, rfl⟩))
  | const c => exact V.of_sound N ρ c v hv'
  | func f =>
    simp only [St.ev, Option.some.injEq] at hv'; subst hv'
    exact ⟨fun l h => (by cases h), #[], #[], rfl, rfl, rfl⟩
  | global g => simp [St.ev] at hv'

/-! ### the eager run goes on alone -/

theorem pass_sound {T : TT} {ops : Array Oper} (F : RForm ops) {h : Hp} {A : Array Bool} {N : Nat} {ρ : Env} {a : Act} {k : Nat → St → Pend → Bool} :
    ∀ (l : List (Oper × Nat)) (L : Nat) (s : St) (p : Pend), (∀ q ∈ l, ops[q.2]? = some q.1) → AI ops A L p → CI T ops L p s h → ARel A p N ρ s a → pass T ops h l L s p k = true →
      ∃ L' s' p', AI ops A L' p' ∧ CI T ops L' p' s' h ∧ ARel A p' N ρ s' a ∧ k L' s' p' = true
  | [], L, s, p, _, ai, ci, ar, hk => ⟨L, s, p, ai, ci, ar, hk⟩
  | (o, i) :: r, L, s, p, hl, ai, ci, ar, hk => by
    have ih := fun L s p => pass_sound F (T := T) (h := h) (A := A) (N := N) (ρ := ρ) (a := a) (k := k) r L s p (fun q hq => hl q (List.mem_cons_of_mem _ hq))
    have ho : ops[i]? = some o := hl (o, i) List.mem_cons_self
    simp only [pass] at hk
    cases hi : L.testBit i with
    | true => rw [hi] at hk; exact ih _ _ _ ai ci ar hk
    | false =>
      rw [hi] at hk
      cases hr : rdy L o with
      | false => rw [hr] at hk; exact ih _ _ _ ai ci ar hk
      | true =>
        rw [hr] at hk
        simp only [cond_true, cond_false] at hk
        split at hk
        · rename_i v hv
          have hrd : ∀ e ∈ dir o, L.testBit e = true := by simpa [rdy] using hr
          have hnA : A.getD i false = false := by
            cases hA : A.getD i false with
            | false => rfl
            | true => rw [ai.sub i hA] at hi; cases hi
          have hself : ∀ t, o.dst = some t → t ∉ o.looksAt ops := fun t ht hm => by
            have := F.clos i i o o t ho ho ht hm (fun j => j < i) (fun e he => F.acyc i o ho e he) (fun j oj hj hlt e he => Nat.lt_trans (F.acyc j oj hj e he) hlt)
            exact absurd this (Nat.lt_irrefl _)
          refine ih _ _ _ ⟨ai.size, fun j hj => by rw [tb_or, ai.sub j hj]; rfl, ai.down, fun j oj hj hb => ?_⟩ ⟨fun j oj hj hb e he => ?_, fun q hq => ?_⟩ ⟨by simp [ar.size], fun t ht => ?_, by simpa using ar.dfs, by simpa using ar.defers⟩ hk
          · rw [tb_or, Bool.or_eq_true, decide_eq_true_eq] at hb
            rcases hb with hb | rfl
            · rcases ai.hid j oj hj hb with h1 | ⟨u, h1⟩
              · exact .inl h1
              · exact .inr ⟨u, List.mem_cons_of_mem _ h1⟩
            · rw [ho] at hj; cases hj
              exact .inr ⟨v, List.mem_cons_self⟩
          · rw [tb_or, Bool.or_eq_true, decide_eq_true_eq] at hb
            rw [tb_or, Bool.or_eq_true]
            rcases hb with hb | rfl
            · exact .inl (ci.down j oj hj hb e he)
            · rw [ho] at hj; cases hj
              exact .inl (hrd e he)
          · rcases List.mem_cons.1 hq with rfl | hq
            · refine ⟨ho, by rw [tb_or]; simp, by rw [quietV_put hself]; exact hv, fun t ht hlt => ?_⟩
              simp only at ht
              rw [put_get, if_pos ⟨ht, by simpa using hlt⟩]
            · obtain ⟨h1, h2, h3, h4⟩ := ci.pend q hq
              refine ⟨h1, by rw [tb_or, h2]; rfl, ?_, fun t ht hlt => ?_⟩
              · rw [quietV_put fun t ht hm => ?_]
                · exact h3
                · have := F.clos q.1 i q.2.1 o t h1 ho ht hm (fun j => L.testBit j = true) (ci.down q.1 q.2.1 h1 h2) ci.down
                  rw [hi] at this
                  cases this
              · rw [put_get, if_neg fun e => ?_]
                · exact h4 t ht (by simpa using hlt)
                · have := F.dist q.1 i q.2.1 o t h1 ho ht e.1
                  rw [← this, h2] at hi
                  cases hi
          · by_cases hd : o.dst = some t ∧ t < s.sz
            · exact absurd ⟨by simpa using hd.2, (i, o, v), List.mem_cons_self, hnA, hd.1⟩ ht
            · rw [put_get, if_neg hd]
              refine ar.val t fun ⟨h1, q, hq, h2, h3⟩ => ht ⟨by simpa using h1, q, List.mem_cons_of_mem _ hq, h2, h3⟩
        · exact ih _ _ _ ai ci ar hk

/-! ### every order comes to what the eager one comes to -/

def cnt (n : Nat) (A : Array Bool) : Nat := (List.range n).countP fun i => !A.getD i false

theorem countP_lt {p q : Nat → Bool} : ∀ {l : List Nat}, (∀ x ∈ l, p x = true → q x = true) → (∃ x ∈ l, q x = true ∧ p x = false) → l.countP p < l.countP q
  | [], _, h => by obtain ⟨x, hx, _⟩ := h; cases hx
  | y :: l, hpq, h => by
    have hle : l.countP p ≤ l.countP q := List.countP_mono_left fun x hx => hpq x (List.mem_cons_of_mem _ hx)
    rw [List.countP_cons, List.countP_cons]
    by_cases hy : q y = true ∧ p y = false
    · rw [hy.1, hy.2]; simp; omega
    · have hl : l.countP p < l.countP q := countP_lt (fun x hx => hpq x (List.mem_cons_of_mem _ hx)) (by
        obtain ⟨x, hx, h1⟩ := h
        rcases List.mem_cons.1 hx with rfl | hx
        · exact absurd h1 hy
        · exact ⟨x, hx, h1⟩)
      have : (if p y = true then 1 else 0) ≤ (if q y = true then 1 else 0) := by
        cases hp : p y with
        | false => simp
        | true => rw [hpq y List.mem_cons_self hp]; simp
      omega

theorem cnt_set {n : Nat} {A : Array Bool} {i : Nat} (hs : A.size = n) (hi : i < n) (h : A.getD i false = false) : cnt n (A.setIfInBounds i true) < cnt n A := by
  unfold cnt
  refine countP_lt (fun x hx hp => ?_) ⟨i, List.mem_range.2 hi, by simp only [h]; rfl, ?_⟩
  · by_cases e : i = x
    · subst e; simp only [h]; rfl
    · simpa [Array.getD_eq_getD_getElem?, Array.getElem?_setIfInBounds_ne e] using hp
  · simp [Array.getD_eq_getD_getElem?, hs, hi]

theorem set_getD {n : Nat} {A : Array Bool} {i j : Nat} (hs : A.size = n) (hi : i < n) : (A.setIfInBounds i true).getD j false = (decide (i = j) || A.getD j false) := by
  by_cases e : i = j
  · subst e; simp [Array.getD_eq_getD_getElem?, hs, hi]
  · simp [Array.getD_eq_getD_getElem?, Array.getElem?_setIfInBounds_ne e, e]

theorem all_of_ready {ops : Array Oper} (F : RForm ops) {A : Array Bool} (hs : A.size = ops.size) (h : Region.ready .any ops A = []) : ∀ i, i < ops.size → A.getD i false = true := by
  intro i
  induction i using Nat.strongRecOn with
  | ind i ih =>
    intro hi
    cases hA : A.getD i false with
    | true => rfl
    | false =>
      obtain ⟨o, ho⟩ : ∃ o, ops[i]? = some o := ⟨ops[i], Array.getElem?_eq_getElem hi⟩
      have : i ∈ Region.ready .any ops A := by
        rw [mem_ready]
        refine ⟨by simp [Array.getD_eq_getD_getElem?, hs, hi] at hA ⊢; exact hA, o, ho, fun e he hb => ?_⟩
        have hlt := F.acyc i o ho e.on (mem_dir he hb)
        exact ih _ hlt (Nat.lt_trans hlt hi)
      rw [h] at this
      cases this

section
variable {P : Program} {T : TT} {ro : Option Nat} {E : Eff} {ops : Array Oper}

theorem any_sound (hT : TTok P T) (hE : ESound P ro E) (F : RForm ops) {k : St → Hp → Bool} (Q : Exit → Act → World → Prop) {B : Nat} (Good : Env → Hp → World → Prop) (ρ0 : Env) (N0 : Nat) (hr0 : ∀ l, ro = some l → l < N0)
    (hgood : ∀ ρ h w ρ' h' w', Good ρ h w → h.next ≤ h'.next → Ext h.next ρ ρ' → Below B w w' → Good ρ' h' w')
    (hQ : ∀ ρ s h w a, N0 ≤ h.next → Ext N0 ρ0 ρ → Good ρ h w → Sat B ρ h w → TRel h.next ρ s a → k s h = true → Q .normal a w) :
    ∀ (fa f : Nat) (A : Array Bool) (L : Nat) (p : Pend) (s : St) (h : Hp) (ρ : Env) (w : World) (a : Act), cnt ops.size A ≤ fa → AI ops A L p → CI T ops L p s h → N0 ≤ h.next → Ext N0 ρ0 ρ → Good ρ h w → Sat B ρ h w → ARel A p h.next ρ s a →
      stage T E ops ops.toList.zipIdx ops.toList.zipIdx.reverse k f L p s h = true → wpAnyIn (fen ρ0 ro) 0 P .any ops Q fa A a w := by
  -- at the end
  have fin : ∀ (f : Nat) (A : Array Bool) (L : Nat) (p : Pend) (s : St) (h : Hp) (ρ : Env) (w : World) (a : Act), (∀ i, i < ops.size → A.getD i false = true) → AI ops A L p → CI T ops L p s h → N0 ≤ h.next → Ext N0 ρ0 ρ → Good ρ h w → Sat B ρ h w → ARel A p h.next ρ s a →
      stage T E ops ops.toList.zipIdx ops.toList.zipIdx.reverse k f L p s h = true → Q .normal a w := by
    intro f A L p s h ρ w a hall ai ci hN he hg hs ar hst
    have hemp : ops.toList.zipIdx.filter (fun q => !L.testBit q.2 && rdy L q.1) = [] := by
      rw [List.filter_eq_nil_iff]
      intro q hq
      have := mem_full.1 (show (q.1, q.2) ∈ _ from hq)
      have hlt : q.2 < ops.size := (Array.getElem?_eq_some_iff.1 this).1
      rw [ai.sub q.2 (hall _ hlt)]
      simp
    cases f with
    | zero => cases hst
    | succ f =>
      simp only [stage, hemp] at hst
      refine hQ ρ s h w a hN he hg hs (ar.full fun q hq => hall _ ?_) hst
      exact (Array.getElem?_eq_some_iff.1 (ci.pend q hq).1).1
  intro fa
  induction fa with
  | zero =>
    intro f A L p s h ρ w a hc ai ci hN he hg hs ar hst
    have hall : ∀ i, i < ops.size → A.getD i false = true := by
      intro i hi
      have : cnt ops.size A = 0 := Nat.le_zero.1 hc
      unfold cnt at this
      rw [List.countP_eq_zero] at this
      have := this i (List.mem_range.2 hi)
      cases hA : A.getD i false with
      | true => rfl
      | false => rw [hA] at this; simp at this
    refine ⟨?_, fin f A L p s h ρ w a hall ai ci hN he hg hs ar hst⟩
    rw [List.eq_nil_iff_forall_not_mem]
    intro j hj
    obtain ⟨h0, o, ho, _⟩ := mem_ready.1 hj
    have hlt := (Array.getElem?_eq_some_iff.1 ho).1
    have h1 := hall j hlt
    simp [Array.getD_eq_getD_getElem?, ai.size, hlt] at h0 h1
    rw [h0] at h1
    cases h1
  | succ fa ih =>
    intro f A L p s h ρ w a hc ai ci hN he hg hs ar hst
    refine ⟨fun hr => fin f A L p s h ρ w a (all_of_ready F ai.size hr) ai ci hN he hg hs ar hst, fun i hi => ?_⟩
    obtain ⟨h0, o, ho, _⟩ := mem_ready.1 hi
    have hlt : i < ops.size := (Array.getElem?_eq_some_iff.1 ho).1
    have hnA : A.getD i false = false := by
      simp [Array.getD_eq_getD_getElem?, ai.size, hlt] at h0 ⊢; exact h0
    have hdA := dir_ready ho hi
    have hsee : ∀ t, t ∈ o.looksAt ops → VR h.next ρ (s.get t) (a.tmps.getD t undef) := fun t ht => ar.val t (ai.sees F ci ho hdA ht)
    have hops := ev_on (s := s) (a := a) hsee
    have hr : ∀ l, ro = some l → l < h.next := fun l hl => Nat.lt_of_lt_of_le (hr0 l hl) hN
    have hc' : cnt ops.size (A.setIfInBounds i true) ≤ fa := by
      have := cnt_set ai.size hlt hnA
      omega
    have dA' : ∀ (j : Nat) (oj : Oper), ops[j]? = some oj → (A.setIfInBounds i true).getD j false = true → ∀ e ∈ dir oj, (A.setIfInBounds i true).getD e false = true := by
      intro j oj hj hb e he
      rw [set_getD ai.size hlt, Bool.or_eq_true, decide_eq_true_eq] at hb
      rw [set_getD ai.size hlt, Bool.or_eq_true]
      rcases hb with rfl | hb
      · rw [ho] at hj; cases hj; exact .inr (hdA e he)
      · exact .inr (ai.down j oj hj hb e he)
    unfold wpOpIn
    simp only [ho]
    cases hL : L.testBit i with
    | true =>
      -- the eager run has it behind it
      obtain ⟨v, hv⟩ : ∃ v, (i, o, v) ∈ p := (ai.hid i o ho hL).resolve_left (by rw [hnA]; simp)
      obtain ⟨_, _, hqv, hgv⟩ := ci.pend _ hv
      simp only at hqv hgv
      have ai' : AI ops (A.setIfInBounds i true) L p := ⟨by simp [ai.size], fun j hj => by
          rw [set_getD ai.size hlt, Bool.or_eq_true, decide_eq_true_eq] at hj
          rcases hj with rfl | hj
          · exact hL
          · exact ai.sub j hj, dA', fun j oj hj hb => by
          rcases ai.hid j oj hj hb with h1 | h1
          · exact .inl (by rw [set_getD ai.size hlt, h1]; simp)
          · exact .inr h1⟩
      have done : ∀ ρ' w' z, Ext h.next ρ ρ' → Sat B ρ' h w' → VR h.next ρ' v z → Below B w w' → wpAnyIn (fen ρ0 ro) 0 P .any ops Q fa (A.setIfInBounds i true) (a.put o.dst z) w' := by
        intro ρ' w' z g2 g3 g4 g5
        refine ih f _ L p s h ρ' w' _ hc' ai' ci hN (he.trans g2 hN) (hgood _ _ _ _ _ _ hg (Nat.le_refl _) g2 g5) g3 ?_ hst
        have ar' := ar.ext (Nat.le_refl _) g2
        refine ⟨by rw [put_size]; exact ar'.size, fun t ht => ?_, ar'.dfs, by rw [put_defers]; exact ar'.defers⟩
        rw [put_getD]
        by_cases hd : o.dst = some t ∧ t < a.tmps.size
        · rw [if_pos hd, hgv t hd.1 (by rw [← ar.size]; exact hd.2)]; exact g4
        · rw [if_neg hd]
          refine ar'.val t fun ⟨h1, q, hq, h2, h3⟩ => ht ⟨h1, q, hq, ?_, h3⟩
          rw [set_getD ai.size hlt, h2, Bool.or_false, decide_eq_false_iff_not]
          intro e
          have hq1 := (ci.pend q hq).1
          rw [← e, ho] at hq1
          cases hq1
          exact hd ⟨h3, by rw [ar.size]; exact h1⟩
      unfold quietV at hqv
      cases hw : wantB ops o s with
      | none => rw [hw] at hqv; cases hqv
      | some b =>
        rw [hw] at hqv
        rw [wantB_sound hsee hw]
        cases b with
        | false =>
          cases hqv
          simp only [Bool.false_eq_true, if_false]
          exact ⟨fun f _ => fen_fn _ _ _, done ρ w undef (Ext.refl _ _) hs (vr_unit _ _) (Below.refl _ _)⟩
        | true =>
          simp only at hqv
          simp only [if_true]
          have hx : XOp P ro o s.ev h fun v' h' => v' = v ∧ h' = h := XOp.quiet hT hqv ⟨rfl, rfl⟩
          have := hx B ρ w a hr hs hops Q (wpAnyIn (fen ρ0 ro) 0 P .any ops Q fa (A.setIfInBounds i true))
          rw [fen_ext he hr0] at this
          refine this fun v' z ρ' h' w' g1 g2 g3 g4 g5 g6 => ?_
          obtain ⟨rfl, rfl⟩ := g6
          exact done ρ' w' z g2 g3 g4 g5
    | false =>
      cases f with
      | zero => cases hst
      | succ f =>
        have hin : (o, i) ∈ ops.toList.zipIdx.filter (fun q => !L.testBit q.2 && rdy L q.1) := by
          rw [List.mem_filter]
          refine ⟨mem_full.2 ho, ?_⟩
          simp only [hL, Bool.not_false, Bool.true_and, rdy, List.all_eq_true]
          exact fun e he => ai.sub e (hdA e he)
        simp only [stage] at hst
        split at hst
        · rename_i hf; rw [hf] at hin; cases hin
        · rename_i o' hf
          have hst := List.all_eq_true.1 hst (o, i) hin
          simp only at hst
          split at hst
          · rename_i hw
            rw [wantB_sound hsee hw]
            simp only [if_true]
            have hx := hE o s h _ hst B ρ w a hr hs hops Q (wpAnyIn (fen ρ0 ro) 0 P .any ops Q fa (A.setIfInBounds i true))
            rw [fen_ext he hr0] at hx
            refine hx fun v z ρ' h' w' g1 g2 g3 g4 g5 g6 => ?_
            simp only [Bool.and_eq_true, List.all_eq_true] at g6
            obtain ⟨hstill, hpass⟩ := g6
            generalize hp' : p.filter (fun q => !(force ops.toList.zipIdx.reverse (addB 0 (dir o))).testBit q.1) = p' at hstill hpass
            have hsub : ∀ q ∈ p', q ∈ p := fun q hq => by rw [← hp'] at hq; exact (List.mem_filter.1 hq).1
            have hforced : ∀ b, (force ops.toList.zipIdx.reverse (addB 0 (dir o))).testBit b = true → A.getD b false = true := by
              refine force_sub (fun q hq hS e he => ?_) (addB_sub (by simp) hdA)
              exact ai.down q.2 q.1 (mem_full.1 (by simpa using hq)) hS e he
            have hself : ∀ t, o.dst = some t → t ∉ o.looksAt ops := fun t ht hm => by
              have := F.clos i i o o t ho ho ht hm (fun j => j < i) (fun e he => F.acyc i o ho e he) (fun j oj hj hlt e he => Nat.lt_trans (F.acyc j oj hj e he) hlt)
              exact absurd this (Nat.lt_irrefl _)
            have ar' := ar.ext g1 g2
            have ai' : AI ops (A.setIfInBounds i true) (L ||| 2 ^ i) p' := ⟨by simp [ai.size], fun j hj => by
                rw [set_getD ai.size hlt, Bool.or_eq_true, decide_eq_true_eq] at hj
                rw [tb_or]
                rcases hj with rfl | hj
                · simp
                · rw [ai.sub j hj]; rfl, dA', fun j oj hj hb => by
                rw [set_getD ai.size hlt]
                rw [tb_or, Bool.or_eq_true, decide_eq_true_eq] at hb
                rcases hb with hb | rfl
                · rcases ai.hid j oj hj hb with h1 | ⟨u, h1⟩
                  · exact .inl (by rw [h1]; simp)
                  · cases hm : (force ops.toList.zipIdx.reverse (addB 0 (dir o))).testBit j with
                    | true => exact .inl (by rw [hforced j hm]; simp)
                    | false => exact .inr ⟨u, by rw [← hp']; exact List.mem_filter.2 ⟨h1, by simp only [hm]; rfl⟩⟩
                · exact .inl (by simp)⟩
            have ci' : CI T ops (L ||| 2 ^ i) p' (s.put o.dst v) h' := ⟨fun j oj hj hb e he => by
                rw [tb_or, Bool.or_eq_true, decide_eq_true_eq] at hb
                rw [tb_or, Bool.or_eq_true]
                rcases hb with hb | rfl
                · exact .inl (ci.down j oj hj hb e he)
                · rw [ho] at hj; cases hj
                  exact .inl (ai.sub e (hdA e he)), fun q hq => by
                obtain ⟨h1, h2, h3, h4⟩ := ci.pend q (hsub q hq)
                refine ⟨h1, by rw [tb_or, h2]; rfl, ?_, fun t ht hlt' => ?_⟩
                · have := hstill q hq
                  unfold stillV at this
                  split at this
                  · rename_i u hu; rw [hu, sameV_eq this]
                  · cases this
                · rw [put_get, if_neg fun e => ?_]
                  · exact h4 t ht (by simpa using hlt')
                  · have := F.dist q.1 i q.2.1 o t h1 ho ht e.1
                    rw [← this, h2] at hL
                    cases hL⟩
            have ar2 : ARel (A.setIfInBounds i true) p' h'.next ρ' (s.put o.dst v) (a.put o.dst z) := by
              refine ⟨by rw [put_size]; simpa using ar'.size, fun t ht => ?_, by simpa using ar'.dfs, by rw [put_defers]; simpa using ar'.defers⟩
              rw [put_getD, put_get]
              by_cases hd : o.dst = some t ∧ t < s.sz
              · rw [if_pos hd, if_pos (by rw [ar.size]; exact hd)]; exact g4
              · rw [if_neg hd, if_neg (by rw [ar.size]; exact hd)]
                refine ar'.val t fun ⟨h1, q, hq, h2, h3⟩ => ht ⟨by simpa using h1, q, ?_, ?_, h3⟩
                · rw [← hp']
                  refine List.mem_filter.2 ⟨hq, ?_⟩
                  cases hm : (force ops.toList.zipIdx.reverse (addB 0 (dir o))).testBit q.1 with
                  | false => rfl
                  | true => rw [hforced _ hm] at h2; cases h2
                · rw [set_getD ai.size hlt, h2, Bool.or_false, decide_eq_false_iff_not]
                  intro e
                  have := (ci.pend q hq).2.1
                  rw [← e, hL] at this
                  cases this
            obtain ⟨L2, s2, p2, ai2, ci2, ar3, hk2⟩ := pass_sound F _ _ _ _ (fun q hq => mem_full.1 hq) ai' ci' ar2 hpass
            exact ih f _ L2 p2 s2 h' ρ' w' _ hc' ai2 ci2 (Nat.le_trans hN g1) (he.trans g2 hN) (hgood _ _ _ _ _ _ hg g1 g2 g5) g3 ar3 hk2
          · cases hst

theorem any_sound2 (hT : TTok P T) (hE : ESound P ro E) (F : RForm ops) {k : St → Hp → Bool} {G : Guess} (Q : Exit → Act → World → Prop) {B : Nat} (Good : Env → Hp → World → Prop) (ρ0 : Env) (N0 : Nat) (hr0 : ∀ l, ro = some l → l < N0)
    (hgood : ∀ ρ h w ρ' h' w', Good ρ h w → h.next ≤ h'.next → Ext h.next ρ ρ' → Below B w w' → Good ρ' h' w')
    (hQ : ∀ ρ s h w a, N0 ≤ h.next → Ext N0 ρ0 ρ → Good ρ h w → Sat B ρ h w → TRel h.next ρ s a → k s h = true → Q .normal a w) :
    ∀ (fa f : Nat) (A : Array Bool) (L : Nat) (p : Pend) (s : St) (h : Hp) (ρ : Env) (w : World) (a : Act), cnt ops.size A ≤ fa → AI ops A L p → CI T ops L p s h → N0 ≤ h.next → Ext N0 ρ0 ρ → Good ρ h w → Sat B ρ h w → ARel A p h.next ρ s a →
      stage2 T E G ops ops.toList.zipIdx ops.toList.zipIdx.reverse k f L p s h = true → wpAnyIn (fen ρ0 ro) 0 P .any ops Q fa A a w := by
  -- at the end
  have fin : ∀ (f : Nat) (A : Array Bool) (L : Nat) (p : Pend) (s : St) (h : Hp) (ρ : Env) (w : World) (a : Act), (∀ i, i < ops.size → A.getD i false = true) → AI ops A L p → CI T ops L p s h → N0 ≤ h.next → Ext N0 ρ0 ρ → Good ρ h w → Sat B ρ h w → ARel A p h.next ρ s a →
      stage2 T E G ops ops.toList.zipIdx ops.toList.zipIdx.reverse k f L p s h = true → Q .normal a w := by
    intro f A L p s h ρ w a hall ai ci hN he hg hs ar hst
    have hemp : ops.toList.zipIdx.filter (fun q => !L.testBit q.2 && rdy L q.1) = [] := by
      rw [List.filter_eq_nil_iff]
      intro q hq
      have := mem_full.1 (show (q.1, q.2) ∈ _ from hq)
      have hlt : q.2 < ops.size := (Array.getElem?_eq_some_iff.1 this).1
      rw [ai.sub q.2 (hall _ hlt)]
      simp
    have hks : k s h = true := by
      rcases stage2_cases hst with ⟨kd, h1, h2⟩ | ⟨f', rfl, h1, _⟩
      · cases f with
        | zero => cases h1
        | succ f =>
          simp only [stage, hemp] at h1
          exact h2 _ _ h1
      · exact h1 hemp
    refine hQ ρ s h w a hN he hg hs (ar.full fun q hq => hall _ ?_) hks
    exact (Array.getElem?_eq_some_iff.1 (ci.pend q hq).1).1
  intro fa
  induction fa with
  | zero =>
    intro f A L p s h ρ w a hc ai ci hN he hg hs ar hst
    have hall : ∀ i, i < ops.size → A.getD i false = true := by
      intro i hi
      have : cnt ops.size A = 0 := Nat.le_zero.1 hc
      unfold cnt at this
      rw [List.countP_eq_zero] at this
      have := this i (List.mem_range.2 hi)
      cases hA : A.getD i false with
      | true => rfl
      | false => rw [hA] at this; simp at this
    refine ⟨?_, fin f A L p s h ρ w a hall ai ci hN he hg hs ar hst⟩
    rw [List.eq_nil_iff_forall_not_mem]
    intro j hj
    obtain ⟨h0, o, ho, _⟩ := mem_ready.1 hj
    have hlt := (Array.getElem?_eq_some_iff.1 ho).1
    have h1 := hall j hlt
    simp [Array.getD_eq_getD_getElem?, ai.size, hlt] at h0 h1
    rw [h0] at h1
    cases h1
  | succ fa ih =>
    intro f A L p s h ρ w a hc ai ci hN he hg hs ar hst
    rcases stage2_cases hst with ⟨kd, h1, h2⟩ | hcases
    · exact any_sound hT hE F Q Good ρ0 N0 hr0 hgood (fun ρ s h w a x1 x2 x3 x4 x5 x6 => hQ ρ s h w a x1 x2 x3 x4 x5 (h2 _ _ x6)) (fa + 1) f A L p s h ρ w a hc ai ci hN he hg hs ar h1
    refine ⟨fun hr => fin f A L p s h ρ w a (all_of_ready F ai.size hr) ai ci hN he hg hs ar hst, fun i hi => ?_⟩
    obtain ⟨h0, o, ho, _⟩ := mem_ready.1 hi
    have hlt : i < ops.size := (Array.getElem?_eq_some_iff.1 ho).1
    have hnA : A.getD i false = false := by
      simp [Array.getD_eq_getD_getElem?, ai.size, hlt] at h0 ⊢; exact h0
    have hdA := dir_ready ho hi
    have hsee : ∀ t, t ∈ o.looksAt ops → VR h.next ρ (s.get t) (a.tmps.getD t undef) := fun t ht => ar.val t (ai.sees F ci ho hdA ht)
    have hops := ev_on (s := s) (a := a) hsee
    have hr : ∀ l, ro = some l → l < h.next := fun l hl => Nat.lt_of_lt_of_le (hr0 l hl) hN
    have hc' : cnt ops.size (A.setIfInBounds i true) ≤ fa := by
      have := cnt_set ai.size hlt hnA
      omega
    have dA' : ∀ (j : Nat) (oj : Oper), ops[j]? = some oj → (A.setIfInBounds i true).getD j false = true → ∀ e ∈ dir oj, (A.setIfInBounds i true).getD e false = true := by
      intro j oj hj hb e he
      rw [set_getD ai.size hlt, Bool.or_eq_true, decide_eq_true_eq] at hb
      rw [set_getD ai.size hlt, Bool.or_eq_true]
      rcases hb with rfl | hb
      · rw [ho] at hj; cases hj; exact .inr (hdA e he)
      · exact .inr (ai.down j oj hj hb e he)
    unfold wpOpIn
    simp only [ho]
    cases hL : L.testBit i with
    | true =>
      -- the eager run has it behind it
      obtain ⟨v, hv⟩ : ∃ v, (i, o, v) ∈ p := (ai.hid i o ho hL).resolve_left (by rw [hnA]; simp)
      obtain ⟨_, _, hqv, hgv⟩ := ci.pend _ hv
      simp only at hqv hgv
      have ai' : AI ops (A.setIfInBounds i true) L p := ⟨by simp [ai.size], fun j hj => by
          rw [set_getD ai.size hlt, Bool.or_eq_true, decide_eq_true_eq] at hj
          rcases hj with rfl | hj
          · exact hL
          · exact ai.sub j hj, dA', fun j oj hj hb => by
          rcases ai.hid j oj hj hb with h1 | h1
          · exact .inl (by rw [set_getD ai.size hlt, h1]; simp)
          · exact .inr h1⟩
      have done : ∀ ρ' w' z, Ext h.next ρ ρ' → Sat B ρ' h w' → VR h.next ρ' v z → Below B w w' → wpAnyIn (fen ρ0 ro) 0 P .any ops Q fa (A.setIfInBounds i true) (a.put o.dst z) w' := by
        intro ρ' w' z g2 g3 g4 g5
        refine ih f _ L p s h ρ' w' _ hc' ai' ci hN (he.trans g2 hN) (hgood _ _ _ _ _ _ hg (Nat.le_refl _) g2 g5) g3 ?_ hst
        have ar' := ar.ext (Nat.le_refl _) g2
        refine ⟨by rw [put_size]; exact ar'.size, fun t ht => ?_, ar'.dfs, by rw [put_defers]; exact ar'.defers⟩
        rw [put_getD]
        by_cases hd : o.dst = some t ∧ t < a.tmps.size
        · rw [if_pos hd, hgv t hd.1 (by rw [← ar.size]; exact hd.2)]; exact g4
        · rw [if_neg hd]
          refine ar'.val t fun ⟨h1, q, hq, h2, h3⟩ => ht ⟨h1, q, hq, ?_, h3⟩
          rw [set_getD ai.size hlt, h2, Bool.or_false, decide_eq_false_iff_not]
          intro e
          have hq1 := (ci.pend q hq).1
          rw [← e, ho] at hq1
          cases hq1
          exact hd ⟨h3, by rw [ar.size]; exact h1⟩
      unfold quietV at hqv
      cases hw : wantB ops o s with
      | none => rw [hw] at hqv; cases hqv
      | some b =>
        rw [hw] at hqv
        rw [wantB_sound hsee hw]
        cases b with
        | false =>
          cases hqv
          simp only [Bool.false_eq_true, if_false]
          exact ⟨fun f _ => fen_fn _ _ _, done ρ w undef (Ext.refl _ _) hs (vr_unit _ _) (Below.refl _ _)⟩
        | true =>
          simp only at hqv
          simp only [if_true]
          have hx : XOp P ro o s.ev h fun v' h' => v' = v ∧ h' = h := XOp.quiet hT hqv ⟨rfl, rfl⟩
          have := hx B ρ w a hr hs hops Q (wpAnyIn (fen ρ0 ro) 0 P .any ops Q fa (A.setIfInBounds i true))
          rw [fen_ext he hr0] at this
          refine this fun v' z ρ' h' w' g1 g2 g3 g4 g5 g6 => ?_
          obtain ⟨rfl, rfl⟩ := g6
          exact done ρ' w' z g2 g3 g4 g5
    | false =>
      obtain ⟨f', hf', _, hallq⟩ := hcases
      subst hf'
      · have hin : (o, i) ∈ ops.toList.zipIdx.filter (fun q => !L.testBit q.2 && rdy L q.1) := by
          rw [List.mem_filter]
          refine ⟨mem_full.2 ho, ?_⟩
          simp only [hL, Bool.not_false, Bool.true_and, rdy, List.all_eq_true]
          exact fun e he => ai.sub e (hdA e he)
        · have hst := hallq (o, i) hin
          simp only at hst
          split at hst
          · rename_i hw
            rw [wantB_sound hsee hw]
            simp only [if_true]
            have hx := hE o s h _ hst B ρ w a hr hs hops Q (wpAnyIn (fen ρ0 ro) 0 P .any ops Q fa (A.setIfInBounds i true))
            rw [fen_ext he hr0] at hx
            refine hx fun v z ρ' h' w' g1 g2 g3 g4 g5 g6 => ?_
            simp only [Bool.and_eq_true, List.all_eq_true] at g6
            obtain ⟨hstill, hpass⟩ := g6
            generalize hp' : p.filter (fun q => !(force ops.toList.zipIdx.reverse (addB 0 (dir o))).testBit q.1) = p' at hstill hpass
            have hsub : ∀ q ∈ p', q ∈ p := fun q hq => by rw [← hp'] at hq; exact (List.mem_filter.1 hq).1
            have hforced : ∀ b, (force ops.toList.zipIdx.reverse (addB 0 (dir o))).testBit b = true → A.getD b false = true := by
              refine force_sub (fun q hq hS e he => ?_) (addB_sub (by simp) hdA)
              exact ai.down q.2 q.1 (mem_full.1 (by simpa using hq)) hS e he
            have hself : ∀ t, o.dst = some t → t ∉ o.looksAt ops := fun t ht hm => by
              have := F.clos i i o o t ho ho ht hm (fun j => j < i) (fun e he => F.acyc i o ho e he) (fun j oj hj hlt e he => Nat.lt_trans (F.acyc j oj hj e he) hlt)
              exact absurd this (Nat.lt_irrefl _)
            have ar' := ar.ext g1 g2
            have ai' : AI ops (A.setIfInBounds i true) (L ||| 2 ^ i) p' := ⟨by simp [ai.size], fun j hj => by
                rw [set_getD ai.size hlt, Bool.or_eq_true, decide_eq_true_eq] at hj
                rw [tb_or]
                rcases hj with rfl | hj
                · simp
                · rw [ai.sub j hj]; rfl, dA', fun j oj hj hb => by
                rw [set_getD ai.size hlt]
                rw [tb_or, Bool.or_eq_true, decide_eq_true_eq] at hb
                rcases hb with hb | rfl
                · rcases ai.hid j oj hj hb with h1 | ⟨u, h1⟩
                  · exact .inl (by rw [h1]; simp)
                  · cases hm : (force ops.toList.zipIdx.reverse (addB 0 (dir o))).testBit j with
                    | true => exact .inl (by rw [hforced j hm]; simp)
                    | false => exact .inr ⟨u, by rw [← hp']; exact List.mem_filter.2 ⟨h1, by simp only [hm]; rfl⟩⟩
                · exact .inl (by simp)⟩
            have ci' : CI T ops (L ||| 2 ^ i) p' (s.put o.dst v) h' := ⟨fun j oj hj hb e he => by
                rw [tb_or, Bool.or_eq_true, decide_eq_true_eq] at hb
                rw [tb_or, Bool.or_eq_true]
                rcases hb with hb | rfl
                · exact .inl (ci.down j oj hj hb e he)
                · rw [ho] at hj; cases hj
                  exact .inl (ai.sub e (hdA e he)), fun q hq => by
                obtain ⟨h1, h2, h3, h4⟩ := ci.pend q (hsub q hq)
                refine ⟨h1, by rw [tb_or, h2]; rfl, ?_, fun t ht hlt' => ?_⟩
                · have := hstill q hq
                  unfold stillV at this
                  split at this
                  · rename_i u hu; rw [hu, sameV_eq this]
                  · cases this
                · rw [put_get, if_neg fun e => ?_]
                  · exact h4 t ht (by simpa using hlt')
                  · have := F.dist q.1 i q.2.1 o t h1 ho ht e.1
                    rw [← this, h2] at hL
                    cases hL⟩
            have ar2 : ARel (A.setIfInBounds i true) p' h'.next ρ' (s.put o.dst v) (a.put o.dst z) := by
              refine ⟨by rw [put_size]; simpa using ar'.size, fun t ht => ?_, by simpa using ar'.dfs, by rw [put_defers]; simpa using ar'.defers⟩
              rw [put_getD, put_get]
              by_cases hd : o.dst = some t ∧ t < s.sz
              · rw [if_pos hd, if_pos (by rw [ar.size]; exact hd)]; exact g4
              · rw [if_neg hd, if_neg (by rw [ar.size]; exact hd)]
                refine ar'.val t fun ⟨h1, q, hq, h2, h3⟩ => ht ⟨by simpa using h1, q, ?_, ?_, h3⟩
                · rw [← hp']
                  refine List.mem_filter.2 ⟨hq, ?_⟩
                  cases hm : (force ops.toList.zipIdx.reverse (addB 0 (dir o))).testBit q.1 with
                  | false => rfl
                  | true => rw [hforced _ hm] at h2; cases h2
                · rw [set_getD ai.size hlt, h2, Bool.or_false, decide_eq_false_iff_not]
                  intro e
                  have := (ci.pend q hq).2.1
                  rw [← e, hL] at this
                  cases this
            obtain ⟨L2, s2, p2, ai2, ci2, ar3, hk2⟩ := pass_sound F _ _ _ _ (fun q hq => mem_full.1 hq) ai' ci' ar2 hpass
            exact ih f' _ L2 p2 s2 h' ρ' w' _ hc' ai2 ci2 (Nat.le_trans hN g1) (he.trans g2 hN) (hgood _ _ _ _ _ _ hg g1 g2 g5) g3 ar3 hk2
          · cases hst

theorem Below.drewn {B : Nat} (w : World) (n : Nat) : Below B w { w with drawn := n } := ⟨rfl, rfl, rfl, Nat.le_refl _, fun _ _ => rfl⟩

theorem XWp.draw (hT : TTok P T) (hE : ESound P ro E) (hm : P.follows .mixedOrders = true) {id : Nat} {s : St} {h : Hp} {k : St → Hp → Bool} {K : XK} (hk : drawR T E ops s h k = true) (hK : ∀ s h, k s h = true → K .normal s h) : XWp P ro (.region id ops true) K s h := by
  intro B ρ w a hr hs ht
  refine wpIn_region_any hm ?_
  simp only [drawR, Bool.and_eq_true] at hk
  have F := okR_form hk.1
  have no : ∀ i, (Array.replicate ops.size false).getD i false = false := fun i => by
    simp only [Array.getD_eq_getD_getElem?, Array.getElem?_replicate]
    split <;> rfl
  have ai : AI ops (Array.replicate ops.size false) 0 [] := by
    refine ⟨by simp, fun i hi => ?_, fun i o _ hi => ?_, fun i o _ hi => ?_⟩
    · rw [no i] at hi; cases hi
    · rw [no i] at hi; cases hi
    · simp at hi
  have ci : CI T ops 0 [] s h := ⟨fun i o _ hi => by simp at hi, fun q hq => by cases hq⟩
  obtain ⟨L, s1, p, ai, ci, ar, hst⟩ := pass_sound F _ _ _ _ (fun q hq => mem_full.1 hq) ai ci ht.a hk.2
  refine any_sound hT hE F (k := k) _ (B := B) (fun ρ' h' w' => Below B w w') ρ h.next hr (fun _ _ _ _ _ _ g _ _ b => g.trans b) ?_ ops.size _ _ L p s1 h ρ _ a ?_ ai ci (Nat.le_refl _) (Ext.refl _ _) (Below.drewn _ _) (Sat.drew hs) ar hst
  · intro ρ' s' h' w' a' h1 h2 h3 h4 h5 h6
    exact ⟨ρ', s', h', h1, h2, h4, h5, h3, hK _ _ h6⟩
  · unfold cnt
    exact Nat.le_trans List.countP_le_length (by simp)
theorem XWp.draw2 (hT : TTok P T) (hE : ESound P ro E) (hm : P.follows .mixedOrders = true) {id : Nat} {s : St} {h : Hp} {k : St → Hp → Bool} {G : Guess} {K : XK} (hk : drawR2 T E G ops s h k = true) (hK : ∀ s h, k s h = true → K .normal s h) : XWp P ro (.region id ops true) K s h := by
  intro B ρ w a hr hs ht
  refine wpIn_region_any hm ?_
  simp only [drawR2, Bool.and_eq_true] at hk
  have F := okR_form hk.1
  have no : ∀ i, (Array.replicate ops.size false).getD i false = false := fun i => by
    simp only [Array.getD_eq_getD_getElem?, Array.getElem?_replicate]
    split <;> rfl
  have ai : AI ops (Array.replicate ops.size false) 0 [] := by
    refine ⟨by simp, fun i hi => ?_, fun i o _ hi => ?_, fun i o _ hi => ?_⟩
    · rw [no i] at hi; cases hi
    · rw [no i] at hi; cases hi
    · simp at hi
  have ci : CI T ops 0 [] s h := ⟨fun i o _ hi => by simp at hi, fun q hq => by cases hq⟩
  obtain ⟨L, s1, p, ai, ci, ar, hst⟩ := pass_sound F _ _ _ _ (fun q hq => mem_full.1 hq) ai ci ht.a hk.2
  refine any_sound2 hT hE F (k := k) (G := G) _ (B := B) (fun ρ' h' w' => Below B w w') ρ h.next hr (fun _ _ _ _ _ _ g _ _ b => g.trans b) ?_ ops.size _ _ L p s1 h ρ _ a ?_ ai ci (Nat.le_refl _) (Ext.refl _ _) (Below.drewn _ _) (Sat.drew hs) ar hst
  · intro ρ' s' h' w' a' h1 h2 h3 h4 h5 h6
    exact ⟨ρ', s', h', h1, h2, h4, h5, h3, hK _ _ h6⟩
  · unfold cnt
    exact Nat.le_trans List.countP_le_length (by simp)
end
end Go.Vex
