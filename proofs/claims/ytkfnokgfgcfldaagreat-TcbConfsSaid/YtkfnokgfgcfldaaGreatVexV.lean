/-
  VEX, part V: the operations that write, make or call, and regions, as statements about data.
-/
import Derived.Test.YtkfnokgfgcfldaaGreatVexU
set_option linter.unusedSimpArgs false
set_option linter.unusedVariables false
namespace Go.Vex
open Go.RowKit (Below)

def exTs (T : TT) : List TypeId → (List V → Prop) → Prop
  | [], k => k []
  | t :: ts, k => exT T t fun v => exTs T ts fun l => k (v :: l)

theorem exTs_ex {T : TT} : ∀ {ts : List TypeId} {k : List V → Prop}, exTs T ts k → ∃ l, k l
  | [], _, h => ⟨[], h⟩
  | _ :: ts, _, h => by
    obtain ⟨v, h⟩ := exT_ex h
    obtain ⟨l, h⟩ := exTs_ex h
    exact ⟨_, h⟩

/-- the function that a code makes, and how many places it captures -/
def closO : List Oper → Option (FuncId × Nat)
  | [] => none
  | o :: r => match o.op with
    | .makeFunc (.func g) #[] cs => some (g, cs.size)
    | _ => closO r

def closC : Code → Option (FuncId × Nat)
  | .region _ ops _ => closO ops.toList
  | .seq a b => match closC a with
    | some g => some g
    | none => closC b
  | .block _ c => closC c
  | .loop c => closC c
  | .scope c => closC c
  | .cond _ a b => match closC a with
    | some g => some g
    | none => closC b
  | _ => none

def capX : Nat → (List V → Prop) → Prop
  | 0, k => k []
  | n + 1, k => ∃ c : Nat, capX n fun l => k (.ptr (some (c, 0)) :: l)

theorem capX_ex : ∀ {n : Nat} {k : List V → Prop}, capX n k → ∃ l, k l
  | 0, _, h => ⟨_, h⟩
  | _ + 1, _, h => by
    obtain ⟨c, h⟩ := h
    obtain ⟨l, h⟩ := capX_ex h
    exact ⟨_, h⟩

/-- a function made by a known code -/
def cloX (b : Option Code) (v : V) (k : V → Prop) (other : Prop) : Prop :=
  match b with
  | some c => match closC c with
    | some (g, n) => capX n fun l => v = .fn (.func g) [] l ∧ k (.fn (.func g) [] l)
    | none => other
  | none => other

def isFnT (T : TT) (t : TypeId) : Bool :=
  match T t with
  | some ti => match ti.zero with
    | some .nilFn => true
    | _ => false
  | none => false

/-- what a call brings back, in the form of its results' types -/
def resX (T : TT) (b : Option Code) (ts : List TypeId) (v : V) (k : V → Prop) : Prop :=
  match ts with
  | [] => k v
  | [t] => bif isFnT T t then cloX b v k (exT T t fun u => v = u ∧ k u) else exT T t fun u => v = u ∧ k u
  | ts => exTs T ts fun l => v = .tup l ∧ k (.tup l)

theorem resX_spec {T : TT} {b : Option Code} {ts : List TypeId} {v : V} {k : V → Prop} (h : resX T b ts v k) : k v := by
  have key : ∀ {t}, (exT T t fun u => v = u ∧ k u) → k v := fun h => by obtain ⟨u, rfl, h⟩ := exT_ex h; exact h
  unfold resX at h
  split at h
  · exact h
  · rename_i t
    cases hf : isFnT T t with
    | false => rw [hf] at h; exact key h
    | true =>
      rw [hf] at h
      simp only [cond_true] at h
      unfold cloX at h
      split at h
      · split at h
        · obtain ⟨l, rfl, h2⟩ := capX_ex h; exact h2
        · exact key h
      · exact key h
  · obtain ⟨u, hv, h⟩ := exTs_ex h; rw [hv]; exact h

/-- is there such a function? -/
def isFn (F : FTab) (g : Nat) : Bool := (F g).isSome

/-- what a call of a closure brings back, in the form of its type -/
def resY (T : TT) (F : FTab) (g : Nat) (t : TypeId) (v : V) (k : V → Prop) : Prop :=
  match T t with
  | some ti => match ti.zero with
    | some (.tup []) => k v
    | some (.tup (z :: zs)) => exSs (z :: zs) fun l => v = .tup l ∧ k (.tup l)
    | some .nilFn => cloX ((F g).bind fun fn => fn.body) v k (exS .nilFn fun u => v = u ∧ k u)
    | some z => exS z fun u => v = u ∧ k u
    | none => False
  | none => False

theorem resY_spec {T : TT} {F : FTab} {g : Nat} {t : TypeId} {v : V} {k : V → Prop} (h : resY T F g t v k) : k v := by
  have key : ∀ {z}, (exS z fun u => v = u ∧ k u) → k v := fun h => by obtain ⟨u, rfl, h⟩ := exS_ex _ h; exact h
  unfold resY at h
  split at h
  · split at h
    · exact h
    · obtain ⟨u, hv, h⟩ := exSs_ex _ h; rw [hv]; exact h
    · unfold cloX at h
      split at h
      · split at h
        · obtain ⟨l, rfl, h2⟩ := capX_ex h; exact h2
        · exact key h
      · exact key h
    · exact key h
    · exact h.elim
  · exact h.elim

def namedK (r : Option (V × Hp)) (k : V → Hp → Prop) : Prop :=
  match r with
  | some (v, x) => ∀ h', h' = x → k v h'
  | none => False

theorem namedK_ex {r : Option (V × Hp)} {k : V → Hp → Prop} (h : namedK r k) : ∃ p, r = some p ∧ k p.1 p.2 := by
  cases r with
  | none => exact h.elim
  | some p => exact ⟨p, rfl, h _ rfl⟩

def nextX (h : Hp) (zs : List V) (it : V) (k : V → Hp → Prop) : Prop :=
  ∃ l, xnext h it = some l ∧ ((.tup [.bool false], h) ∈ l → k (.tup [.bool false]) h) ∧
    (∀ r ∈ l, r = (.tup [.bool false], h) ∨ ∃ vs, shpBs zs vs = true ∧ r.1 = .tup (.bool true :: vs)) ∧ allSs zs fun vs => ∀ h', (.tup (.bool true :: vs), h') ∈ l → k (.tup (.bool true :: vs)) h'

theorem nextX_ex {h : Hp} {zs : List V} {it : V} {k : V → Hp → Prop} (hx : nextX h zs it k) : ∃ l, xnext h it = some l ∧ ∀ r ∈ l, k r.1 r.2 := by
  obtain ⟨l, hl, h1, h2, h3⟩ := hx
  refine ⟨l, hl, fun r hr => ?_⟩
  rcases h2 r hr with rfl | ⟨vs, hs, hv⟩
  · exact h1 hr
  · have h4 := allSs_spec zs vs h3 hs r.2 (by rw [← hv]; exact hr)
    rw [hv]; exact h4

/-- as 'nextX', where nothing is known of the entries' forms -/
def nextY (h : Hp) (it : V) (k : V → Hp → Prop) : Prop :=
  ∃ l, xnext h it = some l ∧ ((.tup [.bool false], h) ∈ l → k (.tup [.bool false]) h) ∧
    (∀ r ∈ l, r = (.tup [.bool false], h) ∨ ∃ a b, r.1 = .tup [.bool true, a, b]) ∧ ∀ (a b : V) h', (.tup [.bool true, a, b], h') ∈ l → k (.tup [.bool true, a, b]) h'

theorem nextY_ex {h : Hp} {it : V} {k : V → Hp → Prop} (hx : nextY h it k) : ∃ l, xnext h it = some l ∧ ∀ r ∈ l, k r.1 r.2 := by
  obtain ⟨l, hl, h1, h2, h3⟩ := hx
  refine ⟨l, hl, fun r hr => ?_⟩
  rcases h2 r hr with rfl | ⟨a, b, hv⟩
  · exact h1 hr
  · have h4 := h3 a b r.2 (by rw [← hv]; exact hr)
    rw [hv]; exact h4

/-- as which type is part i of slot d taken? -/
def extT (d : Option Nat) (i : Nat) (r : List Oper) : Option TypeId :=
  match d with
  | some d => (r.find? fun o => match o.op with
    | .extract (.tmp q) j => Nat.beq q d && Nat.beq j i
    | _ => false).map (·.type)
  | none => none

def exO (T : TT) (t : Option TypeId) (k : V → Prop) : Prop :=
  match t with
  | none => ∃ v, k v
  | some t => exT T t k

theorem exO_ex {T : TT} {t : Option TypeId} {k : V → Prop} (h : exO T t k) : ∃ v, k v := by
  cases t with
  | none => exact h
  | some t => exact exT_ex h

/-- a round of the loop whose record is l: what 'yield' hands back -/
def XYield (P : Program) (l : Nat) (vs : List V) (h : Hp) (K : V → Hp → Prop) : Prop :=
  ∀ (ro : Option Nat) (o : Oper) (ev : Operand → Option V) (f : Operand) (args : Array Operand) (ats : Array TypeId), o.op = .call { callee := .value f, args, argTypes := ats } → ev f = some (.yld l) → evs ev args.toList = some vs → XOp P ro o ev h K

theorem XYield.mono {P : Program} {l : Nat} {vs : List V} {h : Hp} {K K' : V → Hp → Prop} (hx : XYield P l vs h K) (hk : ∀ v h', K v h' → K' v h') : XYield P l vs h K' :=
  fun ro o ev f args ats h1 h2 h3 => (hx ro o ev f args ats h1 h2 h3).mono hk

def effX (P : Program) (T : TT) (F : FTab) (ro : Option Nat) (rs : List Oper) (o : Oper) (s : St) (h : Hp) (k : V → Hp → Prop) : Prop :=
  match o.op with
  | .store t a x => match T t, s.ev a, s.ev x with
    | some ti, some (.ptr p), some v => bif Nat.beq (vcells v).length ti.size && ones (vcells v) then onS p fun i o => ∃ h', h.st i o (vcells v) = some h' ∧ k (.tup []) h' else False
    | _, _, _ => False
  | .alloc t => match T t with
    | some ti => match ti.zero with
      | some z => namedK (xnew T h t z) k
      | none => False
    | none => False
  | .box t x => match s.ev x with
    | some v => namedK (xnew T h t v) k
    | none => False
  | .buildSlice t n ps => match evp s.ev ps.toList with
    | some l => namedK (xbuildSlice T h t n l) k
    | none => False
  | .makeMap t r => match evo s.ev r with
    | some v => namedK (xmakeMap T h t v) k
    | none => False
  | .makeSlice t l c => match s.ev l, s.ev c with
    | some a, some b => ∃ p n f h', xmake T h t a b = some (.slc p n f, h') ∧ k (.slc p n f) h'
    | _, _ => False
  | .mapUpdate t m key x | .insert t m key x => match s.ev m, s.ev key, s.ev x with
    | some a, some b, some c => ∃ h', xput T h t a b c = some h' ∧ k (.tup []) h'
    | _, _, _ => False
  | .mapEntry t m key => match T t, s.ev m, s.ev key with
    | some ti, some a, some b => match ti.d with
      | .map _ et => exT T et fun v => ∃ n h', xmapEntry T h t a b = some (.tup [v, .int .i64 n], h') ∧ k (.tup [v, .int .i64 n]) h'
      | _ => False
    | _, _, _ => False
  | .entryStore _ m st x => match s.ev m, s.ev st, s.ev x with
    | some a, some b, some c => ∃ h', xentryStore h a b c = some h' ∧ k (.tup []) h'
    | _, _, _ => False
  | .range t x => match s.ev x with
    | some v => ∃ h', xrange T h t v = some (.ptr (some (h.next, 0)), h') ∧ k (.ptr (some (h.next, 0))) h'
    | none => False
  | .next it false => match s.ev it, T o.type with
    | some v, some ti => match ti.zero with
      | some (.tup (_ :: zs)) => nextX h zs v k
      | some (.tup []) => nextY h v k
      | _ => False
    | _, _ => False
  | .entry it => match s.ev it with
    | some v => exO T (extT o.dst 0 rs) fun a => exO T (extT o.dst 1 rs) fun b => xentry h v = some (.tup [a, b]) ∧ k (.tup [a, b]) h
    | none => False
  | .convert src dst x => match s.ev x with
    | some v => namedK (xbytes T h src dst v) k
    | none => False
  | .call { callee := .builtin .append, args, argTypes } => match args.toList, argTypes.toList with
    | [x, y], [t, u] => match s.ev x, s.ev y with
      | some a, some b => ∃ p n f h', xapp T h t u a b = some (.slc p n f, h') ∧ k (.slc p n f) h'
      | _, _ => False
    | _, _ => False
  | .call { callee := .builtin .clear, args, argTypes } => match args.toList, argTypes.toList with
    | [x], [t] => match s.ev x with
      | some a => ∃ h', xclear T h t a = some h' ∧ k (.tup []) h'
      | none => False
    | _, _ => False
  | .call { callee := .builtin .delete, args, argTypes } => match args.toList, argTypes.toList with
    | [m, key], [t, _] => match s.ev m, s.ev key with
      | some a, some b => ∃ h', xdel T h t a b = some h' ∧ k (.tup []) h'
      | _, _ => False
    | _, _ => False
  | .call { callee := .value f, args, argTypes := _ } => match s.ev f, evs s.ev args.toList with
    | some (.fn (.func g) first cap), some vs => bif isFn F g then XCalls P g (first ++ vs ++ cap) h fun v h' => resY T F g o.type v fun v => k v h' else False
    | some (.yld l), some vs => XYield P l vs h fun v h' => ∃ b, v = .bool b ∧ k (.bool b) h'
    | _, _ => False
  | _ => False

section
variable {P : Program} {T : TT} {F : FTab} {ro : Option Nat} {o : Oper} {s : St} {h : Hp} {k : V → Hp → Prop}

theorem XOp.one (hT : TTok P T) {r : V × Hp} (hv : xe T h s.ev o.op = some [r]) (hk : k r.1 r.2) : XOp P ro o s.ev h k :=
  XOp.effect hT hv fun q hq => by rw [List.mem_singleton] at hq; rw [hq]; exact hk

theorem st_store {ti : TI} {t i o : Nat} {v : V} {h' : Hp} (ht : T t = some ti) (hb : (Nat.beq (vcells v).length ti.size && ones (vcells v)) = true) (hv : h.st i o (vcells v) = some h') : xstore T h t (.ptr (some (i, o))) v = some h' := by
  unfold Hp.st at hv
  simp only [xstore, ht]
  simp only [Bool.and_eq_true, nbeq] at hb
  split at hv
  · rename_i c e hg
    rw [hg]
    simp only
    rw [hb.1] at hv ⊢
    simp only [Nat.beq_refl, hb.2, Bool.and_true, Bool.true_and]
    exact hv
  · cases hv

theorem effX_sound {rs : List Oper} (hT : TTok P T) (hF : FOK P F) (hx : effX P T F ro rs o s h k) : XOp P ro o s.ev h k := by
  unfold effX at hx
  split at hx
  · rename_i t a x ho
    split at hx
    · rename_i ti p v ht ha hv
      cases hb : (Nat.beq (vcells v).length ti.size && ones (vcells v)) with
      | false => rw [hb] at hx; exact hx.elim
      | true =>
        rw [hb] at hx
        obtain ⟨i, off, rfl, hx⟩ := onS_ex hx
        obtain ⟨h', hs, hk⟩ := hx
        exact XOp.one hT (r := (.tup [], h')) (by rw [ho]; simp only [xe, ha, hv, st_store ht hb hs]; rfl) hk
    · exact hx.elim
  · rename_i t ho
    split at hx
    · rename_i ti ht
      split at hx
      · rename_i z hz
        obtain ⟨p, hp, hk⟩ := namedK_ex hx
        exact XOp.one hT (r := p) (by rw [ho]; simp only [xe, ht, hz, hp]; rfl) hk
      · exact hx.elim
    · exact hx.elim
  · rename_i t x ho
    split at hx
    · rename_i v hv
      obtain ⟨p, hp, hk⟩ := namedK_ex hx
      exact XOp.one hT (r := p) (by rw [ho]; simp only [xe, hv, hp]; rfl) hk
    · exact hx.elim
  · rename_i t n ps ho
    split at hx
    · rename_i l hl
      obtain ⟨p, hp, hk⟩ := namedK_ex hx
      exact XOp.one hT (r := p) (by rw [ho]; simp only [xe, hl, hp]; rfl) hk
    · exact hx.elim
  · rename_i t r ho
    split at hx
    · rename_i v hv
      obtain ⟨p, hp, hk⟩ := namedK_ex hx
      exact XOp.one hT (r := p) (by rw [ho]; simp only [xe, hv, hp]; rfl) hk
    · exact hx.elim
  · rename_i t l c ho
    split at hx
    · rename_i a b ha hb
      obtain ⟨p, n, f, h', hm, hk⟩ := hx
      exact XOp.one hT (r := (.slc p n f, h')) (by rw [ho]; simp only [xe, ha, hb, hm]; rfl) hk
    · exact hx.elim
  · rename_i t m key x ho
    split at hx
    · rename_i a b c ha hb hc
      obtain ⟨h', hm, hk⟩ := hx
      exact XOp.one hT (r := (.tup [], h')) (by rw [ho]; simp only [xe, ha, hb, hc, hm]; rfl) hk
    · exact hx.elim
  · rename_i t m key x ho
    split at hx
    · rename_i a b c ha hb hc
      obtain ⟨h', hm, hk⟩ := hx
      exact XOp.one hT (r := (.tup [], h')) (by rw [ho]; simp only [xe, ha, hb, hc, hm]; rfl) hk
    · exact hx.elim
  · rename_i t m key ho
    split at hx
    · rename_i ti a b ht ha hb
      split at hx
      · obtain ⟨v, n, h', hm, hk⟩ := exT_ex hx
        exact XOp.one hT (r := (.tup [v, .int .i64 n], h')) (by rw [ho]; simp only [xe, ha, hb, hm]; rfl) hk
      · exact hx.elim
    · exact hx.elim
  · rename_i t m st x ho
    split at hx
    · rename_i a b c ha hb hc
      obtain ⟨h', hm, hk⟩ := hx
      exact XOp.one hT (r := (.tup [], h')) (by rw [ho]; simp only [xe, ha, hb, hc, hm]; rfl) hk
    · exact hx.elim
  · rename_i t x ho
    split at hx
    · rename_i v hv
      obtain ⟨h', hm, hk⟩ := hx
      exact XOp.one hT (r := (.ptr (some (h.next, 0)), h')) (by rw [ho]; simp only [xe, hv, hm]; rfl) hk
    · exact hx.elim
  · rename_i it ho
    split at hx
    · rename_i v ti hv ht
      split at hx
      · rename_i zs hz
        obtain ⟨l, hl, hk⟩ := nextX_ex hx
        exact XOp.effect hT (l := l) (by rw [ho]; simp only [xe, hv, cond_false]; exact hl) hk
      · obtain ⟨l, hl, hk⟩ := nextY_ex hx
        exact XOp.effect hT (l := l) (by rw [ho]; simp only [xe, hv, cond_false]; exact hl) hk
      · exact hx.elim
    · exact hx.elim
  · rename_i it ho
    split at hx
    · rename_i v hv
      obtain ⟨a, hx⟩ := exO_ex hx
      obtain ⟨b, he, hk⟩ := exO_ex hx
      exact XOp.one hT (r := (.tup [a, b], h)) (by rw [ho]; simp only [xe, hv, he]; rfl) hk
    · exact hx.elim
  · rename_i src dst x ho
    split at hx
    · rename_i v hv
      obtain ⟨p, hp, hk⟩ := namedK_ex hx
      exact XOp.one hT (r := p) (by rw [ho]; simp only [xe, hv, hp]; rfl) hk
    · exact hx.elim
  · rename_i args ats ho
    split at hx
    · rename_i x y t u h1 h2
      split at hx
      · rename_i a b ha hb
        obtain ⟨p, n, f, h', hm, hk⟩ := hx
        exact XOp.one hT (r := (.slc p n f, h')) (by rw [ho]; simp only [xe, h1, h2, ha, hb, hm]; rfl) hk
      · exact hx.elim
    · exact hx.elim
  · rename_i args ats ho
    split at hx
    · rename_i x t h1 h2
      split at hx
      · rename_i a ha
        obtain ⟨h', hm, hk⟩ := hx
        exact XOp.one hT (r := (.tup [], h')) (by rw [ho]; simp only [xe, h1, h2, ha, hm]; rfl) hk
      · exact hx.elim
    · exact hx.elim
  · rename_i args ats ho
    split at hx
    · rename_i m key t u h1 h2
      split at hx
      · rename_i a b ha hb
        obtain ⟨h', hm, hk⟩ := hx
        exact XOp.one hT (r := (.tup [], h')) (by rw [ho]; simp only [xe, h1, h2, ha, hb, hm]; rfl) hk
      · exact hx.elim
    · exact hx.elim
  · rename_i f args ats ho
    split at hx
    · rename_i g first cap vs hf hv
      cases hg : F g with
      | none => rw [isFn, hg] at hx; exact hx.elim
      | some fn =>
        rw [isFn, hg] at hx
        exact XOp.call hF ho hf hv hg (hx.mono fun v h' hr => resY_spec hr)
    · rename_i l vs hf hv
      exact (hx _ _ _ _ _ _ ho hf hv).mono fun v h2 hh => by obtain ⟨b, rfl, hk⟩ := hh; exact hk
    · exact hx.elim
  · exact hx.elim
end

/-! ### regions -/

/-- a truth value that guards look at comes apart where it is written -/
def splitX (gs : List Nat) (d : Option Nat) (v : V) (k : V → Prop) : Prop :=
  match gs with
  | [] => k v
  | g :: gs => match d, v with
    | some t, .bool b => bif memN (g :: gs) t then (bif b then k (.bool true) else k (.bool false)) else k (.bool b)
    | _, _ => k v

theorem splitX_spec {gs : List Nat} {d : Option Nat} {v : V} {k : V → Prop} (h : splitX gs d v k) : k v := by
  unfold splitX at h
  split at h
  · exact h
  · split at h
    · rename_i b
      revert h
      cases memN _ _ with
      | false => exact id
      | true => cases b <;> exact id
    · exact h

/-- the slots that guards look at -/
def gslots (ops : Array Oper) : List Oper → List Nat
  | [] => []
  | o :: r => match o.guard with
    | none => gslots ops r
    | some (g, _) => match (ops[g]?).bind (·.dst) with
      | some t => t :: gslots ops r
      | none => gslots ops r

def isQ (T : TT) : Op → Bool
  | .store _ _ _ | .alloc _ | .box _ _ | .buildSlice _ _ _ | .makeMap _ _ | .makeSlice _ _ _ | .mapUpdate _ _ _ _ | .insert _ _ _ _ | .mapEntry _ _ _ | .entryStore _ _ _ _
  | .range _ _ | .next _ _ | .entry _ => false
  | .convert _ dst _ => match T dst with
    | some ti => match ti.d with
      | .slc _ => false
      | _ => true
    | none => true
  | .call { callee := .builtin .len, args := _, argTypes := _ } => true
  | .call { callee := .builtin .min, args := _, argTypes := _ } => true
  | .call { callee := .builtin .max, args := _, argTypes := _ } => true
  | .call { callee := .builtin .real, args := _, argTypes := _ } => true
  | .call { callee := .builtin .imag, args := _, argTypes := _ } => true
  | .call { callee := .builtin .complex, args := _, argTypes := _ } => true
  | .call _ => false
  | _ => true

theorem isQ_none {T : TT} {h : Hp} {ev : Operand → Option V} {op : Op} (hq : isQ T op = false) : xq T h ev op = none := by
  unfold isQ at hq
  split at hq <;> first | rfl | (cases hq; done) | skip
  · rename_i src dst x
    split at hq
    · rename_i ti ht
      split at hq
      · rename_i e hd
        simp only [xq]
        split
        · simp only [xconv, ht]
          split
          · rename_i s d hs hd'
            cases hd'
            rw [hd]
          · rfl
        · rfl
      · cases hq
    · cases hq
  · rename_i c h1 h2 h3 h4 h5 h6
    obtain ⟨cal, args, ats⟩ := c
    cases cal with
    | value f => rfl
    | invoke r m => rfl
    | builtin b => cases b <;> first | rfl | (exact absurd rfl (h1 _ _)) | (exact absurd rfl (h2 _ _)) | (exact absurd rfl (h3 _ _)) | (exact absurd rfl (h4 _ _)) | (exact absurd rfl (h5 _ _)) | (exact absurd rfl (h6 _ _))

def opsX (P : Program) (T : TT) (F : FTab) (ro : Option Nat) (ops : Array Oper) (gs : List Nat) : List Oper → St → Hp → (St → Hp → Prop) → Prop
  | [], s, h, k => k s h
  | o :: r, s, h, k =>
    match wantB ops o s with
    | some true => bif isQ T o.op then quietX T h s.ev o.op fun v => splitX gs o.dst v fun v => opsX P T F ro ops gs r (s.put o.dst v) h k
      else effX P T F ro r o s h fun v h' => splitX gs o.dst v fun v => opsX P T F ro ops gs r (s.put o.dst v) h' k
    | some false => opsX P T F ro ops gs r (s.put o.dst (.tup [])) h k
    | none => False

section
variable {P : Program} {T : TT} {F : FTab} {ro : Option Nat} {ops : Array Oper} {gs : List Nat}

open Classical in
theorem opsX_sound (hT : TTok P T) (hF : FOK P F) {k : St → Hp → Prop} : ∀ (l : List Oper) (s : St) (h : Hp), opsX P T F ro ops gs l s h k → seqR T (Eff.ask P ro) [] ops l s h (fun s h => decide (k s h)) = true
  | [], s, h, hx => by simpa [seqR, opsX] using hx
  | o :: r, s, h, hx => by
    have ih := opsX_sound hT hF (k := k) r
    simp only [opsX] at hx
    simp only [seqR]
    split at hx
    · rename_i hw
      rw [hw]
      simp only
      cases hq : isQ T o.op with
      | true =>
        rw [hq] at hx
        obtain ⟨v, hv, hk⟩ := quietX_sound hx
        rw [hv]
        exact ih _ _ (splitX_spec hk)
      | false =>
        rw [hq] at hx
        rw [isQ_none hq]
        simp only [cond_false] at hx
        simp only [Eff.ask, decide_eq_true_eq]
        exact (effX_sound hT hF hx).mono fun v h' hh => ih _ _ (splitX_spec hh)
    · rename_i hw
      rw [hw]
      exact ih _ _ hx
    · cases hx

/-- pass -/
def passX (T : TT) (ops : Array Oper) (gs : List Nat) (h : Hp) : List (Oper × Nat) → Nat → St → Pend → (Nat → St → Pend → Prop) → Prop
  | [], L, s, p, k => k L s p
  | (o, i) :: r, L, s, p, k =>
    bif L.testBit i then passX T ops gs h r L s p k else
    bif rdy L o then
      match wantB ops o s with
      | some true => bif isQ T o.op then quietX T h s.ev o.op fun v => splitX gs o.dst v fun v => passX T ops gs h r (L ||| 2 ^ i) (s.put o.dst v) ((i, o, v) :: p) k
        else passX T ops gs h r L s p k
      | some false => passX T ops gs h r (L ||| 2 ^ i) (s.put o.dst (.tup [])) ((i, o, .tup []) :: p) k
      | none => False
    else passX T ops gs h r L s p k

theorem passX_sound {h : Hp} {k : Nat → St → Pend → Prop} {k' : Nat → St → Pend → Bool} (hk : ∀ L s p, k L s p → k' L s p = true) :
    ∀ (l : List (Oper × Nat)) (L : Nat) (s : St) (p : Pend), passX T ops gs h l L s p k → pass T ops h l L s p k' = true
  | [], L, s, p, hx => hk _ _ _ hx
  | (o, i) :: r, L, s, p, hx => by
    have ih : ∀ L s p, passX T ops gs h r L s p k → pass T ops h r L s p k' = true := fun L s p => passX_sound hk r L s p
    simp only [passX] at hx
    simp only [pass]
    cases h1 : L.testBit i with
    | true => rw [h1] at hx; exact ih _ _ _ hx
    | false =>
      rw [h1] at hx
      simp only [cond_false] at hx ⊢
      cases h2 : rdy L o with
      | false => rw [h2] at hx; exact ih _ _ _ hx
      | true =>
        rw [h2] at hx
        simp only [cond_true] at hx ⊢
        split at hx
        · rename_i hw
          cases hq : isQ T o.op with
          | true =>
            rw [hq] at hx
            obtain ⟨v, hv, hk⟩ := quietX_sound hx
            have hv' : quietV T ops h o s = some v := by simp only [quietV, hw]; exact hv
            rw [hv']
            exact ih _ _ _ (splitX_spec hk)
          | false =>
            rw [hq] at hx
            have hv' : quietV T ops h o s = none := by simp only [quietV, hw]; exact isQ_none hq
            rw [hv']
            exact ih _ _ _ hx
        · rename_i hw
          have hv' : quietV T ops h o s = some (.tup []) := by simp only [quietV, hw]
          rw [hv']
          exact ih _ _ _ hx
        · exact hx.elim

/-- what was told ahead is as it was -/
def stillX (T : TT) (ops : Array Oper) (h : Hp) (s : St) : Pend → Prop → Prop
  | [], k => k
  | (_, o, v) :: p, k => match wantB ops o s with
    | some true => quietX T h s.ev o.op (fun u => u = v) ∧ stillX T ops h s p k
    | some false => .tup [] = v ∧ stillX T ops h s p k
    | none => False

theorem stillX_sound {h : Hp} {s : St} : ∀ {p : Pend} {k : Prop}, stillX T ops h s p k → p.all (fun q => stillV T ops h q.2.1 s q.2.2) = true ∧ k
  | [], _, hx => ⟨rfl, hx⟩
  | (i, o, v) :: p, k, hx => by
    have key : quietV T ops h o s = some v ∧ stillX T ops h s p k := by
      simp only [stillX] at hx
      split at hx
      · rename_i hw
        obtain ⟨u, hu, rfl⟩ := quietX_sound hx.1
        exact ⟨by simp only [quietV, hw]; exact hu, hx.2⟩
      · rename_i hw
        exact ⟨by simp only [quietV, hw, hx.1], hx.2⟩
      · exact hx.elim
    obtain ⟨h1, h2⟩ := key
    obtain ⟨h3, h4⟩ := stillX_sound h2
    refine ⟨?_, h4⟩
    rw [List.all_cons, h3, Bool.and_true]
    simp only [stillV, h1, sameV_refl]

def keepP (m : Nat) : Pend → Pend
  | [] => []
  | q :: p => bif m.testBit q.1 then keepP m p else q :: keepP m p

theorem keepP_eq (m : Nat) : ∀ p : Pend, keepP m p = p.filter fun q => !m.testBit q.1
  | [] => rfl
  | q :: p => by
    simp only [keepP, keepP_eq m p, List.filter_cons]
    cases m.testBit q.1 <;> rfl

/-- an operation that writes, makes or calls; 'm': those that had come before -/
def goX (P : Program) (T : TT) (F : FTab) (ro : Option Nat) (ops : Array Oper) (gs : List Nat) (full : List (Oper × Nat)) (o : Oper) (L m : Nat) (p : Pend) (s : St) (h : Hp) (k : Nat → St → Pend → Hp → Prop) : Prop :=
  effX P T F ro ops.toList o s h fun v h' => splitX gs o.dst v fun v =>
    stillX T ops h' (s.put o.dst v) (keepP m p) (passX T ops gs h' full L (s.put o.dst v) (keepP m p) fun L' s2 p2 => k L' s2 p2 h')

/-- each of those that may come next -/
def allX : List (Oper × Nat) → (Oper → Nat → Prop) → Prop
  | [], _ => True
  | (o, j) :: r, g => g o j ∧ allX r g

theorem allX_get {g : Oper → Nat → Prop} : ∀ {l : List (Oper × Nat)}, allX l g → ∀ q ∈ l, g q.1 q.2
  | [], _, _, hq => by cases hq
  | (o, j) :: r, h, q, hq => by
    rcases List.mem_cons.1 hq with rfl | hq
    · exact h.1
    · exact allX_get h.2 q hq

def stageX (P : Program) (T : TT) (F : FTab) (ro : Option Nat) (ops : Array Oper) (gs : List Nat) (full rev : List (Oper × Nat)) (k : St → Hp → Prop) : Nat → Nat → Pend → St → Hp → Prop
  | 0, _, _, _, _ => False
  | f + 1, L, p, s, h =>
    match full.filter (fun q => !L.testBit q.2 && rdy L q.1) with
    | [] => k s h
    | [(o, j)] =>
      match wantB ops o s with
      | some true => goX P T F ro ops gs full o (L ||| 2 ^ j) (force rev (addB 0 (dir o))) p s h fun L' s2 p2 h' => stageX P T F ro ops gs full rev k f L' p2 s2 h'
      | _ => False
    | l => allX l fun o j => match wantB ops o s with
      | some true => goX P T F ro ops gs full o (L ||| 2 ^ j) (force rev (addB 0 (dir o))) p s h fun L' s2 p2 h' => stageX P T F ro ops gs full rev k f L' p2 s2 h'
      | _ => False

open Classical in
theorem stageX_sound (hT : TTok P T) (hF : FOK P F) {full rev : List (Oper × Nat)} {k : St → Hp → Prop} : ∀ (f L : Nat) (p : Pend) (s : St) (h : Hp), stageX P T F ro ops gs full rev k f L p s h →
    stage T (Eff.ask P ro) ops full rev (fun s h => decide (k s h)) f L p s h = true
  | 0, _, _, _, _, hx => hx.elim
  | f + 1, L, p, s, h, hx => by
    have ih := stageX_sound hT hF (full := full) (rev := rev) (k := k) f
    simp only [stageX] at hx
    simp only [stage]
    split at hx
    · rename_i hf
      rw [hf]
      simpa using hx
    · rename_i o j hf
      rw [hf]
      simp only [List.all_cons, List.all_nil, Bool.and_true]
      split at hx
      · rename_i hw
        rw [hw]
        simp only [Eff.ask, decide_eq_true_eq]
        refine (effX_sound hT hF hx).mono fun v h' hh => ?_
        obtain ⟨h1, h2⟩ := stillX_sound (splitX_spec hh)
        rw [keepP_eq] at h1 h2
        rw [Bool.and_eq_true]
        exact ⟨h1, passX_sound (fun L s p hk => ih _ _ _ _ hk) _ _ _ _ h2⟩
      · exact hx.elim
    · rename_i l hn1 hn2
      split
      · rename_i hl
        exact absurd hl hn1
      · rw [List.all_eq_true]
        intro q hq
        have hx := allX_get hx q hq
        split at hx
        · rename_i hw
          simp only [hw]
          simp only [Eff.ask, decide_eq_true_eq]
          refine (effX_sound hT hF hx).mono fun v h' hh => ?_
          obtain ⟨h1, h2⟩ := stillX_sound (splitX_spec hh)
          rw [keepP_eq] at h1 h2
          rw [Bool.and_eq_true]
          exact ⟨h1, passX_sound (fun L s p hk => ih _ _ _ _ hk) _ _ _ _ h2⟩
        · exact hx.elim

def drawX (P : Program) (T : TT) (F : FTab) (ro : Option Nat) (ops : Array Oper) (s : St) (h : Hp) (k : St → Hp → Prop) : Prop :=
  bif okR ops ops.toList.zipIdx ops.toList.zipIdx.reverse then
    passX T ops (gslots ops ops.toList) h ops.toList.zipIdx 0 s [] fun L s p => stageX P T F ro ops (gslots ops ops.toList) ops.toList.zipIdx ops.toList.zipIdx.reverse k (ops.size + 1) L p s h
  else False

open Classical in
theorem drawX_sound (hT : TTok P T) (hF : FOK P F) {s : St} {h : Hp} {k : St → Hp → Prop} (hx : drawX P T F ro ops s h k) : drawR T (Eff.ask P ro) ops s h (fun s h => decide (k s h)) = true := by
  unfold drawX at hx
  cases ho : okR ops ops.toList.zipIdx ops.toList.zipIdx.reverse with
  | false => rw [ho] at hx; exact hx.elim
  | true =>
    rw [ho] at hx
    simp only [drawR, ho, Bool.true_and]
    exact passX_sound (fun L s p hk => stageX_sound hT hF _ _ _ _ _ hk) _ _ _ _ hx
end

/-! ### a region whose last operation waits for all others -/

def lastB (ops : Array Oper) (o : Oper) : Bool :=
  (ops.toList.zipIdx.dropLast.all fun p => (dir o).any (fun e => Nat.beq e p.2) && match p.1.guard with | some (g, _) => Nat.blt g p.2 | none => true) &&
    (dir o).all fun e => Nat.blt e (ops.toList.length - 1)

def drawY (P : Program) (T : TT) (F : FTab) (ro : Option Nat) (ops : Array Oper) (s : St) (h : Hp) (k : St → Hp → Prop) : Prop :=
  bif okR ops ops.toList.zipIdx ops.toList.zipIdx.reverse then drawX P T F ro ops s h k
  else match ops.toList.getLast? with
    | some o => bif lastB ops o && isQ T o.op && o.guard.isNone then drawX P T F ro ⟨ops.toList.dropLast⟩ s h fun s h => quietX T h s.ev o.op fun v => k (s.put o.dst v) h else False
    | none => False

theorem uponIn_exits {F : Fence} {n : Nat} {P : Program} {o : Oper} {a : Act} {K : Act → World → Prop} {Q Q' : Exit → Act → World → Prop} (hq : ∀ e a w, e ≠ .normal → Q e a w → Q' e a w) {w : World} (hh : o.wpIn F n P a w K Q) : o.wpIn F n P a w K Q' := by
  have hl : LetsOut Q → LetsOut Q' := fun ⟨a, w, h⟩ => ⟨a, w, hq _ _ _ (by simp) h⟩
  unfold Oper.wpIn at *
  refine ⟨hh.1, ?_⟩
  have hh := hh.2
  generalize (o.semAt F.round a.eval).run P w = r at *
  cases r with
  | ok x w' =>
    cases x <;> simp only [Oper.uponIn] at hh ⊢ <;>
      first
        | exact hh
        | exact ⟨hh.1, CallsIn.mono hh.2 (fun e w'' he => by cases e <;> first | exact he | exact hq _ _ _ (by simp) he | exact hl he)⟩
        | exact ⟨hh.1, RoundIn.mono hh.2 (fun e w'' he => by cases e <;> first | exact he | exact hq _ _ _ (by simp) he | exact hl he)⟩
  | halt e w' =>
    cases e <;> simp only [Oper.uponIn] at hh ⊢ <;> first | exact hq _ _ _ (by simp) hh | exact hh

section
variable {P : Program} {ops ops' : Array Oper} {o : Oper} {m : Nat}

theorem last_ready (hl : ops.toList = ops'.toList ++ [o]) (hm : m = ops'.size) {A A' : Array Bool} (hA : A = A'.push false) (hs : A'.size = m) {i : Nat} (hi : i < m) : i ∈ Region.ready .any ops A ↔ i ∈ Region.ready .any ops' A' := by
  have hg : ops[i]? = ops'[i]? := by
    rw [← Array.getElem?_toList, hl, List.getElem?_append_left (by simp; omega), Array.getElem?_toList]
  have hAd : ∀ e, A.getD e false = A'.getD e false := fun e => by
    subst hA
    simp only [Array.getD_eq_getD_getElem?, Array.getElem?_push]
    split
    · rename_i h; rw [Array.getElem?_eq_none (by omega)]; rfl
    · rfl
  have hAt : A.getD i true = A'.getD i true := by
    subst hA
    simp only [Array.getD_eq_getD_getElem?, Array.getElem?_push]
    rw [if_neg (by omega)]
  simp only [mem_ready, hg, hAd, hAt]

theorem any_last {F : Fence} {Q : Exit → Act → World → Prop} (hl : ops.toList = ops'.toList ++ [o]) (hm : m = ops'.size) (F' : RForm ops') (hlast : lastB ops o = true) :
    ∀ (fa : Nat) (A A' : Array Bool) (a : Act) (w : World), A = A'.push false → A'.size = m →
      wpAnyIn F 0 P .any ops' (fun e a w => match e with | .normal => wpOpIn F 0 P ops Q m (fun a w => Q .normal a w) a w | e => Q e a w) fa A' a w → wpAnyIn F 0 P .any ops Q (fa + 1) A a w := by
  have hsz : ops.size = m + 1 := by rw [← Array.length_toList, hl]; simp [hm]
  have hom : ops[m]? = some o := by rw [← Array.getElem?_toList, hl, List.getElem?_append_right (by simp [hm])]; simp [hm]
  have hg : ∀ i, i < m → ops[i]? = ops'[i]? := fun i hi => by
    rw [← Array.getElem?_toList, hl, List.getElem?_append_left (by simp; omega), Array.getElem?_toList]
  have hzi : ops.toList.zipIdx.dropLast = ops'.toList.zipIdx := by
    rw [hl, List.zipIdx_append]; simp
  unfold lastB at hlast
  rw [hzi, Bool.and_eq_true, List.all_eq_true, List.all_eq_true] at hlast
  obtain ⟨hlast, hlt⟩ := hlast
  have hlt : ∀ e ∈ dir o, e < m := fun e he => by
    have := hlt e he
    rw [blt_eq, decide_eq_true_eq, hl] at this
    simp at this; omega
  have hlo : ∀ i oi, ops'[i]? = some oi → i ∈ dir o ∧ ∀ g b, oi.guard = some (g, b) → g < i := fun i oi hi => by
    have := hlast (oi, i) (mem_full.2 hi)
    simp only [Bool.and_eq_true] at this
    refine ⟨by
      obtain ⟨e, he, h2⟩ := List.any_eq_true.1 this.1
      rw [← Nat.eq_of_beq_eq_true h2]; exact he, fun g b hg => ?_⟩
    have h2 := this.2
    rw [hg] at h2
    simp only [blt_eq, decide_eq_true_eq] at h2
    exact h2
  -- all that is ready once all others are done
  have full : ∀ A' : Array Bool, A'.size = m → (∀ i, i < m → A'.getD i false = true) → Region.ready .any ops ((A'.push false).setIfInBounds m true) = [] := fun A' hs hall => by
    rw [List.eq_nil_iff_forall_not_mem]
    intro j hj
    obtain ⟨h0, oj, hoj, _⟩ := mem_ready.1 hj
    have hlt : j < m + 1 := by rw [← hsz]; exact (Array.getElem?_eq_some_iff.1 hoj).1
    by_cases e : j = m
    · subst e
      simp [Array.getD_eq_getD_getElem?, hs] at h0
    · have := hall j (by omega)
      simp only [Array.getD_eq_getD_getElem?, Array.getElem?_setIfInBounds_ne (Ne.symm e), Array.getElem?_push, hs, if_neg e] at h0 this
      cases hq : A'[j]? with
      | none => rw [hq] at this; simp at this
      | some b => rw [hq] at this h0; simp at this h0; rw [this] at h0; simp at h0
  have mready : ∀ A' : Array Bool, A'.size = m → (m ∈ Region.ready .any ops (A'.push false) ↔ ∀ i, i < m → A'.getD i false = true) := fun A' hs => by
    have hAd : ∀ e, (A'.push false).getD e false = A'.getD e false := fun e => by
      simp only [Array.getD_eq_getD_getElem?, Array.getElem?_push]
      split
      · rename_i h; rw [Array.getElem?_eq_none (by omega)]; rfl
      · rfl
    constructor
    · intro h i hi
      have := dir_ready hom h i (hlo i ops'[i] (Array.getElem?_eq_getElem (by omega))).1
      rwa [hAd] at this
    · intro h
      rw [mem_ready]
      refine ⟨by subst hs; simp [Array.getD_eq_getD_getElem?], o, hom, fun e he hb => ?_⟩
      rw [hAd]
      exact h e.on (hlt _ (mem_dir he hb))
  have all' : ∀ A' : Array Bool, A'.size = m → Region.ready .any ops' A' = [] → ∀ i, i < m → A'.getD i false = true := fun A' hs h => by
    rw [hm]
    exact all_of_ready F' (by rw [hs, hm]) h
  have empty : ∀ A' : Array Bool, A'.size = m → Region.ready .any ops (A'.push false) ≠ [] := fun A' hs h => by
    by_cases hr : Region.ready .any ops' A' = []
    · have := (mready A' hs).2 (all' A' hs hr)
      rw [h] at this; cases this
    · obtain ⟨i, hi⟩ := List.exists_mem_of_ne_nil _ hr
      have hlt : i < m := by
        obtain ⟨_, oi, hoi, _⟩ := mem_ready.1 hi
        rw [hm]; exact (Array.getElem?_eq_some_iff.1 hoi).1
      have := (last_ready hl hm rfl hs hlt).2 hi
      rw [h] at this; cases this
  have last : ∀ (fa : Nat) (A' : Array Bool) (a : Act) (w : World), A'.size = m → (∀ i, i < m → A'.getD i false = true) → wpOpIn F 0 P ops Q m (fun a w => Q .normal a w) a w → wpOpIn F 0 P ops Q m (wpAnyIn F 0 P .any ops Q fa ((A'.push false).setIfInBounds m true)) a w := fun fa A' a w hs hall hh => by
    have key : ∀ a w, Q .normal a w → wpAnyIn F 0 P .any ops Q fa ((A'.push false).setIfInBounds m true) a w := fun a w hq => by
      have he := full A' hs hall
      cases fa with
      | zero => exact ⟨he, hq⟩
      | succ fa => exact ⟨fun _ => hq, fun i hi => by rw [he] at hi; cases hi⟩
    unfold wpOpIn at hh ⊢
    rw [hom] at hh ⊢
    simp only at hh ⊢
    split at hh
    · rename_i hw; rw [if_pos hw]; exact Oper.wpIn_mono key hh
    · rename_i hw; rw [if_neg hw]; exact ⟨hh.1, key _ _ hh.2⟩
  intro fa
  induction fa with
  | zero =>
    rintro A A' a w rfl hs ⟨h0, hq⟩
    refine ⟨fun he => absurd he (empty A' hs), fun i hi => ?_⟩
    have hall := all' A' hs h0
    by_cases e : i = m
    · subst e; exact last 0 A' a w hs hall hq
    · have hlt : i < m := by
        obtain ⟨_, oi, hoi, _⟩ := mem_ready.1 hi
        have := (Array.getElem?_eq_some_iff.1 hoi).1; omega
      have := (last_ready hl hm rfl hs hlt).1 hi
      rw [h0] at this; cases this
  | succ fa ih =>
    rintro A A' a w rfl hs ⟨h0, hq⟩
    refine ⟨fun he => absurd he (empty A' hs), fun i hi => ?_⟩
    by_cases e : i = m
    · subst e
      have hall := (mready A' hs).1 hi
      have : Region.ready .any ops' A' = [] := by
        rw [List.eq_nil_iff_forall_not_mem]
        intro j hj
        obtain ⟨h1, oj, hoj, _⟩ := mem_ready.1 hj
        have hlt : j < i := by rw [hm]; exact (Array.getElem?_eq_some_iff.1 hoj).1
        have h2 := hall j hlt
        simp only [Array.getD_eq_getD_getElem?] at h1 h2
        rw [Array.getElem?_eq_getElem (by omega)] at h1 h2
        simp at h1 h2
        rw [h2] at h1; cases h1
      exact last (fa + 1) A' a w hs hall (h0 this)
    · have hlt : i < m := by
        obtain ⟨_, oi, hoi, _⟩ := mem_ready.1 hi
        have := (Array.getElem?_eq_some_iff.1 hoi).1; omega
      have := hq i ((last_ready hl hm rfl hs hlt).1 hi)
      obtain ⟨oi, hoi⟩ : ∃ oi, ops'[i]? = some oi := ⟨ops'[i], Array.getElem?_eq_getElem (by omega)⟩
      have hw : ∀ tm, Region.wanted oi (yielded ops tm) = Region.wanted oi (yielded ops' tm) := fun tm => by
        unfold Region.wanted
        cases hgd : oi.guard with
        | none => rfl
        | some gb =>
          obtain ⟨g, b⟩ := gb
          have := (hlo i oi hoi).2 g b hgd
          simp only [yielded, hg g (by omega)]
      have hset : (A'.push false).setIfInBounds i true = (A'.setIfInBounds i true).push false := by
        apply Array.ext
        · simp
        · intro j h1 h2
          by_cases ej : i = j
          · subst ej
            rw [Array.getElem_setIfInBounds_self, Array.getElem_push_lt (by simp; omega), Array.getElem_setIfInBounds_self]
          · rw [Array.getElem_setIfInBounds_ne (by simpa using h1) ej]
            simp only [Array.getElem_push, Array.size_setIfInBounds]
            split
            · rw [Array.getElem_setIfInBounds_ne (by assumption) ej]
            · rfl
      unfold wpOpIn at this ⊢
      rw [hoi] at this
      rw [hg i hlt, hoi]
      simp only at this ⊢
      rw [hw]
      have key : ∀ a w, _ → wpAnyIn F 0 P .any ops Q (fa + 1) ((A'.push false).setIfInBounds i true) a w := fun a w hh => ih _ (A'.setIfInBounds i true) a w hset (by simp [hs]) hh
      split at this
      · rename_i hc; rw [if_pos hc]
        refine uponIn_exits (fun e a w he hh => ?_) (Oper.wpIn_mono key this)
        cases e <;> first | exact absurd rfl he | exact hh
      · rename_i hc; rw [if_neg hc]; exact ⟨this.1, key _ _ this.2⟩
end

section
variable {P : Program} {T : TT} {F : FTab} {ro : Option Nat} {ops : Array Oper}

open Classical in
theorem drawY_sound (hT : TTok P T) (hF : FOK P F) (hm : P.follows .mixedOrders = true) {id : Nat} {s : St} {h : Hp} {k : St → Hp → Prop} {K : XK} (hx : drawY P T F ro ops s h k) (hK : ∀ s h, k s h → K .normal s h) : XWp P ro (.region id ops true) K s h := by
  unfold drawY at hx
  cases ho : okR ops ops.toList.zipIdx ops.toList.zipIdx.reverse with
  | true =>
    rw [ho] at hx
    exact XWp.draw hT Eff.ask_sound hm (drawX_sound hT hF hx) fun s h hh => hK _ _ (by simpa using hh)
  | false =>
    rw [ho] at hx
    simp only [cond_false] at hx
    split at hx
    · rename_i o hlo
      cases hb : (lastB ops o && isQ T o.op && o.guard.isNone) with
      | false => rw [hb] at hx; exact hx.elim
      | true =>
        rw [hb] at hx
        simp only [cond_true] at hx
        simp only [Bool.and_eq_true] at hb
        obtain ⟨⟨hb1, _⟩, hb3⟩ := hb
        have hne : ops.toList ≠ [] := fun e => by rw [e] at hlo; cases hlo
        have hl : ops.toList = ops.toList.dropLast ++ [o] := by
          have h1 := List.dropLast_concat_getLast hne
          rw [List.getLast?_eq_some_getLast hne] at hlo
          rw [← Option.some.inj hlo]; exact h1.symm
        have hd := drawX_sound hT hF hx
        intro B ρ w a hr hs ht
        refine wpIn_region_any hm ?_
        simp only [drawR, Bool.and_eq_true] at hd
        have hl0 : (⟨ops.toList.dropLast⟩ : Array Oper).toList = ops.toList.dropLast := rfl
        rw [← hl0] at hd
        have F' := okR_form hd.1
        obtain ⟨ops', hops⟩ : ∃ ops' : Array Oper, ops' = ⟨ops.toList.dropLast⟩ := ⟨_, rfl⟩
        rw [← hops] at hd F'
        have hl' : ops.toList = ops'.toList ++ [o] := by rw [hops]; exact hl
        have hsz : ops.size = ops'.size + 1 := by rw [← Array.length_toList, hl']; simp
        have hom : ops[ops'.size]? = some o := by rw [← Array.getElem?_toList, hl', List.getElem?_append_right (by simp)]; simp
        have no : ∀ i, (Array.replicate ops'.size false).getD i false = false := fun i => by
          simp only [Array.getD_eq_getD_getElem?, Array.getElem?_replicate]
          split <;> rfl
        have ai : AI ops' (Array.replicate ops'.size false) 0 [] := by
          refine ⟨by simp, fun i hi => ?_, fun i o _ hi => ?_, fun i o _ hi => ?_⟩
          · rw [no i] at hi; cases hi
          · rw [no i] at hi; cases hi
          · simp at hi
        have ci : CI T ops' 0 [] s h := ⟨fun i o _ hi => by simp at hi, fun q hq => by cases hq⟩
        obtain ⟨L, s1, p, ai, ci, ar, hst⟩ := pass_sound F' _ _ _ _ (fun q hq => mem_full.1 hq) ai ci ht.a hd.2
        rw [hsz, show Array.replicate (ops'.size + 1) false = (Array.replicate ops'.size false).push false from by rw [Array.replicate_succ]]
        refine any_last hl' rfl F' hb1 _ _ _ _ _ rfl (by simp) ?_
        refine any_sound hT Eff.ask_sound F' _ (B := B) (fun ρ' h' w' => Below B w w') ρ h.next hr (fun _ _ _ _ _ _ g _ _ b => g.trans b) ?_ ops'.size _ _ L p s1 h ρ _ a ?_ ai ci (Nat.le_refl _) (Ext.refl _ _) (Below.drewn _ _) (Sat.drew hs) ar hst
        · intro ρ' s' h' w' a' h1 h2 h3 h4 h5 h6
          simp only [decide_eq_true_eq] at h6
          obtain ⟨v, hv, hk⟩ := quietX_sound h6
          show wpOpIn (fen ρ ro) 0 P ops _ ops'.size _ a' w'
          unfold wpOpIn
          rw [hom]
          have hgn : o.guard = none := by cases hg : o.guard with | none => rfl | some _ => rw [hg] at hb3; cases hb3
          simp only [Region.wanted, hgn, if_true]
          have hx : XOp P ro o s'.ev h' fun v' h'' => v' = v ∧ h'' = h' := XOp.quiet hT hv ⟨rfl, rfl⟩
          have hr' : ∀ l, ro = some l → l < h'.next := fun l hl => Nat.lt_of_lt_of_le (hr l hl) h1
          have hval : ∀ x ∈ o.op.operands, ∀ v, s'.ev x = some v → VR h'.next ρ' v (a'.eval x) := ev_on (ops := ops) (fun t _ => h5.2.1 t)
          have := hx B ρ' w' a' hr' h4 hval (Post B w h.next ρ K) (fun a w' => Post B w h.next ρ K .normal a w')
          rw [fen_ext h2 hr] at this
          refine this fun v' z ρ2 h2' w2 g1 g2 g3 g4 g5 g6 => ?_
          obtain ⟨rfl, rfl⟩ := g6
          have t2 := h5.ext g1 g2
          refine ⟨ρ2, s'.put o.dst v', h2', Nat.le_trans h1 g1, h2.trans g2 h1, g3, ⟨by rw [put_size]; simpa using t2.1, fun t => ?_, by simpa using t2.2.2.1, by rw [put_defers]; simpa using t2.2.2.2⟩, h3.trans g5, hK _ _ hk⟩
          rw [put_getD, put_get]
          by_cases hdt : o.dst = some t ∧ t < s'.sz
          · rw [if_pos hdt, if_pos (by rw [h5.1]; exact hdt)]; exact g4
          · rw [if_neg hdt, if_neg (by rw [h5.1]; exact hdt)]; exact t2.2.1 t
        · unfold cnt
          exact Nat.le_trans List.countP_le_length (by simp)
    · exact hx.elim
end
end Go.Vex
