/-
  VEX, part A: abstract values, an abstract heap, and what it means that a world holds it. Own work of this session.
-/
import Derived.WalkKit
namespace Go.Vex


/-! ### A finite map from numbers, as a binary tree -/

inductive Tr (α : Type) where
  | nil
  | node (l : Tr α) (v : Option α) (r : Tr α)

def Tr.get {α : Type} : Tr α → Nat → Option α
  | .nil, _ => none
  | .node l v r, n => bif Nat.beq n 0 then v else bif Nat.beq (n % 2) 1 then l.get (n / 2) else r.get (n / 2 - 1)

def Tr.setF {α : Type} : Nat → Tr α → Nat → Option α → Tr α
  | 0, t, _, _ => t
  | f + 1, .nil, n, x =>
    bif Nat.beq n 0 then .node .nil x .nil else bif Nat.beq (n % 2) 1 then .node (Tr.setF f .nil (n / 2) x) none .nil
    else .node .nil none (Tr.setF f .nil (n / 2 - 1) x)
  | f + 1, .node l v r, n, x =>
    bif Nat.beq n 0 then .node l x r else bif Nat.beq (n % 2) 1 then .node (Tr.setF f l (n / 2) x) v r
    else .node l v (Tr.setF f r (n / 2 - 1) x)

def Tr.set {α : Type} (t : Tr α) (n : Nat) (x : Option α) : Tr α := t.setF (n + 1) n x

theorem Tr.get_nil {α : Type} (n : Nat) : (Tr.nil : Tr α).get n = none := rfl

theorem Tr.get_setF {α : Type} (x : Option α) : ∀ (f : Nat) (t : Tr α) (n m : Nat), n < f → (t.setF f n x).get m = if m = n then x else t.get m
  | 0, _, _, _, h => absurd h (Nat.not_lt_zero _)
  | f + 1, t, n, m, h => by
    have ih := Tr.get_setF x f
    have e0 : ∀ k, Nat.beq k 0 = decide (k = 0) := fun k => by cases k <;> rfl
    have e1 : ∀ k, Nat.beq (k % 2) 1 = decide (k % 2 = 1) := fun k => by
      rcases Nat.mod_two_eq_zero_or_one k with h | h <;> rw [h] <;> rfl
    cases t with
    | nil =>
      simp only [Tr.setF, e0, e1, Bool.cond_decide]
      by_cases n0 : n = 0
      · subst n0
        rw [if_pos rfl]
        simp only [Tr.get, e0, e1, Bool.cond_decide]
        by_cases m0 : m = 0 <;> simp [m0]
      · rw [if_neg n0]
        by_cases n1 : n % 2 = 1
        · rw [if_pos n1]
          simp only [Tr.get, e0, e1, Bool.cond_decide]
          by_cases m0 : m = 0
          · rw [if_pos m0, if_neg (by omega)]
          · rw [if_neg m0]
            by_cases m1 : m % 2 = 1
            · rw [if_pos m1, ih _ _ _ (by omega)]
              simp only [Tr.get]
              by_cases e : m = n
              · subst e; simp
              · rw [if_neg (by omega), if_neg e]
            · rw [if_neg m1, if_neg (by omega)]
        · rw [if_neg n1]
          simp only [Tr.get, e0, e1, Bool.cond_decide]
          by_cases m0 : m = 0
          · rw [if_pos m0, if_neg (by omega)]
          · rw [if_neg m0]
            by_cases m1 : m % 2 = 1
            · rw [if_pos m1, if_neg (by omega)]
            · rw [if_neg m1, ih _ _ _ (by omega)]
              simp only [Tr.get]
              by_cases e : m = n
              · subst e; simp
              · rw [if_neg (by omega), if_neg e]
    | node l v r =>
      simp only [Tr.setF, e0, e1, Bool.cond_decide]
      by_cases n0 : n = 0
      · subst n0
        rw [if_pos rfl]
        simp only [Tr.get, e0, e1, Bool.cond_decide]
        by_cases m0 : m = 0 <;> simp [m0]
      · rw [if_neg n0]
        by_cases n1 : n % 2 = 1
        · rw [if_pos n1]
          simp only [Tr.get, e0, e1, Bool.cond_decide]
          by_cases m0 : m = 0
          · rw [if_pos m0, if_neg (by omega), if_pos m0]
          · rw [if_neg m0, if_neg m0]
            by_cases m1 : m % 2 = 1
            · rw [if_pos m1, if_pos m1, ih _ _ _ (by omega)]
              by_cases e : m = n
              · subst e; simp
              · rw [if_neg (by omega), if_neg e]
            · rw [if_neg m1, if_neg m1, if_neg (by omega)]
        · rw [if_neg n1]
          simp only [Tr.get, e0, e1, Bool.cond_decide]
          by_cases m0 : m = 0
          · rw [if_pos m0, if_neg (by omega), if_pos m0]
          · rw [if_neg m0, if_neg m0]
            by_cases m1 : m % 2 = 1
            · rw [if_pos m1, if_pos m1, if_neg (by omega)]
            · rw [if_neg m1, if_neg m1, ih _ _ _ (by omega)]
              by_cases e : m = n
              · subst e; simp
              · rw [if_neg (by omega), if_neg e]

theorem Tr.get_set {α : Type} (t : Tr α) (n : Nat) (x : Option α) (m : Nat) : (t.set n x).get m = if m = n then x else t.get m :=
  Tr.get_setF x _ t n m (Nat.lt_succ_self n)

/-! ### Abstract values -/

inductive V where
  | bool (b : Bool)
  | int (k : IntKind) (n : Int)
  | str (s : List UInt8)
  /-- an address: the object's number, the cell's place in it -/
  | ptr (a : Option (Nat × Nat))
  /-- a slice: the object's number, the first cell's place; how many elements; 'full': its capacity is its length (else its capacity is left open) -/
  | slc (a : Option (Nat × Nat)) (len : Nat) (full : Bool)
  | map (r : Option Nat)
  | fn (f : Fn) (first captured : List V)
  | yld (loop : Nat)
  | nilFn
  | ifc (t : TypeId) (v : V)
  | nilIfc
  | agg (cs : List V)
  | tup (vs : List V)
  | cplx (k : FloatKind) (re im : Nat)
  | flt (k : FloatKind) (bits : Nat)
  deriving Inhabited

/-- the slots of a frame: those that are known one by one, above what is there else -/
structure Tm where
  tr : Tr V
  bs : Nat → Option V

def Tm.get (m : Tm) (t : Nat) : Option V :=
  match m.tr.get t with
  | some v => some v
  | none => m.bs t

def Tm.set (m : Tm) (n : Nat) (x : Option V) : Tm := ⟨m.tr.set n x, m.bs⟩

theorem Tm.get_set (m : Tm) (n : Nat) (v : V) (k : Nat) : (m.set n (some v)).get k = if k = n then some v else m.get k := by
  simp only [Tm.get, Tm.set, Tr.get_set]
  by_cases e : k = n
  · simp [e]
  · simp [e]

def Tm.nil : Tm := ⟨.nil, fun _ => none⟩

theorem Tm.get_nil (n : Nat) : Tm.nil.get n = none := rfl

/-- an entry of a map: as the model has it -/
structure Ent where
  key : V
  val : V
  born : Nat
  deriving Inhabited

inductive O where
  /-- a row of cells; 'esz': how many cells an element has; 'ro': it is the caller's, and is only read -/
  | row (c : List V) (esz : Nat) (ro : Bool)
  | map (es : List Ent) (clock : Nat)
  | miter (m : Option Nat) (since : Nat) (seen : List Nat) (stepped : Nat)
  | siter (s : List UInt8) (pos : Nat)
  /-- the record of a range over a function: how it stands, the jump that waits, the frame's slots, yield's parameters, the code of a round, the block of its deferred calls -/
  | loop (state : LoopState) (pending : Option Code) (tmps : Tm) (sz : Nat) (params : List Nat) (assign body : Code) (dfr : Nat)
  | dfr (live : Bool)
  deriving Inhabited

/-- may it stand in a cell? -/
def V.one : V → Bool
  | .agg _ | .tup _ => false
  | _ => true

def O.rw : O → Bool
  | .row _ _ ro => !ro
  | _ => true

structure Hp where
  tr : Tr O
  next : Nat

def Hp.get (h : Hp) (i : Nat) : Option O := h.tr.get i
def Hp.set (h : Hp) (i : Nat) (o : O) : Hp := ⟨h.tr.set i (some o), h.next⟩
def Hp.kill (h : Hp) (i : Nat) : Hp := ⟨h.tr.set i none, h.next⟩
def Hp.alloc (h : Hp) (o : O) : Hp := ⟨h.tr.set h.next (some o), h.next + 1⟩

theorem Hp.get_set (h : Hp) (i : Nat) (o : O) (j : Nat) : (h.set i o).get j = if j = i then some o else h.get j := Tr.get_set _ _ _ _
theorem Hp.get_kill (h : Hp) (i : Nat) (j : Nat) : (h.kill i).get j = if j = i then none else h.get j := Tr.get_set _ _ _ _
theorem Hp.get_alloc (h : Hp) (o : O) (j : Nat) : (h.alloc o).get j = if j = h.next then some o else h.get j := Tr.get_set _ _ _ _
@[simp] theorem Hp.next_set (h : Hp) (i : Nat) (o : O) : (h.set i o).next = h.next := rfl
@[simp] theorem Hp.next_kill (h : Hp) (i : Nat) : (h.kill i).next = h.next := rfl
@[simp] theorem Hp.next_alloc (h : Hp) (o : O) : (h.alloc o).next = h.next + 1 := rfl

/-! ### Where an object lies -/

/-- the block; the cell at which the object begins; how many cells from there on are its own; how many an element has -/
structure Loc where
  blk : Nat
  base : Nat
  lim : Nat
  esz : Nat

abbrev Env := Nat → Loc

mutual
/-- the value 'x' is what the abstract one says, under an environment of which the first N objects are known -/
def VR (N : Nat) (ρ : Env) : V → Value → Prop
  | .bool b, x => x = .bool b
  | .int k n, x => x = .int k n
  | .str s, x => x = .string ⟨s.toArray⟩
  | .ptr none, x => x = .pointer none
  | .ptr (some (i, o)), x => i < N ∧ x = .pointer (some ⟨(ρ i).blk, (ρ i).base + o, none⟩)
  | .slc none n _, x => n = 0 ∧ x = .slice none 0 0
  | .slc (some (i, o)) n f, x => i < N ∧ ∃ a cap, x = .slice (some a) n cap ∧ a.block = (ρ i).blk ∧ (0 < cap → a.spot = none) ∧ n ≤ cap ∧ (f = true → cap = n) ∧
      (0 < cap → a.off = (ρ i).base + o ∧ o + cap * (ρ i).esz ≤ (ρ i).lim)
  | .map none, x => x = .map none
  | .map (some i), x => i < N ∧ x = .map (some (ρ i).blk)
  | .fn f fs cs, x => (∀ l, f ≠ .yield l) ∧ ∃ us vs, x = .func f us vs ∧ VRs N ρ fs us.toList ∧ VRs N ρ cs vs.toList
  | .yld i, x => i < N ∧ x = .func (.yield (ρ i).blk) #[] #[]
  | .nilFn, x => x = .nilFunc
  | .ifc t v, x => ∃ y, x = .iface t y ∧ VR N ρ v y
  | .nilIfc, x => x = .nilIface
  | .agg cs, x => ∃ xs, x = .agg xs ∧ VRs N ρ cs xs.toList
  | .tup vs, x => ∃ xs, x = .tuple xs ∧ VRs N ρ vs xs.toList
  | .cplx k re im, x => x = .complex k re im
  | .flt k b, x => x = .float k b
def VRs (N : Nat) (ρ : Env) : List V → List Value → Prop
  | [], xs => xs = []
  | v :: vs, xs => ∃ x r, xs = x :: r ∧ VR N ρ v x ∧ VRs N ρ vs r
end

/-- the first N objects lie where they lay -/
def Ext (N : Nat) (ρ ρ' : Env) : Prop := ∀ i, i < N → ρ' i = ρ i

theorem Ext.refl (N : Nat) (ρ : Env) : Ext N ρ ρ := fun _ _ => rfl
theorem Ext.trans {N N' : Nat} {ρ ρ' ρ'' : Env} (h : Ext N ρ ρ') (h' : Ext N' ρ' ρ'') (hN : N ≤ N') : Ext N ρ ρ'' :=
  fun i hi => (h' i (Nat.lt_of_lt_of_le hi hN)).trans (h i hi)

mutual
theorem VR.ext {N N' : Nat} {ρ ρ' : Env} (hN : N ≤ N') (he : Ext N ρ ρ') : ∀ {v : V} {x : Value}, VR N ρ v x → VR N' ρ' v x
  | .bool _, _, h => h
  | .int _ _, _, h => h
  | .str _, _, h => h
  | .ptr none, _, h => h
  | .ptr (some (i, o)), _, h => by
    obtain ⟨hi, hx⟩ := h
    exact ⟨Nat.lt_of_lt_of_le hi hN, by rw [he i hi]; exact hx⟩
  | .slc none _ _, _, h => h
  | .slc (some (i, o)) _ _, _, h => by
    obtain ⟨hi, hx⟩ := h
    refine ⟨Nat.lt_of_lt_of_le hi hN, ?_⟩
    rw [he i hi]; exact hx
  | .map none, _, h => h
  | .map (some i), _, h => by
    obtain ⟨hi, hx⟩ := h
    exact ⟨Nat.lt_of_lt_of_le hi hN, by rw [he i hi]; exact hx⟩
  | .fn _ _ _, _, h => by
    obtain ⟨hf, us, vs, hx, h1, h2⟩ := h
    exact ⟨hf, us, vs, hx, VRs.ext hN he h1, VRs.ext hN he h2⟩
  | .yld i, _, h => by
    obtain ⟨hi, hx⟩ := h
    exact ⟨Nat.lt_of_lt_of_le hi hN, by rw [he i hi]; exact hx⟩
  | .nilFn, _, h => h
  | .ifc _ _, _, h => by
    obtain ⟨y, hx, hy⟩ := h
    exact ⟨y, hx, VR.ext hN he hy⟩
  | .nilIfc, _, h => h
  | .agg _, _, h => by
    obtain ⟨xs, hx, hy⟩ := h
    exact ⟨xs, hx, VRs.ext hN he hy⟩
  | .tup _, _, h => by
    obtain ⟨xs, hx, hy⟩ := h
    exact ⟨xs, hx, VRs.ext hN he hy⟩
  | .cplx _ _ _, _, h => h
  | .flt _ _, _, h => h
theorem VRs.ext {N N' : Nat} {ρ ρ' : Env} (hN : N ≤ N') (he : Ext N ρ ρ') : ∀ {vs : List V} {xs : List Value}, VRs N ρ vs xs → VRs N' ρ' vs xs
  | [], _, h => h
  | _ :: _, _, h => by
    obtain ⟨x, r, hx, h1, h2⟩ := h
    exact ⟨x, r, hx, VR.ext hN he h1, VRs.ext hN he h2⟩
end

theorem VRs.length {N : Nat} {ρ : Env} : ∀ {vs : List V} {xs : List Value}, VRs N ρ vs xs → xs.length = vs.length
  | [], _, h => by rw [show _ = [] from h]; rfl
  | _ :: _, _, h => by
    obtain ⟨x, r, rfl, _, h2⟩ := h
    simp [VRs.length h2]

theorem VRs.get {N : Nat} {ρ : Env} : ∀ {vs : List V} {xs : List Value}, VRs N ρ vs xs → ∀ {j : Nat} {v : V}, vs[j]? = some v → ∃ x, xs[j]? = some x ∧ VR N ρ v x
  | [], _, _, j, v, h => by simp at h
  | u :: vs, _, h, j, v, hj => by
    obtain ⟨x, r, rfl, h1, h2⟩ := h
    cases j with
    | zero => simp at hj; subst hj; exact ⟨x, rfl, h1⟩
    | succ j => simpa using VRs.get h2 (by simpa using hj)

theorem VRs.of_get {N : Nat} {ρ : Env} : ∀ {vs : List V} {xs : List Value}, xs.length = vs.length → (∀ (j : Nat) v, vs[j]? = some v → ∃ x, xs[j]? = some x ∧ VR N ρ v x) → VRs N ρ vs xs
  | [], xs, h, _ => by simpa [VRs] using h
  | v :: vs, [], h, _ => by simp at h
  | v :: vs, x :: xs, h, hg => by
    obtain ⟨y, hy, hv⟩ := hg 0 v rfl
    simp at hy; subst hy
    exact ⟨x, xs, rfl, hv, VRs.of_get (by simpa using h) (fun j u hu => by simpa using hg (j + 1) u (by simpa using hu))⟩

theorem VRs.append {N : Nat} {ρ : Env} : ∀ {vs us : List V} {xs ys : List Value}, VRs N ρ vs xs → VRs N ρ us ys → VRs N ρ (vs ++ us) (xs ++ ys)
  | [], _, _, _, h, h' => by rw [show _ = [] from h]; exact h'
  | _ :: _, _, _, _, h, h' => by
    obtain ⟨x, r, rfl, h1, h2⟩ := h
    exact ⟨x, _, rfl, h1, VRs.append h2 h'⟩

theorem VRs.take {N : Nat} {ρ : Env} {vs : List V} {xs : List Value} (h : VRs N ρ vs xs) (k : Nat) : VRs N ρ (vs.take k) (xs.take k) := by
  refine VRs.of_get (by simp [h.length]) (fun j v hj => ?_)
  rw [List.getElem?_take] at hj ⊢
  split at hj
  · rename_i hlt; rw [if_pos hlt]; exact h.get hj
  · cases hj

theorem VRs.drop {N : Nat} {ρ : Env} {vs : List V} {xs : List Value} (h : VRs N ρ vs xs) (k : Nat) : VRs N ρ (vs.drop k) (xs.drop k) := by
  refine VRs.of_get (by simp [h.length]) (fun j v hj => ?_)
  rw [List.getElem?_drop] at hj ⊢
  exact h.get hj

theorem VRs.set {N : Nat} {ρ : Env} {vs : List V} {xs : List Value} (h : VRs N ρ vs xs) {v : V} {x : Value} (hv : VR N ρ v x) (k : Nat) : VRs N ρ (vs.set k v) (xs.set k x) := by
  refine VRs.of_get (by simp [h.length]) (fun j u hj => ?_)
  rw [List.getElem?_set] at hj ⊢
  split at hj
  · rename_i e; subst e
    split at hj
    · rename_i hl
      rw [if_pos rfl, if_pos (by rw [h.length]; exact hl)]
      cases hj; exact ⟨x, rfl, hv⟩
    · cases hj
  · rename_i e; rw [if_neg e]; exact h.get hj

/-! ### A world that holds the heap -/

/-- the cells of an object at its place -/
def CellsAt (N : Nat) (ρ : Env) (C : Array Value) (base : Nat) (c : List V) : Prop :=
  ∀ (j : Nat) v, c[j]? = some v → ∃ x, C[base + j]? = some x ∧ VR N ρ v x

def EntR (N : Nat) (ρ : Env) (e : Ent) (m : MapEntry) : Prop := VR N ρ e.key m.key ∧ VR N ρ e.val m.val ∧ m.born = e.born

def EntsR (N : Nat) (ρ : Env) : List Ent → List MapEntry → Prop
  | [], ms => ms = []
  | e :: es, ms => ∃ m r, ms = m :: r ∧ EntR N ρ e m ∧ EntsR N ρ es r

/-- block 'l.blk' of the world holds the object. B: the first block that is not the caller's. -/
def OSat (N : Nat) (ρ : Env) (B : Nat) (w : World) (l : Loc) : O → Prop
  | .row c esz ro => l.esz = esz ∧ ∃ C el fr, w.heap[l.blk]? = some (.cells C el fr) ∧ l.base + l.lim ≤ C.size ∧ c.length ≤ l.lim ∧ CellsAt N ρ C l.base c ∧ (∀ v ∈ c, v.one = true) ∧
      (ro = true → l.blk < B) ∧ (ro = false → B ≤ l.blk ∧ fr = (0, 0))
  | .map es clock => B ≤ l.blk ∧ ∃ ms, w.heap[l.blk]? = some (.map ms clock) ∧ EntsR N ρ es ms.toList
  | .miter m since seen stepped => B ≤ l.blk ∧ l.base = 0 ∧ (∀ i, m = some i → i < N) ∧ w.heap[l.blk]? = some (.mapIter (m.map fun i => (ρ i).blk) since seen.toArray stepped)
  | .siter s pos => B ≤ l.blk ∧ l.base = 0 ∧ w.heap[l.blk]? = some (.stringIter ⟨s.toArray⟩ pos)
  | .loop st pe tm sz ps as bd d => B ≤ l.blk ∧ d < N ∧ ∃ (fn : FuncId) (ts : Array Value),
      w.heap[l.blk]? = some (.loop { state := st, pending := pe, fn := fn, tmps := ts, params := ps.toArray, assign := as, body := bd, defers := (ρ d).blk }) ∧
      ts.size = sz ∧ ∀ t, VR N ρ ((tm.get t).getD (.tup [])) (ts.getD t undef)
  | .dfr live => B ≤ l.blk ∧ w.heap[l.blk]? = some (.deferred (if live then some [] else none))

structure Sat (B : Nat) (ρ : Env) (h : Hp) (w : World) : Prop where
  obj : ∀ i o, h.get i = some o → i < h.next ∧ OSat h.next ρ B w (ρ i) o
  sep : ∀ i j o p, h.get i = some o → h.get j = some p → i ≠ j → o.rw = true → p.rw = true → (ρ i).blk ≠ (ρ j).blk
  base : B ≤ w.heap.size

theorem EntsR.ext {N N' : Nat} {ρ ρ' : Env} (hN : N ≤ N') (he : Ext N ρ ρ') : ∀ {es : List Ent} {ms : List MapEntry}, EntsR N ρ es ms → EntsR N' ρ' es ms
  | [], _, h => h
  | _ :: _, _, h => by
    obtain ⟨m, r, hm, ⟨h1, h2, h3⟩, h4⟩ := h
    exact ⟨m, r, hm, ⟨h1.ext hN he, h2.ext hN he, h3⟩, EntsR.ext hN he h4⟩

theorem CellsAt.ext {N N' : Nat} {ρ ρ' : Env} (hN : N ≤ N') (he : Ext N ρ ρ') {C : Array Value} {base : Nat} {c : List V} (h : CellsAt N ρ C base c) : CellsAt N' ρ' C base c :=
  fun j v hj => let ⟨x, hx, hv⟩ := h j v hj; ⟨x, hx, hv.ext hN he⟩

/-- an object is where it was as long as its block is as it was -/
theorem OSat.keep {N N' : Nat} {ρ ρ' : Env} {B : Nat} {w w' : World} {l : Loc} {o : O} (hN : N ≤ N') (he : Ext N ρ ρ') (h : OSat N ρ B w l o) (hb : w'.heap[l.blk]? = w.heap[l.blk]?) : OSat N' ρ' B w' l o := by
  cases o with
  | row c esz ro =>
    obtain ⟨h0, C, el, fr, h1, h2, h3, h4, h5⟩ := h
    exact ⟨h0, C, el, fr, hb.trans h1, h2, h3, h4.ext hN he, h5⟩
  | map es clock =>
    obtain ⟨h0, ms, h1, h2⟩ := h
    exact ⟨h0, ms, hb.trans h1, h2.ext hN he⟩
  | miter m since seen stepped =>
    obtain ⟨h0, h1, h2, h3⟩ := h
    refine ⟨h0, h1, fun i hi => Nat.lt_of_lt_of_le (h2 i hi) hN, hb.trans ?_⟩
    rw [h3]
    cases m with
    | none => rfl
    | some i => simp [he i (h2 i rfl)]
  | siter s pos =>
    obtain ⟨h0, h1, h2⟩ := h
    exact ⟨h0, h1, hb.trans h2⟩
  | loop st pe tm sz ps as bd d =>
    obtain ⟨h0, hd, fn, ts, h1, h2, h3⟩ := h
    refine ⟨h0, Nat.lt_of_lt_of_le hd hN, fn, ts, ?_, h2, fun t => (h3 t).ext hN he⟩
    rw [he d hd]; exact hb.trans h1
  | dfr live =>
    obtain ⟨h0, h1⟩ := h
    exact ⟨h0, hb.trans h1⟩

theorem OSat.lt {N : Nat} {ρ : Env} {B : Nat} {w : World} {l : Loc} {o : O} (h : OSat N ρ B w l o) : l.blk < w.heap.size := by
  cases o with
  | row c esz ro => obtain ⟨_, C, el, fr, h1, _⟩ := h; exact (Array.getElem?_eq_some_iff.1 h1).1
  | map es clock => obtain ⟨_, ms, h1, _⟩ := h; exact (Array.getElem?_eq_some_iff.1 h1).1
  | miter m since seen stepped => obtain ⟨_, _, _, h1⟩ := h; exact (Array.getElem?_eq_some_iff.1 h1).1
  | siter s pos => obtain ⟨_, _, h1⟩ := h; exact (Array.getElem?_eq_some_iff.1 h1).1
  | loop st pe tm sz ps as bd d => obtain ⟨_, _, fn, ts, h1, _⟩ := h; exact (Array.getElem?_eq_some_iff.1 h1).1
  | dfr live => obtain ⟨_, h1⟩ := h; exact (Array.getElem?_eq_some_iff.1 h1).1

theorem OSat.own {N : Nat} {ρ : Env} {B : Nat} {w : World} {l : Loc} {o : O} (h : OSat N ρ B w l o) (hr : o.rw = true) : B ≤ l.blk := by
  cases o with
  | row c esz ro => obtain ⟨_, C, el, fr, h1, _, _, _, _, _, h2⟩ := h; simp [O.rw] at hr; exact (h2 hr).1
  | map es clock => exact h.1
  | miter m since seen stepped => exact h.1
  | siter s pos => exact h.1
  | loop st pe tm sz ps as bd d => exact h.1
  | dfr live => exact h.1

theorem OSat.below {N : Nat} {ρ : Env} {B : Nat} {w : World} {l : Loc} {o : O} (h : OSat N ρ B w l o) (hr : o.rw = false) : l.blk < B := by
  cases o with
  | row c esz ro => obtain ⟨_, C, el, fr, h1, _, _, _, _, h2, _⟩ := h; simp [O.rw] at hr; exact h2 hr
  | _ => simp [O.rw] at hr

/-- Other objects stay while one's block is written. -/
theorem Sat.other {B : Nat} {ρ : Env} {h : Hp} {w : World} (s : Sat B ρ h w) {i j : Nat} {o p : O} (hi : h.get i = some o) (hj : h.get j = some p) (hij : j ≠ i) (hr : o.rw = true) : (ρ j).blk ≠ (ρ i).blk := by
  by_cases hp : p.rw = true
  · exact s.sep j i p o hj hi hij hp hr
  · have h1 := (s.obj i o hi).2.own hr
    have h2 := (s.obj j p hj).2.below (by simpa using hp)
    omega

/-- ONE OBJECT IS WRITTEN: its block alone turns. -/
theorem Sat.write {B : Nat} {ρ : Env} {h : Hp} {w w' : World} (s : Sat B ρ h w) {i : Nat} {o o' : O} (hi : h.get i = some o) (hr : o.rw = true)
    (hs : w.heap.size ≤ w'.heap.size) (hb : ∀ k, k ≠ (ρ i).blk → k < w.heap.size → w'.heap[k]? = w.heap[k]?) (ho : OSat h.next ρ B w' (ρ i) o') : Sat B ρ (h.set i o') w' := by
  refine ⟨fun j p hj => ?_, fun j k p q hj hk hjk hp hq => ?_, Nat.le_trans s.base hs⟩
  · rw [Hp.get_set] at hj
    split at hj
    · rename_i e; subst e; cases hj
      exact ⟨(s.obj _ _ hi).1, ho⟩
    · rename_i e
      obtain ⟨h1, h2⟩ := s.obj j p hj
      exact ⟨h1, h2.keep (Nat.le_refl _) (Ext.refl _ _) (hb _ (s.other hi hj e hr) h2.lt)⟩
  · rw [Hp.get_set] at hj hk
    split at hj
    · rename_i e; subst e; cases hj
      rw [if_neg (fun e => hjk e.symm)] at hk
      exact s.sep _ _ _ _ hi hk hjk hr hq
    · rename_i e
      split at hk
      · rename_i e'; subst e'; cases hk
        exact s.sep _ _ _ _ hj hi hjk hp hr
      · exact s.sep _ _ _ _ hj hk hjk hp hq

/-- ONE OBJECT IS GIVEN UP: nothing is asked of its block any more. -/
theorem Sat.kill {B : Nat} {ρ : Env} {h : Hp} {w w' : World} (s : Sat B ρ h w) {i : Nat} {o : O} (hi : h.get i = some o) (hr : o.rw = true)
    (hs : w.heap.size ≤ w'.heap.size) (hb : ∀ k, k ≠ (ρ i).blk → k < w.heap.size → w'.heap[k]? = w.heap[k]?) : Sat B ρ (h.kill i) w' := by
  refine ⟨fun j p hj => ?_, fun j k p q hj hk hjk hp hq => ?_, Nat.le_trans s.base hs⟩
  · rw [Hp.get_kill] at hj
    split at hj
    · cases hj
    · rename_i e
      obtain ⟨h1, h2⟩ := s.obj j p hj
      exact ⟨h1, h2.keep (Nat.le_refl _) (Ext.refl _ _) (hb _ (s.other hi hj e hr) h2.lt)⟩
  · rw [Hp.get_kill] at hj hk
    split at hj
    · cases hj
    · split at hk
      · cases hk
      · exact s.sep _ _ _ _ hj hk hjk hp hq

/-- nothing that is held has turned -/
theorem Sat.keep {B : Nat} {ρ : Env} {h : Hp} {w w' : World} (s : Sat B ρ h w) (hs : w.heap.size ≤ w'.heap.size) (hb : ∀ k, k < w.heap.size → w'.heap[k]? = w.heap[k]?) : Sat B ρ h w' :=
  ⟨fun j p hj => let ⟨h1, h2⟩ := s.obj j p hj; ⟨h1, h2.keep (Nat.le_refl _) (Ext.refl _ _) (hb _ h2.lt)⟩, s.sep, Nat.le_trans s.base hs⟩

/-- the environment with one object more -/
def Env.put (ρ : Env) (n : Nat) (l : Loc) : Env := fun i => if i = n then l else ρ i

theorem Env.put_same (ρ : Env) (n : Nat) (l : Loc) : (Env.put ρ n l) n = l := by simp [Env.put]
theorem Env.ext_put (ρ : Env) (n : Nat) (l : Loc) : Ext n ρ (Env.put ρ n l) := fun i hi => by simp [Env.put, Nat.ne_of_lt hi]

/-- A NEW OBJECT in a block that no object that is held lies in. -/
theorem Sat.alloc {B : Nat} {ρ : Env} {h : Hp} {w w' : World} (s : Sat B ρ h w) (l : Loc) {o : O}
    (hs : w.heap.size ≤ w'.heap.size) (hb : ∀ k, k < w.heap.size → k ≠ l.blk → w'.heap[k]? = w.heap[k]?)
    (hfree : ∀ j p, h.get j = some p → p.rw = true → (ρ j).blk ≠ l.blk) (hB : B ≤ l.blk)
    (ho : OSat (h.next + 1) (Env.put ρ h.next l) B w' l o) : Sat B (Env.put ρ h.next l) (h.alloc o) w' := by
  have hx := Env.ext_put ρ h.next l
  have key : ∀ j p, h.get j = some p → (ρ j).blk ≠ l.blk := fun j p hj => by
    by_cases hp : p.rw = true
    · exact hfree j p hj hp
    · have := (s.obj j p hj).2.below (by simpa using hp)
      omega
  refine ⟨fun j p hj => ?_, fun j k p q hj hk hjk hp hq => ?_, Nat.le_trans s.base hs⟩
  · rw [Hp.get_alloc] at hj
    split at hj
    · rename_i e; subst e; cases hj
      exact ⟨Nat.lt_succ_self _, by rw [Env.put_same]; exact ho⟩
    · rename_i e
      obtain ⟨h1, h2⟩ := s.obj j p hj
      refine ⟨Nat.lt_succ_of_lt h1, ?_⟩
      rw [hx j h1]
      exact h2.keep (Nat.le_succ _) hx (hb _ h2.lt (key j p hj))
  · rw [Hp.get_alloc] at hj hk
    split at hj
    · rename_i e; subst e; cases hj
      rw [if_neg (fun e => hjk e.symm)] at hk
      rw [Env.put_same, hx k (s.obj _ _ hk).1]
      exact fun e => key k q hk e.symm
    · split at hk
      · rename_i e'; subst e'; cases hk
        rw [Env.put_same, hx j (s.obj _ _ hj).1]
        exact key j p hj
      · rw [hx j (s.obj _ _ hj).1, hx k (s.obj _ _ hk).1]
        exact s.sep _ _ _ _ hj hk hjk hp hq

end Go.Vex
