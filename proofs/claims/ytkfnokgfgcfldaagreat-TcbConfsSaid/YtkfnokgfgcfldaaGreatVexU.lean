/-
  VEX, part U: the walk as a statement about data: what is asked of the heap, of conditions, calls and loops, with the values' forms known and their contents left open.
-/
import Derived.Test.YtkfnokgfgcfldaaGreatVexT
set_option linter.unusedSimpArgs false
set_option linter.unusedVariables false
namespace Go.Vex

/-! ### values of a known form -/

mutual
def exS : V → (V → Prop) → Prop
  | .bool _, k => ∃ b, k (.bool b)
  | .int κ _, k => ∃ n, k (.int κ n)
  | .str _, k => ∃ s, k (.str s)
  | .ptr _, k => ∃ a, k (.ptr a)
  | .slc _ _ _, k => ∃ a n f, k (.slc a n f)
  | .map _, k => ∃ r, k (.map r)
  | .cplx κ _ _, k => ∃ a b, k (.cplx κ a b)
  | .flt κ _, k => ∃ b, k (.flt κ b)
  | .agg cs, k => exSs cs fun l => k (.agg l)
  | .tup cs, k => exSs cs fun l => k (.tup l)
  | .fn _ _ _, k => ∃ v, k v
  | .yld _, k => ∃ v, k v
  | .nilFn, k => ∃ (g : Nat) (cs : List V), k (.fn (.func g) [] cs)
  | .ifc _ _, k => ∃ v, k v
  | .nilIfc, k => ∃ v, k v
def exSs : List V → (List V → Prop) → Prop
  | [], k => k []
  | z :: zs, k => exS z fun v => exSs zs fun l => k (v :: l)
end

mutual
theorem exS_ex : ∀ (z : V) {k : V → Prop}, exS z k → ∃ v, k v
  | .bool _, _, h => by simp only [exS] at h; exact h.elim fun _ h => ⟨_, h⟩
  | .int _ _, _, h => by simp only [exS] at h; exact h.elim fun _ h => ⟨_, h⟩
  | .str _, _, h => by simp only [exS] at h; exact h.elim fun _ h => ⟨_, h⟩
  | .ptr _, _, h => by simp only [exS] at h; exact h.elim fun _ h => ⟨_, h⟩
  | .slc _ _ _, _, h => by simp only [exS] at h; obtain ⟨_, _, _, h⟩ := h; exact ⟨_, h⟩
  | .map _, _, h => by simp only [exS] at h; exact h.elim fun _ h => ⟨_, h⟩
  | .cplx _ _ _, _, h => by simp only [exS] at h; obtain ⟨_, _, h⟩ := h; exact ⟨_, h⟩
  | .flt _ _, _, h => by simp only [exS] at h; exact h.elim fun _ h => ⟨_, h⟩
  | .agg cs, _, h => by simp only [exS] at h; obtain ⟨_, h⟩ := exSs_ex cs h; exact ⟨_, h⟩
  | .tup cs, _, h => by simp only [exS] at h; obtain ⟨_, h⟩ := exSs_ex cs h; exact ⟨_, h⟩
  | .fn _ _ _, _, h => by simp only [exS] at h; exact h
  | .yld _, _, h => by simp only [exS] at h; exact h
  | .nilFn, _, h => by simp only [exS] at h; obtain ⟨_, _, h⟩ := h; exact ⟨_, h⟩
  | .ifc _ _, _, h => by simp only [exS] at h; exact h
  | .nilIfc, _, h => by simp only [exS] at h; exact h
theorem exSs_ex : ∀ (zs : List V) {k : List V → Prop}, exSs zs k → ∃ l, k l
  | [], _, h => ⟨[], by simpa only [exSs] using h⟩
  | z :: zs, _, h => by
    simp only [exSs] at h
    obtain ⟨v, h⟩ := exS_ex z h
    obtain ⟨l, h⟩ := exSs_ex zs h
    exact ⟨_, h⟩
end

mutual
def allS : V → (V → Prop) → Prop
  | .bool _, k => ∀ b, k (.bool b)
  | .int κ _, k => ∀ n, k (.int κ n)
  | .str _, k => ∀ s, k (.str s)
  | .ptr _, k => ∀ a, k (.ptr a)
  | .slc _ _ _, k => ∀ a n f, k (.slc a n f)
  | .map _, k => ∀ r, k (.map r)
  | .cplx κ _ _, k => ∀ a b, k (.cplx κ a b)
  | .flt κ _, k => ∀ b, k (.flt κ b)
  | .agg cs, k => allSs cs fun l => k (.agg l)
  | .tup cs, k => allSs cs fun l => k (.tup l)
  | .fn _ _ _, k => ∀ v, k v
  | .yld _, k => ∀ v, k v
  | .nilFn, k => ∀ v, k v
  | .ifc _ _, k => ∀ v, k v
  | .nilIfc, k => ∀ v, k v
def allSs : List V → (List V → Prop) → Prop
  | [], k => k []
  | z :: zs, k => allS z fun v => allSs zs fun l => k (v :: l)
end

mutual
def shpB : V → V → Bool
  | .bool _, .bool _ => true
  | .int κ _, .int κ' _ => decide (κ = κ')
  | .str _, .str _ => true
  | .ptr _, .ptr _ => true
  | .slc _ _ _, .slc _ _ _ => true
  | .map _, .map _ => true
  | .cplx κ _ _, .cplx κ' _ _ => decide (κ = κ')
  | .flt κ _, .flt κ' _ => decide (κ = κ')
  | .agg cs, .agg ds => shpBs cs ds
  | .tup cs, .tup ds => shpBs cs ds
  | .fn _ _ _, _ => true
  | .yld _, _ => true
  | .nilFn, _ => true
  | .ifc _ _, _ => true
  | .nilIfc, _ => true
  | _, _ => false
def shpBs : List V → List V → Bool
  | [], [] => true
  | z :: zs, v :: vs => shpB z v && shpBs zs vs
  | _, _ => false
end

mutual
theorem allS_spec : ∀ (z v : V) {k : V → Prop}, allS z k → shpB z v = true → k v
  | .bool _, v, k, h, e => by cases v <;> simp [shpB] at e; simp only [allS] at h; exact h _
  | .int _ _, v, k, h, e => by cases v <;> simp [shpB] at e; subst e; simp only [allS] at h; exact h _
  | .str _, v, k, h, e => by cases v <;> simp [shpB] at e; simp only [allS] at h; exact h _
  | .ptr _, v, k, h, e => by cases v <;> simp [shpB] at e; simp only [allS] at h; exact h _
  | .slc _ _ _, v, k, h, e => by cases v <;> simp [shpB] at e; simp only [allS] at h; exact h _ _ _
  | .map _, v, k, h, e => by cases v <;> simp [shpB] at e; simp only [allS] at h; exact h _
  | .cplx _ _ _, v, k, h, e => by cases v <;> simp [shpB] at e; subst e; simp only [allS] at h; exact h _ _
  | .flt _ _, v, k, h, e => by cases v <;> simp [shpB] at e; subst e; simp only [allS] at h; exact h _
  | .agg cs, v, k, h, e => by cases v <;> simp [shpB] at e; simp only [allS] at h; exact allSs_spec cs _ h e
  | .tup cs, v, k, h, e => by cases v <;> simp [shpB] at e; simp only [allS] at h; exact allSs_spec cs _ h e
  | .fn _ _ _, v, k, h, e => by simp only [allS] at h; exact h v
  | .yld _, v, k, h, e => by simp only [allS] at h; exact h v
  | .nilFn, v, k, h, e => by simp only [allS] at h; exact h v
  | .ifc _ _, v, k, h, e => by simp only [allS] at h; exact h v
  | .nilIfc, v, k, h, e => by simp only [allS] at h; exact h v
theorem allSs_spec : ∀ (zs vs : List V) {k : List V → Prop}, allSs zs k → shpBs zs vs = true → k vs
  | [], vs, k, h, e => by cases vs <;> simp [shpBs] at e; simpa only [allSs] using h
  | z :: zs, vs, k, h, e => by
    cases vs with
    | nil => simp [shpBs] at e
    | cons v vs =>
      simp only [shpBs, Bool.and_eq_true] at e
      simp only [allSs] at h
      exact allSs_spec zs vs (allS_spec z v h e.1) e.2
end

/-! ### what is asked of the heap -/

def Hp.ld (h : Hp) (i o : Nat) : Option V :=
  match h.get i with
  | some (.row c _ _) => c[o]?
  | _ => none

def Hp.lda (h : Hp) (i o n : Nat) : Option V :=
  match h.get i with
  | some (.row c _ _) => bif Nat.ble (o + n) c.length then some (.agg ((c.drop o).take n)) else none
  | _ => none

def Hp.st (h : Hp) (i o : Nat) (l : List V) : Option Hp :=
  match h.get i with
  | some (.row c e false) => bif Nat.ble (o + l.length) c.length then some (h.set i (.row (splice c o l) e false)) else none
  | _ => none

/-- where the address leads -/
def onS (a : Option (Nat × Nat)) (k : Nat → Nat → Prop) : Prop :=
  match a with
  | some (i, o) => k i o
  | none => False

theorem onS_ex {a : Option (Nat × Nat)} {k : Nat → Nat → Prop} (h : onS a k) : ∃ i o, a = some (i, o) ∧ k i o := by
  cases a with
  | none => exact h.elim
  | some p => exact ⟨p.1, p.2, rfl, h⟩

def optK (v : Option V) (k : V → Prop) : Prop :=
  match v with
  | some v => k v
  | none => False

theorem optK_ex {v : Option V} {k : V → Prop} (h : optK v k) : ∃ x, v = some x ∧ k x := by
  cases v with
  | none => exact h.elim
  | some x => exact ⟨x, rfl, h⟩

def exT (T : TT) (t : TypeId) (k : V → Prop) : Prop :=
  match T t with
  | some ti => match ti.zero with
    | some z => exS z k
    | none => False
  | none => False

theorem exT_ex {T : TT} {t : TypeId} {k : V → Prop} (h : exT T t k) : ∃ v, k v := by
  unfold exT at h
  split at h
  · split at h
    · exact exS_ex _ h
    · exact h.elim
  · exact h.elim

/-- are two values equal: by the fields' answers, all of them -/
def veqAF (eq : TypeId → V → V → Option Bool) (T : TT) (xs ys : List V) : List (Nat × TypeId × Bool) → Option Bool
  | [] => some true
  | (off, ft, nm) :: fs =>
    bif nm then
      match xpart T ft xs off, xpart T ft ys off with
      | some a, some b => match eq ft a b, veqAF eq T xs ys fs with
        | some e, some r => some (e && r)
        | _, _ => none
      | _, _ => none
    else veqAF eq T xs ys fs

def veqA (T : TT) : Nat → TypeId → V → V → Option Bool
  | 0, _, _, _ => none
  | d + 1, t, x, y =>
    match T t with
    | none => none
    | some ti =>
      match ti.d, x, y with
      | .bool, .bool a, .bool b => some (a == b)
      | .int _, .int k a, .int k' b => bif decide (k = k') then some (a == b) else none
      | .str, .str a, .str b => some (a == b)
      | .struct fs, .agg xs, .agg ys => bif ti.eqs then veqAF (veqA T d) T xs ys fs else none
      | _, _, _ => none

theorem veqAF_sound {T : TT} {xs ys : List V} {e e' : TypeId → V → V → Option Bool} (h : ∀ t x y b, e t x y = some b → e' t x y = some b) :
    ∀ (fs : List (Nat × TypeId × Bool)) (b : Bool), veqAF e T xs ys fs = some b → veqF e' T xs ys fs = some b
  | [], b, hb => by simpa [veqAF, veqF] using hb
  | (off, ft, nm) :: fs, b, hb => by
    simp only [veqAF] at hb
    simp only [veqF]
    cases nm with
    | false => exact veqAF_sound h fs b hb
    | true =>
      simp only [cond_true] at hb ⊢
      split at hb
      · rename_i x y hx hy
        rw [hx, hy]
        simp only
        split at hb
        · rename_i p r hp hr
          cases hb
          rw [h _ _ _ _ hp]
          cases p with
          | true => simpa using veqAF_sound h fs r hr
          | false => rfl
        · cases hb
      · cases hb

theorem veqA_sound {T : TT} : ∀ (d : Nat) (t : TypeId) (x y : V) (b : Bool), veqA T d t x y = some b → veq T d t x y = some b
  | 0, _, _, _, _, h => by simp [veqA] at h
  | d + 1, t, x, y, b, h => by
    simp only [veqA] at h
    simp only [veq]
    split at h
    · cases h
    · rename_i ti ht
      rw [ht]
      simp only
      split at h
      · rename_i hd; rw [hd]; exact h
      · rename_i k a k' b' hd
        rw [hd]
        by_cases e : k = k'
        · simp only [e, decide_true, cond_true] at h
          simp only [e, if_true]; exact h
        · simp [e] at h
      · rename_i hd; rw [hd]; exact h
      · rename_i fs xs ys hd
        rw [hd]
        cases he : ti.eqs with
        | false => rw [he] at h; cases h
        | true =>
          rw [he] at h
          simp only [he, cond_true] at h ⊢
          exact veqAF_sound (veqA_sound d) fs b h
      · cases h

/-! ### the quiet operations -/

def isNilC : Operand → Bool
  | .const (.pointer none) => true
  | .const (.map none) => true
  | .const (.slice none 0 0) => true
  | _ => false

def eqK (op : BinOp) (b : Bool) (k : V → Prop) : Prop :=
  match op with
  | .eql => k (.bool b)
  | .neq => k (.bool (!b))
  | _ => False

def boolK (b : Option Bool) (k : Bool → Prop) : Prop :=
  match b with
  | some b => k b
  | none => False

/-- 'w' is nil -/
def nilX (T : TT) (op : BinOp) (t : TypeId) (v w : V) (k : V → Prop) : Prop :=
  match T t with
  | some ti => match ti.d, v, w with
    | .ptr _, .ptr a, .ptr none => eqK op a.isNone k
    | .map _ _, .map a, .map none => eqK op a.isNone k
    | .slc _, .slc a _ _, .slc none _ _ => eqK op a.isNone k
    | _, _, _ => False
  | none => False

def intX (op : BinOp) (κ κ' : IntKind) (a b : Int) (k : V → Prop) : Prop :=
  bif isShift op then ¬ b < 0 ∧ (match op with
    | .shl => k (.int κ (κ.wrap (a * 2 ^ (min b.toNat κ.bits))))
    | .shr => k (.int κ (a.fdiv (2 ^ (min b.toNat κ.bits))))
    | _ => False)
  else bif decide (κ = κ') then
    match op with
    | .quo => ¬ b = 0 ∧ k (.int κ (κ.wrap (a.tdiv b)))
    | .rem => ¬ b = 0 ∧ k (.int κ (a.tmod b))
    | _ => optK (bI op κ a b) k
  else False

def binX (T : TT) (c : Bool) (op : BinOp) (t : TypeId) (v w : V) (k : V → Prop) : Prop :=
  match v, w with
  | .int κ a, .int κ' b => intX op κ κ' a b k
  | .str a, .str b => match op with
    | .add => a.length + b.length ≤ 9223372036854775807 ∧ k (.str (a ++ b))
    | _ => optK (bS op a b) k
  | .agg xs, .agg ys => boolK (veqA T 12 t (.agg xs) (.agg ys)) fun b => eqK op b k
  | .flt κ a, .flt κ' b => κ = κ' ∧ (match op with
    | .add => ∃ x, fAdd κ a b = some x ∧ k (.flt κ x)
    | _ => optK (bF op κ a b) k)
  | .cplx κ a b, .cplx κ' c d => κ = κ' ∧ (match op with
    | .add => ∃ x y, (fAdd κ a c = some x ∧ fAdd κ b d = some y) ∧ k (.cplx κ x y)
    | _ => optK (bC op κ a b c d) k)
  | v, w => optK (xbin T c op t v w) k

def bndX (o : Option V) (d : Nat) (k : Nat → Prop) : Prop :=
  match o with
  | none => k d
  | some (.int _ n) => 0 ≤ n ∧ k n.toNat
  | some _ => False

/-- an array's cell at an open place: each case by itself -/
def arrX (T : TT) (e : TypeId) (cs : List V) (sz : Nat) (j : Int) (k : V → Prop) : Nat → Prop
  | 0 => True
  | n + 1 => arrX T e cs sz j k n ∧ (j = n → optK (xpart T e cs (n * sz)) k)

theorem arrX_ex {T : TT} {e : TypeId} {cs : List V} {sz : Nat} {j : Int} {k : V → Prop} : ∀ {n : Nat}, arrX T e cs sz j k n → 0 ≤ j → j < n → optK (xpart T e cs (j.toNat * sz)) k
  | 0, _, h0, h1 => absurd h1 (by omega)
  | n + 1, ⟨h, hn⟩, h0, h1 => by
    by_cases hj : j = n
    · have := hn hj
      have e : j.toNat = n := by omega
      rw [e]; exact this
    · exact arrX_ex h h0 (by omega)

def quietX (T : TT) (h : Hp) (ev : Operand → Option V) (op : Op) (k : V → Prop) : Prop :=
  match op with
  | .pick c a b => match ev c with
    | some (.bool b') => bif b' then optK (ev a) k else optK (ev b) k
    | _ => False
  | .load t a => match ev a, T t with
    | some (.ptr p), some ti => match ti.zero with
      | some z => bif ti.d.isAgg then onS p fun i o => exS z fun v => h.lda i o ti.size = some v ∧ k v else onS p fun i o => exS z fun v => h.ld i o = some v ∧ k v
      | none => False
    | _, _ => False
  | .nilCheck x => match ev x with
    | some (.ptr a) => onS a fun i o => k (.ptr (some (i, o)))
    | some v => optK (xnil v) k
    | none => False
  | .binOp op t x y _ => match ev x, ev y with
    | some v, some w => bif isNilC y then nilX T op t v w k else bif isNilC x then nilX T op t w v k else match v, w with
      | .ptr a, .ptr b => ∃ r, xpeq T h t a b = some r ∧ eqK op r k
      | v, w => binX T (isConst x || isConst y) op t v w k
    | _, _ => False
  | .indexAddr t x ix => match T t, ev ix, ev x with
    | some ti, some (.int _ j), some v => match ti.d, v with
      | .slc e, .slc a n _ => match T e with
        | some ei => (0 ≤ j ∧ j < n) ∧ onS a fun i o => k (.ptr (some (i, o + j.toNat * ei.size)))
        | none => False
      | .arr n e, .ptr a => match T e with
        | some ei => (0 ≤ j ∧ j < n) ∧ onS a fun i o => k (.ptr (some (i, o + j.toNat * ei.size)))
        | none => False
      | _, _ => False
    | _, _, _ => False
  | .index t x ix => match T t, ev ix, ev x with
    | some ti, some (.int κ j), some v => match ti.d, v with
      | .str, .str s => 0 ≤ j ∧ ∃ b, s[j.toNat]? = some b ∧ k (.int .u8 b.toNat)
      | .arr n e, .agg cs => match T e with
        | some ei => (0 ≤ j ∧ j < n) ∧ arrX T e cs ei.size j k n
        | none => False
      | _, v => optK (xindex T t v (.int κ j)) k
    | _, _, _ => False
  | .slice t x lo hi mx => match T t, ev x, evo ev lo, evo ev hi, evo ev mx with
    | some ti, some v, some l, some m, some q => match ti.d, v, q with
      | .str, .str s, none => bndX l 0 fun l => bndX m s.length fun m => (l ≤ m ∧ m ≤ s.length) ∧ k (.str ((s.drop l).take (m - l)))
      | _, v, q => ∃ a n f, xslice T h t v l m q = some (.slc a n f) ∧ k (.slc a n f)
    | _, _, _, _, _ => False
  | .lookup t m key ok => match T t, ev m, ev key with
    | some ti, some a, some b => match ti.d with
      | .map _ et => bif ok then exT T et fun v => ∃ b', xlook T h t a b true = some (.tup [v, .bool b']) ∧ k (.tup [v, .bool b']) else exT T et fun v => xlook T h t a b false = some v ∧ k v
      | _ => False
    | _, _, _ => False
  | .call { callee := .builtin .len, args, argTypes } => match args.toList, argTypes.toList with
    | [x], [t] => match ev x with
      | some (.map r) => ∃ n, xlen T h t (.map r) = some (.int .i64 n) ∧ k (.int .i64 n)
      | some v => optK (xlen T h t v) k
      | none => False
    | _, _ => False
  | .convert src dst x => match ev x with
    | some (.slc a n f) => ∃ s, xconv T h src dst (.slc a n f) = some (.str s) ∧ k (.str s)
    | some (.flt κ b) => match T dst with
      | some di => match di.d with
        | .int κ' => ∃ n, xconv T h src dst (.flt κ b) = some (.int κ' n) ∧ k (.int κ' n)
        | _ => optK (xconv T h src dst (.flt κ b)) k
      | none => False
    | some v => optK (xconv T h src dst v) k
    | none => False
  | .call { callee := .builtin .min, args, argTypes := _ } => match evs ev args.toList with
    | some [.flt κ x, .flt _ y] => ∃ z, fMin κ x y = some z ∧ k (.flt κ z)
    | some (x :: r) => optK (xfold xmin2 x r) k
    | _ => False
  | op => optK (xq T h ev op) k

section
variable {T : TT} {h : Hp} {ev : Operand → Option V} {k : V → Prop}

theorem eqK_some {op : BinOp} {b : Bool} {t : TypeId} {x y : V} (hv : veq T 12 t x y = some b) (hk : eqK op b k) : ∃ v, xeq T op t x y = some v ∧ k v := by
  cases op <;> first | (exact hk.elim; done) | (exact ⟨_, by simp [xeq, hv], hk⟩)

theorem boolK_ex {b : Option Bool} {k : Bool → Prop} (h : boolK b k) : ∃ x, b = some x ∧ k x := by
  cases b with
  | none => exact h.elim
  | some x => exact ⟨x, rfl, h⟩

theorem nilX_sound {op : BinOp} {t : TypeId} {v w : V} {c : Bool} (hx : nilX T op t v w k) :
    (∃ r, xbin T c op t v w = some r ∧ k r) ∧ (∃ r, xbin T c op t w v = some r ∧ k r) := by
  unfold nilX at hx
  split at hx
  · rename_i ti ht
    split at hx
    · rename_i e a hd
      have h1 : veq T 12 t (.ptr a) (.ptr none) = some a.isNone := by simp only [veq, ht, hd]; cases a <;> simp
      have h2 : veq T 12 t (.ptr none) (.ptr a) = some a.isNone := by simp only [veq, ht, hd]
      obtain ⟨r, hr, hk⟩ := eqK_some h1 hx
      obtain ⟨r', hr', hk'⟩ := eqK_some h2 hx
      exact ⟨⟨r, hr, hk⟩, ⟨r', hr', hk'⟩⟩
    · rename_i a hd
      have h1 : veq T 12 t (.map a) (.map none) = some a.isNone := by simp only [veq, ht, hd]; cases a <;> simp
      have h2 : veq T 12 t (.map none) (.map a) = some a.isNone := by simp only [veq, ht, hd]
      obtain ⟨r, hr, hk⟩ := eqK_some h1 hx
      obtain ⟨r', hr', hk'⟩ := eqK_some h2 hx
      exact ⟨⟨r, hr, hk⟩, ⟨r', hr', hk'⟩⟩
    · rename_i e a n f m g hd
      have h1 : veq T 12 t (.slc a n f) (.slc none m g) = some a.isNone := by simp only [veq, ht, hd]; cases a <;> simp
      have h2 : veq T 12 t (.slc none m g) (.slc a n f) = some a.isNone := by simp only [veq, ht, hd]
      obtain ⟨r, hr, hk⟩ := eqK_some h1 hx
      obtain ⟨r', hr', hk'⟩ := eqK_some h2 hx
      exact ⟨⟨r, hr, hk⟩, ⟨r', hr', hk'⟩⟩
    · exact hx.elim
  · exact hx.elim

theorem intX_sound {op : BinOp} {t : TypeId} {κ κ' : IntKind} {a b : Int} {c : Bool} (hx : intX op κ κ' a b k) : ∃ r, xbin T c op t (.int κ a) (.int κ' b) = some r ∧ k r := by
  unfold intX at hx
  simp only [xbin]
  cases hs : isShift op with
  | true =>
    rw [hs] at hx
    simp only [cond_true] at hx ⊢
    obtain ⟨hb, hx⟩ := hx
    unfold bSh
    rw [if_neg hb]
    cases op <;> first | (exact hx.elim; done) | exact ⟨_, rfl, hx⟩
  | false =>
    rw [hs] at hx
    simp only [cond_false] at hx ⊢
    by_cases e : κ = κ'
    · subst e
      simp only [decide_true, cond_true, if_true] at hx ⊢
      cases op <;> simp only [] at hx <;> first
        | (obtain ⟨h0, hx⟩ := hx; exact ⟨_, by simp only [bI]; rw [if_neg h0], hx⟩)
        | (exact optK_ex hx)
    · simp [e] at hx

theorem binX_sound {op : BinOp} {t : TypeId} {v w : V} {c : Bool} (hx : binX T c op t v w k) : ∃ r, xbin T c op t v w = some r ∧ k r := by
  unfold binX at hx
  split at hx
  · exact intX_sound hx
  · split at hx
    · exact ⟨_, by simp only [xbin, bS]; rw [if_pos hx.1], hx.2⟩
    · simp only [xbin]; exact optK_ex hx
  · obtain ⟨b, hb, hx⟩ := boolK_ex hx
    exact eqK_some (veqA_sound _ _ _ _ _ hb) hx
  · obtain ⟨rfl, hx⟩ := hx
    simp only [xbin, if_true]
    split at hx
    · obtain ⟨x, h1, h2⟩ := hx
      exact ⟨_, by simp only [bF, h1]; rfl, h2⟩
    · exact optK_ex hx
  · obtain ⟨rfl, hx⟩ := hx
    simp only [xbin, if_true]
    split at hx
    · obtain ⟨x, y, ⟨h1, h2⟩, h3⟩ := hx
      exact ⟨_, by simp only [bC, h1, h2], h3⟩
    · exact optK_ex hx
  · exact optK_ex hx

theorem bndX_ex {o : Option V} {d : Nat} {k : Nat → Prop} (hx : bndX o d k) : ∃ n, bnd o d = some n ∧ k n := by
  unfold bndX at hx
  split at hx
  · exact ⟨_, rfl, hx⟩
  · exact ⟨_, by simp only [bnd]; rw [if_pos hx.1], hx.2⟩
  · exact hx.elim

theorem ld_load {ti : TI} {t i o : Nat} {v : V} (ht : T t = some ti) (hd : ti.d.isAgg = false) (hv : h.ld i o = some v) : xload T h t (.ptr (some (i, o))) = some v := by
  unfold Hp.ld at hv
  simp only [xload]
  split at hv
  · rename_i c _ _ hg
    rw [hg]
    simp only [xpart, ht, hd, cond_false]
    exact hv
  · cases hv

theorem lda_load {ti : TI} {t i o : Nat} {v : V} (ht : T t = some ti) (hd : ti.d.isAgg = true) (hv : h.lda i o ti.size = some v) : xload T h t (.ptr (some (i, o))) = some v := by
  unfold Hp.lda at hv
  simp only [xload]
  split at hv
  · rename_i c _ _ hg
    rw [hg]
    simp only [xpart, ht, hd, cond_true]
    exact hv
  · cases hv

/-- THE LAW OF THE QUIET OPERATIONS, in the form of a statement. -/
theorem quietX_sound {op : Op} (hx : quietX T h ev op k) : ∃ v, xq T h ev op = some v ∧ k v := by
  unfold quietX at hx
  split at hx
  · rename_i c a b
    split at hx
    · rename_i b' hc
      simp only [xq, hc]
      cases b' with
      | true => exact optK_ex hx
      | false => exact optK_ex hx
    · exact hx.elim
  · rename_i t a
    split at hx
    · rename_i p ti ha ht
      split at hx
      · rename_i z hz
        simp only [xq, ha]
        cases hd : ti.d.isAgg with
        | true =>
          rw [hd] at hx
          obtain ⟨i, o, rfl, hx⟩ := onS_ex hx
          obtain ⟨v, hv, hk⟩ := exS_ex _ hx
          exact ⟨v, lda_load ht hd hv, hk⟩
        | false =>
          rw [hd] at hx
          obtain ⟨i, o, rfl, hx⟩ := onS_ex hx
          obtain ⟨v, hv, hk⟩ := exS_ex _ hx
          exact ⟨v, ld_load ht hd hv, hk⟩
      · exact hx.elim
    · exact hx.elim
  · rename_i x
    split at hx
    · rename_i a ha
      obtain ⟨i, o, rfl, hx⟩ := onS_ex hx
      exact ⟨_, by simp [xq, ha, xnil], hx⟩
    · rename_i v _ ha
      simp only [xq, ha]
      exact optK_ex hx
    · exact hx.elim
  · rename_i op t x y _
    split at hx
    · rename_i v w hv hw
      simp only [xq, hv, hw]
      have lift : (∃ r, xbin T (isConst x || isConst y) op t v w = some r ∧ k r) → ∃ r, xbinh T h (isConst x || isConst y) op t v w = some r ∧ k r := by
        rintro ⟨r, h1, h2⟩
        exact ⟨r, by simp only [xbinh, h1], h2⟩
      cases h1 : isNilC y with
      | true => rw [h1] at hx; exact lift (nilX_sound hx).1
      | false =>
        rw [h1] at hx
        cases h2 : isNilC x with
        | true => rw [h2] at hx; exact lift (nilX_sound hx).2
        | false =>
          rw [h2] at hx
          simp only [cond_false] at hx
          split at hx
          · rename_i a b
            obtain ⟨r, hr, hx⟩ := hx
            have hxe : ∀ op, xbin T (isConst x || isConst y) op t (.ptr a) (.ptr b) = xeq T op t (.ptr a) (.ptr b) := fun _ => rfl
            cases hv0 : veq T 12 t (.ptr a) (.ptr b) with
            | some q =>
              have e : q = r := by simpa [xpeq, hv0] using hr
              subst e
              obtain ⟨z, h1, h2⟩ := eqK_some hv0 hx
              exact ⟨z, by simp only [xbinh, hxe, h1], h2⟩
            | none =>
              cases op <;> first | (exact hx.elim; done) | exact ⟨_, by simp only [xbinh, hxe, xeq, hv0, Option.map_none, xpb, hr, Option.map_some], hx⟩
          · exact lift (binX_sound hx)
    · exact hx.elim
  · rename_i t x ix
    split at hx
    · rename_i ti κ j v ht hj hv
      split at hx
      · rename_i e a n f hd
        split at hx
        · rename_i ei he
          obtain ⟨hb, hx⟩ := hx
          obtain ⟨i, o, rfl, hx⟩ := onS_ex hx
          exact ⟨_, by simp only [xq, hv, hj, xindexAddr, ht, hd, he]; rw [if_pos hb], hx⟩
        · exact hx.elim
      · rename_i n e a hd
        split at hx
        · rename_i ei he
          obtain ⟨hb, hx⟩ := hx
          obtain ⟨i, o, rfl, hx⟩ := onS_ex hx
          exact ⟨_, by simp only [xq, hv, hj, xindexAddr, ht, hd, he]; rw [if_pos hb], hx⟩
        · exact hx.elim
      · exact hx.elim
    · exact hx.elim
  · rename_i t x ix
    split at hx
    · rename_i ti κ j v ht hj hv
      split at hx
      · rename_i s hd
        obtain ⟨h0, b, hb, hx⟩ := hx
        exact ⟨_, by simp only [xq, hv, hj, xindex, ht, hd]; rw [if_pos h0, hb]; rfl, hx⟩
      · rename_i n e cs hd
        split at hx
        · rename_i ei he
          obtain ⟨hb, hx⟩ := hx
          obtain ⟨x, h1, h2⟩ := optK_ex (arrX_ex hx hb.1 hb.2)
          exact ⟨x, by simp only [xq, hv, hj, xindex, ht, hd, he]; rw [if_pos hb]; exact h1, h2⟩
        · exact hx.elim
      · simp only [xq, hv, hj]
        exact optK_ex hx
    · exact hx.elim
  · rename_i t x lo hi mx
    split at hx
    · rename_i ti v l m q ht hv hl hm hq
      split at hx
      · rename_i s hd
        obtain ⟨l', e1, hx⟩ := bndX_ex hx
        obtain ⟨m', e2, hx⟩ := bndX_ex hx
        exact ⟨_, by simp only [xq, hv, hl, hm, hq, xslice, ht, hd, e1, e2]; rw [if_pos hx.1], hx.2⟩
      · obtain ⟨a, n, f, hs, hx⟩ := hx
        exact ⟨_, by simp only [xq, hv, hl, hm, hq]; exact hs, hx⟩
    · exact hx.elim
  · rename_i t m key ok
    split at hx
    · rename_i ti a b ht ha hb
      split at hx
      · cases ok with
        | true =>
          obtain ⟨v, b', hl, hx⟩ := exT_ex hx
          exact ⟨_, by simp only [xq, ha, hb]; exact hl, hx⟩
        | false =>
          obtain ⟨v, hl, hx⟩ := exT_ex hx
          exact ⟨_, by simp only [xq, ha, hb]; exact hl, hx⟩
      · exact hx.elim
    · exact hx.elim
  · rename_i args ats
    split at hx
    · rename_i x t hax hat
      split at hx
      · rename_i r hr
        obtain ⟨n, hl, hx⟩ := hx
        exact ⟨_, by simp only [xq, hax, hat, hr]; exact hl, hx⟩
      · rename_i v _ hv
        simp only [xq, hax, hat, hv]
        exact optK_ex hx
      · exact hx.elim
    · exact hx.elim
  · rename_i src dst x
    split at hx
    · rename_i a n f hv
      obtain ⟨s, hs, hx⟩ := hx
      exact ⟨_, by simp only [xq, hv]; exact hs, hx⟩
    · rename_i κ b hv
      split at hx
      · split at hx
        · obtain ⟨n, hn, hx⟩ := hx
          exact ⟨_, by simp only [xq, hv]; exact hn, hx⟩
        · simp only [xq, hv]
          exact optK_ex hx
      · exact hx.elim
    · rename_i v _ _ hv
      simp only [xq, hv]
      exact optK_ex hx
    · exact hx.elim
  · rename_i args ats
    split at hx
    · rename_i κ x κ' y hv
      obtain ⟨z, hz, hx⟩ := hx
      exact ⟨_, by simp only [xq, hv, xfold, xmin2, hz]; rfl, hx⟩
    · rename_i x r _ hv
      simp only [xq, hv]
      exact optK_ex hx
    · exact hx.elim
  · exact optK_ex hx
end
end Go.Vex
