/-
  VEX, part C: arithmetic; what an operation that changes nothing comes to ('xq'), and that it is what the model's does.
-/
import Derived.Test.YtkfnokgfgcfldaaGreatVexB
set_option linter.unusedSimpArgs false
set_option linter.unusedVariables false
namespace Go.Vex

section
variable {N : Nat} {ρ : Env} {v : V}
theorem VR.inv_int {k : IntKind} {a : Int} (h : VR N ρ v (.int k a)) : v = .int k a := by
  cases v with
  | int k' a' => simp [VR] at h; rw [h.1, h.2]
  | ptr a => cases a <;> simp [VR] at h
  | slc a n f => cases a <;> simp [VR] at h
  | map a => cases a <;> simp [VR] at h
  | _ => simp [VR] at h
theorem VR.inv_bool {b : Bool} (h : VR N ρ v (.bool b)) : v = .bool b := by
  cases v with
  | bool b' => simp [VR] at h; rw [h]
  | ptr a => cases a <;> simp [VR] at h
  | slc a n f => cases a <;> simp [VR] at h
  | map a => cases a <;> simp [VR] at h
  | _ => simp [VR] at h
theorem VR.inv_str {s : ByteArray} (h : VR N ρ v (.string s)) : v = .str s.data.toList := by
  cases v with
  | str s' => simp [VR] at h; rw [h]
  | ptr a => cases a <;> simp [VR] at h
  | slc a n f => cases a <;> simp [VR] at h
  | map a => cases a <;> simp [VR] at h
  | _ => simp [VR] at h
theorem VR.inv_nilIfc (h : VR N ρ v .nilIface) : v = .nilIfc := by
  cases v with
  | nilIfc => rfl
  | ptr a => cases a <;> simp [VR] at h
  | slc a n f => cases a <;> simp [VR] at h
  | map a => cases a <;> simp [VR] at h
  | _ => simp [VR] at h
theorem VR.inv_agg {cs : Array Value} (h : VR N ρ v (.agg cs)) : ∃ vs, v = .agg vs ∧ VRs N ρ vs cs.toList := by
  cases v with
  | agg vs =>
    obtain ⟨xs, hx, hv⟩ := h
    cases hx; exact ⟨vs, rfl, hv⟩
  | ptr a => cases a <;> simp [VR] at h
  | slc a n f => cases a <;> simp [VR] at h
  | map a => cases a <;> simp [VR] at h
  | _ => simp [VR] at h
end

def bI (op : BinOp) (k : IntKind) (a b : Int) : Option V :=
  match op with
  | .add => some (.int k (k.wrap (a + b)))
  | .sub => some (.int k (k.wrap (a - b)))
  | .mul => some (.int k (k.wrap (a * b)))
  | .quo => if b = 0 then none else some (.int k (k.wrap (a.tdiv b)))
  | .rem => if b = 0 then none else some (.int k (a.tmod b))
  | .and => some (.int k (bits .and k a b))
  | .or => some (.int k (bits .or k a b))
  | .xor => some (.int k (bits .xor k a b))
  | .andNot => some (.int k (bits .andNot k a b))
  | .eql => some (.bool (a == b))
  | .neq => some (.bool (a != b))
  | .lss => some (.bool (ltI a b))
  | .leq => some (.bool (!ltI b a))
  | .gtr => some (.bool (ltI b a))
  | .geq => some (.bool (!ltI a b))
  | _ => none

def bS (op : BinOp) (a b : List UInt8) : Option V :=
  match op with
  | .add => if a.length + b.length ≤ 9223372036854775807 then some (.str (a ++ b)) else none
  | .eql => some (.bool (a == b))
  | .neq => some (.bool (!(a == b)))
  | .lss => some (.bool (Op.bytesLess a b))
  | .leq => some (.bool (Op.bytesLess a b || a == b))
  | .gtr => some (.bool (!(Op.bytesLess a b || a == b)))
  | .geq => some (.bool (!Op.bytesLess a b))
  | _ => none

def bSh (op : BinOp) (k : IntKind) (a b : Int) : Option V :=
  if b < 0 then none else
  match op with
  | .shl => some (.int k (k.wrap (a * 2 ^ (min b.toNat k.bits))))
  | .shr => some (.int k (a.fdiv (2 ^ (min b.toNat k.bits))))
  | _ => none

def isShift : BinOp → Bool
  | .shl | .shr => true
  | _ => false

def xeq (T : TT) (op : BinOp) (t : TypeId) (x y : V) : Option V :=
  match op with
  | .eql => (veq T 12 t x y).map V.bool
  | .neq => (veq T 12 t x y).map fun b => V.bool (!b)
  | _ => none

def fAdd (k : FloatKind) (a b : Nat) : Option Nat := k.format.add a b
def fIs (k : FloatKind) (o : Ordering) (a b : Nat) : Bool := k.format.order a b == some o
/-- the less one of two -/
def fMin (k : FloatKind) (x y : Nat) : Option Nat :=
  match k.format.order x y with
  | none => none
  | some .lt => some x
  | some .gt => some y
  | some .eq => some (if (k.decode x).neg then x else y)

/-- floats: a NaN is no answer here -/
def bF (op : BinOp) (k : FloatKind) (a b : Nat) : Option V :=
  match op with
  | .add => (fAdd k a b).map (V.flt k)
  | .sub => (k.format.sub a b).map (V.flt k)
  | .mul => (k.format.mul a b).map (V.flt k)
  | .quo => (k.format.div a b).map (V.flt k)
  | .eql => some (.bool (fIs k .eq a b))
  | .neq => some (.bool (!fIs k .eq a b))
  | .lss => some (.bool (fIs k .lt a b))
  | .leq => some (.bool (fIs k .lt a b || fIs k .eq a b))
  | .gtr => some (.bool (fIs k .gt a b))
  | .geq => some (.bool (fIs k .gt a b || fIs k .eq a b))
  | _ => none

def bC (op : BinOp) (k : FloatKind) (a b c d : Nat) : Option V :=
  match op with
  | .add => match fAdd k a c, fAdd k b d with
    | some x, some y => some (.cplx k x y)
    | _, _ => none
  | .eql => some (.bool (fIs k .eq a c && fIs k .eq b d))
  | .neq => some (.bool !(fIs k .eq a c && fIs k .eq b d))
  | _ => none

/-- 'c': is one of the two a constant? -/
def xbin (T : TT) (c : Bool) (op : BinOp) (t : TypeId) : V → V → Option V
  | .int k a, .int k' b => bif isShift op then bSh op k a b else if k = k' then bI op k a b else none
  | .str a, .str b => bS op a b
  | .flt k a, .flt k' b => if k = k' then bF op k a b else none
  | .cplx k a b, .cplx k' c d => if k = k' then bC op k a b c d else none
  | .nilIfc, .nilIfc =>
    bif c then match T t with
      | some ti => match ti.d, op with
        | .ifc, .eql => some (.bool true)
        | .ifc, .neq => some (.bool false)
        | _, _ => none
      | none => none
    else none
  | x, y => xeq T op t x y

theorem bI_sound {P : Program} (w : World) (op : BinOp) (t : TypeId) (k : IntKind) (a b : Int) (hs : isShift op = false) {v : V} (h : bI op k a b = some v) (N : Nat) (ρ : Env) :
    ∃ x, (binOp op t (.int k a) (.int k b)).run P w = .ok x w ∧ VR N ρ v x := by
  cases op <;> simp [isShift] at hs <;> simp only [bI] at h
  case quo =>
    split at h
    · cases h
    · rename_i hb; cases h; exact ⟨_, by simp [binOp, Op.intDiv, hb], rfl⟩
  case rem =>
    split at h
    · cases h
    · rename_i hb; cases h; exact ⟨_, by simp [binOp, Op.intDiv, hb], rfl⟩
  all_goals first
    | (cases h; done)
    | (simp only [ltI_eq, ← decide_not, Int.not_lt] at h; cases h; refine ⟨_, ?_, rfl⟩; simp [binOp, Op.intArith, Op.intCmp, Op.intBits, bits]; done)
    | (cases h; exact ⟨_, by simp [binOp, Op.intArith, Op.intCmp, Op.intBits, bits]; try rfl, rfl⟩)

theorem bF_sound {P : Program} (w : World) (op : BinOp) (t : TypeId) (k : FloatKind) (a b : Nat) {v : V} (h : bF op k a b = some v) (N : Nat) (ρ : Env) :
    ∃ x, (binOp op t (.float k a) (.float k b)).run P w = .ok x w ∧ VR N ρ v x := by
  cases op <;> simp only [bF, fAdd, fIs] at h
  case add =>
    cases hh : k.format.add a b with
    | none => rw [hh] at h; cases h
    | some r => rw [hh] at h; cases h; exact ⟨.float k r, by simp [binOp, Op.floatArith, hh], rfl⟩
  case sub =>
    cases hh : k.format.sub a b with
    | none => rw [hh] at h; cases h
    | some r => rw [hh] at h; cases h; exact ⟨.float k r, by simp [binOp, Op.floatArith, hh], rfl⟩
  case mul =>
    cases hh : k.format.mul a b with
    | none => rw [hh] at h; cases h
    | some r => rw [hh] at h; cases h; exact ⟨.float k r, by simp [binOp, Op.floatArith, hh], rfl⟩
  case quo =>
    cases hh : k.format.div a b with
    | none => rw [hh] at h; cases h
    | some r => rw [hh] at h; cases h; exact ⟨.float k r, by simp [binOp, Op.floatArith, hh], rfl⟩
  all_goals first
    | (cases h; done)
    | (cases h; exact ⟨_, by simp [binOp, Op.floatCmp]; try rfl, rfl⟩)

theorem bC_sound {P : Program} (w : World) (op : BinOp) (t : TypeId) (k : FloatKind) (a b c d : Nat) {v : V} (h : bC op k a b c d = some v) (N : Nat) (ρ : Env) :
    ∃ x, (binOp op t (.complex k a b) (.complex k c d)).run P w = .ok x w ∧ VR N ρ v x := by
  cases op <;> simp only [bC, fAdd, fIs] at h
  case add =>
    cases h1 : k.format.add a c with
    | none => rw [h1] at h; cases h
    | some x =>
      cases h2 : k.format.add b d with
      | none => rw [h1, h2] at h; cases h
      | some y => rw [h1, h2] at h; cases h; exact ⟨.complex k x y, by simp [binOp, Op.complexOp, Op.Complex.arith, Op.floatArith, h1, h2], rfl⟩
  all_goals first
    | (cases h; done)
    | (cases h; exact ⟨_, by simp [binOp, Op.complexOp, Op.Complex.cmp, Op.floatCmp, asBool]; try rfl, rfl⟩)

theorem bSh_sound {P : Program} (w : World) (op : BinOp) (t : TypeId) (k k' : IntKind) (a b : Int) (hs : isShift op = true) {v : V} (h : bSh op k a b = some v) (N : Nat) (ρ : Env) :
    ∃ x, (binOp op t (.int k a) (.int k' b)).run P w = .ok x w ∧ VR N ρ v x := by
  unfold bSh at h
  split at h
  · cases h
  · rename_i hb
    cases op <;> simp [isShift] at hs <;> simp only at h <;> cases h
    · exact ⟨_, by simp [binOp, Op.shift, hb], rfl⟩
    · exact ⟨_, by simp [binOp, Op.shift, hb], rfl⟩

theorem toList_mk (s : List UInt8) : (ByteArray.mk s.toArray).toList = s := by rw [ByteArray.toList_eq]

theorem bS_sound {P : Program} (w : World) (op : BinOp) (t : TypeId) (a b : List UInt8) {v : V} (h : bS op a b = some v) (N : Nat) (ρ : Env) :
    ∃ x, (binOp op t (.string ⟨a.toArray⟩) (.string ⟨b.toArray⟩)).run P w = .ok x w ∧ VR N ρ v x := by
  cases op <;> simp only [bS] at h
  case add =>
    split at h
    · rename_i hl
      cases h
      refine ⟨.string ⟨(a ++ b).toArray⟩, ?_, rfl⟩
      have e : (ByteArray.mk a.toArray ++ ByteArray.mk b.toArray) = ByteArray.mk (a ++ b).toArray := by
        apply ByteArray.ext
        simp [ByteArray.data_append]
      have hn : ¬ (((ByteArray.mk a.toArray).size + (ByteArray.mk b.toArray).size : Nat) : Int) > IntKind.i64.max := by
        have e1 : (ByteArray.mk a.toArray).size = a.length := by simp [ByteArray.size]
        have e2 : (ByteArray.mk b.toArray).size = b.length := by simp [ByteArray.size]
        rw [e1, e2, IntKind.max_i64]; omega
      simp only [binOp_string_add, Op.stringOp, if_neg hn, Sem.run_pure, e]
    · cases h
  all_goals first
    | (cases h; done)
    | (cases h; exact ⟨_, by simp [binOp, Op.stringOp, toList_mk], rfl⟩)

theorem run_eql_other {P : Program} (w : World) (t : TypeId) (u v : Value) (hni : ∀ k a k' b, u = .int k a → v ≠ .int k' b) (hns : ∀ a b, u = .string a → v ≠ .string b)
    (hf : ∀ k b, u ≠ .float k b) (hc : ∀ k a b, u ≠ .complex k a b) :
    (binOp .eql t u v).run P w = ((Op.equal t u v).run P w).andThen (fun b w' => .ok (.bool b) w') ∧
    (binOp .neq t u v).run P w = ((Op.equal t u v).run P w).andThen (fun b w' => .ok (.bool (!b)) w') := by
  cases u with
  | int k a =>
    cases v with
    | int k' b => exact absurd rfl (hni _ _ _ _ rfl)
    | _ => exact ⟨by simp [binOp, Sem.run_bind], by simp [binOp, Sem.run_bind]⟩
  | string a =>
    cases v with
    | string b => exact absurd rfl (hns _ _ rfl)
    | _ => exact ⟨by simp [binOp, Sem.run_bind], by simp [binOp, Sem.run_bind]⟩
  | float k b => exact absurd rfl (hf _ _)
  | complex k a b => exact absurd rfl (hc _ _ _)
  | _ => exact ⟨by simp [binOp, Sem.run_bind], by simp [binOp, Sem.run_bind]⟩

theorem veq_some {T : TT} {d : Nat} {t : TypeId} {x y : V} {b : Bool} (h : veq T d t x y = some b) :
    (∀ k c, x ≠ .flt k c) ∧ (∀ k a c, x ≠ .cplx k a c) ∧ (x = .nilIfc → y ≠ .nilIfc) ∧ (∀ cs, x = .agg cs → ∃ ti, T t = some ti ∧ ti.eqs = true) := by
  cases d with
  | zero => simp [veq] at h
  | succ d =>
    unfold veq at h
    split at h
    · cases h
    · rename_i ti ht
      refine ⟨fun k c e => ?_, fun k a c e => ?_, fun e e' => ?_, fun cs e => ⟨ti, ht, ?_⟩⟩
      · subst e; generalize ti.d = dd at h; cases dd <;> simp at h
      · subst e; generalize ti.d = dd at h; cases dd <;> simp at h
      · subst e; subst e'; generalize ti.d = dd at h; cases dd <;> simp at h
      · subst e
        cases hq : ti.eqs with
        | true => rfl
        | false => rw [hq] at h; generalize ti.d = dd at h; cases dd <;> cases y <;> simp at h

theorem xeq_sound {P : Program} {T : TT} (hT : TTok P T) {N : Nat} {ρ : Env} (w : World) (op : BinOp) (t : TypeId) (xo yo : Operand) {x y : V} {u v : Value} {r : V} (hx : VR N ρ x u) (hy : VR N ρ y v)
    (hni : ∀ k a k' b, x = .int k a → y ≠ .int k' b) (hns : ∀ a b, x = .str a → y ≠ .str b)
    (h : xeq T op t x y = some r) : ∃ z, (do eqGuard op t xo yo u v; binOp op t u v : Sem Value).run P w = .ok z w ∧ VR N ρ r z := by
  have hni' : ∀ k a k' b, u = .int k a → v ≠ .int k' b := fun k a k' b e e' => by
    subst e; subst e'; exact hni _ _ _ _ hx.inv_int hy.inv_int
  have hns' : ∀ a b, u = .string a → v ≠ .string b := fun a b e e' => by
    subst e; subst e'; exact hns _ _ hx.inv_str hy.inv_str
  -- the guard
  have hg : ∀ b, veq T 12 t x y = some b → (eqGuard op t xo yo u v).run P w = .ok () w := by
    intro b hb
    obtain ⟨_, _, h3, h4⟩ := veq_some hb
    cases u with
    | nilIface =>
      cases v with
      | nilIface => exact absurd hy.inv_nilIfc (h3 hx.inv_nilIfc)
      | _ => cases op <;> rfl
    | agg us =>
      cases v with
      | agg vs =>
        obtain ⟨cs, e, _⟩ := hx.inv_agg
        obtain ⟨ti, ht, hq⟩ := h4 cs e
        obtain ⟨_, _, _, _, _, _, _, _, h7⟩ := hT.ok t ti ht
        exact run_eqGuard_agg w op t xo yo us vs (h7 hq).2
      | _ => cases op <;> rfl
    | _ => cases op <;> rfl
  have key : ∀ b, veq T 12 t x y = some b → (∀ k c, u ≠ .float k c) ∧ (∀ k a c, u ≠ .complex k a c) ∧ (Op.equal t u v).run P w = .ok b w := by
    intro b hb
    obtain ⟨h1, h2, _, _⟩ := veq_some hb
    refine ⟨fun k c e => ?_, fun k a c e => ?_, veq_sound hT w (12 + 9988) t x y u v b hx hy (veq_le 9988 hb)⟩
    · subst e
      cases x with
      | flt k' c' => exact h1 _ _ rfl
      | ptr a => cases a <;> simp [VR] at hx
      | slc a n f => cases a <;> simp [VR] at hx
      | map a => cases a <;> simp [VR] at hx
      | _ => simp [VR] at hx
    · subst e
      cases x with
      | cplx k' c' d' => exact h2 _ _ _ rfl
      | ptr a => cases a <;> simp [VR] at hx
      | slc a n f => cases a <;> simp [VR] at hx
      | map a => cases a <;> simp [VR] at hx
      | _ => simp [VR] at hx
  unfold xeq at h
  split at h
  · obtain ⟨b, hb, rfl⟩ := Option.map_eq_some_iff.1 h
    obtain ⟨h1, h2, h3⟩ := key b hb
    refine ⟨.bool b, ?_, rfl⟩
    simp only [Sem.run_bind, hg b hb, Result.andThen_ok, (run_eql_other (P := P) w t u v hni' hns' h1 h2).1, h3]
  · obtain ⟨b, hb, rfl⟩ := Option.map_eq_some_iff.1 h
    obtain ⟨h1, h2, h3⟩ := key b hb
    refine ⟨.bool (!b), ?_, rfl⟩
    simp only [Sem.run_bind, hg b hb, Result.andThen_ok, (run_eql_other (P := P) w t u v hni' hns' h1 h2).2, h3]
  · cases h

def isConst : Operand → Bool
  | .const _ => true
  | _ => false

theorem run_equal_nilIface {P : Program} (w : World) {t : TypeId} {ms : Array (String × TypeId)} (hu : P.underlying t = some (.interface ms)) : (Op.equal t .nilIface .nilIface).run P w = .ok true w := by
  have key : ∀ d, (Op.equalIn (d + 1) t .nilIface .nilIface).run P w = .ok true w := fun d => by
    simp only [Op.equalIn, Sem.run_bind, run_underlying hu, Result.andThen_ok, Sem.run_pure]
  exact key 9999

theorem xbin_sound {P : Program} {T : TT} (hT : TTok P T) {N : Nat} {ρ : Env} (w : World) (op : BinOp) (t : TypeId) (xo yo : Operand) {x y : V} {u v : Value} {r : V} (hx : VR N ρ x u) (hy : VR N ρ y v)
    (h : xbin T (isConst xo || isConst yo) op t x y = some r) : ∃ z, (do eqGuard op t xo yo u v; binOp op t u v : Sem Value).run P w = .ok z w ∧ VR N ρ r z := by
  unfold xbin at h
  split at h
  · rename_i k a k' b
    rw [show u = _ from hx, show v = _ from hy]
    simp only [eqGuard_at_int, Sem.run_bind, Sem.run_pure, Result.andThen_ok]
    cases hs : isShift op with
    | true => rw [hs] at h; exact bSh_sound w op t k k' a b hs h N ρ
    | false =>
      rw [hs] at h
      simp only [cond_false] at h
      split at h
      · rename_i e; subst e; exact bI_sound w op t k a b hs h N ρ
      · cases h
  · rename_i a b
    rw [show u = _ from hx, show v = _ from hy]
    simp only [eqGuard_at_string, Sem.run_bind, Sem.run_pure, Result.andThen_ok]
    exact bS_sound w op t a b h N ρ
  · rename_i k a k' b
    rw [show u = _ from hx, show v = _ from hy]
    have hg : eqGuard op t xo yo (.float k a) (.float k' b) = pure () := by cases op <;> rfl
    simp only [hg, Sem.run_bind, Sem.run_pure, Result.andThen_ok]
    split at h
    · rename_i e; subst e; exact bF_sound w op t k a b h N ρ
    · cases h
  · rename_i k a b k' c d
    rw [show u = _ from hx, show v = _ from hy]
    have hg : eqGuard op t xo yo (.complex k a b) (.complex k' c d) = pure () := by cases op <;> rfl
    simp only [hg, Sem.run_bind, Sem.run_pure, Result.andThen_ok]
    split at h
    · rename_i e; subst e; exact bC_sound w op t k a b c d h N ρ
    · cases h
  · rw [show u = _ from hx, show v = _ from hy]
    have hg : (isConst xo || isConst yo) = true → (eqGuard op t xo yo .nilIface .nilIface) = pure () := by
      intro hc
      cases xo <;> cases yo <;> simp [isConst] at hc <;> cases op <;> rfl
    cases hc : (isConst xo || isConst yo) with
    | false => rw [hc] at h; cases h
    | true =>
      rw [hc] at h
      simp only [cond_true] at h
      rw [hg hc]
      split at h
      · rename_i ti ht
        split at h
        · rename_i hd
          obtain ⟨ms, hu⟩ := hT.ifc ht hd
          cases h
          refine ⟨.bool true, ?_, rfl⟩
          have h1 := (run_eql_other (P := P) w t .nilIface .nilIface (fun _ _ _ _ e => by cases e) (fun _ _ e => by cases e) (fun _ _ e => by cases e) (fun _ _ _ e => by cases e)).1
          simp only [Sem.run_bind, Sem.run_pure, Result.andThen_ok, h1, run_equal_nilIface w hu]
        · rename_i hd
          obtain ⟨ms, hu⟩ := hT.ifc ht hd
          cases h
          refine ⟨.bool false, ?_, rfl⟩
          have h1 := (run_eql_other (P := P) w t .nilIface .nilIface (fun _ _ _ _ e => by cases e) (fun _ _ e => by cases e) (fun _ _ e => by cases e) (fun _ _ _ e => by cases e)).2
          simp only [Sem.run_bind, Sem.run_pure, Result.andThen_ok, h1, run_equal_nilIface w hu, Bool.not_true]
        · cases h
      · cases h
  · rename_i h1 h2 h3 h4 h5
    exact xeq_sound hT w op t xo yo hx hy (fun k a k' b e e' => h1 _ _ _ _ e e') (fun a b e e' => h2 _ _ e e') h

/-! ### one operand; conversions of numbers -/

def xun (op : UnOp) (x : V) : Option V :=
  match op, x with
  | .neg, .int k n => some (.int k (k.wrap (0 - n)))
  | .xor, .int k n => some (.int k (bits .xor k (if k.signed then -1 else k.max) n))
  | .not, .bool b => some (.bool (!b))
  | _, _ => none

theorem xun_sound {P : Program} (w : World) (op : UnOp) {N : Nat} {ρ : Env} {x : V} {u : Value} {r : V} (hx : VR N ρ x u) (h : xun op x = some r) :
    ∃ z, (Op.unary op u).run P w = .ok z w ∧ VR N ρ r z := by
  unfold xun at h
  split at h
  · cases h; rw [show u = _ from hx]; exact ⟨_, by simp [Op.unary, Op.intArith], rfl⟩
  · cases h; rw [show u = _ from hx]; exact ⟨_, by simp [Op.unary]; rfl, rfl⟩
  · cases h; rw [show u = _ from hx]; exact ⟨_, by simp [Op.unary], rfl⟩
  · cases h

def bytesOf : List V → Option (List UInt8)
  | [] => some []
  | .int .u8 n :: r => (bytesOf r).map (UInt8.ofNat n.toNat :: ·)
  | _ :: _ => none

theorem bytesOf_sound {N : Nat} {ρ : Env} : ∀ {vs : List V} {xs : List Value} {s : List UInt8}, VRs N ρ vs xs → bytesOf vs = some s → ∃ ns : List Int, xs = ns.map (Value.int .u8) ∧ s = ns.map fun n => UInt8.ofNat n.toNat
  | [], _, s, h, hs => by
    simp [bytesOf] at hs; subst hs
    rw [show _ = [] from h]
    exact ⟨[], rfl, rfl⟩
  | v :: vs, _, s, h, hs => by
    obtain ⟨x, r, rfl, h1, h2⟩ := h
    unfold bytesOf at hs
    split at hs
    · rename_i e; cases e
    · rename_i n r' e
      cases e
      obtain ⟨s', hs', rfl⟩ := Option.map_eq_some_iff.1 hs
      obtain ⟨ns, rfl, rfl⟩ := bytesOf_sound h2 hs'
      rw [show x = _ from h1]
      exact ⟨n :: ns, rfl, rfl⟩
    · cases hs

/-- the cells of a row from 'o' on, n of them -/
def cut (c : List V) (o n : Nat) : Option (List V) := bif Nat.ble (o + n) c.length then some ((c.drop o).take n) else none

def xconv (T : TT) (h : Hp) (src dst : TypeId) (x : V) : Option V :=
  match T src, T dst with
  | some s, some d =>
    match d.d, x with
    | .int k, .int _ n => some (.int k (k.wrap n))
    | .str, .str a => some (.str a)
    | .str, .slc a n _ =>
      match s.d with
      | .slc e =>
        match T e with
        | some ei =>
          match ei.d, a with
          | .int .u8, none => some (.str [])
          | .int .u8, some (i, o) =>
            match h.get i with
            | some (.row c _ _) =>
              match cut c o n with
              | some l => (bytesOf l).map V.str
              | none => none
            | _ => none
          | _, _ => none
        | none => none
      | _ => none
    | .flt k, .int _ n => some (.flt k (k.nearest n))
    | .int k, .flt κ b =>
      match (κ.decode b).toInt .zero with
      | some n => bif decide (k.min ≤ n) && decide (n ≤ k.max) then some (.int k n) else none
      | none => none
    | _, _ => none
  | _, _ => none

end Go.Vex
