/-
  The meter without a heap: in what order counts are added makes no difference.
-/
import Derived.Test.YtakkppekchofdaaDoorPx04
import Derived.Test.YtakkppekchofdaaDoorMx04
import Derived.Test.YtakkppekchofdaaDoorGx04
set_option linter.unusedVariables false
set_option linter.unusedSimpArgs false
namespace Go.Vex.Mtr
open Go Op Fl

/-- two counts as one -/
def comb : Option Cn → Option Cn → Option Cn
  | none, y => y
  | some x, none => some x
  | some x, some y => some (x.1 + y.1, x.2 + y.2)

theorem comb_none (x : Option Cn) : comb x none = x := by cases x <;> rfl
theorem comb_comm (x y : Option Cn) : comb x y = comb y x := by
  cases x <;> cases y <;> simp [comb, Nat.add_comm]
theorem comb_assoc (x y z : Option Cn) : comb (comb x y) z = comb x (comb y z) := by
  cases x <;> cases y <;> cases z <;> simp [comb, Nat.add_assoc]

theorem mget_ins {R : List Row} (g : Good R) {s : Nm} {c : Cn} (hn : mget R s = none) (hd : ((ins s c R).map Prod.fst).Nodup) (k : Nm) : mget (ins s c R) k = if k = s then some c else mget R k := by
  have hp := ins_perm s c R
  have hd' : (((s, c) :: R).map Prod.fst).Nodup := (hp.map Prod.fst).nodup_iff.1 hd
  rw [perm_mget hp hd', mget_cons]

theorem addN_get {R : List Row} (g : Good R) {k : Nm} {c : Cn} (h1 : mget R k = none → R.length < 64) (h2 : ∀ w, mget R k = some w → w.1 + c.1 ≤ MX ∧ w.2 + c.2 ≤ MX) :
    (addN R k c).1 = 0 ∧ (∀ s, mget (addN R k c).2 s = if s = k then comb (mget R s) (some c) else mget R s) ∧ (addN R k c).2.length ≤ R.length + 1 := by
  unfold addN
  cases hq : mget R k with
  | none =>
    have := h1 hq
    simp only
    rw [if_neg (by omega)]
    refine ⟨rfl, fun s => ?_, by simp only [ins_len]; omega⟩
    simp only
    rw [mget_ins g hq (ins_srtd k c R hq g.srt).nodup]
    by_cases e : s = k
    · subst e; rw [if_pos rfl, if_pos rfl, hq]; rfl
    · rw [if_neg e, if_neg e]
  | some w =>
    obtain ⟨a, b⟩ := h2 w hq
    simp only
    rw [if_neg (by omega)]
    refine ⟨rfl, fun s => ?_, by simp only; rw [mput_len R k _ (by rw [hq]; simp)]; omega⟩
    simp only
    rw [mget_mput]
    by_cases e : s = k
    · subst e; rw [if_pos rfl, if_pos rfl, hq]; rfl
    · rw [if_neg e, if_neg e]

/-- the bound of one count -/
abbrev BD : Nat := 1099511627776

def okS (x : St) : Prop := x.2.1 ≤ 1099511627776 ∧ x.2.2 ≤ 1099511627776 ∧ May x.1 = true

def one (x : St) (s : Nm) : Option Cn := if (fit x.2.1 && fit x.2.2 && decide (s = x.1)) = true then some (x.2.1.toNat, x.2.2.toNat) else none

def val : List St → Nm → Option Cn
  | [], _ => none
  | x :: Ss, s => comb (one x s) (val Ss s)

theorem val_app (P Q : List St) (s : Nm) : val (P ++ Q) s = comb (val P s) (val Q s) := by
  induction P with
  | nil => rfl
  | cons x P ih => rw [List.cons_append]; simp only [val]; rw [ih, comb_assoc]

theorem val_perm {P Q : List St} (h : P.Perm Q) (s : Nm) : val P s = val Q s := by
  induction h with
  | nil => rfl
  | cons x _ ih => simp only [val]; rw [ih]
  | swap x y l => simp only [val]; rw [← comb_assoc, ← comb_assoc, comb_comm (one y s)]
  | trans _ _ ih1 ih2 => rw [ih1, ih2]

theorem one_le {x : St} (h : okS x) {s : Nm} {w : Cn} (hw : one x s = some w) : w.1 ≤ BD ∧ w.2 ≤ BD := by
  unfold one at hw
  split at hw
  · cases hw
    obtain ⟨a, b, _⟩ := h
    have : BD = 1099511627776 := rfl
    simp only
    omega
  · cases hw

theorem comb_le {x y : Option Cn} {a b : Nat} (hx : ∀ w, x = some w → w.1 ≤ a ∧ w.2 ≤ a) (hy : ∀ w, y = some w → w.1 ≤ b ∧ w.2 ≤ b) : ∀ w, comb x y = some w → w.1 ≤ a + b ∧ w.2 ≤ a + b := by
  intro w hw
  cases x with
  | none =>
    have := hy w hw
    omega
  | some u =>
    have h1 := hx u rfl
    cases y with
    | none => cases hw; omega
    | some v =>
      have h2 := hy v rfl
      cases hw
      simp only
      omega

theorem play_val : ∀ (Ss : List St) (R : List Row) (k : Nat), Good R → (∀ x ∈ Ss, okS x) → (∀ s w, mget R s = some w → w.1 ≤ k * BD ∧ w.2 ≤ k * BD) → k + Ss.length ≤ 100 → R.length + Ss.length ≤ 64 →
    (∀ s, mget (play R Ss) s = comb (mget R s) (val Ss s)) ∧ (play R Ss).length ≤ R.length + Ss.length
  | [], R, k, g, _, _, _, _ => ⟨fun s => (comb_none _).symm, Nat.le_refl _⟩
  | x :: Ss, R, k, g, hok, hb, hk, hl => by
    simp only [List.length_cons] at hk hl
    have hx := hok x (List.mem_cons_self ..)
    have e1 : MX = 4503599627370496 := rfl
    have e2 : BD = 1099511627776 := rfl
    have hstep : ∃ R1, R1 = (addR R x.1 x.2.1 x.2.2).2 ∧ (∀ s, mget R1 s = comb (mget R s) (one x s)) ∧ R1.length ≤ R.length + 1 := by
      refine ⟨_, rfl, ?_⟩
      by_cases hf : (fit x.2.1 && fit x.2.2) = true
      · have hc : (x.2.1.toNat : Int) = x.2.1 ∧ (x.2.2.toNat : Int) = x.2.2 := by
          simp only [Bool.and_eq_true] at hf
          have := fit_le hf.1; have := fit_le hf.2; omega
        have hcb : x.2.1.toNat ≤ BD ∧ x.2.2.toNat ≤ BD := by obtain ⟨a, b, _⟩ := hx; omega
        have ha : addR R x.1 x.2.1 x.2.2 = addN R x.1 (x.2.1.toNat, x.2.2.toNat) := by
          have := addR_of hx.2.2 (c := (x.2.1.toNat, x.2.2.toNat)) (by simp only; omega) (by simp only; omega) R
          simp only at this
          rw [hc.1, hc.2] at this
          exact this
        obtain ⟨_, h2, h3⟩ := addN_get g (k := x.1) (c := (x.2.1.toNat, x.2.2.toNat)) (fun _ => by omega) (fun w hw => by
          obtain ⟨a, b⟩ := hb _ w hw
          have : k * BD ≤ 100 * BD := Nat.mul_le_mul_right _ (by omega)
          simp only
          omega)
        rw [ha]
        refine ⟨fun s => ?_, h3⟩
        rw [h2 s]
        unfold one
        by_cases e : s = x.1
        · rw [if_pos e, if_pos (by rw [hf, decide_eq_true e]; rfl)]
        · rw [if_neg e, if_neg (by rw [decide_eq_false e]; simp), comb_none]
      · have ha : addR R x.1 x.2.1 x.2.2 = (2, R) := by
          unfold addR
          rw [if_neg (fun h => hf (by simp only [Bool.and_eq_true] at h ⊢; exact h.1))]
        rw [ha]
        refine ⟨fun s => ?_, Nat.le_succ _⟩
        unfold one
        rw [if_neg (fun h => hf (by simp only [Bool.and_eq_true] at h ⊢; exact h.1)), comb_none]
    obtain ⟨R1, hR1, hg1, hl1⟩ := hstep
    have g1 : Good R1 := by rw [hR1]; exact addR_good g _ _ _
    have hplay : play R (x :: Ss) = play R1 Ss := by rw [hR1]; rfl
    obtain ⟨i1, i2⟩ := play_val Ss R1 (k + 1) g1 (fun y hy => hok y (List.mem_cons_of_mem _ hy)) (fun s w hw => by
      rw [hg1 s] at hw
      have := comb_le (hb s) (fun w hw => one_le hx hw) w hw
      rw [Nat.add_mul]
      omega) (by omega) (by omega)
    rw [hplay]
    refine ⟨fun s => ?_, by rw [List.length_cons]; omega⟩
    rw [i1 s, hg1 s, comb_assoc]; rfl

theorem val_le : ∀ (Ss : List St), (∀ x ∈ Ss, okS x) → ∀ s w, val Ss s = some w → w.1 ≤ Ss.length * BD ∧ w.2 ≤ Ss.length * BD
  | [], _, s, w, h => by cases h
  | x :: Ss, hok, s, w, h => by
    have := comb_le (fun w hw => one_le (hok x (List.mem_cons_self ..)) hw) (val_le Ss (fun y hy => hok y (List.mem_cons_of_mem _ hy)) s) w h
    rw [List.length_cons, Nat.add_mul]
    omega

theorem play_nil_val (Ss : List St) (hok : ∀ x ∈ Ss, okS x) (hl : Ss.length ≤ 50) : (∀ s, mget (play [] Ss) s = val Ss s) ∧ (play [] Ss).length ≤ Ss.length := by
  obtain ⟨a, b⟩ := play_val Ss [] 0 Good.nil hok (fun s w h => by cases h) (by omega) (by simp; omega)
  exact ⟨fun s => by rw [a s]; rfl, by simpa using b⟩

theorem good_ext {R R' : List Row} (g : Good R) (g' : Good R') (h : ∀ s, mget R s = mget R' s) : R = R' := by
  have key : ∀ {R R' : List Row}, Good R → Good R' → (∀ s, mget R s = mget R' s) → ∀ x, x ∈ R → x ∈ R' := by
    intro R R' g g' h x hx
    have h1 := mget_of g.nd (show (x.1, x.2) ∈ R from hx)
    rw [h] at h1
    exact mget_in h1
  have hp : R.Perm R' := (List.perm_ext_iff_of_nodup (nodup_of_map g.nd) (nodup_of_map g'.nd)).2 fun x => ⟨key g g' h x, key g' g (fun s => (h s).symm) x⟩
  have hk : R.map Prod.fst = R'.map Prod.fst := by
    refine sorted_eq (hp.map _) ?_ g'.srt
    exact g.srt.imp fun {a b} hl => Sort.bl_asym _ _ hl
  clear hp key
  induction R generalizing R' with
  | nil => cases R' with
    | nil => rfl
    | cons x R' => simp at hk
  | cons x R ih =>
    cases R' with
    | nil => simp at hk
    | cons y R' =>
      simp only [List.map_cons, List.cons.injEq] at hk
      have h0 := h x.1
      rw [mget_cons, mget_cons, if_pos rfl, if_pos hk.1] at h0
      have e : x = y := by
        obtain ⟨x1, x2⟩ := x
        obtain ⟨y1, y2⟩ := y
        simp only [Option.some.injEq] at h0 hk
        rw [h0, hk.1]
      subst e
      have gt : ∀ {z : Row} {R : List Row}, Good (z :: R) → Good R := fun {z R} g => ⟨by have := g.srt; rw [List.map_cons] at this; exact List.Pairwise.of_cons this, fun r hr => g.bnd r (List.mem_cons_of_mem _ hr), by have := g.len; rw [List.length_cons] at this; omega, fun r hr => g.may r (List.mem_cons_of_mem _ hr)⟩
      have nn : ∀ {z : Row} {R : List Row}, Good (z :: R) → mget R z.1 = none := fun {z R} g => by
        cases hq : mget R z.1 with
        | none => rfl
        | some w =>
          have := g.nd
          rw [List.map_cons, List.nodup_cons] at this
          exact absurd (List.mem_map_of_mem (f := Prod.fst) (mget_in hq)) this.1
      rw [ih (gt g) (gt g') (fun s => by
        by_cases e : s = x.1
        · subst e; rw [nn g, nn g']
        · have := h s
          rw [mget_cons, mget_cons, if_neg e, if_neg e] at this
          exact this) hk.2]

theorem addL_get : ∀ (C D : List Row) (b b' : Nat), Good D → (C.map Prod.fst).Nodup → (∀ r ∈ C, May r.1 = true ∧ r.2.1 ≤ b ∧ r.2.2 ≤ b) → (∀ r ∈ C, ∀ w, mget D r.1 = some w → w.1 ≤ b' ∧ w.2 ≤ b') → b + b' ≤ MX → D.length + C.length ≤ 64 →
    (addL D C).1 = 0 ∧ ∀ s, mget (addL D C).2 s = comb (mget D s) (mget C s)
  | [], D, _, _, g, _, _, _, _, _ => ⟨rfl, fun s => (comb_none _).symm⟩
  | r :: C, D, b, b', g, hn, hr, hd, hb, hl => by
    rw [List.length_cons] at hl
    rw [List.map_cons, List.nodup_cons] at hn
    obtain ⟨m1, m2, m3⟩ := hr r (List.mem_cons_self ..)
    obtain ⟨z, h2, h3⟩ := addN_get g (k := r.1) (c := r.2) (fun _ => by omega) (fun w hw => by
      have := hd r (List.mem_cons_self ..) w hw
      omega)
    have g1 := addN_good g m1 (c := r.2) (by omega) (by omega)
    have hne : ∀ y ∈ C, ¬ y.1 = r.1 := fun y hy e => hn.1 (by rw [← e]; exact List.mem_map_of_mem (f := Prod.fst) hy)
    obtain ⟨i1, i2⟩ := addL_get C (addN D r.1 r.2).2 b b' g1 hn.2 (fun y hy => hr y (List.mem_cons_of_mem _ hy)) (fun y hy w hw => by
      rw [h2, if_neg (hne y hy)] at hw
      exact hd y (List.mem_cons_of_mem _ hy) w hw) hb (by omega)
    simp only [addL]
    rw [if_pos z]
    refine ⟨i1, fun s => ?_⟩
    rw [i2, h2, mget_cons]
    by_cases e : s = r.1
    · rw [if_pos e, if_pos e]
      have hc : mget C s = none := by
        cases hq : mget C s with
        | none => rfl
        | some w => exact absurd e (hne _ (mget_in hq))
      rw [hc, comb_none]
    · rw [if_neg e, if_neg e]

/-- the sum, without a bound -/
def raw (R : List Row) : Cn := R.foldl (fun s r => (s.1 + r.2.1, s.2 + r.2.2)) (0, 0)

theorem raw_snoc (R : List Row) {k : Nat} {r : Row} (h : R[k]? = some r) : raw (R.take (k + 1)) = ((raw (R.take k)).1 + r.2.1, (raw (R.take k)).2 + r.2.2) := by
  unfold raw
  rw [List.take_add_one, h, List.foldl_append]; rfl

theorem raw_tot : ∀ (R : List Row) (b : Nat) (s : Cn), (∀ r ∈ R, r.2.1 ≤ b ∧ r.2.2 ≤ b) → s.1 + R.length * b ≤ MX → s.2 + R.length * b ≤ MX →
    R.foldl tot1 s = R.foldl (fun s r => (s.1 + r.2.1, s.2 + r.2.2)) s ∧ (R.foldl tot1 s).1 ≤ s.1 + R.length * b ∧ (R.foldl tot1 s).2 ≤ s.2 + R.length * b
  | [], b, s, _, _, _ => ⟨rfl, by simp, by simp⟩
  | r :: R, b, s, h, h1, h2 => by
    obtain ⟨r1, r2⟩ := h r (List.mem_cons_self ..)
    rw [List.length_cons, Nat.add_mul] at h1 h2 ⊢
    have e : tot1 s r = (s.1 + r.2.1, s.2 + r.2.2) := by
      unfold tot1
      simp only [Prod.mk.injEq]
      omega
    obtain ⟨i1, i2, i3⟩ := raw_tot R b (s.1 + r.2.1, s.2 + r.2.2) (fun x hx => h x (List.mem_cons_of_mem _ hx)) (by simp only; omega) (by simp only; omega)
    rw [List.foldl_cons, List.foldl_cons, e]
    simp only at i2 i3
    refine ⟨i1, by omega, by omega⟩
end Go.Vex.Mtr
