/-
  Whole numbers up to 2^53 as floats: exact sums, exact order, exact way back.
  The order of strings, as sorting wants it.
  strings.Trim with the meter's letters, and maps.Clone: the shelf's contracts as rules over any heap.
  The meter without a heap: counters by rising names.
-/
import Derived.Laws.FloatArith
import Derived.Test.YtakkppekchofdaaDoorVexBB
import Derived.Test.YtakkppekchofdaaDoorTab04
import Derived.Test.YtakkppekchofdaaDoorVexFF
import Derived.Shelf.Strings.SlTrimAscii
import Derived.Shelf.SlMaps.Clone
import Derived.Shelf.Lay
import Derived.KernelRfl
import Derived.Test.YtakkppekchofdaaDoorVexGG
set_option linter.unusedVariables false
set_option linter.unusedSimpArgs false
namespace Go.Vex.Fl
open Ieee

theorem cut_exact' (way : Toward) (neg : Bool) (q d : Nat) : way.cut neg (q * 2 ^ d) d = q := by
  unfold Toward.cut
  have hp : 0 < 2 ^ d := Nat.pow_pos (by decide)
  by_cases hq : q = 0
  · subst hq
    simp only [Nat.zero_mul, Nat.zero_div, Nat.zero_mod, Nat.mul_zero]
    have hg : 0 < 1 <<< min d (Nat.log2 0 + 2) := by rw [Nat.one_shiftLeft]; exact Nat.pow_pos (by decide)
    generalize 1 <<< min d (Nat.log2 0 + 2) = g at *
    have h2 : (g == 0) = false := by simp; omega
    cases way <;> simp [h2]
  · have hlog : d ≤ (q * 2 ^ d).log2 := (Nat.le_log2 (Nat.mul_ne_zero hq (by omega))).2 (Nat.le_mul_of_pos_left _ (by omega))
    rw [Nat.min_eq_left (by omega), Nat.one_shiftLeft]
    simp only [Nat.mul_div_cancel _ hp, Nat.mul_mod_left, Nat.mul_zero]
    have h2 : (2 ^ d == 0) = false := by simp
    cases way <;> simp [h2]

theorem cut_exact (neg : Bool) (q d : Nat) : Toward.even.cut neg (q * 2 ^ d) d = q := cut_exact' .even neg q d

/-- the float of a whole number -/
def fl (n : Nat) : Nat := double.nearest false n 0

theorem log2_scale {n : Nat} (h : n ≠ 0) (k : Nat) : (n * 2 ^ k).log2 = n.log2 + k := by
  have hp : 0 < 2 ^ k := Nat.pow_pos (by decide)
  have h0 : n * 2 ^ k ≠ 0 := Nat.mul_ne_zero h (by omega)
  have h1 := (Nat.le_log2 h (k := n.log2)).1 (Nat.le_refl _)
  have h2 := (Nat.log2_lt h (k := n.log2 + 1)).1 (by omega)
  apply Nat.le_antisymm
  · apply Nat.le_of_lt_succ
    rw [Nat.log2_lt h0, show (n.log2 + k).succ = (n.log2 + 1) + k by omega, Nat.pow_add]
    exact Nat.mul_lt_mul_of_pos_right h2 hp
  · rw [Nat.le_log2 h0, Nat.pow_add]
    exact Nat.mul_le_mul_right _ h1

/-- digits behind the point that are nought change nothing -/
theorem nearest_scale {n : Nat} (hn : n ≤ 2 ^ 53) (k : Nat) : double.nearest false (n * 2 ^ k) (-(k : Int)) = fl n := by
  unfold fl
  by_cases h0 : n = 0
  · subst h0; simp [Format.nearest]
  have hp : 0 < 2 ^ k := Nat.pow_pos (by decide)
  have h1 : n * 2 ^ k ≠ 0 := Nat.mul_ne_zero h0 (by omega)
  have hl : n.log2 ≤ 53 := by
    have := (Nat.log2_lt h0 (k := 54)).2 (by omega)
    omega
  unfold Format.nearest
  rw [if_neg h1, if_neg h0, log2_scale h0]
  have eL : double.leastPlace = -1074 := rfl
  have eF : ((double.fractionBits : Nat) : Int) = 52 := rfl
  rw [eL, eF]
  have e1 : max (-(k : Int) + ((n.log2 + k : Nat) : Int) - 52) (-1074) = (n.log2 : Int) - 52 := by push_cast; omega
  have e2 : max (0 + ((n.log2 : Nat) : Int) - 52) (-1074) = (n.log2 : Int) - 52 := by omega
  simp only [e1, e2]
  congr 3
  by_cases hs : n.log2 ≤ 52
  · have c2 : Toward.even.cut false (n <<< (0 - ((n.log2 : Int) - 52)).toNat) ((n.log2 : Int) - 52 - 0).toNat = n * 2 ^ (52 - n.log2) := by
      have a1 : (0 - ((n.log2 : Int) - 52)).toNat = 52 - n.log2 := by omega
      have a2 : ((n.log2 : Int) - 52 - 0).toNat = 0 := by omega
      rw [a1, a2, Nat.shiftLeft_eq]
      have := cut_exact false (n * 2 ^ (52 - n.log2)) 0
      simpa using this
    rw [c2]
    by_cases hk : k ≤ 52 - n.log2
    · have a1 : (-(k : Int) - ((n.log2 : Int) - 52)).toNat = 52 - n.log2 - k := by omega
      have a2 : ((n.log2 : Int) - 52 - -(k : Int)).toNat = 0 := by omega
      rw [a1, a2, Nat.shiftLeft_eq]
      have := cut_exact false (n * 2 ^ k * 2 ^ (52 - n.log2 - k)) 0
      rw [Nat.pow_zero, Nat.mul_one] at this
      rw [this, Nat.mul_assoc, ← Nat.pow_add]
      congr 2; omega
    · have a1 : (-(k : Int) - ((n.log2 : Int) - 52)).toNat = 0 := by omega
      have a2 : ((n.log2 : Int) - 52 - -(k : Int)).toNat = k - (52 - n.log2) := by omega
      rw [a1, a2, Nat.shiftLeft_zero]
      have e : n * 2 ^ k = n * 2 ^ (52 - n.log2) * 2 ^ (k - (52 - n.log2)) := by rw [Nat.mul_assoc, ← Nat.pow_add]; congr 2; omega
      rw [e, cut_exact]
  · have hl53 : n.log2 = 53 := by omega
    have hn53 : n = 2 ^ 53 := by
      have := (Nat.le_log2 h0 (k := 53)).1 (by omega)
      omega
    rw [hl53]
    have a1 : (-(k : Int) - (((53 : Nat) : Int) - 52)).toNat = 0 := by omega
    have a2 : ((((53 : Nat) : Int) - 52) - -(k : Int)).toNat = k + 1 := by omega
    have b1 : (0 - (((53 : Nat) : Int) - 52)).toNat = 0 := by omega
    have b2 : ((((53 : Nat) : Int) - 52) - 0).toNat = 1 := by omega
    rw [a1, a2, b1, b2, Nat.shiftLeft_zero, Nat.shiftLeft_zero, hn53]
    have e1 : 2 ^ 53 * 2 ^ k = 2 ^ 52 * 2 ^ (k + 1) := by rw [← Nat.pow_add, ← Nat.pow_add]; congr 1; omega
    rw [e1, cut_exact]
    have e2 : (2 : Nat) ^ 53 = 2 ^ 52 * 2 ^ 1 := by decide
    rw [e2, cut_exact]

theorem d_binade : double.binade = 4503599627370496 := by decide
theorem d_inf : double.infRung = 9218868437227405312 := by decide
theorem d_sign : double.signWeight = 9223372036854775808 := by decide

theorem read_rung {r : Nat} (h1 : 4503599627370496 ≤ r) (h2 : r < 9218868437227405312) : double.read r = .number false (4503599627370496 + r % 4503599627370496) (-1074 + ((r / 4503599627370496 - 1 : Nat) : Int)) := by
  unfold Format.read
  rw [d_binade, d_inf, d_sign]
  have e1 : r / 9223372036854775808 = 0 := Nat.div_eq_of_lt (by omega)
  have e2 : r % 9223372036854775808 = r := Nat.mod_eq_of_lt (by omega)
  have eL : double.leastPlace = -1074 := rfl
  simp only [e1, e2, eL]
  rw [if_neg (by omega), if_pos h2]
  rfl

theorem hrung (kept : Nat) (last : Int) (l1 : -1074 ≤ last) (l2 : last ≤ 1) (k1 : 4503599627370496 ≤ kept) (k2 : kept < 9007199254740992) : double.read (double.word false (min ((last - -1074).toNat * double.binade + kept) double.infRung)) = .number false kept last := by
  rw [d_binade, d_inf]
  obtain ⟨u, hu⟩ : ∃ u : Nat, (last - -1074).toNat = u := ⟨_, rfl⟩
  have hu2 : u ≤ 1075 := by omega
  rw [hu, Nat.min_eq_left (by omega)]
  unfold Format.word
  rw [if_neg (by simp), read_rung (by omega) (by omega)]
  have hd : (u * 4503599627370496 + kept) / 4503599627370496 = u + 1 := by omega
  have hm : (u * 4503599627370496 + kept) % 4503599627370496 = kept - 4503599627370496 := by omega
  have e1 : 4503599627370496 + (kept - 4503599627370496) = kept := by omega
  have e2 : -1074 + ((u + 1 - 1 : Nat) : Int) = last := by omega
  rw [hd, hm, e1, e2]

/-- what a float of a whole number stands for -/
theorem read_fl {n : Nat} (hn : n ≤ 2 ^ 53) : ∃ (m : Nat) (p : Int), double.read (fl n) = .number false m p ∧ (p ≤ 0 → m = n * 2 ^ (-p).toNat) ∧ (0 < p → p = 1 ∧ m = 2 ^ 52 ∧ n = 2 ^ 53) := by
  by_cases h0 : n = 0
  · subst h0
    exact ⟨0, -1074, by decide, fun _ => (Nat.zero_mul _).symm, fun h => by omega⟩
  have hl : n.log2 ≤ 53 := by
    have := (Nat.log2_lt h0 (k := 54)).2 (by omega)
    omega
  have h1 := (Nat.le_log2 h0 (k := n.log2)).1 (Nat.le_refl _)
  have h2 := (Nat.log2_lt h0 (k := n.log2 + 1)).1 (by omega)
  have eL : double.leastPlace = -1074 := rfl
  have eF : ((double.fractionBits : Nat) : Int) = 52 := rfl
  have e2 : max (0 + ((n.log2 : Nat) : Int) - 52) (-1074) = (n.log2 : Int) - 52 := by omega
  unfold fl Format.nearest
  rw [if_neg h0, eL, eF]
  simp only [e2]
  by_cases hs : n.log2 ≤ 52
  · have a1 : (0 - ((n.log2 : Int) - 52)).toNat = 52 - n.log2 := by omega
    have a2 : ((n.log2 : Int) - 52 - 0).toNat = 0 := by omega
    have c := cut_exact false (n * 2 ^ (52 - n.log2)) 0
    rw [Nat.pow_zero, Nat.mul_one] at c
    rw [a1, a2, Nat.shiftLeft_eq, c]
    have k1 : 4503599627370496 ≤ n * 2 ^ (52 - n.log2) := by
      have e : 4503599627370496 = 2 ^ n.log2 * 2 ^ (52 - n.log2) := by rw [← Nat.pow_add, show n.log2 + (52 - n.log2) = 52 by omega]
      rw [e]; exact Nat.mul_le_mul_right _ h1
    have k2 : n * 2 ^ (52 - n.log2) < 9007199254740992 := by
      have e : 9007199254740992 = 2 ^ (n.log2 + 1) * 2 ^ (52 - n.log2) := by rw [← Nat.pow_add, show n.log2 + 1 + (52 - n.log2) = 53 by omega]
      rw [e]; exact Nat.mul_lt_mul_of_pos_right h2 (Nat.pow_pos (by decide))
    refine ⟨_, (n.log2 : Int) - 52, hrung _ _ (by omega) (by omega) k1 k2, fun _ => ?_, fun h => by omega⟩
    congr 2; omega
  · have hl53 : n.log2 = 53 := by omega
    have hn53 : n = 2 ^ 53 := by
      have := (Nat.le_log2 h0 (k := 53)).1 (by omega)
      omega
    rw [hl53]
    have b1 : (0 - (((53 : Nat) : Int) - 52)).toNat = 0 := by omega
    have b2 : ((((53 : Nat) : Int) - 52) - 0).toNat = 1 := by omega
    have e2 : (2 : Nat) ^ 53 = 2 ^ 52 * 2 ^ 1 := by decide
    rw [b1, b2, Nat.shiftLeft_zero, hn53, e2, cut_exact]
    exact ⟨2 ^ 52, ((53 : Nat) : Int) - 52, hrung _ _ (by omega) (by omega) (by decide) (by decide), fun h => by omega, fun _ => ⟨by omega, rfl, rfl⟩⟩

/-- the value, from any place below -/
theorem val_fl {n m : Nat} {p base : Int} (h1 : p ≤ 0 → m = n * 2 ^ (-p).toNat) (h2 : 0 < p → p = 1 ∧ m = 2 ^ 52 ∧ n = 2 ^ 53) (hb : base ≤ p) (h0 : base ≤ 0) : m <<< (p - base).toNat = n * 2 ^ (-base).toNat := by
  rw [Nat.shiftLeft_eq]
  by_cases hp : p ≤ 0
  · rw [h1 hp, Nat.mul_assoc, ← Nat.pow_add]
    congr 2; omega
  · obtain ⟨e1, e2, e3⟩ := h2 (by omega)
    subst e1
    rw [e2, e3, ← Nat.pow_add, ← Nat.pow_add]
    congr 1; omega

theorem add_fl {a b : Nat} (h : a + b ≤ 2 ^ 53) : double.add (fl a) (fl b) = some (fl (a + b)) := by
  obtain ⟨m, p, e1, p1, p2⟩ := read_fl (n := a) (by omega)
  obtain ⟨m', p', e2, q1, q2⟩ := read_fl (n := b) (by omega)
  unfold Format.add
  rw [e1, e2]
  have hb : min p p' ≤ 0 := by
    apply Decidable.byContradiction
    intro hh
    have := (p2 (by omega)).2.2
    have := (q2 (by omega)).2.2
    omega
  have v1 := val_fl p1 p2 (base := min p p') (by omega) hb
  have v2 := val_fl q1 q2 (base := min p p') (by omega) hb
  unfold Datum.sum
  simp only [signed, Bool.false_eq_true, if_false, v1, v2, Bool.and_false, Option.map_some, Option.some.injEq]
  generalize min p p' = base at *
  have et : ((a * 2 ^ (-base).toNat : Nat) : Int) + ((b * 2 ^ (-base).toNat : Nat) : Int) = (((a + b) * 2 ^ (-base).toNat : Nat) : Int) := by rw [Nat.add_mul]; push_cast; rfl
  rw [et]
  have hneg : (if (((a + b) * 2 ^ (-base).toNat : Nat) : Int) = 0 then false else decide ((((a + b) * 2 ^ (-base).toNat : Nat) : Int) < 0)) = false := by
    split
    · rfl
    · simp only [decide_eq_false_iff_not]; omega
  rw [hneg, Int.natAbs_natCast]
  show double.nearest false ((a + b) * 2 ^ (-base).toNat) base = fl (a + b)
  have eb : base = -(((-base).toNat : Nat) : Int) := by omega
  have := nearest_scale h (-base).toNat
  rw [← eb] at this
  exact this

theorem cmp_nat (a b : Nat) {k : Nat} : compare ((a * 2 ^ k : Nat) : Int) ((b * 2 ^ k : Nat) : Int) = compare a b := by
  have hp : 0 < 2 ^ k := Nat.pow_pos (by decide)
  show compareOfLessAndEq _ _ = compareOfLessAndEq _ _
  unfold compareOfLessAndEq
  have e1 : (((a * 2 ^ k : Nat) : Int) < ((b * 2 ^ k : Nat) : Int)) ↔ a < b := by
    rw [Int.ofNat_lt]
    exact ⟨fun h => Nat.lt_of_mul_lt_mul_right h, fun h => Nat.mul_lt_mul_of_pos_right h hp⟩
  have e2 : (((a * 2 ^ k : Nat) : Int) = ((b * 2 ^ k : Nat) : Int)) ↔ a = b := by
    rw [Int.ofNat_inj]
    exact ⟨fun h => Nat.eq_of_mul_eq_mul_right hp h, fun h => by rw [h]⟩
  by_cases h1 : a < b
  · rw [if_pos (e1.2 h1), if_pos h1]
  · rw [if_neg (fun h => h1 (e1.1 h)), if_neg h1]
    by_cases h2 : a = b
    · rw [if_pos (e2.2 h2), if_pos h2]
    · rw [if_neg (fun h => h2 (e2.1 h)), if_neg h2]

theorem order_fl {a b : Nat} (ha : a ≤ 2 ^ 53) (hb : b ≤ 2 ^ 53) : double.order (fl a) (fl b) = some (compare a b) := by
  obtain ⟨m, p, e1, p1, p2⟩ := read_fl ha
  obtain ⟨m', p', e2, q1, q2⟩ := read_fl hb
  unfold Format.order
  rw [e1, e2]
  unfold Datum.order
  simp only [signed, Bool.false_eq_true, if_false]
  by_cases hb0 : min p p' ≤ 0
  · rw [val_fl p1 p2 (base := min p p') (by omega) hb0, val_fl q1 q2 (base := min p p') (by omega) hb0, cmp_nat]
  · obtain ⟨r1, r2, r3⟩ := p2 (by omega)
    obtain ⟨s1, s2, s3⟩ := q2 (by omega)
    subst r1 s1
    rw [r2, s2, r3, s3]
    decide +kernel

/-- the way back -/
theorem int_fl {n : Nat} (h : n ≤ 2 ^ 53) : (double.read (fl n)).toInt .zero = some (n : Int) := by
  obtain ⟨m, p, e1, p1, p2⟩ := read_fl h
  rw [e1]
  unfold Datum.toInt Datum.integral
  simp only [signed, Bool.false_eq_true, if_false, Nat.shiftLeft_zero, Option.some.injEq]
  congr 1
  by_cases hp : p ≤ 0
  · have a1 : p.toNat = 0 := by omega
    rw [a1, Nat.shiftLeft_zero, p1 hp, cut_exact']
  · obtain ⟨r1, r2, r3⟩ := p2 (by omega)
    subst r1
    rw [r2, r3]
    decide +kernel

theorem fl_int (n : Nat) : FloatKind.f64.nearest (n : Int) = fl n := by
  show double.write (.number (decide ((n : Int) < 0)) (n : Int).natAbs 0) = _
  rw [show decide ((n : Int) < 0) = false by simp, Int.natAbs_natCast]; rfl

theorem fl_inj {a b : Nat} (ha : a ≤ 2 ^ 53) (hb : b ≤ 2 ^ 53) (h : fl a = fl b) : a = b := by
  have h1 := int_fl ha
  rw [h, int_fl hb] at h1
  have := Option.some.inj h1
  omega
end Go.Vex.Fl
namespace Go.Vex.Sort
open Go Op

theorem bl_irr : ∀ x : List UInt8, bytesLess x x = false
  | [] => rfl
  | a :: x => by
    simp only [bytesLess, bl_irr x, beq_self_eq_true, Bool.true_and, Bool.or_false, decide_eq_false_iff_not]
    exact UInt8.lt_irrefl a

theorem bl_asym : ∀ x y : List UInt8, bytesLess x y = true → bytesLess y x = false
  | _, [], h => by simp [bytesLess] at h
  | [], b :: y, _ => rfl
  | a :: x, b :: y, h => by
    simp only [bytesLess, Bool.or_eq_true, decide_eq_true_eq, Bool.and_eq_true, beq_iff_eq, Bool.or_eq_false_iff, decide_eq_false_iff_not, Bool.and_eq_false_iff] at h ⊢
    rcases h with h | ⟨rfl, h⟩
    · exact ⟨UInt8.lt_asymm h, .inl (by simp; rintro rfl; exact UInt8.lt_irrefl _ h)⟩
    · exact ⟨UInt8.lt_irrefl _, .inr (bl_asym x y h)⟩

theorem bl_tri : ∀ x y : List UInt8, bytesLess x y = false → bytesLess y x = false → x = y
  | [], [], _, _ => rfl
  | [], b :: y, h, _ => by simp [bytesLess] at h
  | a :: x, [], _, h => by simp [bytesLess] at h
  | a :: x, b :: y, h1, h2 => by
    simp only [bytesLess, Bool.or_eq_false_iff, decide_eq_false_iff_not, Bool.and_eq_false_iff, beq_eq_false_iff_ne, ne_eq] at h1 h2
    have e : a = b := by
      apply UInt8.le_antisymm
      · exact UInt8.not_lt.1 h2.1
      · exact UInt8.not_lt.1 h1.1
    subst e
    rw [bl_tri x y (by simpa using h1.2) (by simpa using h2.2)]

theorem bl_lt : ∀ x y z : List UInt8, bytesLess x y = true → bytesLess y z = true → bytesLess x z = true
  | _, _, [], _, h => by simp [bytesLess] at h
  | _, [], _ :: _, h, _ => by simp [bytesLess] at h
  | [], _ :: _, _ :: _, _, _ => rfl
  | a :: x, b :: y, c :: z, h1, h2 => by
    simp only [bytesLess, Bool.or_eq_true, decide_eq_true_eq, Bool.and_eq_true, beq_iff_eq] at h1 h2 ⊢
    rcases h1 with h1 | ⟨rfl, h1⟩
    · rcases h2 with h2 | ⟨rfl, h2⟩
      · exact .inl (UInt8.lt_trans h1 h2)
      · exact .inl h1
    · rcases h2 with h2 | ⟨rfl, h2⟩
      · exact .inl h2
      · exact .inr ⟨rfl, bl_lt x y z h1 h2⟩

theorem bytesOrdr : Ordr bytesLess where
  irr := bl_irr
  asym := bl_asym
  trans := fun x y z h1 h2 => by
    cases h3 : bytesLess z x with
    | false => rfl
    | true =>
      cases h4 : bytesLess x y with
      | true => rw [bl_lt z x y h3 h4] at h2; cases h2
      | false =>
        have := bl_tri x y h4 h1
        subst this
        rw [h3] at h2; cases h2
end Go.Vex.Sort
namespace Go.Proofs
open Go.Shelf Go.RowKit

shelf_lay Lays.n160 Nm 160 at Tryd as Tryd.laysTrim

shelf_lay_g SlLaysW.n5 Slmc 5 at Tryd 26 as Tryd.laysClone

end Go.Proofs

namespace Go.Vex
open Go.Proofs Go.RowKit
/-- a call that leaves all that was there as it is -/
theorem XCalls.quiet {P : Program} {f : FuncId} {vs : List V} {h : Hp} {v : V} {z : Value} (hv : ∀ N ρ, VR N ρ v z) (hx : ∀ (N : Nat) (ρ : Env) (w : World) (args : Array Value), VRs N ρ vs args.toList → Calls P f args w fun e w' => e = .returned z ∧ Below w.heap.size w w') :
    XCalls P f vs h fun u h' => u = v ∧ h' = h := by
  intro B ρ w args hs ha
  refine (callsIn_wide.2 (hx _ _ w args ha)).mono fun e w' hp => ?_
  obtain ⟨rfl, h5⟩ := hp
  refine ⟨z, rfl, v, ρ, h, Nat.le_refl _, Ext.refl _ _, ⟨fun i o hi => ?_, hs.sep, Nat.le_trans hs.base h5.size⟩, hv _ _, ⟨h5.os, h5.tape, h5.output, h5.size, fun k hk => h5.block k (Nat.lt_of_lt_of_le hk hs.base)⟩, rfl, rfl⟩
  obtain ⟨q1, q2⟩ := hs.obj i o hi
  exact ⟨q1, q2.keep (Nat.le_refl _) (Ext.refl _ _) (h5.block _ q2.lt)⟩

namespace Mtr

abbrev Nm := List UInt8

def cutS : Nm := [97, 98, 99, 100, 101, 102, 103, 104, 105, 106, 107, 108, 109, 110, 111, 112, 113, 114, 115, 116, 117, 118, 119, 120, 121, 122, 45]

theorem trim_spec {h : Hp} {s : Nm} (h0 : 0 < s.length) (h1 : s.length ≤ 9223372036854775807) : XCalls Tryd.prog 36 [.str s, .str cutS] h fun v h' => v = .str (Lib.trimS s cutS) ∧ h' = h := by
  refine XCalls.quiet (z := .string ⟨(Lib.trimS s cutS).toArray⟩) (fun _ _ => rfl) fun N ρ w args ha => ?_
  obtain ⟨x, r, e1, rfl, y, r2, rfl, rfl, rfl⟩ := ha
  have : args = #[.string ⟨s.toArray⟩, .string ⟨cutS.toArray⟩] := by
    rw [← Array.toList_inj]; exact e1
  subst this
  have hc : ∀ (j : Nat) b, (ByteArray.mk cutS.toArray).data.toList[j]? = some b → b.toNat < 128 := fun j b hb => by
    have hm : b ∈ cutS := List.mem_of_getElem? (by simpa using hb)
    exact of_decide_eq_true (List.all_eq_true.1 (show (cutS.all fun b => decide (b.toNat < 128)) = true by decide) b hm)
  refine (Any.strings_Trim_set Tryd.laysTrim (by intro w; kernel_rfl) (by kernel_rfl) ⟨s.toArray⟩ ⟨cutS.toArray⟩ w (by decide) (by simpa [ByteArray.size] using h0) (by simpa [ByteArray.size] using h1) (by decide) hc).mono ?_
  rintro e w' ⟨he, q, rfl⟩
  refine ⟨by simpa using he, ?_⟩
  exact (((Below.refl _ w).alloc (Nat.le_refl _) _).alloc (by simp) _).trans ⟨rfl, rfl, rfl, Nat.le_refl _, fun _ _ => rfl⟩

theorem clone_spec {h : Hp} {m : Nat} {es : List Ent} {clk : Nat} (hg : h.get m = some (.map es clk)) : XCalls Tryd.prog 26 [.map (some m)] h fun v h' => v = .map (some h.next) ∧ h' = h.alloc (.map es clk) := by
  intro B ρ w args hs ha
  obtain ⟨x, r, e1, ⟨hm, rfl⟩, rfl⟩ := ha
  have : args = #[.map (some (ρ m).blk)] := by
    rw [← Array.toList_inj]; exact e1
  subst this
  obtain ⟨_, hB, ms, hb, he⟩ := hs.obj m _ hg
  refine (callsIn_wide.2 (AnyW.maps_Clone Tryd.laysClone (ρ m).blk ms clk w hb)).mono fun e w' hp => ?_
  obtain ⟨rfl, rfl⟩ := hp
  have hx := Env.ext_put ρ h.next ⟨w.heap.size, 0, 0, 1⟩
  refine ⟨_, rfl, .map (some h.next), Env.put ρ h.next ⟨w.heap.size, 0, 0, 1⟩, h.alloc (.map es clk), Nat.le_succ _, hx, ?_, ⟨Nat.lt_succ_self _, by rw [Env.put_same]⟩, Below.alloc' w _ hs.base, rfl, rfl⟩
  exact hs.alloc ⟨w.heap.size, 0, 0, 1⟩ (by simp) (fun k hk _ => Below.heap_alloc w _ k hk) (fun j p hj _ => by have := (hs.obj j p hj).2.lt; simp only; omega) hs.base
    ⟨hs.base, ms, heap_push w _, he.ext (Nat.le_succ _) hx⟩
end Mtr
end Go.Vex
namespace Go.Vex.Mtr
open Go Op Fl

abbrev Cn := Nat × Nat
abbrev Row := Nm × Cn
abbrev MX : Nat := 4503599627370496

/-! ### names -/

def okc (c : UInt8) : Bool := cutS.contains c
def May (s : Nm) : Bool := decide (1 ≤ s.length) && decide (s.length ≤ 32) && s.all okc

theorem trim_nil (s : Nm) : (Lib.trimS s cutS == []) = s.all okc := by
  have h1 : ∀ l : Nm, (l.dropWhile (cutS.contains ·)).isEmpty = l.all okc := by
    intro l
    induction l with
    | nil => rfl
    | cons a l ih =>
      rw [List.dropWhile_cons, List.all_cons]
      show _ = (cutS.contains a && _)
      cases cutS.contains a with
      | true => simpa using ih
      | false => rfl
  have h2 : ∀ l : Nm, (l == []) = l.isEmpty := fun l => by cases l <;> rfl
  rw [h2]
  unfold Lib.trimS Lib.trimLeftS Lib.trimRightS
  rw [h1]
  have h3 : ∀ l : Nm, (l.dropWhile (cutS.contains ·)).all okc = l.all okc := by
    intro l
    induction l with
    | nil => rfl
    | cons a l ih =>
      rw [List.dropWhile_cons, List.all_cons]
      cases hc : cutS.contains a with
      | true => rw [if_pos rfl, ih]; show _ = (cutS.contains a && _); rw [hc]; rfl
      | false => rw [if_neg (by simp), List.all_cons]
  rw [List.all_reverse, h3, List.all_reverse]

theorem okc_doc : ∀ n : Nat, n < 256 → okc (UInt8.ofNat n) = !((decide (n < 97) || decide (122 < n)) && !decide (n = 45)) := by decide +kernel

theorem okc_nat (b : UInt8) : okc b = !((decide (b.toNat < 97) || decide (122 < b.toNat)) && !decide (b.toNat = 45)) := by
  have := okc_doc b.toNat b.toNat_lt
  simpa using this

/-! ### lists that stand for maps -/

section
variable {κ β : Type} [DecidableEq κ]

theorem mget_of : ∀ {R : List (κ × β)} {k : κ} {v : β}, (R.map Prod.fst).Nodup → (k, v) ∈ R → mget R k = some v
  | [], _, _, _, h => by cases h
  | x :: R, k, v, hn, h => by
    rw [mget_cons]
    rw [List.map_cons, List.nodup_cons] at hn
    rcases List.mem_cons.1 h with e | h
    · subst e; rw [if_pos rfl]
    · rw [if_neg (fun (e : k = x.1) => hn.1 (by rw [← e]; exact List.mem_map_of_mem (f := Prod.fst) h))]
      exact mget_of hn.2 h

theorem perm_mget {L R : List (κ × β)} (h : L.Perm R) (hn : (R.map Prod.fst).Nodup) (k : κ) : mget L k = mget R k := by
  have hl : (L.map Prod.fst).Nodup := (h.map Prod.fst).nodup_iff.2 hn
  cases hg : mget L k with
  | some v => exact (mget_of hn (h.subset (mget_in hg))).symm
  | none =>
    cases hr : mget R k with
    | none => rfl
    | some v => rw [mget_of hl (h.symm.subset (mget_in hr))] at hg; cases hg

theorem perm_mput {L R : List (κ × β)} (h : L.Perm R) (k : κ) (v : β) : (R.map Prod.fst).Nodup → (mput L k v).Perm (mput R k v) := by
  induction h with
  | nil => intro _; exact .refl _
  | cons x h ih =>
    intro hn
    rw [List.map_cons, List.nodup_cons] at hn
    simp only [mput]
    split
    · exact h.cons _
    · exact (ih hn.2).cons _
  | swap x y l =>
    intro hn
    simp only [List.map_cons, List.nodup_cons, List.mem_cons, not_or] at hn
    simp only [mput]
    by_cases e1 : k = x.1
    · have e2 : ¬ k = y.1 := fun e => hn.1.1 (e1.symm.trans e)
      simp only [if_pos e1, if_neg e2]
      exact .swap _ _ _
    · by_cases e2 : k = y.1
      · simp only [if_neg e1, if_pos e2]; exact .swap _ _ _
      · simp only [if_neg e1, if_neg e2]; exact .swap _ _ _
  | trans h1 h2 ih1 ih2 =>
    intro hn
    exact (ih1 ((h2.map Prod.fst).nodup_iff.2 hn)).trans (ih2 hn)

theorem mput_len (L : List (κ × β)) (k : κ) (v : β) (h : mget L k ≠ none) : (mput L k v).length = L.length := by
  have := mput_some L k v h
  have := congrArg List.length this
  simpa using this

theorem mput_mem {L : List (κ × β)} {k : κ} {v : β} {x : κ × β} : x ∈ mput L k v → x = (k, v) ∨ x ∈ L := by
  induction L with
  | nil => simp [mput]
  | cons y L ih =>
    simp only [mput]
    split
    · rename_i e
      intro h
      rcases List.mem_cons.1 h with h | h
      · left; rw [h, e]
      · exact .inr (List.mem_cons_of_mem _ h)
    · intro h
      rcases List.mem_cons.1 h with h | h
      · right; rw [h]; exact List.mem_cons_self ..
      · rcases ih h with h | h
        · exact .inl h
        · exact .inr (List.mem_cons_of_mem _ h)
end

/-! ### rows by rising names -/

def Srtd (l : List Nm) : Prop := l.Pairwise fun x y => bytesLess x y = true

theorem Srtd.nodup {l : List Nm} (h : Srtd l) : l.Nodup := List.Pairwise.imp (fun {a b} hl e => by subst e; rw [Sort.bl_irr] at hl; cases hl) h

theorem sorted_eq : ∀ {l r : List Nm}, l.Perm r → (l.Pairwise fun x y => bytesLess y x = false) → Srtd r → l = r
  | [], r, hp, _, _ => (List.nil_perm.1 hp).symm
  | b :: u, [], hp, _, _ => by have := hp.length_eq; simp at this
  | b :: u, a :: t, hp, h1, h2 => by
    have e : b = a := by
      rcases List.mem_cons.1 (hp.subset (List.mem_cons_self ..)) with e | hb
      · exact e
      · rcases List.mem_cons.1 (hp.symm.subset (List.mem_cons_self ..)) with e | ha
        · exact e.symm
        · have x1 := List.rel_of_pairwise_cons h2 hb
          have x2 := List.rel_of_pairwise_cons h1 ha
          rw [x1] at x2; cases x2
    subst e
    rw [sorted_eq (List.Perm.cons_inv hp) (List.Pairwise.of_cons h1) (List.Pairwise.of_cons h2)]

def ins (s : Nm) (v : Cn) : List Row → List Row
  | [] => [(s, v)]
  | r :: R => if bytesLess r.1 s then r :: ins s v R else (s, v) :: r :: R

theorem ins_perm (s : Nm) (v : Cn) : ∀ R : List Row, (ins s v R).Perm ((s, v) :: R)
  | [] => .refl _
  | r :: R => by
    simp only [ins]
    split
    · exact ((ins_perm s v R).cons r).trans (.swap _ _ _)
    · exact .refl _

theorem ins_len (s : Nm) (v : Cn) (R : List Row) : (ins s v R).length = R.length + 1 := (ins_perm s v R).length_eq

theorem ins_srtd (s : Nm) (v : Cn) : ∀ R : List Row, mget R s = none → Srtd (R.map Prod.fst) → Srtd ((ins s v R).map Prod.fst)
  | [], _, _ => by simp [ins, Srtd]
  | r :: R, hg, h => by
    rw [mget_cons] at hg
    have hne : s ≠ r.1 := fun e => by rw [if_pos e] at hg; cases hg
    rw [if_neg hne] at hg
    simp only [ins]
    split
    · rename_i hl
      rw [List.map_cons] at h ⊢
      refine List.Pairwise.cons (fun x hx => ?_) (ins_srtd s v R hg (List.Pairwise.of_cons h))
      have := ((ins_perm s v R).map Prod.fst).subset hx
      rw [List.map_cons, List.mem_cons] at this
      rcases this with e | hx
      · rw [e]; exact hl
      · exact List.rel_of_pairwise_cons h hx
    · rename_i hl
      have hl' : bytesLess s r.1 = true := by
        cases hc : bytesLess s r.1 with
        | true => rfl
        | false => exact absurd (Sort.bl_tri _ _ hc (by simpa using hl)) hne
      rw [List.map_cons]
      refine List.Pairwise.cons (fun x hx => ?_) h
      rw [List.map_cons, List.mem_cons] at hx
      rcases hx with e | hx
      · rw [e]; exact hl'
      · rw [List.map_cons] at h
        exact Sort.bl_lt _ _ _ hl' (List.rel_of_pairwise_cons h hx)

structure Good (R : List Row) : Prop where
  srt : Srtd (R.map Prod.fst)
  bnd : ∀ r ∈ R, r.2.1 ≤ MX ∧ r.2.2 ≤ MX
  len : R.length ≤ 64
  may : ∀ r ∈ R, May r.1 = true

theorem Good.nd {R : List Row} (g : Good R) : (R.map Prod.fst).Nodup := g.srt.nodup
theorem Good.nil : Good [] := ⟨List.Pairwise.nil, by simp, by simp, by simp⟩

theorem Good.get {R : List Row} (g : Good R) {s : Nm} {c : Cn} (h : mget R s = some c) : c.1 ≤ MX ∧ c.2 ≤ MX := g.bnd _ (mget_in h)

def addN (R : List Row) (s : Nm) (c : Cn) : Int × List Row :=
  match mget R s with
  | none => if 64 ≤ R.length then (6, R) else (0, ins s c R)
  | some w => if MX < w.1 + c.1 ∨ MX < w.2 + c.2 then (9, R) else (0, mput R s (w.1 + c.1, w.2 + c.2))

def fit (n : Int) : Bool := decide (0 ≤ n) && decide (n ≤ 4503599627370496)

def addR (R : List Row) (s : Nm) (a b : Int) : Int × List Row :=
  if (fit a && fit b && May s) = true then addN R s (a.toNat, b.toNat) else (2, R)

theorem addN_good {R : List Row} (g : Good R) {s : Nm} (hs : May s = true) {c : Cn} (h1 : c.1 ≤ MX) (h2 : c.2 ≤ MX) : Good (addN R s c).2 := by
  unfold addN
  split
  · rename_i hn
    split
    · exact g
    · rename_i hl
      refine ⟨ins_srtd s c R hn g.srt, fun r hr => ?_, by simp only [ins_len]; omega, fun r hr => ?_⟩
      · rcases List.mem_cons.1 ((ins_perm s c R).subset hr) with e | hr
        · subst e; exact ⟨h1, h2⟩
        · exact g.bnd r hr
      · rcases List.mem_cons.1 ((ins_perm s c R).subset hr) with e | hr
        · subst e; exact hs
        · exact g.may r hr
  · rename_i w hw
    split
    · exact g
    · rename_i hl
      have hne : mget R s ≠ none := by rw [hw]; simp
      refine ⟨by simp only; rw [mput_some R s _ hne]; exact g.srt, fun r hr => ?_, by simp only; rw [mput_len R s _ hne]; exact g.len, fun r hr => ?_⟩
      · rcases mput_mem hr with e | hr
        · subst e; simp only; omega
        · exact g.bnd r hr
      · rcases mput_mem hr with e | hr
        · subst e; exact hs
        · exact g.may r hr

theorem fit_le {n : Int} (h : fit n = true) : 0 ≤ n ∧ n ≤ 4503599627370496 ∧ n.toNat ≤ MX := by
  simp only [fit, Bool.and_eq_true, decide_eq_true_eq] at h
  have : MX = 4503599627370496 := rfl
  omega

theorem addR_good {R : List Row} (g : Good R) (s : Nm) (a b : Int) : Good (addR R s a b).2 := by
  unfold addR
  split
  · rename_i h
    simp only [Bool.and_eq_true] at h
    exact addN_good g h.2 (fit_le h.1.1).2.2 (fit_le h.1.2).2.2
  · exact g

theorem addR_of {s : Nm} (hs : May s = true) {c : Cn} (h1 : c.1 ≤ MX) (h2 : c.2 ≤ MX) (R : List Row) : addR R s c.1 c.2 = addN R s c := by
  have e : MX = 4503599627370496 := rfl
  unfold addR
  have hf : (fit (c.1 : Int) && fit (c.2 : Int) && May s) = true := by
    simp only [fit, hs, Bool.and_eq_true, decide_eq_true_eq, and_true]; omega
  rw [if_pos hf, Int.toNat_natCast, Int.toNat_natCast]

/-- what they come to -/
def tot1 (s : Cn) (r : Row) : Cn := (min (s.1 + r.2.1) MX, min (s.2 + r.2.2) MX)
def tot (R : List Row) : Cn := R.foldl tot1 (0, 0)

theorem tot1_le (s : Cn) (r : Row) : (tot1 s r).1 ≤ MX ∧ (tot1 s r).2 ≤ MX := ⟨Nat.min_le_right _ _, Nat.min_le_right _ _⟩

/-- one meter's counters put upon another one's -/
def addL (R : List Row) : List Row → Int × List Row
  | [] => (0, R)
  | r :: t => if (addN R r.1 r.2).1 = 0 then addL (addN R r.1 r.2).2 t else addN R r.1 r.2

def joinL (R : List Row) : List (List Row) → Int × List Row
  | [] => (0, R)
  | Q :: t => if (addL R Q).1 = 0 then joinL (addL R Q).2 t else addL R Q

def joinR (R : List Row) (Qs : List (List Row)) : Int × List Row := if (joinL R Qs).1 = 0 then joinL R Qs else ((joinL R Qs).1, R)

theorem addL_good : ∀ (Q : List Row) {R : List Row}, Good R → (∀ r ∈ Q, (r.2.1 ≤ MX ∧ r.2.2 ≤ MX) ∧ May r.1 = true) → Good (addL R Q).2
  | [], _, g, _ => g
  | r :: t, R, g, h => by
    simp only [addL]
    have g1 := addN_good g (h r (List.mem_cons_self ..)).2 (h r (List.mem_cons_self ..)).1.1 (h r (List.mem_cons_self ..)).1.2
    split
    · exact addL_good t g1 fun x hx => h x (List.mem_cons_of_mem _ hx)
    · exact g1

theorem joinL_good : ∀ (Qs : List (List Row)) {R : List Row}, Good R → (∀ Q ∈ Qs, Good Q) → Good (joinL R Qs).2
  | [], _, g, _ => g
  | Q :: t, R, g, h => by
    simp only [joinL]
    have g1 := addL_good Q g fun r hr => ⟨(h Q (List.mem_cons_self ..)).bnd r hr, (h Q (List.mem_cons_self ..)).may r hr⟩
    split
    · exact joinL_good t g1 fun x hx => h x (List.mem_cons_of_mem _ hx)
    · exact g1

theorem joinR_good {Qs : List (List Row)} {R : List Row} (g : Good R) (h : ∀ Q ∈ Qs, Good Q) : Good (joinR R Qs).2 := by
  unfold joinR
  split
  · exact joinL_good Qs g h
  · exact g

/-! ### floats -/

theorem fl0 : fl 0 = 0 := by decide
theorem flMX : fl MX = 4841369599423283200 := by decide +kernel

theorem fAdd_fl {a b : Nat} (h : a + b ≤ 9007199254740992) : fAdd .f64 (fl a) (fl b) = some (fl (a + b)) := add_fl h

theorem ord_fl {a b : Nat} (ha : a ≤ 9007199254740992) (hb : b ≤ 9007199254740992) : FloatKind.f64.format.order (fl a) (fl b) = some (compare a b) := order_fl ha hb

theorem fIs_eq {a b : Nat} (ha : a ≤ 9007199254740992) (hb : b ≤ 9007199254740992) : fIs .f64 .eq (fl a) (fl b) = decide (a = b) := by
  unfold fIs
  rw [ord_fl ha hb]
  by_cases h : a = b
  · subst h; simp [Nat.compare_eq_eq]
  · have : compare a b ≠ .eq := fun e => h (Nat.compare_eq_eq.1 e)
    simp [h, this]

theorem fIs_gt {a b : Nat} (ha : a ≤ 9007199254740992) (hb : b ≤ 9007199254740992) : fIs .f64 .gt (fl a) (fl b) = decide (b < a) := by
  unfold fIs
  rw [ord_fl ha hb]
  by_cases h : b < a
  · have : compare a b = .gt := Nat.compare_eq_gt.2 h
    simp [h, this]
  · have : compare a b ≠ .gt := fun e => h (Nat.compare_eq_gt.1 e)
    simp [h, this]

theorem fIs_lt {a b : Nat} (ha : a ≤ 9007199254740992) (hb : b ≤ 9007199254740992) : fIs .f64 .lt (fl a) (fl b) = decide (a < b) := by
  unfold fIs
  rw [ord_fl ha hb]
  by_cases h : a < b
  · have : compare a b = .lt := Nat.compare_eq_lt.2 h
    simp [h, this]
  · have : compare a b ≠ .lt := fun e => h (Nat.compare_eq_lt.1 e)
    simp [h, this]

theorem fMin_fl {a : Nat} (ha : a ≤ 9007199254740992) : fMin .f64 (fl a) 4841369599423283200 = some (fl (min a MX)) := by
  unfold fMin
  rw [← flMX, ord_fl ha (by decide)]
  by_cases h : a < MX
  · have : compare a MX = .lt := Nat.compare_eq_lt.2 h
    rw [this, Nat.min_eq_left (Nat.le_of_lt h)]
  · by_cases h2 : a = MX
    · subst h2
      have : compare MX MX = .eq := Nat.compare_eq_eq.2 rfl
      rw [this, Nat.min_self]; simp
    · have : compare a MX = .gt := Nat.compare_eq_gt.2 (by omega)
      rw [this, Nat.min_eq_right (by omega)]

theorem near_fl {n : Int} (h : 0 ≤ n) : FloatKind.f64.nearest n = fl n.toNat := by
  have := fl_int n.toNat
  rwa [Int.toNat_of_nonneg h] at this
theorem near_nat (n : Nat) : FloatKind.f64.nearest (n : Int) = fl n := fl_int n
end Go.Vex.Mtr
