/-
  Contracts of Go's slices.Sort, third part: partition, the nearly sorted, the whole.
-/
import Derived.Test.YtkpkpnmkoejidaaVexBB
import Derived.Test.YtkpkpnmkoejidaaTab09
import Derived.Test.YtkpkpnmkoejidaaXs09
import Derived.Test.YtkpkpnmkoejidaaCsa09
import Derived.Test.YtkpkpnmkoejidaaCsb09
set_option linter.unusedVariables false
set_option linter.unusedSimpArgs false
namespace Go.Vex.Sort
open Go.Proofs

section
variable {g h : Hp} {q n : Nat} {fr bk : List V} {d : Int → E} {f : Bool} {a b : Int}

/-- those behind a, ahead of i, are less than what stands at a; those behind j are not -/
def Pt (a b i j : Int) (d : Int → E) : Prop := a < i ∧ i ≤ j + 1 ∧ j < b ∧ (∀ k, a < k → k < i → lt (d k) (d a) = true) ∧ ∀ k, j < k → k < b → lt (d k) (d a) = false

theorem Pt.swap {i j : Int} {d : Int → E} (p : Pt a b i j d) (hij : i ≤ j) (hi : lt (d i) (d a) = false) (hj : lt (d j) (d a) = true) : Pt a b (i + 1) (j - 1) (sw d i j) := by
  obtain ⟨h1, h2, h3, h4, h5⟩ := p
  have hne : i ≠ j := fun e => by subst e; rw [hi] at hj; cases hj
  refine ⟨by omega, by omega, by omega, fun k k1 k2 => ?_, fun k k1 k2 => ?_⟩
  · rw [sw_ne (k := a) _ (by omega) (by omega)]
    by_cases e : k = i
    · subst e; rw [sw_l]; exact hj
    · rw [sw_ne _ e (by omega)]; exact h4 k k1 (by omega)
  · rw [sw_ne (k := a) _ (by omega) (by omega)]
    by_cases e : k = j
    · subst e; rw [sw_r]; exact hi
    · rw [sw_ne _ (by omega) e]; exact h5 k (by omega) k2

theorem Pt.fin {i j : Int} {d : Int → E} (p : Pt a b i j d) (hij : j < i) (ha : a ≤ j) : (∀ k, a ≤ k → k < j → lt (sw d j a j) (sw d j a k) = false) ∧ ∀ k, j < k → k < b → lt (sw d j a k) (sw d j a j) = false := by
  obtain ⟨h1, h2, h3, h4, h5⟩ := p
  refine ⟨fun k k1 k2 => ?_, fun k k1 k2 => ?_⟩
  · rw [sw_l]
    by_cases e : k = a
    · subst e; rw [sw_r]; exact ordr.asym _ _ (h4 j (by omega) (by omega))
    · rw [sw_ne _ (by omega) e]; exact ordr.asym _ _ (h4 k (by omega) (by omega))
  · rw [sw_l, sw_ne _ (by omega) (by omega)]; exact h5 k k1 k2

theorem part_spec {p : Int} (s : SS en g q fr bk n d h) (h0 : 0 ≤ a) (hap : a ≤ p) (hpb : p < b) (hb : b ≤ n) (hn : (n : Int) ≤ 2305843009213693952) :
    XCalls Try.prog 36 [.slc (some (q, fr.length)) n f, .int .i64 a, .int .i64 b, .int .i64 p] h fun v h' => ∃ m c, v = .tup [.int .i64 m, .bool c] ∧ a ≤ m ∧ m < b ∧ ∃ d', SS en g q fr bk n d' h' ∧ Sw a b d d' ∧
      (∀ k, a ≤ k → k < m → lt (d' m) (d' k) = false) ∧ ∀ k, m < k → k < b → lt (d' k) (d' m) = false := by
  refine XCalls.cps fun K hK => ?_
  apply x36; unfold X36
  obtain ⟨g1, g2, e1, e2, s3⟩ := s.swap (i := a) (j := p) (by omega) (by omega) (by omega) (by omega)
  refine ⟨⟨by omega, by omega⟩, d p, s.ld (by omega) (by omega), ⟨by omega, by omega⟩, d a, s.ld (by omega) (by omega), ⟨by omega, by omega⟩, g1, e1, (by trivial), (by trivial), ⟨by omega, by omega⟩, g2, e2, ?_⟩
  have w3 : Sw a b d (sw d a p) := Sw.refl.step a p (by omega) (by omega) (by omega) (by omega)
  generalize sw d a p = d3 at *
  simp (disch := omega) only [wr, eq_self, true_and, and_true, cond_true, cond_false, onS, Bool.not_true, Bool.not_false, Int.toNat_natCast]
  refine ⟨fun vs h' => match vs with
    | [.int _ i] => ∃ d', SS en g q fr bk n d' h' ∧ Sw a b d d' ∧ Pt a b i (b - 1) d' ∧ (i ≤ b - 1 → lt (d' i) (d' a) = false)
    | _ => False, ?_, ?_⟩
  · refine ⟨fun vs h' => match vs with
      | [.int _ i] => ∃ d', SS en g q fr bk n d' h' ∧ Sw a b d d' ∧ Pt a b i (b - 1) d'
      | _ => False, fun vs _ => match vs with
      | [.int _ i] => (b - i).toNat
      | _ => 0, ⟨d3, s3, w3, by omega, by omega, by omega, fun k h1 h2 => by omega, fun k h1 h2 => by omega⟩, ?_⟩
    rintro bs i h1 ⟨d4, s4, w4, p4⟩
    have p5 := p4
    obtain ⟨q1, q2, q3, q4, q5⟩ := p4
    cases hc : ltI (b - 1) i with
    | true => rw [ltI_eq, decide_eq_true_eq] at hc; exact ⟨d4, s4, w4, p5, fun h => by omega⟩
    | false =>
      rw [ltI_eq, decide_eq_false_iff_not] at hc
      simp (disch := omega) only [wr, eq_self, true_and, and_true, cond_true, cond_false, onS, Bool.not_true, Bool.not_false, Int.toNat_natCast]
      refine ⟨⟨by omega, by omega⟩, d4 i, s4.ld (by omega) (by omega), ⟨by omega, by omega⟩, d4 a, s4.ld (by omega) (by omega), ?_⟩
      refine (less_spec _ _).mono ?_
      rintro _ _ ⟨rfl, rfl⟩
      refine ⟨_, rfl, ?_⟩
      cases hl : lt (d4 i) (d4 a) with
      | true =>
        refine ⟨⟨d4, s4, w4, by omega, by omega, by omega, fun k k1 k2 => ?_, q5⟩, by omega⟩
        by_cases e : k = i
        · subst e; exact hl
        · exact q4 k k1 (by omega)
      | false => exact ⟨d4, s4, w4, p5, fun _ => by first | exact hl | rfl⟩
  rintro bs i h2 ⟨d4, s4, w4, p4, hi4⟩
  obtain ⟨q1, q2, q3, q4, q5⟩ := p4
  simp (disch := omega) only [wr, eq_self, true_and, and_true, cond_true, cond_false, onS, Bool.not_true, Bool.not_false, Int.toNat_natCast]
  refine ⟨fun vs h' => match vs with
    | [.int _ j] => Pt a b i j d4 ∧ SS en g q fr bk n d4 h' ∧ (i ≤ j → lt (d4 j) (d4 a) = true)
    | _ => False, ?_, ?_⟩
  · refine ⟨fun vs h' => match vs with
      | [.int _ j] => Pt a b i j d4 ∧ SS en g q fr bk n d4 h'
      | _ => False, fun vs _ => match vs with
      | [.int _ j] => (j + 1).toNat
      | _ => 0, ⟨⟨q1, q2, q3, q4, q5⟩, s4⟩, ?_⟩
    rintro bs3 j h3 ⟨p5, s5⟩
    have p6 := p5
    obtain ⟨r1, r2, r3, r4, r5⟩ := p5
    cases hc : ltI j i with
    | true => rw [ltI_eq, decide_eq_true_eq] at hc; exact ⟨p6, s5, fun h => by omega⟩
    | false =>
      rw [ltI_eq, decide_eq_false_iff_not] at hc
      simp (disch := omega) only [wr, eq_self, true_and, and_true, cond_true, cond_false, onS, Bool.not_true, Bool.not_false, Int.toNat_natCast]
      refine ⟨⟨by omega, by omega⟩, d4 j, s5.ld (by omega) (by omega), ⟨by omega, by omega⟩, d4 a, s5.ld (by omega) (by omega), ?_⟩
      refine (less_spec _ _).mono ?_
      rintro _ _ ⟨rfl, rfl⟩
      refine ⟨_, rfl, ?_⟩
      cases hl : lt (d4 j) (d4 a) with
      | false =>
        refine ⟨⟨⟨by omega, by omega, by omega, r4, fun k k1 k2 => ?_⟩, s5⟩, by omega⟩
        by_cases e : k = j
        · subst e; exact hl
        · exact r5 k (by omega) k2
      | true => exact ⟨p6, s5, fun _ => by first | exact hl | rfl⟩
  rintro bs4 j h4 ⟨p6, s6, hj6⟩
  have p7 := p6
  obtain ⟨r1, r2, r3, r4, r5⟩ := p6
  cases hc : ltI j i with
  | true =>
    rw [ltI_eq, decide_eq_true_eq] at hc
    obtain ⟨g3, g4, e3, e4, s7⟩ := s6.swap (i := j) (j := a) (by omega) (by omega) (by omega) (by omega)
    refine ⟨⟨by omega, by omega⟩, d4 a, s6.ld (by omega) (by omega), ⟨by omega, by omega⟩, d4 j, s6.ld (by omega) (by omega), ⟨by omega, by omega⟩, g3, e3, ⟨by omega, by omega⟩, g4, e4, ?_⟩
    have hf := p7.fin hc (by omega)
    exact hK _ _ ⟨j, true, rfl, by omega, by omega, _, s7, w4.step j a (by omega) (by omega) (by omega) (by omega), hf.1, hf.2⟩
  | false =>
    rw [ltI_eq, decide_eq_false_iff_not] at hc
    obtain ⟨g3, g4, e3, e4, s7⟩ := s6.swap (i := i) (j := j) (by omega) (by omega) (by omega) (by omega)
    have p8 := p7.swap (by omega) (hi4 (by omega)) (hj6 (by omega))
    have w8 := w4.step i j (by omega) (by omega) (by omega) (by omega)
    generalize sw d4 i j = d8 at *
    simp (disch := omega) only [wr, eq_self, true_and, and_true, cond_true, cond_false, onS, Bool.not_true, Bool.not_false, Int.toNat_natCast]
    refine ⟨⟨by omega, by omega⟩, d4 j, s6.ld (by omega) (by omega), ⟨by omega, by omega⟩, d4 i, s6.ld (by omega) (by omega), ⟨by omega, by omega⟩, g3, e3, ⟨by omega, by omega⟩, g4, e4, ?_⟩
    refine ⟨fun vs h' => match vs with
      | [.int _ i, .int _ j] => ∃ d', SS en g q fr bk n d' h' ∧ Sw a b d d' ∧ Pt a b i j d'
      | _ => False, fun vs _ => match vs with
      | [.int _ i, .int _ j] => (j + 1 - i).toNat
      | _ => 0, ⟨d8, s7, w8, p8⟩, ?_⟩
    clear p8 w8 s7 e3 e4 hc hi4 hj6 s6 p7 r1 r2 r3 r4 r5 s4 w4 q1 q2 q3 q4 q5 s3 w3 e1 e2
    rintro bs5 i j h5 ⟨d4, s4, w4, p4⟩
    refine ⟨fun vs h' => match vs with
      | [.int _ i'] => i ≤ i' ∧ ∃ d', SS en g q fr bk n d' h' ∧ Sw a b d d' ∧ Pt a b i' j d' ∧ (i' ≤ j → lt (d' i') (d' a) = false)
      | _ => False, ?_, ?_⟩
    · refine ⟨fun vs h' => match vs with
        | [.int _ i', .int _ j'] => j' = j ∧ i ≤ i' ∧ ∃ d', SS en g q fr bk n d' h' ∧ Sw a b d d' ∧ Pt a b i' j d'
        | _ => False, fun vs _ => match vs with
        | [.int _ i', .int _ j'] => (b - i').toNat
        | _ => 0, ⟨(by trivial), by omega, d4, s4, w4, p4⟩, ?_⟩
      rintro bs6 i' j' h6 ⟨rfl, hi', d5, s5, w5, p5⟩
      have p6 := p5
      obtain ⟨q1, q2, q3, q4, q5⟩ := p5
      cases hc : ltI j' i' with
      | true => rw [ltI_eq, decide_eq_true_eq] at hc; exact ⟨rfl, hi', d5, s5, w5, p6, fun h => by omega⟩
      | false =>
        rw [ltI_eq, decide_eq_false_iff_not] at hc
        simp (disch := omega) only [wr, eq_self, true_and, and_true, cond_true, cond_false, onS, Bool.not_true, Bool.not_false, Int.toNat_natCast]
        refine ⟨⟨by omega, by omega⟩, d5 i', s5.ld (by omega) (by omega), ⟨by omega, by omega⟩, d5 a, s5.ld (by omega) (by omega), ?_⟩
        refine (less_spec _ _).mono ?_
        rintro _ _ ⟨rfl, rfl⟩
        refine ⟨_, rfl, ?_⟩
        cases hl : lt (d5 i') (d5 a) with
        | true =>
          refine ⟨⟨by omega, d5, s5, w5, by omega, by omega, by omega, fun k k1 k2 => ?_, q5⟩, by omega⟩
          by_cases e : k = i'
          · subst e; exact hl
          · exact q4 k k1 (by omega)
        | false => exact ⟨hi', d5, s5, w5, p6, fun _ => by first | exact hl | rfl⟩
    rintro bs7 i2 h7 ⟨hi2, d5, s5, w5, p5, hi5⟩
    have p6 := p5
    obtain ⟨q1, q2, q3, q4, q5⟩ := p5
    simp (disch := omega) only [wr, eq_self, true_and, and_true, cond_true, cond_false, onS, Bool.not_true, Bool.not_false, Int.toNat_natCast]
    refine ⟨fun vs h' => match vs with
      | [.int _ j'] => j' ≤ j ∧ Pt a b i2 j' d5 ∧ SS en g q fr bk n d5 h' ∧ (i2 ≤ j' → lt (d5 j') (d5 a) = true)
      | _ => False, ?_, ?_⟩
    · refine ⟨fun vs h' => match vs with
        | [.int _ j'] => j' ≤ j ∧ Pt a b i2 j' d5 ∧ SS en g q fr bk n d5 h'
        | _ => False, fun vs _ => match vs with
        | [.int _ j'] => (j' + 1).toNat
        | _ => 0, ⟨by omega, p6, s5⟩, ?_⟩
      rintro bs8 j' h8 ⟨hj', p7, s8⟩
      have p8 := p7
      obtain ⟨r1, r2, r3, r4, r5⟩ := p7
      cases hc : ltI j' i2 with
      | true => rw [ltI_eq, decide_eq_true_eq] at hc; exact ⟨hj', p8, s8, fun h => by omega⟩
      | false =>
        rw [ltI_eq, decide_eq_false_iff_not] at hc
        simp (disch := omega) only [wr, eq_self, true_and, and_true, cond_true, cond_false, onS, Bool.not_true, Bool.not_false, Int.toNat_natCast]
        refine ⟨⟨by omega, by omega⟩, d5 j', s8.ld (by omega) (by omega), ⟨by omega, by omega⟩, d5 a, s8.ld (by omega) (by omega), ?_⟩
        refine (less_spec _ _).mono ?_
        rintro _ _ ⟨rfl, rfl⟩
        refine ⟨_, rfl, ?_⟩
        cases hl : lt (d5 j') (d5 a) with
        | false =>
          refine ⟨⟨by omega, ⟨by omega, by omega, by omega, r4, fun k k1 k2 => ?_⟩, s8⟩, by omega⟩
          by_cases e : k = j'
          · subst e; exact hl
          · exact r5 k (by omega) k2
        | true => exact ⟨hj', p8, s8, fun _ => by first | exact hl | rfl⟩
    rintro bs9 j2 h9 ⟨hj2, p9, s9, hj9⟩
    have p10 := p9
    obtain ⟨r1, r2, r3, r4, r5⟩ := p9
    cases hc : ltI j2 i2 with
    | true =>
      rw [ltI_eq, decide_eq_true_eq] at hc
      obtain ⟨g5, g6, e5, e6, s11⟩ := s9.swap (i := j2) (j := a) (by omega) (by omega) (by omega) (by omega)
      refine ⟨⟨by omega, by omega⟩, d5 a, s9.ld (by omega) (by omega), ⟨by omega, by omega⟩, d5 j2, s9.ld (by omega) (by omega), ⟨by omega, by omega⟩, g5, e5, ⟨by omega, by omega⟩, g6, e6, ?_⟩
      have hf := p10.fin hc (by omega)
      exact hK _ _ ⟨j2, false, rfl, by omega, by omega, _, s11, w5.step j2 a (by omega) (by omega) (by omega) (by omega), hf.1, hf.2⟩
    | false =>
      rw [ltI_eq, decide_eq_false_iff_not] at hc
      obtain ⟨g5, g6, e5, e6, s11⟩ := s9.swap (i := i2) (j := j2) (by omega) (by omega) (by omega) (by omega)
      have p12 := p10.swap (by omega) (hi5 (by omega)) (hj9 (by omega))
      have w12 := w5.step i2 j2 (by omega) (by omega) (by omega) (by omega)
      simp (disch := omega) only [wr, eq_self, true_and, and_true, cond_true, cond_false, onS, Bool.not_true, Bool.not_false, Int.toNat_natCast]
      refine ⟨⟨by omega, by omega⟩, d5 j2, s9.ld (by omega) (by omega), ⟨by omega, by omega⟩, d5 i2, s9.ld (by omega) (by omega), ⟨by omega, by omega⟩, g5, e5, ⟨by omega, by omega⟩, g6, e6, ⟨_, s11, w12, p12⟩, by omega⟩

/-- those from a on, ahead of i, are not more than what stands at a; those behind j are -/
def Pe (a b i j : Int) (d : Int → E) : Prop := a < i ∧ i ≤ j + 1 ∧ j < b ∧ (∀ k, a ≤ k → k < i → lt (d a) (d k) = false) ∧ ∀ k, j < k → k < b → lt (d a) (d k) = true

theorem peq_spec {p : Int} (s : SS en g q fr bk n d h) (h0 : 0 ≤ a) (hap : a ≤ p) (hpb : p < b) (hb : b ≤ n) (hn : (n : Int) ≤ 2305843009213693952) :
    XCalls Try.prog 35 [.slc (some (q, fr.length)) n f, .int .i64 a, .int .i64 b, .int .i64 p] h fun v h' => ∃ m, v = .int .i64 m ∧ a < m ∧ m ≤ b ∧ ∃ d', SS en g q fr bk n d' h' ∧ Sw a b d d' ∧ d' a = d p ∧
      (∀ k, a ≤ k → k < m → lt (d' a) (d' k) = false) := by
  refine XCalls.cps fun K hK => ?_
  apply x35; unfold X35
  obtain ⟨g1, g2, e1, e2, s3⟩ := s.swap (i := a) (j := p) (by omega) (by omega) (by omega) (by omega)
  refine ⟨⟨by omega, by omega⟩, d p, s.ld (by omega) (by omega), ⟨by omega, by omega⟩, d a, s.ld (by omega) (by omega), ⟨by omega, by omega⟩, g1, e1, (by trivial), (by trivial), ⟨by omega, by omega⟩, g2, e2, ?_⟩
  have w3 : Sw a b d (sw d a p) := Sw.refl.step a p (by omega) (by omega) (by omega) (by omega)
  have v3 : sw d a p a = d p := sw_l _ _ _
  generalize sw d a p = d3 at *
  simp (disch := omega) only [wr, eq_self, true_and, and_true, cond_true, cond_false, onS, Bool.not_true, Bool.not_false, Int.toNat_natCast]
  refine ⟨fun vs h' => match vs with
    | [.int _ i, .int _ j] => ∃ d', SS en g q fr bk n d' h' ∧ Sw a b d d' ∧ d' a = d p ∧ Pe a b i j d'
    | _ => False, fun vs _ => match vs with
    | [.int _ i, .int _ j] => (j + 1 - i).toNat
    | _ => 0, ⟨d3, s3, w3, v3, by omega, by omega, by omega, fun k h1 h2 => (show k = a by omega) ▸ ordr.irr _, fun k h1 h2 => by omega⟩, ?_⟩
  clear s3 w3 v3 e1 e2
  rintro bs5 i j h5 ⟨d4, s4, w4, v4, p4⟩
  refine ⟨fun vs h' => match vs with
    | [.int _ i'] => i ≤ i' ∧ ∃ d', SS en g q fr bk n d' h' ∧ Sw a b d d' ∧ d' a = d p ∧ Pe a b i' j d' ∧ (i' ≤ j → lt (d' a) (d' i') = true)
    | _ => False, ?_, ?_⟩
  · refine ⟨fun vs h' => match vs with
      | [.int _ i', .int _ j'] => j' = j ∧ i ≤ i' ∧ ∃ d', SS en g q fr bk n d' h' ∧ Sw a b d d' ∧ d' a = d p ∧ Pe a b i' j d'
      | _ => False, fun vs _ => match vs with
      | [.int _ i', .int _ j'] => (b - i').toNat
      | _ => 0, ⟨(by trivial), by omega, d4, s4, w4, v4, p4⟩, ?_⟩
    rintro bs6 i' j' h6 ⟨rfl, hi', d5, s5, w5, v5, p5⟩
    have p6 := p5
    obtain ⟨q1, q2, q3, q4, q5⟩ := p5
    cases hc : ltI j' i' with
    | true => rw [ltI_eq, decide_eq_true_eq] at hc; exact ⟨rfl, hi', d5, s5, w5, v5, p6, fun h => by omega⟩
    | false =>
      rw [ltI_eq, decide_eq_false_iff_not] at hc
      simp (disch := omega) only [wr, eq_self, true_and, and_true, cond_true, cond_false, onS, Bool.not_true, Bool.not_false, Int.toNat_natCast]
      refine ⟨⟨by omega, by omega⟩, d5 a, s5.ld (by omega) (by omega), ⟨by omega, by omega⟩, d5 i', s5.ld (by omega) (by omega), ?_⟩
      refine (less_spec _ _).mono ?_
      rintro _ _ ⟨rfl, rfl⟩
      refine ⟨_, rfl, ?_⟩
      cases hl : lt (d5 a) (d5 i') with
      | false =>
        refine ⟨⟨by omega, d5, s5, w5, v5, by omega, by omega, by omega, fun k k1 k2 => ?_, q5⟩, by omega⟩
        by_cases e : k = i'
        · subst e; exact hl
        · exact q4 k k1 (by omega)
      | true => exact ⟨hi', d5, s5, w5, v5, p6, fun _ => by first | exact hl | rfl⟩
  rintro bs7 i2 h7 ⟨hi2, d5, s5, w5, v5, p5, hi5⟩
  have p6 := p5
  obtain ⟨q1, q2, q3, q4, q5⟩ := p5
  simp (disch := omega) only [wr, eq_self, true_and, and_true, cond_true, cond_false, onS, Bool.not_true, Bool.not_false, Int.toNat_natCast]
  refine ⟨fun vs h' => match vs with
    | [.int _ j'] => j' ≤ j ∧ Pe a b i2 j' d5 ∧ SS en g q fr bk n d5 h' ∧ (i2 ≤ j' → lt (d5 a) (d5 j') = false)
    | _ => False, ?_, ?_⟩
  · refine ⟨fun vs h' => match vs with
      | [.int _ j'] => j' ≤ j ∧ Pe a b i2 j' d5 ∧ SS en g q fr bk n d5 h'
      | _ => False, fun vs _ => match vs with
      | [.int _ j'] => (j' + 1).toNat
      | _ => 0, ⟨by omega, p6, s5⟩, ?_⟩
    rintro bs8 j' h8 ⟨hj', p7, s8⟩
    have p8 := p7
    obtain ⟨r1, r2, r3, r4, r5⟩ := p7
    cases hc : ltI j' i2 with
    | true => rw [ltI_eq, decide_eq_true_eq] at hc; exact ⟨hj', p8, s8, fun h => by omega⟩
    | false =>
      rw [ltI_eq, decide_eq_false_iff_not] at hc
      simp (disch := omega) only [wr, eq_self, true_and, and_true, cond_true, cond_false, onS, Bool.not_true, Bool.not_false, Int.toNat_natCast]
      refine ⟨⟨by omega, by omega⟩, d5 a, s8.ld (by omega) (by omega), ⟨by omega, by omega⟩, d5 j', s8.ld (by omega) (by omega), ?_⟩
      refine (less_spec _ _).mono ?_
      rintro _ _ ⟨rfl, rfl⟩
      refine ⟨_, rfl, ?_⟩
      cases hl : lt (d5 a) (d5 j') with
      | true =>
        refine ⟨⟨by omega, ⟨by omega, by omega, by omega, r4, fun k k1 k2 => ?_⟩, s8⟩, by omega⟩
        by_cases e : k = j'
        · subst e; exact hl
        · exact r5 k (by omega) k2
      | false => exact ⟨hj', p8, s8, fun _ => by first | exact hl | rfl⟩
  rintro bs9 j2 h9 ⟨hj2, p9, s9, hj9⟩
  obtain ⟨r1, r2, r3, r4, r5⟩ := p9
  cases hc : ltI j2 i2 with
  | true =>
    rw [ltI_eq, decide_eq_true_eq] at hc
    exact hK _ _ ⟨i2, rfl, by omega, by omega, d5, s9, w5, v5, r4⟩
  | false =>
    rw [ltI_eq, decide_eq_false_iff_not] at hc
    obtain ⟨g5, g6, e5, e6, s11⟩ := s9.swap (i := i2) (j := j2) (by omega) (by omega) (by omega) (by omega)
    have w12 := w5.step i2 j2 (by omega) (by omega) (by omega) (by omega)
    have hne : i2 ≠ j2 := fun e => by subst e; have e1 := hi5 (by omega); have e2 := hj9 (by omega); rw [e1] at e2; cases e2
    simp (disch := omega) only [wr, eq_self, true_and, and_true, cond_true, cond_false, onS, Bool.not_true, Bool.not_false, Int.toNat_natCast]
    refine ⟨⟨by omega, by omega⟩, d5 j2, s9.ld (by omega) (by omega), ⟨by omega, by omega⟩, d5 i2, s9.ld (by omega) (by omega), ⟨by omega, by omega⟩, g5, e5, ⟨by omega, by omega⟩, g6, e6, ⟨_, s11, w12, ?_, by omega, by omega, by omega, fun k k1 k2 => ?_, fun k k1 k2 => ?_⟩, by omega⟩
    · rw [sw_ne _ (by omega) (by omega)]; exact v5
    · rw [sw_ne (k := a) _ (by omega) (by omega)]
      by_cases e : k = i2
      · subst e; rw [sw_l]; exact hj9 (by omega)
      · rw [sw_ne _ e (by omega)]; exact r4 k k1 (by omega)
    · rw [sw_ne (k := a) _ (by omega) (by omega)]
      by_cases e : k = j2
      · subst e; rw [sw_r]; exact hi5 (by omega)
      · rw [sw_ne _ (by omega) e]; exact r5 k (by omega) k2

/-- what stands ahead of a is not more than what follows -/
def Blw (a b : Int) (d : Int → E) : Prop := a = 0 ∨ ∀ k, a ≤ k → k < b → lt (d k) (d (a - 1)) = false

theorem Blw.keep {d d' : Int → E} (hf : Blw a b d) (hs : Sw a b d d') : Blw a b d' := by
  rcases hf with h | h
  · exact .inl h
  · right
    rw [hs.out (k := a - 1) (.inl (by omega))]
    exact hs.all (fun x => lt x (d (a - 1)) = false) h

theorem pins_spec (s : SS en g q fr bk n d h) (h0 : 0 ≤ a) (hab : a < b) (hb : b ≤ n) (hn : (n : Int) ≤ 2305843009213693952) (hbl : Blw a b d) :
    XCalls Try.prog 33 [.slc (some (q, fr.length)) n f, .int .i64 a, .int .i64 b] h fun v h' => ∃ t, v = .bool t ∧ ∃ d', SS en g q fr bk n d' h' ∧ Sw a b d d' ∧ (t = true → Srt lt a b d') := by
  refine XCalls.cps fun K hK => ?_
  apply x33; unfold X33
  simp (disch := omega) only [wr, eq_self, true_and, and_true, cond_true, cond_false, onS, Bool.not_true, Bool.not_false, Int.toNat_natCast]
  refine ⟨fun vs h' => match vs with
    | [.int _ i, .int _ c] => a < i ∧ i ≤ b ∧ 0 ≤ c ∧ c ≤ 5 ∧ ∃ d', SS en g q fr bk n d' h' ∧ Sw a b d d' ∧ Srt lt a i d'
    | _ => False, fun vs _ => match vs with
    | [.int _ i, .int _ c] => (5 - c).toNat
    | _ => 0, ⟨by omega, by omega, by omega, by omega, d, s, .refl, fun p r h1 h2 h3 => by omega⟩, ?_⟩
  rintro bs i c h1 ⟨hi0, hi1, hc0, hc1, d1, s1, w1, o1⟩
  cases hc5 : ltI c 5 with
  | false => exact hK _ _ ⟨false, rfl, d1, s1, w1, fun h => by cases h⟩
  | true =>
    rw [ltI_eq, decide_eq_true_eq] at hc5
    simp (disch := omega) only [wr, eq_self, true_and, and_true, cond_true, cond_false, onS, Bool.not_true, Bool.not_false, Int.toNat_natCast]
    refine ⟨fun vs h' => match vs with
      | [.int _ i] => a < i ∧ i ≤ b ∧ ∃ d', SS en g q fr bk n d' h' ∧ Sw a b d d' ∧ Srt lt a i d'
      | _ => False, ?_, ?_⟩
    · refine ⟨fun vs h' => match vs with
        | [.int _ i] => a < i ∧ i ≤ b ∧ ∃ d', SS en g q fr bk n d' h' ∧ Sw a b d d' ∧ Srt lt a i d'
        | _ => False, fun vs _ => match vs with
        | [.int _ i] => (b - i).toNat
        | _ => 0, ⟨hi0, hi1, d1, s1, w1, o1⟩, ?_⟩
      clear s1 w1 o1 hi0 hi1
      rintro bs2 i h2 ⟨hi0, hi1, d1, s1, w1, o1⟩
      cases hib : ltI i b with
      | false => exact ⟨hi0, hi1, d1, s1, w1, o1⟩
      | true =>
        rw [ltI_eq, decide_eq_true_eq] at hib
        simp (disch := omega) only [wr, eq_self, true_and, and_true, cond_true, cond_false, onS, Bool.not_true, Bool.not_false, Int.toNat_natCast]
        refine ⟨⟨by omega, by omega⟩, d1 i, s1.ld (by omega) (by omega), ⟨by omega, by omega⟩, d1 (i - 1), s1.ld (by omega) (by omega), ?_⟩
        refine (less_spec _ _).mono ?_
        rintro _ _ ⟨rfl, rfl⟩
        refine ⟨_, rfl, ?_⟩
        cases hl : lt (d1 i) (d1 (i - 1)) with
        | false =>
          refine ⟨⟨by omega, by omega, d1, s1, w1, fun p r k1 k2 k3 => ?_⟩, by omega⟩
          by_cases e : r = i
          · subst e
            by_cases e : p = r - 1
            · subst e; exact hl
            · exact ordr.trans _ _ _ (o1 p (r - 1) k1 (by omega) (by omega)) hl
          · exact o1 p r k1 k2 (by omega)
        | true => exact ⟨hi0, hi1, d1, s1, w1, o1⟩
    clear s1 w1 o1 hi0 hi1
    rintro bs3 i h3 ⟨hi0, hi1, d1, s1, w1, o1⟩
    cases hib : (i == b) with
    | true =>
      have hib : i = b := by simpa using hib
      subst hib
      exact hK _ _ ⟨true, rfl, d1, s1, w1, fun _ => o1⟩
    | false =>
      have hib : i ≠ b := by simpa using hib
      simp (disch := omega) only [wr, eq_self, true_and, and_true, cond_true, cond_false, onS, Bool.not_true, Bool.not_false, Int.toNat_natCast]
      cases hba : ltI (b - a) 50 with
      | true => exact hK _ _ ⟨false, rfl, d1, s1, w1, fun h => by cases h⟩
      | false =>
        obtain ⟨g1, g2, e1, e2, s2⟩ := s1.swap (i := i) (j := i - 1) (by omega) (by omega) (by omega) (by omega)
        have w2 := w1.step i (i - 1) (by omega) (by omega) (by omega) (by omega)
        have o2 : Srt lt a (i - 1) (sw d1 i (i - 1)) := fun p r k1 k2 k3 => by
          rw [sw_ne _ (by omega) (by omega), sw_ne _ (by omega) (by omega)]; exact o1 p r k1 k2 (by omega)
        generalize sw d1 i (i - 1) = d2 at *
        simp (disch := omega) only [wr, eq_self, true_and, and_true, cond_true, cond_false, onS, Bool.not_true, Bool.not_false, Int.toNat_natCast]
        refine ⟨⟨by omega, by omega⟩, d1 (i - 1), s1.ld (by omega) (by omega), ⟨by omega, by omega⟩, d1 i, s1.ld (by omega) (by omega), ⟨by omega, by omega⟩, g1, e1, ⟨by omega, by omega⟩, g2, e2, ?_⟩
        refine ⟨fun vs h' => match vs with
          | [] => ∃ d', SS en g q fr bk n d' h' ∧ Sw a b d d' ∧ Srt lt a i d'
          | _ => False, ?_, ?_⟩
        · cases hia : ltI (i - a) 2 with
          | true =>
            rw [ltI_eq, decide_eq_true_eq] at hia
            exact ⟨d2, s2, w2, fun p r k1 k2 k3 => by omega⟩
          | false =>
            rw [ltI_eq, decide_eq_false_iff_not] at hia
            simp (disch := omega) only [wr, eq_self, true_and, and_true, cond_true, cond_false, onS, Bool.not_true, Bool.not_false, Int.toNat_natCast]
            refine ⟨fun vs h' => match vs with
              | [.int _ j] => a ≤ j ∧ j < i ∧ ∃ d', SS en g q fr bk n d' h' ∧ Sw a b d d' ∧ ∀ p r, a ≤ p → p < r → r < i → r ≠ j → lt (d' r) (d' p) = false
              | _ => False, fun vs _ => match vs with
              | [.int _ j] => j.toNat
              | _ => 0, ⟨by omega, by omega, d2, s2, w2, fun p r k1 k2 k3 k4 => o2 p r k1 k2 (by omega)⟩, ?_⟩
            clear s2 w2 o2 e1 e2
            rintro bs4 j h4 ⟨hj0, hj1, d2, s2, w2, o2⟩
            cases hj : ltI j 1 with
            | true =>
              rw [ltI_eq, decide_eq_true_eq] at hj
              exact ⟨d2, s2, w2, fun p r k1 k2 k3 => o2 p r k1 k2 k3 (by omega)⟩
            | false =>
              rw [ltI_eq, decide_eq_false_iff_not] at hj
              simp (disch := omega) only [wr, eq_self, true_and, and_true, cond_true, cond_false, onS, Bool.not_true, Bool.not_false, Int.toNat_natCast]
              refine ⟨⟨by omega, by omega⟩, d2 j, s2.ld (by omega) (by omega), ⟨by omega, by omega⟩, d2 (j - 1), s2.ld (by omega) (by omega), ?_⟩
              refine (less_spec _ _).mono ?_
              rintro _ _ ⟨rfl, rfl⟩
              refine ⟨_, rfl, ?_⟩
              cases hl : lt (d2 j) (d2 (j - 1)) with
              | false =>
                refine ⟨d2, s2, w2, fun p r k1 k2 k3 => ?_⟩
                by_cases e : r = j
                · subst e
                  by_cases e : p = r - 1
                  · subst e; exact hl
                  · exact ordr.trans _ _ _ (o2 p (r - 1) k1 (by omega) (by omega) (by omega)) hl
                · exact o2 p r k1 k2 k3 e
              | true =>
                have hja : a < j := by
                  rcases hbl.keep w2 with e | e
                  · omega
                  · by_cases e1 : j = a
                    · subst e1; rw [e j (by omega) (by omega)] at hl; cases hl
                    · omega
                obtain ⟨g1, g2, e1, e2, s3⟩ := s2.swap (i := j) (j := j - 1) (by omega) (by omega) (by omega) (by omega)
                simp (disch := omega) only [wr, eq_self, true_and, and_true, cond_true, cond_false, onS, Bool.not_true, Bool.not_false, Int.toNat_natCast]
                refine ⟨⟨by omega, by omega⟩, d2 (j - 1), s2.ld (by omega) (by omega), ⟨by omega, by omega⟩, d2 j, s2.ld (by omega) (by omega), ⟨by omega, by omega⟩, g1, e1, ⟨by omega, by omega⟩, g2, e2, ⟨by omega, by omega, _, s3, w2.step j (j - 1) (by omega) (by omega) (by omega) (by omega), ?_⟩, by omega⟩
                intro p r hp hpr hr hrj
                by_cases e : r = j
                · subst e
                  rw [sw_l]
                  by_cases e : p = r - 1
                  · subst e; rw [sw_r]; exact ordr.asym _ _ hl
                  · rw [sw_ne _ (by omega) (by omega)]; exact o2 p (r - 1) hp (by omega) (by omega) (by omega)
                · rw [sw_ne _ e hrj]
                  by_cases e1 : p = j
                  · subst e1; rw [sw_l]; exact o2 (p - 1) r (by omega) (by omega) hr (by omega)
                  · by_cases e2 : p = j - 1
                    · subst e2; rw [sw_r]; exact o2 j r (by omega) (by omega) hr e
                    · rw [sw_ne _ e1 e2]; exact o2 p r hp hpr hr e
        clear s2 w2 o2 e1 e2
        rintro bs5 h5 ⟨d2, s2, w2, o2⟩
        cases hbi : ltI (b - i) 2 with
        | true => exact ⟨⟨hi0, hi1, by omega, by omega, d2, s2, w2, o2⟩, by omega⟩
        | false =>
          rw [ltI_eq, decide_eq_false_iff_not] at hbi
          simp (disch := omega) only [wr, eq_self, true_and, and_true, cond_true, cond_false, onS, Bool.not_true, Bool.not_false, Int.toNat_natCast]
          refine ⟨fun vs h' => match vs with
            | [.int _ j] => i < j ∧ j ≤ b ∧ ∃ d', SS en g q fr bk n d' h' ∧ Sw a b d d' ∧ Srt lt a i d'
            | _ => False, fun vs _ => match vs with
            | [.int _ j] => (b - j).toNat
            | _ => 0, ⟨by omega, by omega, d2, s2, w2, o2⟩, ?_⟩
          clear s2 w2 o2
          rintro bs6 j h6 ⟨hj0, hj1, d2, s2, w2, o2⟩
          cases hj : ltI j b with
          | false => exact ⟨⟨hi0, hi1, by omega, by omega, d2, s2, w2, o2⟩, by omega⟩
          | true =>
            rw [ltI_eq, decide_eq_true_eq] at hj
            simp (disch := omega) only [wr, eq_self, true_and, and_true, cond_true, cond_false, onS, Bool.not_true, Bool.not_false, Int.toNat_natCast]
            refine ⟨⟨by omega, by omega⟩, d2 j, s2.ld (by omega) (by omega), ⟨by omega, by omega⟩, d2 (j - 1), s2.ld (by omega) (by omega), ?_⟩
            refine (less_spec _ _).mono ?_
            rintro _ _ ⟨rfl, rfl⟩
            refine ⟨_, rfl, ?_⟩
            cases hl : lt (d2 j) (d2 (j - 1)) with
            | false => exact ⟨⟨hi0, hi1, by omega, by omega, d2, s2, w2, o2⟩, by omega⟩
            | true =>
              obtain ⟨g1, g2, e1, e2, s3⟩ := s2.swap (i := j) (j := j - 1) (by omega) (by omega) (by omega) (by omega)
              simp (disch := omega) only [wr, eq_self, true_and, and_true, cond_true, cond_false, onS, Bool.not_true, Bool.not_false, Int.toNat_natCast]
              refine ⟨⟨by omega, by omega⟩, d2 (j - 1), s2.ld (by omega) (by omega), ⟨by omega, by omega⟩, d2 j, s2.ld (by omega) (by omega), ⟨by omega, by omega⟩, g1, e1, ⟨by omega, by omega⟩, g2, e2, ⟨by omega, by omega, _, s3, w2.step j (j - 1) (by omega) (by omega) (by omega) (by omega), fun p r k1 k2 k3 => ?_⟩, by omega⟩
              rw [sw_ne _ (by omega) (by omega), sw_ne _ (by omega) (by omega)]; exact o2 p r k1 k2 k3
end
end Go.Vex.Sort
