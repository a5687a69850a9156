/-
  Contracts of Go's slices.Sort, first part: insertion, heap.
-/
import Derived.Test.YtkpkpnmkoejidaaVexBB
import Derived.Test.YtkpkpnmkoejidaaTab09
import Derived.Test.YtkpkpnmkoejidaaXs09
set_option linter.unusedVariables false
set_option linter.unusedSimpArgs false
namespace Go.Vex.Sort
open Go.Proofs

abbrev E := Int
abbrev en (x : E) : V := .int .u32 x
abbrev lt : E → E → Bool := ltI
theorem ordr : Ordr lt where
  irr := fun x => by simp [lt, ltI_eq]
  asym := fun x y h => by simp only [lt, ltI_eq, decide_eq_true_eq, decide_eq_false_iff_not] at *; omega
  trans := fun x y z h1 h2 => by simp only [lt, ltI_eq, decide_eq_false_iff_not] at *; omega

section
variable {g h : Hp} {q n : Nat} {fr bk : List V} {d : Int → E} {f : Bool} {a b : Int}

theorem nan_spec {h : Hp} (x : E) : XCalls Try.prog 44 [en x] h fun v h' => v = .bool false ∧ h' = h := by
  apply x44; unfold X44; exact ⟨by simp, rfl⟩

theorem less_spec {h : Hp} (x y : E) : XCalls Try.prog 34 [en x, en y] h fun v h' => v = .bool (lt x y) ∧ h' = h := by
  apply x34; unfold X34
  refine (nan_spec x).mono ?_
  rintro _ _ ⟨rfl, rfl⟩
  exact ⟨_, rfl, rfl, rfl⟩

theorem ins_spec (s : SS en g q fr bk n d h) (h0 : 0 ≤ a) (hab : a ≤ b) (hb : b ≤ n) (hn : (n : Int) ≤ 4611686018427387904) :
    XCalls Try.prog 28 [.slc (some (q, fr.length)) n f, .int .i64 a, .int .i64 b] h fun v h' => v = .tup [] ∧ ∃ d', SS en g q fr bk n d' h' ∧ Sw a b d d' ∧ Srt lt a b d' := by
  apply x28; unfold X28
  simp (disch := omega) only [wr, eq_self, true_and, and_true, cond_true, cond_false, onS, Bool.not_true, Bool.not_false, Int.toNat_natCast]
  refine ⟨fun vs h' => match vs with
    | [.int _ i] => a + 1 ≤ i ∧ (i ≤ b ∨ i = a + 1) ∧ ∃ d', SS en g q fr bk n d' h' ∧ Sw a b d d' ∧ Srt lt a i d'
    | _ => False, fun vs _ => match vs with
    | [.int _ i] => (b - i).toNat
    | _ => 0, ⟨by omega, .inr rfl, d, s, .refl, fun p r h1 h2 h3 => by omega⟩, ?_⟩
  rintro bs i h1 ⟨hi1, hi2, d1, s1, w1, o1⟩
  cases hib : ltI i b with
  | false =>
    rw [ltI_eq, decide_eq_false_iff_not] at hib
    exact ⟨d1, s1, w1, fun p r h1 h2 h3 => o1 p r h1 h2 (by omega)⟩
  | true =>
    rw [ltI_eq, decide_eq_true_eq] at hib
    simp (disch := omega) only [wr, eq_self, true_and, and_true, cond_true, cond_false, onS, Bool.not_true, Bool.not_false, Int.toNat_natCast]
    refine ⟨fun vs h' => match vs with
      | [.int _ j] => a ≤ j ∧ j ≤ i ∧ ∃ d', SS en g q fr bk n d' h' ∧ Sw a b d d' ∧ ∀ p r, a ≤ p → p < r → r ≤ i → r ≠ j → lt (d' r) (d' p) = false
      | _ => False, fun vs _ => match vs with
      | [.int _ j] => (j - a).toNat
      | _ => 0, ⟨by omega, by omega, d1, s1, w1, fun p r h1 h2 h3 h4 => o1 p r h1 h2 (by omega)⟩, ?_⟩
    rintro bs2 j h2 ⟨hj1, hj2, d2, s2, w2, o2⟩
    cases haj : ltI a j with
    | false =>
      rw [ltI_eq, decide_eq_false_iff_not] at haj
      simp (disch := omega) only [wr, eq_self, true_and, and_true, cond_true, cond_false, onS, Bool.not_true, Bool.not_false, Int.toNat_natCast]
      refine ⟨⟨by omega, by omega, d2, s2, w2, fun p r h1 h2 h3 => o2 p r h1 h2 (by omega) (by omega)⟩, by omega⟩
    | true =>
      rw [ltI_eq, decide_eq_true_eq] at haj
      simp (disch := omega) only [wr, eq_self, true_and, and_true, cond_true, cond_false, onS, Bool.not_true, Bool.not_false, Int.toNat_natCast]
      refine ⟨⟨by omega, by omega⟩, d2 j, s2.ld (by omega) (by omega), ⟨by omega, by omega⟩, d2 (j - 1), s2.ld (by omega) (by omega), ?_⟩
      refine (less_spec _ _).mono ?_
      rintro _ _ ⟨rfl, rfl⟩
      refine ⟨_, rfl, ?_⟩
      cases hc : lt (d2 j) (d2 (j - 1)) with
      | true =>
        obtain ⟨g1, g2, e1, e2, s3⟩ := s2.swap (i := j) (j := j - 1) (by omega) (by omega) (by omega) (by omega)
        simp (disch := omega) only [wr, eq_self, true_and, and_true, cond_true, cond_false, onS, Bool.not_true, Bool.not_false, Int.toNat_natCast]
        refine ⟨⟨by omega, by omega⟩, d2 (j - 1), s2.ld (by omega) (by omega), ⟨by omega, by omega⟩, d2 j, s2.ld (by omega) (by omega), ⟨by omega, by omega⟩, g1, e1, ⟨by omega, by omega⟩, g2, e2, ⟨by omega, by omega, _, s3, w2.step j (j - 1) (by omega) (by omega) (by omega) (by omega), ?_⟩, by omega⟩
        intro p r hp hpr hr hrj
        by_cases e : r = j
        · subst e
          rw [sw_l]
          by_cases e : p = r - 1
          · subst e; rw [sw_r]; exact ordr.asym _ _ hc
          · rw [sw_ne _ (by omega) (by omega)]; exact o2 p (r - 1) hp (by omega) (by omega) (by omega)
        · rw [sw_ne _ e hrj]
          by_cases e1 : p = j
          · subst e1; rw [sw_l]; exact o2 (p - 1) r (by omega) (by omega) hr (by omega)
          · by_cases e2 : p = j - 1
            · subst e2; rw [sw_r]; exact o2 j r (by omega) (by omega) hr e
            · rw [sw_ne _ e1 e2]; exact o2 p r hp hpr hr e
      | false =>
        simp (disch := omega) only [wr, eq_self, true_and, and_true, cond_true, cond_false, onS, Bool.not_true, Bool.not_false, Int.toNat_natCast]
        refine ⟨⟨by omega, by omega, d2, s2, w2, fun p r hp hpr hr => ?_⟩, by omega⟩
        by_cases e : r = j
        · subst e
          by_cases e : p = r - 1
          · subst e; exact hc
          · exact ordr.trans _ _ _ (o2 p (r - 1) hp (by omega) (by omega) (by omega)) hc
        · exact o2 p r hp hpr (by omega) e

/-- the heap's law from place lo on, of hi places behind first -/
def Hep (first lo hi : Int) (d : Int → E) : Prop := ∀ k c, lo ≤ k → (c = 2 * k + 1 ∨ c = 2 * k + 2) → c < hi → lt (d (first + k)) (d (first + c)) = false

theorem sift_spec {lo hi first : Int} (s : SS en g q fr bk n d h) (h0 : 0 ≤ lo) (h2 : 0 ≤ first) (hb : first + hi ≤ n) (hlo : lo < hi ∨ hi = 0 ∧ lo = 0) (hn : (n : Int) ≤ 2305843009213693952) (hh : Hep first (lo + 1) hi d) :
    XCalls Try.prog 39 [.slc (some (q, fr.length)) n f, .int .i64 lo, .int .i64 hi, .int .i64 first] h fun v h' => v = .tup [] ∧ ∃ d', SS en g q fr bk n d' h' ∧ Sw (first + lo) (first + hi) d d' ∧ Hep first lo hi d' := by
  apply x39; unfold X39
  simp (disch := omega) only [wr, eq_self, true_and, and_true, cond_true, cond_false, onS, Bool.not_true, Bool.not_false, Int.toNat_natCast]
  refine ⟨fun vs h' => match vs with
    | [.int _ r] => lo ≤ r ∧ (r < hi ∨ hi = 0 ∧ r = 0) ∧ ∃ d', SS en g q fr bk n d' h' ∧ Sw (first + lo) (first + hi) d d' ∧ (∀ k c, lo ≤ k → k ≠ r → (c = 2 * k + 1 ∨ c = 2 * k + 2) → c < hi → lt (d' (first + k)) (d' (first + c)) = false) ∧
        (∀ k c, lo ≤ k → (r = 2 * k + 1 ∨ r = 2 * k + 2) → (c = 2 * r + 1 ∨ c = 2 * r + 2) → c < hi → lt (d' (first + k)) (d' (first + c)) = false)
    | _ => False, fun vs _ => match vs with
    | [.int _ r] => (hi - r).toNat
    | _ => 0, ⟨by omega, by omega, d, s, .refl, fun k c h1 h2 h3 h4 => hh k c (by omega) h3 h4, fun k c h1 h2 h3 h4 => by omega⟩, ?_⟩
  rintro bs r g1 ⟨hr1, hr2, d1, s1, w1, o1, o2⟩
  simp (disch := omega) only [wr, eq_self, true_and, and_true, cond_true, cond_false, onS, Bool.not_true, Bool.not_false, Int.toNat_natCast]
  cases hc : ltI (2 * r + 1) hi with
  | false =>
    rw [ltI_eq, decide_eq_false_iff_not] at hc
    refine ⟨d1, s1, w1, fun k c h1 h2 h3 => ?_⟩
    by_cases e : k = r
    · omega
    · exact o1 k c h1 e h2 h3
  | true =>
    rw [ltI_eq, decide_eq_true_eq] at hc
    simp (disch := omega) only [wr, eq_self, true_and, and_true, cond_true, cond_false, onS, Bool.not_true, Bool.not_false, Int.toNat_natCast]
    refine ⟨fun vs h' => match vs with
      | [.int _ c] => h' = g1 ∧ (c = 2 * r + 1 ∨ c = 2 * r + 2) ∧ c < hi ∧ ∀ c', (c' = 2 * r + 1 ∨ c' = 2 * r + 2) → c' < hi → lt (d1 (first + c)) (d1 (first + c')) = false
      | _ => False, ?_, ?_⟩
    · cases hc2 : ltI (2 * r + 1 + 1) hi with
      | false =>
        rw [ltI_eq, decide_eq_false_iff_not] at hc2
        refine ⟨rfl, .inl rfl, hc, fun c' h1 h2 => ?_⟩
        obtain rfl : c' = 2 * r + 1 := by omega
        exact ordr.irr _
      | true =>
        rw [ltI_eq, decide_eq_true_eq] at hc2
        simp (disch := omega) only [wr, eq_self, true_and, and_true, cond_true, cond_false, onS, Bool.not_true, Bool.not_false, Int.toNat_natCast]
        refine ⟨⟨by omega, by omega⟩, d1 (first + (2 * r + 1)), s1.ld (by omega) (by omega), ⟨by omega, by omega⟩, d1 (first + (2 * r + 1) + 1), s1.ld (by omega) (by omega), ?_⟩
        refine (less_spec _ _).mono ?_
        rintro _ _ ⟨rfl, rfl⟩
        refine ⟨_, rfl, ?_⟩
        cases hl : lt (d1 (first + (2 * r + 1))) (d1 (first + (2 * r + 1) + 1)) with
        | true =>
          refine ⟨rfl, .inr (by omega), by omega, fun c' h1 h2 => ?_⟩
          rw [show first + (2 * r + 1 + 1) = first + (2 * r + 1) + 1 by omega]
          rcases h1 with rfl | rfl
          · exact ordr.asym _ _ hl
          · rw [show first + (2 * r + 2) = first + (2 * r + 1) + 1 by omega]; exact ordr.irr _
        | false =>
          refine ⟨(by trivial), .inl (by trivial), by omega, fun c' h1 h2 => ?_⟩
          rcases h1 with rfl | rfl
          · exact ordr.irr _
          · rw [show first + (2 * r + 2) = first + (2 * r + 1) + 1 by omega]; exact hl
    · rintro bs2 c g2 ⟨rfl, hc1, hc3, hmax⟩
      simp (disch := omega) only [wr, eq_self, true_and, and_true, cond_true, cond_false, onS, Bool.not_true, Bool.not_false, Int.toNat_natCast]
      refine ⟨⟨by omega, by omega⟩, d1 (first + r), s1.ld (by omega) (by omega), ⟨by omega, by omega⟩, d1 (first + c), s1.ld (by omega) (by omega), ?_⟩
      refine (less_spec _ _).mono ?_
      rintro _ _ ⟨rfl, rfl⟩
      refine ⟨_, rfl, ?_⟩
      cases hl : lt (d1 (first + r)) (d1 (first + c)) with
      | false =>
        refine ⟨d1, s1, w1, fun k c' h1 h2 h3 => ?_⟩
        by_cases e : k = r
        · subst e; exact ordr.trans _ _ _ (hmax c' h2 h3) hl
        · exact o1 k c' h1 e h2 h3
      | true =>
        obtain ⟨q1, q2, e1, e2, s3⟩ := s1.swap (i := first + r) (j := first + c) (by omega) (by omega) (by omega) (by omega)
        simp (disch := omega) only [wr, eq_self, true_and, and_true, cond_true, cond_false, onS, Bool.not_true, Bool.not_false, Int.toNat_natCast]
        refine ⟨⟨by omega, by omega⟩, d1 (first + c), s1.ld (by omega) (by omega), ⟨by omega, by omega⟩, d1 (first + r), s1.ld (by omega) (by omega), ⟨by omega, by omega⟩, q1, e1, ⟨by omega, by omega⟩, q2, e2, ⟨by omega, by omega, _, s3, w1.step _ _ (by omega) (by omega) (by omega) (by omega), ?_, ?_⟩, by omega⟩
        · intro k c' h1 hk h3 h4
          by_cases e : k = r
          · subst e
            rw [sw_l]
            by_cases e : c' = c
            · subst e; rw [sw_r]; exact ordr.asym _ _ hl
            · rw [sw_ne _ (by omega) (by omega)]; exact hmax c' h3 h4
          · rw [sw_ne (k := first + k) _ (by omega) (by omega)]
            by_cases e1 : c' = r
            · subst e1; rw [sw_l]; exact o2 k c h1 h3 hc1 hc3
            · rw [sw_ne _ (by omega) (by omega)]; exact o1 k c' h1 e h3 h4
        · intro k c' h1 hk h3 h4
          obtain rfl : k = r := by omega
          rw [sw_l, sw_ne _ (by omega) (by omega)]
          exact o1 c c' (by omega) (by omega) h3 h4

theorem Hep.max {first hi : Int} {d : Int → E} (hh : Hep first 0 hi d) : ∀ (m : Nat) (k : Int), k = m → k < hi → lt (d first) (d (first + k)) = false := by
  intro m
  induction m using Nat.strongRecOn with
  | ind m ih =>
    intro k hk hlt
    by_cases e : k = 0
    · subst e; rw [Int.add_zero]; exact ordr.irr _
    · have h1 := ih ((m - 1) / 2) (by omega) ((k - 1) / 2) (by omega) (by omega)
      exact ordr.trans _ _ _ (hh ((k - 1) / 2) k (by omega) (by omega) hlt) h1

theorem heap_spec (s : SS en g q fr bk n d h) (h0 : 0 ≤ a) (hab : a ≤ b) (hb : b ≤ n) (hn : (n : Int) ≤ 2305843009213693952) :
    XCalls Try.prog 29 [.slc (some (q, fr.length)) n f, .int .i64 a, .int .i64 b] h fun v h' => v = .tup [] ∧ ∃ d', SS en g q fr bk n d' h' ∧ Sw a b d d' ∧ Srt lt a b d' := by
  apply x29; unfold X29
  have ht : (b - a - 1).tdiv 2 = if b = a then 0 else (b - a - 1) / 2 := by
    split
    · rename_i e; subst e; rw [Int.sub_self]; decide
    · rw [Int.tdiv_eq_ediv_of_nonneg (by omega)]
  have hb1 : -1 ≤ (b - a - 1).tdiv 2 ∧ (b - a - 1).tdiv 2 ≤ n := by rw [ht]; split <;> omega
  simp (disch := omega) only [wr, eq_self, true_and, and_true, cond_true, cond_false, onS, Bool.not_true, Bool.not_false, Int.toNat_natCast]
  refine ⟨by decide, fun vs h' => match vs with
    | [.int _ i] => -1 ≤ i ∧ (i < b - a ∨ i = 0) ∧ ∃ d', SS en g q fr bk n d' h' ∧ Sw a b d d' ∧ Hep a (i + 1) (b - a) d'
    | _ => False, fun vs _ => match vs with
    | [.int _ i] => (i + 1).toNat
    | _ => 0, ⟨by omega, by rw [ht]; split <;> omega, d, s, .refl, fun k c h1 h2 h3 => by rw [ht] at h1; split at h1 <;> omega⟩, ?_⟩
  rintro bs i h1 ⟨hi1, hi2, d1, s1, w1, o1⟩
  cases hib : ltI i 0 with
  | false =>
    rw [ltI_eq, decide_eq_false_iff_not] at hib
    simp (disch := omega) only [wr, eq_self, true_and, and_true, cond_true, cond_false, onS, Bool.not_true, Bool.not_false, Int.toNat_natCast]
    refine (sift_spec s1 (by omega) (by omega) (by omega) (by omega) hn o1).mono ?_
    rintro _ h2 ⟨rfl, d2, s2, w2, o2⟩
    exact ⟨⟨by omega, by omega, d2, s2, w1.trans (w2.mono (by omega) (by omega)), by rw [Int.sub_add_cancel]; exact o2⟩, by omega⟩
  | true =>
    rw [ltI_eq, decide_eq_true_eq] at hib
    obtain rfl : i = -1 := by omega
    have o1' : Hep a 0 (b - a) d1 := o1
    simp (disch := omega) only [wr, eq_self, true_and, and_true, cond_true, cond_false, onS, Bool.not_true, Bool.not_false, Int.toNat_natCast]
    refine ⟨fun vs h' => match vs with
      | [.int _ i] => -1 ≤ i ∧ i < b - a ∧ ∃ d', SS en g q fr bk n d' h' ∧ Sw a b d d' ∧ Hep a 0 (i + 1) d' ∧ Fix lt a b a (a + i + 1) d'
      | _ => False, fun vs _ => match vs with
      | [.int _ i] => (i + 1).toNat
      | _ => 0, ⟨by omega, by omega, d1, s1, w1, by rw [Int.sub_add_cancel]; exact o1', fun p r h1 h2 h3 h4 => by omega⟩, ?_⟩
    rintro bs2 i h2 ⟨hi1, hi2, d2, s2, w2, o2, x2⟩
    cases hib : ltI i 0 with
    | true =>
      rw [ltI_eq, decide_eq_true_eq] at hib
      exact ⟨d2, s2, w2, fun p r h1 h2 h3 => x2 p r h1 h2 h3 (by omega)⟩
    | false =>
      rw [ltI_eq, decide_eq_false_iff_not] at hib
      obtain ⟨q1, q2, e1, e2, s3⟩ := s2.swap (i := a) (j := a + i) (by omega) (by omega) (by omega) (by omega)
      simp (disch := omega) only [wr, eq_self, true_and, and_true, cond_true, cond_false, onS, Bool.not_true, Bool.not_false, Int.toNat_natCast]
      refine ⟨⟨by omega, by omega⟩, d2 (a + i), s2.ld (by omega) (by omega), ⟨by omega, by omega⟩, d2 a, s2.ld (by omega) (by omega), ⟨by omega, by omega⟩, q1, e1, ⟨by omega, by omega⟩, q2, e2, ?_⟩
      refine (sift_spec s3 (by omega) (by omega) (by omega) (by omega) hn ?_).mono ?_
      · intro k c h1 h3 h4
        rw [sw_ne _ (by omega) (by omega), sw_ne _ (by omega) (by omega)]
        exact o2 k c (by omega) h3 (by omega)
      rintro _ h3 ⟨rfl, d3, s4, w3, o3⟩
      rw [Int.add_zero] at w3
      refine ⟨⟨by omega, by omega, d3, s4, (w2.step a (a + i) (by omega) (by omega) (by omega) (by omega)).trans (w3.mono (by omega) (by omega)), by rw [Int.sub_add_cancel]; exact o3, ?_⟩, by omega⟩
      have hfix : Fix lt a b a (a + i) (sw d2 a (a + i)) := by
        intro p r h1 h4 h5 h6
        by_cases e : r = a + i
        · subst e
          rw [sw_r]
          by_cases e1 : p = a
          · subst e1; rw [sw_l]; have := o2.max i.toNat i (by omega) (by omega); exact this
          · rw [sw_ne _ e1 (by omega)]
            have := o2.max (p - a).toNat (p - a) (by omega) (by omega)
            rw [show a + (p - a) = p by omega] at this; exact this
        · rw [sw_ne (k := r) _ (by omega) (by omega)]
          by_cases e1 : p = a
          · subst e1; rw [sw_l]; exact x2 (p + i) r (by omega) (by omega) h5 (.inr (by omega))
          · by_cases e2 : p = a + i
            · subst e2; rw [sw_r]; exact x2 a r (by omega) (by omega) h5 (.inr (by omega))
            · rw [sw_ne _ e1 e2]; exact x2 p r h1 h4 h5 (.inr (by omega))
      have := hfix.keep (by omega) (by omega) w3
      rw [show a + (i - 1) + 1 = a + i by omega]; exact this
end
end Go.Vex.Sort
