/-
  Contracts of Go's slices.Sort, first part: insertion, heap.
  Contracts of Go's slices.Sort, second part: turning round, medians, how many bits, patterns broken, the pivot.
  Contracts of Go's slices.Sort, third part: partition, the nearly sorted, the whole.
  Contracts of Go's slices.Sort, last part: pattern-defeating quicksort sorts; slices.Sort.
  Contracts of slices.Sorted(maps.Keys(m)).
-/
import Derived.Test.YteknlobdnjcdbaaVexBB
import Derived.Test.YteknlobdnjcdbaaTab23
import Derived.Test.YteknlobdnjcdbaaXs23
import Derived.Test.YteknlobdnjcdbaaVexCC
import Derived.Test.YteknlobdnjcdbaaXk23
set_option linter.unusedVariables false
set_option linter.unusedSimpArgs false
namespace Go.Vex.Sort
open Go.Proofs

abbrev E := Int
abbrev en (x : E) : V := .int .u64 x
abbrev lt : E → E → Bool := ltI
theorem ordr : Ordr lt where
  irr := fun x => by simp [lt, ltI_eq]
  asym := fun x y h => by simp only [lt, ltI_eq, decide_eq_true_eq, decide_eq_false_iff_not] at *; omega
  trans := fun x y z h1 h2 => by simp only [lt, ltI_eq, decide_eq_false_iff_not] at *; omega

section
variable {g h : Hp} {q n : Nat} {fr bk : List V} {d : Int → E} {f : Bool} {a b : Int}

theorem nan_spec {h : Hp} (x : E) : XCalls Try.prog 78 [en x] h fun v h' => v = .bool false ∧ h' = h := by
  apply x78; unfold X78; exact ⟨by simp, rfl⟩

theorem less_spec {h : Hp} (x y : E) : XCalls Try.prog 68 [en x, en y] h fun v h' => v = .bool (lt x y) ∧ h' = h := by
  apply x68; unfold X68
  refine (nan_spec x).mono ?_
  rintro _ _ ⟨rfl, rfl⟩
  exact ⟨_, rfl, rfl, rfl⟩

theorem ins_spec (s : SS en g q fr bk n d h) (h0 : 0 ≤ a) (hab : a ≤ b) (hb : b ≤ n) (hn : (n : Int) ≤ 4611686018427387904) :
    XCalls Try.prog 62 [.slc (some (q, fr.length)) n f, .int .i64 a, .int .i64 b] h fun v h' => v = .tup [] ∧ ∃ d', SS en g q fr bk n d' h' ∧ Sw a b d d' ∧ Srt lt a b d' := by
  apply x62; unfold X62
  simp (disch := omega) only [wr, eq_self, true_and, and_true, cond_true, cond_false, onS, Bool.not_true, Bool.not_false, Int.toNat_natCast]
  refine ⟨fun vs h' => match vs with
    | [.int _ i] => a + 1 ≤ i ∧ (i ≤ b ∨ i = a + 1) ∧ ∃ d', SS en g q fr bk n d' h' ∧ Sw a b d d' ∧ Srt lt a i d'
    | _ => False, fun vs _ => match vs with
    | [.int _ i] => (b - i).toNat
    | _ => 0, ⟨by omega, .inr rfl, d, s, .refl, fun p r h1 h2 h3 => by omega⟩, ?_⟩
  rintro bs i h1 ⟨hi1, hi2, d1, s1, w1, o1⟩
  cases hib : ltI i b with
  | false =>
    rw [ltI_eq, decide_eq_false_iff_not] at hib
    exact ⟨d1, s1, w1, fun p r h1 h2 h3 => o1 p r h1 h2 (by omega)⟩
  | true =>
    rw [ltI_eq, decide_eq_true_eq] at hib
    simp (disch := omega) only [wr, eq_self, true_and, and_true, cond_true, cond_false, onS, Bool.not_true, Bool.not_false, Int.toNat_natCast]
    refine ⟨fun vs h' => match vs with
      | [.int _ j] => a ≤ j ∧ j ≤ i ∧ ∃ d', SS en g q fr bk n d' h' ∧ Sw a b d d' ∧ ∀ p r, a ≤ p → p < r → r ≤ i → r ≠ j → lt (d' r) (d' p) = false
      | _ => False, fun vs _ => match vs with
      | [.int _ j] => (j - a).toNat
      | _ => 0, ⟨by omega, by omega, d1, s1, w1, fun p r h1 h2 h3 h4 => o1 p r h1 h2 (by omega)⟩, ?_⟩
    rintro bs2 j h2 ⟨hj1, hj2, d2, s2, w2, o2⟩
    cases haj : ltI a j with
    | false =>
      rw [ltI_eq, decide_eq_false_iff_not] at haj
      simp (disch := omega) only [wr, eq_self, true_and, and_true, cond_true, cond_false, onS, Bool.not_true, Bool.not_false, Int.toNat_natCast]
      refine ⟨⟨by omega, by omega, d2, s2, w2, fun p r h1 h2 h3 => o2 p r h1 h2 (by omega) (by omega)⟩, by omega⟩
    | true =>
      rw [ltI_eq, decide_eq_true_eq] at haj
      simp (disch := omega) only [wr, eq_self, true_and, and_true, cond_true, cond_false, onS, Bool.not_true, Bool.not_false, Int.toNat_natCast]
      refine ⟨⟨by omega, by omega⟩, d2 j, s2.ld (by omega) (by omega), ⟨by omega, by omega⟩, d2 (j - 1), s2.ld (by omega) (by omega), ?_⟩
      refine (less_spec _ _).mono ?_
      rintro _ _ ⟨rfl, rfl⟩
      refine ⟨_, rfl, ?_⟩
      cases hc : lt (d2 j) (d2 (j - 1)) with
      | true =>
        obtain ⟨g1, g2, e1, e2, s3⟩ := s2.swap (i := j) (j := j - 1) (by omega) (by omega) (by omega) (by omega)
        simp (disch := omega) only [wr, eq_self, true_and, and_true, cond_true, cond_false, onS, Bool.not_true, Bool.not_false, Int.toNat_natCast]
        refine ⟨⟨by omega, by omega⟩, d2 (j - 1), s2.ld (by omega) (by omega), ⟨by omega, by omega⟩, d2 j, s2.ld (by omega) (by omega), ⟨by omega, by omega⟩, g1, e1, ⟨by omega, by omega⟩, g2, e2, ⟨by omega, by omega, _, s3, w2.step j (j - 1) (by omega) (by omega) (by omega) (by omega), ?_⟩, by omega⟩
        intro p r hp hpr hr hrj
        by_cases e : r = j
        · subst e
          rw [sw_l]
          by_cases e : p = r - 1
          · subst e; rw [sw_r]; exact ordr.asym _ _ hc
          · rw [sw_ne _ (by omega) (by omega)]; exact o2 p (r - 1) hp (by omega) (by omega) (by omega)
        · rw [sw_ne _ e hrj]
          by_cases e1 : p = j
          · subst e1; rw [sw_l]; exact o2 (p - 1) r (by omega) (by omega) hr (by omega)
          · by_cases e2 : p = j - 1
            · subst e2; rw [sw_r]; exact o2 j r (by omega) (by omega) hr e
            · rw [sw_ne _ e1 e2]; exact o2 p r hp hpr hr e
      | false =>
        simp (disch := omega) only [wr, eq_self, true_and, and_true, cond_true, cond_false, onS, Bool.not_true, Bool.not_false, Int.toNat_natCast]
        refine ⟨⟨by omega, by omega, d2, s2, w2, fun p r hp hpr hr => ?_⟩, by omega⟩
        by_cases e : r = j
        · subst e
          by_cases e : p = r - 1
          · subst e; exact hc
          · exact ordr.trans _ _ _ (o2 p (r - 1) hp (by omega) (by omega) (by omega)) hc
        · exact o2 p r hp hpr (by omega) e

/-- the heap's law from place lo on, of hi places behind first -/
def Hep (first lo hi : Int) (d : Int → E) : Prop := ∀ k c, lo ≤ k → (c = 2 * k + 1 ∨ c = 2 * k + 2) → c < hi → lt (d (first + k)) (d (first + c)) = false

theorem sift_spec {lo hi first : Int} (s : SS en g q fr bk n d h) (h0 : 0 ≤ lo) (h2 : 0 ≤ first) (hb : first + hi ≤ n) (hlo : lo < hi ∨ hi = 0 ∧ lo = 0) (hn : (n : Int) ≤ 2305843009213693952) (hh : Hep first (lo + 1) hi d) :
    XCalls Try.prog 73 [.slc (some (q, fr.length)) n f, .int .i64 lo, .int .i64 hi, .int .i64 first] h fun v h' => v = .tup [] ∧ ∃ d', SS en g q fr bk n d' h' ∧ Sw (first + lo) (first + hi) d d' ∧ Hep first lo hi d' := by
  apply x73; unfold X73
  simp (disch := omega) only [wr, eq_self, true_and, and_true, cond_true, cond_false, onS, Bool.not_true, Bool.not_false, Int.toNat_natCast]
  refine ⟨fun vs h' => match vs with
    | [.int _ r] => lo ≤ r ∧ (r < hi ∨ hi = 0 ∧ r = 0) ∧ ∃ d', SS en g q fr bk n d' h' ∧ Sw (first + lo) (first + hi) d d' ∧ (∀ k c, lo ≤ k → k ≠ r → (c = 2 * k + 1 ∨ c = 2 * k + 2) → c < hi → lt (d' (first + k)) (d' (first + c)) = false) ∧
        (∀ k c, lo ≤ k → (r = 2 * k + 1 ∨ r = 2 * k + 2) → (c = 2 * r + 1 ∨ c = 2 * r + 2) → c < hi → lt (d' (first + k)) (d' (first + c)) = false)
    | _ => False, fun vs _ => match vs with
    | [.int _ r] => (hi - r).toNat
    | _ => 0, ⟨by omega, by omega, d, s, .refl, fun k c h1 h2 h3 h4 => hh k c (by omega) h3 h4, fun k c h1 h2 h3 h4 => by omega⟩, ?_⟩
  rintro bs r g1 ⟨hr1, hr2, d1, s1, w1, o1, o2⟩
  simp (disch := omega) only [wr, eq_self, true_and, and_true, cond_true, cond_false, onS, Bool.not_true, Bool.not_false, Int.toNat_natCast]
  cases hc : ltI (2 * r + 1) hi with
  | false =>
    rw [ltI_eq, decide_eq_false_iff_not] at hc
    refine ⟨d1, s1, w1, fun k c h1 h2 h3 => ?_⟩
    by_cases e : k = r
    · omega
    · exact o1 k c h1 e h2 h3
  | true =>
    rw [ltI_eq, decide_eq_true_eq] at hc
    simp (disch := omega) only [wr, eq_self, true_and, and_true, cond_true, cond_false, onS, Bool.not_true, Bool.not_false, Int.toNat_natCast]
    refine ⟨fun vs h' => match vs with
      | [.int _ c] => h' = g1 ∧ (c = 2 * r + 1 ∨ c = 2 * r + 2) ∧ c < hi ∧ ∀ c', (c' = 2 * r + 1 ∨ c' = 2 * r + 2) → c' < hi → lt (d1 (first + c)) (d1 (first + c')) = false
      | _ => False, ?_, ?_⟩
    · cases hc2 : ltI (2 * r + 1 + 1) hi with
      | false =>
        rw [ltI_eq, decide_eq_false_iff_not] at hc2
        refine ⟨rfl, .inl rfl, hc, fun c' h1 h2 => ?_⟩
        obtain rfl : c' = 2 * r + 1 := by omega
        exact ordr.irr _
      | true =>
        rw [ltI_eq, decide_eq_true_eq] at hc2
        simp (disch := omega) only [wr, eq_self, true_and, and_true, cond_true, cond_false, onS, Bool.not_true, Bool.not_false, Int.toNat_natCast]
        refine ⟨⟨by omega, by omega⟩, d1 (first + (2 * r + 1)), s1.ld (by omega) (by omega), ⟨by omega, by omega⟩, d1 (first + (2 * r + 1) + 1), s1.ld (by omega) (by omega), ?_⟩
        refine (less_spec _ _).mono ?_
        rintro _ _ ⟨rfl, rfl⟩
        refine ⟨_, rfl, ?_⟩
        cases hl : lt (d1 (first + (2 * r + 1))) (d1 (first + (2 * r + 1) + 1)) with
        | true =>
          refine ⟨rfl, .inr (by omega), by omega, fun c' h1 h2 => ?_⟩
          rw [show first + (2 * r + 1 + 1) = first + (2 * r + 1) + 1 by omega]
          rcases h1 with rfl | rfl
          · exact ordr.asym _ _ hl
          · rw [show first + (2 * r + 2) = first + (2 * r + 1) + 1 by omega]; exact ordr.irr _
        | false =>
          refine ⟨(by trivial), .inl (by trivial), by omega, fun c' h1 h2 => ?_⟩
          rcases h1 with rfl | rfl
          · exact ordr.irr _
          · rw [show first + (2 * r + 2) = first + (2 * r + 1) + 1 by omega]; exact hl
    · rintro bs2 c g2 ⟨rfl, hc1, hc3, hmax⟩
      simp (disch := omega) only [wr, eq_self, true_and, and_true, cond_true, cond_false, onS, Bool.not_true, Bool.not_false, Int.toNat_natCast]
      refine ⟨⟨by omega, by omega⟩, d1 (first + r), s1.ld (by omega) (by omega), ⟨by omega, by omega⟩, d1 (first + c), s1.ld (by omega) (by omega), ?_⟩
      refine (less_spec _ _).mono ?_
      rintro _ _ ⟨rfl, rfl⟩
      refine ⟨_, rfl, ?_⟩
      cases hl : lt (d1 (first + r)) (d1 (first + c)) with
      | false =>
        refine ⟨d1, s1, w1, fun k c' h1 h2 h3 => ?_⟩
        by_cases e : k = r
        · subst e; exact ordr.trans _ _ _ (hmax c' h2 h3) hl
        · exact o1 k c' h1 e h2 h3
      | true =>
        obtain ⟨q1, q2, e1, e2, s3⟩ := s1.swap (i := first + r) (j := first + c) (by omega) (by omega) (by omega) (by omega)
        simp (disch := omega) only [wr, eq_self, true_and, and_true, cond_true, cond_false, onS, Bool.not_true, Bool.not_false, Int.toNat_natCast]
        refine ⟨⟨by omega, by omega⟩, d1 (first + c), s1.ld (by omega) (by omega), ⟨by omega, by omega⟩, d1 (first + r), s1.ld (by omega) (by omega), ⟨by omega, by omega⟩, q1, e1, ⟨by omega, by omega⟩, q2, e2, ⟨by omega, by omega, _, s3, w1.step _ _ (by omega) (by omega) (by omega) (by omega), ?_, ?_⟩, by omega⟩
        · intro k c' h1 hk h3 h4
          by_cases e : k = r
          · subst e
            rw [sw_l]
            by_cases e : c' = c
            · subst e; rw [sw_r]; exact ordr.asym _ _ hl
            · rw [sw_ne _ (by omega) (by omega)]; exact hmax c' h3 h4
          · rw [sw_ne (k := first + k) _ (by omega) (by omega)]
            by_cases e1 : c' = r
            · subst e1; rw [sw_l]; exact o2 k c h1 h3 hc1 hc3
            · rw [sw_ne _ (by omega) (by omega)]; exact o1 k c' h1 e h3 h4
        · intro k c' h1 hk h3 h4
          obtain rfl : k = r := by omega
          rw [sw_l, sw_ne _ (by omega) (by omega)]
          exact o1 c c' (by omega) (by omega) h3 h4

theorem Hep.max {first hi : Int} {d : Int → E} (hh : Hep first 0 hi d) : ∀ (m : Nat) (k : Int), k = m → k < hi → lt (d first) (d (first + k)) = false := by
  intro m
  induction m using Nat.strongRecOn with
  | ind m ih =>
    intro k hk hlt
    by_cases e : k = 0
    · subst e; rw [Int.add_zero]; exact ordr.irr _
    · have h1 := ih ((m - 1) / 2) (by omega) ((k - 1) / 2) (by omega) (by omega)
      exact ordr.trans _ _ _ (hh ((k - 1) / 2) k (by omega) (by omega) hlt) h1

theorem heap_spec (s : SS en g q fr bk n d h) (h0 : 0 ≤ a) (hab : a ≤ b) (hb : b ≤ n) (hn : (n : Int) ≤ 2305843009213693952) :
    XCalls Try.prog 63 [.slc (some (q, fr.length)) n f, .int .i64 a, .int .i64 b] h fun v h' => v = .tup [] ∧ ∃ d', SS en g q fr bk n d' h' ∧ Sw a b d d' ∧ Srt lt a b d' := by
  apply x63; unfold X63
  have ht : (b - a - 1).tdiv 2 = if b = a then 0 else (b - a - 1) / 2 := by
    split
    · rename_i e; subst e; rw [Int.sub_self]; decide
    · rw [Int.tdiv_eq_ediv_of_nonneg (by omega)]
  have hb1 : -1 ≤ (b - a - 1).tdiv 2 ∧ (b - a - 1).tdiv 2 ≤ n := by rw [ht]; split <;> omega
  simp (disch := omega) only [wr, eq_self, true_and, and_true, cond_true, cond_false, onS, Bool.not_true, Bool.not_false, Int.toNat_natCast]
  refine ⟨by decide, fun vs h' => match vs with
    | [.int _ i] => -1 ≤ i ∧ (i < b - a ∨ i = 0) ∧ ∃ d', SS en g q fr bk n d' h' ∧ Sw a b d d' ∧ Hep a (i + 1) (b - a) d'
    | _ => False, fun vs _ => match vs with
    | [.int _ i] => (i + 1).toNat
    | _ => 0, ⟨by omega, by rw [ht]; split <;> omega, d, s, .refl, fun k c h1 h2 h3 => by rw [ht] at h1; split at h1 <;> omega⟩, ?_⟩
  rintro bs i h1 ⟨hi1, hi2, d1, s1, w1, o1⟩
  cases hib : ltI i 0 with
  | false =>
    rw [ltI_eq, decide_eq_false_iff_not] at hib
    simp (disch := omega) only [wr, eq_self, true_and, and_true, cond_true, cond_false, onS, Bool.not_true, Bool.not_false, Int.toNat_natCast]
    refine (sift_spec s1 (by omega) (by omega) (by omega) (by omega) hn o1).mono ?_
    rintro _ h2 ⟨rfl, d2, s2, w2, o2⟩
    exact ⟨⟨by omega, by omega, d2, s2, w1.trans (w2.mono (by omega) (by omega)), by rw [Int.sub_add_cancel]; exact o2⟩, by omega⟩
  | true =>
    rw [ltI_eq, decide_eq_true_eq] at hib
    obtain rfl : i = -1 := by omega
    have o1' : Hep a 0 (b - a) d1 := o1
    simp (disch := omega) only [wr, eq_self, true_and, and_true, cond_true, cond_false, onS, Bool.not_true, Bool.not_false, Int.toNat_natCast]
    refine ⟨fun vs h' => match vs with
      | [.int _ i] => -1 ≤ i ∧ i < b - a ∧ ∃ d', SS en g q fr bk n d' h' ∧ Sw a b d d' ∧ Hep a 0 (i + 1) d' ∧ Fix lt a b a (a + i + 1) d'
      | _ => False, fun vs _ => match vs with
      | [.int _ i] => (i + 1).toNat
      | _ => 0, ⟨by omega, by omega, d1, s1, w1, by rw [Int.sub_add_cancel]; exact o1', fun p r h1 h2 h3 h4 => by omega⟩, ?_⟩
    rintro bs2 i h2 ⟨hi1, hi2, d2, s2, w2, o2, x2⟩
    cases hib : ltI i 0 with
    | true =>
      rw [ltI_eq, decide_eq_true_eq] at hib
      exact ⟨d2, s2, w2, fun p r h1 h2 h3 => x2 p r h1 h2 h3 (by omega)⟩
    | false =>
      rw [ltI_eq, decide_eq_false_iff_not] at hib
      obtain ⟨q1, q2, e1, e2, s3⟩ := s2.swap (i := a) (j := a + i) (by omega) (by omega) (by omega) (by omega)
      simp (disch := omega) only [wr, eq_self, true_and, and_true, cond_true, cond_false, onS, Bool.not_true, Bool.not_false, Int.toNat_natCast]
      refine ⟨⟨by omega, by omega⟩, d2 (a + i), s2.ld (by omega) (by omega), ⟨by omega, by omega⟩, d2 a, s2.ld (by omega) (by omega), ⟨by omega, by omega⟩, q1, e1, ⟨by omega, by omega⟩, q2, e2, ?_⟩
      refine (sift_spec s3 (by omega) (by omega) (by omega) (by omega) hn ?_).mono ?_
      · intro k c h1 h3 h4
        rw [sw_ne _ (by omega) (by omega), sw_ne _ (by omega) (by omega)]
        exact o2 k c (by omega) h3 (by omega)
      rintro _ h3 ⟨rfl, d3, s4, w3, o3⟩
      rw [Int.add_zero] at w3
      refine ⟨⟨by omega, by omega, d3, s4, (w2.step a (a + i) (by omega) (by omega) (by omega) (by omega)).trans (w3.mono (by omega) (by omega)), by rw [Int.sub_add_cancel]; exact o3, ?_⟩, by omega⟩
      have hfix : Fix lt a b a (a + i) (sw d2 a (a + i)) := by
        intro p r h1 h4 h5 h6
        by_cases e : r = a + i
        · subst e
          rw [sw_r]
          by_cases e1 : p = a
          · subst e1; rw [sw_l]; have := o2.max i.toNat i (by omega) (by omega); exact this
          · rw [sw_ne _ e1 (by omega)]
            have := o2.max (p - a).toNat (p - a) (by omega) (by omega)
            rw [show a + (p - a) = p by omega] at this; exact this
        · rw [sw_ne (k := r) _ (by omega) (by omega)]
          by_cases e1 : p = a
          · subst e1; rw [sw_l]; exact x2 (p + i) r (by omega) (by omega) h5 (.inr (by omega))
          · by_cases e2 : p = a + i
            · subst e2; rw [sw_r]; exact x2 a r (by omega) (by omega) h5 (.inr (by omega))
            · rw [sw_ne _ e1 e2]; exact x2 p r h1 h4 h5 (.inr (by omega))
      have := hfix.keep (by omega) (by omega) w3
      rw [show a + (i - 1) + 1 = a + i by omega]; exact this
end
end Go.Vex.Sort
namespace Go.Vex.Sort
open Go.Proofs

section
variable {g h : Hp} {q n : Nat} {fr bk : List V} {d : Int → E} {f : Bool} {a b : Int}

theorem rev_spec (s : SS en g q fr bk n d h) (h0 : 0 ≤ a) (hab : a ≤ b) (hb : b ≤ n) (hn : (n : Int) ≤ 2305843009213693952) :
    XCalls Try.prog 66 [.slc (some (q, fr.length)) n f, .int .i64 a, .int .i64 b] h fun v h' => v = .tup [] ∧ ∃ d', SS en g q fr bk n d' h' ∧ Sw a b d d' := by
  apply x66; unfold X66
  simp (disch := omega) only [wr, eq_self, true_and, and_true, cond_true, cond_false, onS, Bool.not_true, Bool.not_false, Int.toNat_natCast]
  refine ⟨fun vs h' => match vs with
    | [.int _ i, .int _ j] => a ≤ i ∧ i ≤ b ∧ -1 ≤ j ∧ j < b ∧ ∃ d', SS en g q fr bk n d' h' ∧ Sw a b d d'
    | _ => False, fun vs _ => match vs with
    | [.int _ i, .int _ j] => (j - i).toNat
    | _ => 0, ⟨by omega, by omega, by omega, by omega, d, s, .refl⟩, ?_⟩
  rintro bs i j h1 ⟨hi, hib, hj1, hj, d1, s1, w1⟩
  cases hij : ltI i j with
  | false => exact ⟨d1, s1, w1⟩
  | true =>
    rw [ltI_eq, decide_eq_true_eq] at hij
    obtain ⟨g1, g2, e1, e2, s3⟩ := s1.swap (i := i) (j := j) (by omega) (by omega) (by omega) (by omega)
    simp (disch := omega) only [wr, eq_self, true_and, and_true, cond_true, cond_false, onS, Bool.not_true, Bool.not_false, Int.toNat_natCast]
    refine ⟨⟨by omega, by omega⟩, d1 j, s1.ld (by omega) (by omega), ⟨by omega, by omega⟩, d1 i, s1.ld (by omega) (by omega), ⟨by omega, by omega⟩, g1, e1, ⟨by omega, by omega⟩, g2, e2, ⟨by omega, by omega, by omega, by omega, _, s3, w1.step i j (by omega) (by omega) (by omega) (by omega)⟩, by omega⟩

def cell (m : Int) : O := .row [.int .i64 m] 1 false

theorem ord2_spec {p : Nat} {m : Int} (s : SS en g q fr bk n d h) (hp : h.get p = some (cell m)) (hpq : p ≠ q) (hpg : g.next ≤ p) (ha : 0 ≤ a) (han : a < n) (hb : 0 ≤ b) (hbn : b < n) :
    XCalls Try.prog 79 [.slc (some (q, fr.length)) n f, .int .i64 a, .int .i64 b, .ptr (some (p, 0))] h fun v h' => (v = .tup [.int .i64 a, .int .i64 b] ∨ v = .tup [.int .i64 b, .int .i64 a]) ∧ SS en g q fr bk n d h' ∧ ∃ m', h'.get p = some (cell m') := by
  apply x79; unfold X79
  refine ⟨⟨hb, hbn⟩, d b, s.ld hb hbn, ⟨ha, han⟩, d a, s.ld ha han, ?_⟩
  refine (less_spec _ _).mono ?_
  rintro _ _ ⟨rfl, rfl⟩
  refine ⟨_, rfl, ?_⟩
  cases hl : lt (d b) (d a) with
  | false => exact ⟨.inl rfl, s, m, hp⟩
  | true =>
    refine ⟨m, by rw [Hp.ld_of hp]; rfl, _, Hp.st_of hp (Nat.le_of_ble_eq_true rfl), .inr rfl, s.beside hp hpq hpg, IntKind.i64.wrap (m + 1), ?_⟩
    rw [Hp.get_set_self]; rfl

theorem med_spec {p : Nat} {m c : Int} (s : SS en g q fr bk n d h) (hp : h.get p = some (cell m)) (hpq : p ≠ q) (hpg : g.next ≤ p) (ha : 0 ≤ a) (han : a < n) (hb : 0 ≤ b) (hbn : b < n) (hc : 0 ≤ c) (hcn : c < n) :
    XCalls Try.prog 77 [.slc (some (q, fr.length)) n f, .int .i64 a, .int .i64 b, .int .i64 c, .ptr (some (p, 0))] h fun v h' => (∃ i, v = .int .i64 i ∧ (i = a ∨ i = b ∨ i = c)) ∧ SS en g q fr bk n d h' ∧ ∃ m', h'.get p = some (cell m') := by
  apply x77; unfold X77
  refine (ord2_spec s hp hpq hpg ha han hb hbn).mono ?_
  rintro v h1 ⟨hv, s1, m1, hp1⟩
  obtain ⟨i, j, rfl, hi, hj⟩ : ∃ i j, v = .tup [.int .i64 i, .int .i64 j] ∧ (i = a ∨ i = b) ∧ (j = a ∨ j = b) := by
    rcases hv with rfl | rfl
    · exact ⟨a, b, rfl, .inl rfl, .inr rfl⟩
    · exact ⟨b, a, rfl, .inr rfl, .inl rfl⟩
  refine ⟨_, _, rfl, ?_⟩
  refine (ord2_spec s1 hp1 hpq hpg (by omega) (by omega) hc hcn).mono ?_
  rintro v h2 ⟨hv, s2, m2, hp2⟩
  obtain ⟨k, l, rfl, hk, hl⟩ : ∃ k l, v = .tup [.int .i64 k, .int .i64 l] ∧ (k = j ∨ k = c) ∧ (l = j ∨ l = c) := by
    rcases hv with rfl | rfl
    · exact ⟨j, c, rfl, .inl rfl, .inr rfl⟩
    · exact ⟨c, j, rfl, .inr rfl, .inl rfl⟩
  refine ⟨_, _, rfl, ?_⟩
  refine (ord2_spec s2 hp2 hpq hpg (by omega) (by omega) (by omega) (by omega)).mono ?_
  rintro v h3 ⟨hv, s3, m3, hp3⟩
  obtain ⟨x, y, rfl, hx, hy⟩ : ∃ x y, v = .tup [.int .i64 x, .int .i64 y] ∧ (x = i ∨ x = k) ∧ (y = i ∨ y = k) := by
    rcases hv with rfl | rfl
    · exact ⟨i, k, rfl, .inl rfl, .inr rfl⟩
    · exact ⟨k, i, rfl, .inr rfl, .inl rfl⟩
  exact ⟨_, _, rfl, ⟨y, rfl, by omega⟩, s3, m3, hp3⟩

theorem meda_spec {p : Nat} {m : Int} (s : SS en g q fr bk n d h) (hp : h.get p = some (cell m)) (hpq : p ≠ q) (hpg : g.next ≤ p) (ha : 1 ≤ a) (han : a + 1 < n) (hn : (n : Int) ≤ 2305843009213693952) :
    XCalls Try.prog 76 [.slc (some (q, fr.length)) n f, .int .i64 a, .ptr (some (p, 0))] h fun v h' => (∃ i, v = .int .i64 i ∧ a - 1 ≤ i ∧ i ≤ a + 1) ∧ SS en g q fr bk n d h' ∧ ∃ m', h'.get p = some (cell m') := by
  apply x76; unfold X76
  simp (disch := omega) only [wr, eq_self, true_and, and_true, cond_true, cond_false, onS, Bool.not_true, Bool.not_false, Int.toNat_natCast]
  refine (med_spec s hp hpq hpg (by omega) (by omega) (by omega) (by omega) (by omega) (by omega)).mono ?_
  rintro v h1 ⟨⟨i, rfl, hi⟩, s1, m1, hp1⟩
  exact ⟨_, rfl, ⟨i, rfl, by omega⟩, s1, m1, hp1⟩

/-! ### bits -/

def tabOK (k : Nat) : Bool := match bitTab.get?Internal k with
  | some b => Nat.ble b.toNat 8 && (Nat.beq k 0 || Nat.ble (2 ^ b.toNat) (2 * k))
  | none => false

theorem tab_ok : ((List.range 256).all tabOK) = true := by decide +kernel

theorem tab_get {k : Nat} (hk : k < 256) : ∃ b, bitTab.get?Internal k = some b ∧ b.toNat ≤ 8 ∧ (1 ≤ k → 2 ^ b.toNat ≤ 2 * k) := by
  have h := List.all_eq_true.1 tab_ok k (by simp [hk])
  unfold tabOK at h
  split at h
  · rename_i b hb
    simp only [Bool.and_eq_true, ble_eq', decide_eq_true_eq, Bool.or_eq_true, nbeq] at h
    exact ⟨b, hb, h.1, fun h1 => by rcases h.2 with h2 | h2 <;> omega⟩
  · cases h

theorem u8w {x : Int} (h0 : 0 ≤ x) (h1 : x < 256) : IntKind.u8.wrap x = x := wrap_of (by simp [IntKind.min, IntKind.max, IntKind.signed, IntKind.bits]; omega)
theorem u64w {x : Int} (h0 : 0 ≤ x) (h1 : x < 18446744073709551616) : IntKind.u64.wrap x = x := wrap_of (by simp [IntKind.min, IntKind.max, IntKind.signed, IntKind.bits]; omega)

theorem pow_step {m k : Nat} {x y t : Int} (hx : y * 2 ^ m ≤ x) (hk : t * 2 ^ k ≤ y) {b : Nat} (hb : (2 : Int) ^ b ≤ 2 * t) : (2 : Int) ^ (m + k + b) ≤ 2 * x := by
  have p1 : (0 : Int) ≤ 2 ^ m := Int.pow_nonneg (by decide)
  have p2 : (0 : Int) ≤ 2 ^ k := Int.pow_nonneg (by decide)
  rw [Int.pow_add, Int.pow_add]
  have h1 := Int.mul_le_mul_of_nonneg_left hb (Int.mul_nonneg p1 p2)
  have h2 := Int.mul_le_mul_of_nonneg_left hk p1
  have h3 : (2 : Int) ^ m * 2 ^ k * (2 * t) = 2 * (2 ^ m * (t * 2 ^ k)) := by
    rw [Int.mul_comm 2 t, ← Int.mul_assoc, Int.mul_comm _ 2, Int.mul_assoc (2 ^ m), Int.mul_comm (2 ^ k) t]
  have h4 : (2 : Int) ^ m * y = y * 2 ^ m := Int.mul_comm _ _
  omega

theorem len64_spec {x : Int} (h0 : 0 ≤ x) (h1 : x < 18446744073709551616) :
    XCalls Try.prog 72 [.int .u64 x] h fun v h' => h' = h ∧ ∃ m : Nat, v = .int .i64 m ∧ m ≤ 64 ∧ (1 ≤ x → (2 : Int) ^ m ≤ 2 * x) := by
  apply x72; unfold X72
  refine ⟨fun vs h' => match vs with
    | [.int _ y, .int _ m] => h' = h ∧ 0 ≤ y ∧ y < 4294967296 ∧ (m = 0 ∨ m = 32) ∧ y * 2 ^ m.toNat ≤ x ∧ (1 ≤ x → 1 ≤ y)
    | _ => False, ?_, ?_⟩
  · cases hc : ltI x 4294967296 with
    | true =>
      rw [ltI_eq, decide_eq_true_eq] at hc
      exact ⟨rfl, rfl, h0, hc, .inl rfl, by simp, fun h => h⟩
    | false =>
      rw [ltI_eq, decide_eq_false_iff_not] at hc
      have e : x.fdiv (2 ^ min (Int.toNat 32) IntKind.u64.bits) = x / 4294967296 := by
        rw [Int.fdiv_eq_ediv_of_nonneg _ (by decide)]; rfl
      rw [e]
      exact ⟨by decide, rfl, rfl, by omega, by omega, .inr rfl, by show _ * (2 : Int) ^ 32 ≤ x; omega, fun h => by omega⟩
  rintro bs1 y m h1' ⟨rfl, hy0, hy1, hm, hyx, hyp⟩
  refine ⟨fun vs h' => match vs with
    | [.int _ z, .int _ k] => h' = h1' ∧ 0 ≤ z ∧ z < 65536 ∧ 0 ≤ k ∧ k ≤ 48 ∧ z * 2 ^ k.toNat ≤ x ∧ (1 ≤ x → 1 ≤ z)
    | _ => False, ?_, ?_⟩
  · cases hc : ltI y 65536 with
    | true =>
      rw [ltI_eq, decide_eq_true_eq] at hc
      exact ⟨rfl, rfl, hy0, hc, by omega, by omega, hyx, hyp⟩
    | false =>
      rw [ltI_eq, decide_eq_false_iff_not] at hc
      have e : y.fdiv (2 ^ min (Int.toNat 16) IntKind.u64.bits) = y / 65536 := by
        rw [Int.fdiv_eq_ediv_of_nonneg _ (by decide)]; rfl
      rw [e, wr (by omega) (by omega)]
      refine ⟨by decide, rfl, rfl, by omega, by omega, by omega, by omega, ?_, fun h => by omega⟩
      rcases hm with rfl | rfl
      · simp at hyx; show _ * (2 : Int) ^ 16 ≤ x; omega
      · have hyx : y * (2 : Int) ^ 32 ≤ x := hyx
        show _ * (2 : Int) ^ 48 ≤ x; omega
  rintro bs2 z k h2 ⟨rfl, hz0, hz1, hk0, hk1, hzx, hzp⟩
  obtain ⟨k, rfl⟩ := Int.eq_ofNat_of_zero_le hk0
  rw [Int.toNat_natCast] at hzx
  cases hc : ltI z 256 with
  | false =>
    rw [ltI_eq, decide_eq_false_iff_not] at hc
    have e : z.fdiv (2 ^ min (Int.toNat 8) IntKind.u64.bits) = z / 256 := by
      rw [Int.fdiv_eq_ediv_of_nonneg _ (by decide)]; rfl
    rw [e, u8w (by omega) (by omega)]
    obtain ⟨b, hb, hb8, hbp⟩ := tab_get (k := (z / 256).toNat) (by omega)
    have e2 : IntKind.i64.wrap (IntKind.i64.wrap ((k : Int) + 8) + IntKind.i64.wrap (b.toNat : Int)) = ((k + 8 + b.toNat : Nat) : Int) := by
      rw [wr (x := (b.toNat : Int)) (by omega) (by omega), wr (x := (k : Int) + 8) (by omega) (by omega), wr (by omega) (by omega)]; omega
    refine ⟨by decide, by omega, b, hb, ?_⟩
    rw [e2]
    refine ⟨rfl, _, rfl, by omega, fun h => pow_step (k := 8) (t := z / 256) hzx (by show _ * (2 : Int) ^ 8 ≤ z; omega) ?_⟩
    have := hbp (by omega)
    have h3 : ((2 ^ b.toNat : Nat) : Int) ≤ ((2 * (z / 256).toNat : Nat) : Int) := Int.ofNat_le.2 this
    rw [Int.natCast_pow] at h3
    have h4 : ((2 * (z / 256).toNat : Nat) : Int) = 2 * (z / 256) := by omega
    rw [h4] at h3
    exact h3
  | true =>
    rw [ltI_eq, decide_eq_true_eq] at hc
    rw [u8w (x := z) (by omega) (by omega)]
    obtain ⟨b, hb, hb8, hbp⟩ := tab_get (k := z.toNat) (by omega)
    have e2 : IntKind.i64.wrap ((k : Int) + IntKind.i64.wrap (b.toNat : Int)) = ((k + 0 + b.toNat : Nat) : Int) := by
      rw [wr (x := (b.toNat : Int)) (by omega) (by omega), wr (by omega) (by omega)]; omega
    refine ⟨by omega, b, hb, ?_⟩
    rw [e2]
    refine ⟨rfl, _, rfl, by omega, fun h => pow_step (k := 0) (t := z) hzx (by simp) ?_⟩
    have := hbp (by omega)
    have h3 : ((2 ^ b.toNat : Nat) : Int) ≤ ((2 * z.toNat : Nat) : Int) := Int.ofNat_le.2 this
    rw [Int.natCast_pow] at h3
    have h4 : ((2 * z.toNat : Nat) : Int) = 2 * z := by omega
    rw [h4] at h3
    exact h3

theorem len_spec {x : Int} (h0 : 0 ≤ x) (h1 : x < 18446744073709551616) :
    XCalls Try.prog 59 [.int .u64 x] h fun v h' => h' = h ∧ ∃ m : Nat, v = .int .i64 m ∧ m ≤ 64 ∧ (1 ≤ x → (2 : Int) ^ m ≤ 2 * x) := by
  apply x59; unfold X59
  refine (len64_spec h0 h1).mono ?_
  rintro _ _ ⟨rfl, m, rfl, hm⟩
  exact ⟨_, rfl, rfl, m, rfl, hm⟩

theorem npot_spec {x : Int} (h0 : 1 ≤ x) (h1 : x ≤ 2305843009213693952) :
    XCalls Try.prog 74 [.int .i64 x] h fun v h' => h' = h ∧ ∃ p, v = .int .u64 p ∧ 1 ≤ p ∧ p ≤ 2 * x := by
  apply x74; unfold X74
  rw [u64w (by omega) (by omega)]
  refine (len_spec (by omega) (by omega)).mono ?_
  rintro _ _ ⟨rfl, m, rfl, hm, hp⟩
  have hp := hp h0
  have hpos : (1 : Int) ≤ 2 ^ m := Int.pow_pos (by decide)
  refine ⟨_, rfl, by omega, rfl, 2 ^ m, ?_, hpos, hp⟩
  rw [Int.toNat_natCast, show min m IntKind.u64.bits = m from Nat.min_eq_left hm, Int.one_mul, u64w (by omega) (by omega)]

def word (m : Int) : O := .row [.int .u64 m] 1 false

theorem xs_spec {p : Nat} {m : Int} (s : SS en g q fr bk n d h) (hp : h.get p = some (word m)) (hpq : p ≠ q) (hpg : g.next ≤ p) :
    XCalls Try.prog 75 [.ptr (some (p, 0))] h fun v h' => (∃ y, v = .int .u64 y ∧ h'.get p = some (word y)) ∧ SS en g q fr bk n d h' := by
  apply x75; unfold X75
  refine ⟨m, by rw [Hp.ld_of hp]; rfl, m, by rw [Hp.ld_of hp]; rfl, by decide, _, Hp.st_of hp (Nat.le_of_ble_eq_true rfl), ?_⟩
  generalize bits BinOp.xor IntKind.u64 m _ = m1
  have hp1 : (h.set p (.row (splice [.int .u64 m] 0 [.int .u64 m1]) 1 false)).get p = some (word m1) := Hp.get_set_self
  have s1 := s.beside (o := .row (splice [.int .u64 m] 0 [.int .u64 m1]) 1 false) hp hpq hpg
  generalize h.set p (.row (splice [.int .u64 m] 0 [.int .u64 m1]) 1 false) = h1 at *
  refine ⟨m1, by rw [Hp.ld_of hp1]; rfl, m1, by rw [Hp.ld_of hp1]; rfl, by decide, _, Hp.st_of hp1 (Nat.le_of_ble_eq_true rfl), ?_⟩
  generalize bits BinOp.xor IntKind.u64 m1 _ = m2
  have hp2 : (h1.set p (.row (splice [.int .u64 m1] 0 [.int .u64 m2]) 1 false)).get p = some (word m2) := Hp.get_set_self
  have s2 := s1.beside (o := .row (splice [.int .u64 m1] 0 [.int .u64 m2]) 1 false) hp1 hpq hpg
  generalize h1.set p (.row (splice [.int .u64 m1] 0 [.int .u64 m2]) 1 false) = h2 at *
  refine ⟨m2, by rw [Hp.ld_of hp2]; rfl, m2, by rw [Hp.ld_of hp2]; rfl, by decide, _, Hp.st_of hp2 (Nat.le_of_ble_eq_true rfl), ?_⟩
  generalize bits BinOp.xor IntKind.u64 m2 _ = m3
  have hp3 : (h2.set p (.row (splice [.int .u64 m2] 0 [.int .u64 m3]) 1 false)).get p = some (word m3) := Hp.get_set_self
  have s3 := s2.beside (o := .row (splice [.int .u64 m2] 0 [.int .u64 m3]) 1 false) hp2 hpq hpg
  refine ⟨m3, by rw [Hp.ld_of hp3]; rfl, ⟨m3, rfl, hp3⟩, s3⟩

theorem bits_and_le {y m : Int} (h0 : 0 ≤ m) (h1 : m < 18446744073709551616) : 0 ≤ bits .and .u64 y m ∧ bits .and .u64 y m ≤ m := by
  have h2 : (BitVec.ofInt 64 y &&& BitVec.ofInt 64 m).toNat ≤ m.toNat := by
    rw [BitVec.toNat_and]
    have h3 : (BitVec.ofInt 64 m).toNat = m.toNat := by rw [BitVec.toNat_ofInt]; omega
    rw [h3]; exact Nat.and_le_right
  have e : bits .and .u64 y m = IntKind.u64.wrap ((BitVec.ofInt 64 y &&& BitVec.ofInt 64 m).toNat : Int) := rfl
  rw [e, u64w (by omega) (by omega)]
  omega

theorem brk_spec (s : SS en g q fr bk n d h) (h0 : 0 ≤ a) (hab : a ≤ b) (hb : b ≤ n) (hn : (n : Int) ≤ 2305843009213693952) :
    XCalls Try.prog 64 [.slc (some (q, fr.length)) n f, .int .i64 a, .int .i64 b] h fun v h' => v = .tup [] ∧ ∃ d', SS en g q fr bk n d' h' ∧ Sw a b d d' := by
  apply x64; unfold X64
  rw [wr (x := b - a) (by omega) (by omega)]
  cases hc : ltI (b - a) 8 with
  | true => exact ⟨rfl, d, s, .refl⟩
  | false =>
    rw [ltI_eq, decide_eq_false_iff_not] at hc
    have hq : (b - a).tdiv 4 = (b - a) / 4 := Int.tdiv_eq_ediv_of_nonneg (by omega)
    rw [hq]
    rw [wr (x := (b - a) / 4) (by omega) (by omega), wr (x := (b - a) / 4 * 2) (by omega) (by omega), wr (x := a + (b - a) / 4 * 2) (by omega) (by omega), wr (x := a + (b - a) / 4 * 2 - 1) (by omega) (by omega), wr (x := a + (b - a) / 4 * 2 + 1) (by omega) (by omega), u64w (x := b - a) (by omega) (by omega)]
    rintro h1 rfl
    have hpn : h.next ≠ q := Ne.symm (s.wf.ne s.row)
    have s1 := s.alloc (.row [.int .u64 0] 1 false)
    have hp1 : (h.alloc (.row [.int .u64 0] 1 false)).get h.next = some (word 0) := Hp.get_alloc_self
    refine ⟨_, Hp.st_of hp1 (Nat.le_of_ble_eq_true rfl), ?_⟩
    have hp2 : ((h.alloc (.row [.int .u64 0] 1 false)).set h.next (.row (splice [.int .u64 0] 0 [.int .u64 (b - a)]) 1 false)).get h.next = some (word (b - a)) := Hp.get_set_self
    have s2 := s1.beside (o := .row (splice [.int .u64 0] 0 [.int .u64 (b - a)]) 1 false) hp1 hpn s.le
    generalize (h.alloc (.row [.int .u64 0] 1 false)).set h.next (.row (splice [.int .u64 0] 0 [.int .u64 (b - a)]) 1 false) = h2 at *
    refine (npot_spec (by omega) (by omega)).mono ?_
    rintro _ _ ⟨rfl, p, rfl, hp0, hpx⟩
    have hgp := s.le
    generalize h.next = w at *
    refine ⟨p, rfl, by decide, ?_⟩
    refine ⟨fun vs h' => match vs with
      | [.int _ i] => a + (b - a) / 4 * 2 - 1 ≤ i ∧ i ≤ a + (b - a) / 4 * 2 + 2 ∧ (∃ m, h'.get w = some (word m)) ∧ ∃ d', SS en g q fr bk n d' h' ∧ Sw a b d d'
      | _ => False, fun vs _ => match vs with
      | [.int _ i] => (a + (b - a) / 4 * 2 + 2 - i).toNat
      | _ => 0, ⟨(by trivial), by omega, by omega, ⟨_, hp2⟩, d, s2, .refl⟩, ?_⟩
    rintro bs i h3 ⟨hi0, hi1, ⟨m, hm⟩, d1, s3, w1⟩
    refine ⟨by decide, ?_⟩
    cases hc2 : ltI (a + (b - a) / 4 * 2 + 1) i with
    | true => exact ⟨rfl, d1, s3, w1⟩
    | false =>
      rw [ltI_eq, decide_eq_false_iff_not] at hc2
      refine (xs_spec s3 hm hpn hgp).mono ?_
      rintro _ h4 ⟨⟨y, rfl, hm4⟩, s4⟩
      refine ⟨y, rfl, ?_⟩
      rw [u64w (x := p - 1) (by omega) (by omega)]
      have hy := bits_and_le (y := y) (m := p - 1) (by omega) (by omega)
      generalize bits .and .u64 y (p - 1) = z at *
      refine ⟨fun vs h' => match vs with
        | [.int _ o] => h' = h4 ∧ 0 ≤ o ∧ o < b - a
        | _ => False, ?_, ?_⟩
      · rw [wr (x := z) (by omega) (by omega)]
        cases hc3 : ltI z (b - a) with
        | true => rw [ltI_eq, decide_eq_true_eq] at hc3; exact ⟨rfl, rfl, by omega, hc3⟩
        | false => rw [ltI_eq, decide_eq_false_iff_not] at hc3; rw [wr (x := z - (b - a)) (by omega) (by omega)]; exact ⟨rfl, rfl, by omega, by omega⟩
      rintro bs2 o h5 ⟨rfl, ho0, ho1⟩
      obtain ⟨g1, g2, e1, e2, s6⟩ := s4.swap (i := i) (j := a + o) (by omega) (by omega) (by omega) (by omega)
      simp (disch := omega) only [wr, eq_self, true_and, and_true, cond_true, cond_false, onS, Bool.not_true, Bool.not_false, Int.toNat_natCast]
      have hm6 : g2.get w = some (word y) := by
        unfold Hp.st at e1 e2
        rw [s4.row] at e1
        simp only at e1
        cases hb1 : Nat.ble (fr.length + i.toNat * 1 + [en (d1 (a + o))].length) (fr ++ ((lst n d1).map en ++ bk)).length with
        | false => rw [hb1] at e1; cases e1
        | true =>
          rw [hb1] at e1; cases e1
          rw [Hp.get_set_self] at e2
          simp only at e2
          cases hb2 : Nat.ble (fr.length + (a + o).toNat * 1 + [en (d1 i)].length) (splice (fr ++ ((lst n d1).map en ++ bk)) (fr.length + i.toNat * 1) [en (d1 (a + o))]).length with
          | false => rw [hb2] at e2; cases e2
          | true =>
            rw [hb2] at e2; cases e2
            rw [Hp.get_set_ne hpn, Hp.get_set_ne hpn]; exact hm4
      refine ⟨⟨by omega, by omega⟩, d1 (a + o), s4.ld (by omega) (by omega), ⟨by omega, by omega⟩, d1 i, s4.ld (by omega) (by omega), ⟨by omega, by omega⟩, g1, e1, ⟨by omega, by omega⟩, g2, e2, ⟨by omega, by omega, ⟨y, hm6⟩, _, s6, w1.step i (a + o) (by omega) (by omega) (by omega) (by omega)⟩, by omega⟩

theorem cho_spec (s : SS en g q fr bk n d h) (h0 : 0 ≤ a) (hab : a < b) (hb : b ≤ n) (hn : (n : Int) ≤ 2305843009213693952) :
    XCalls Try.prog 65 [.slc (some (q, fr.length)) n f, .int .i64 a, .int .i64 b] h fun v h' => (∃ i t, v = .tup [.int .i64 i, .int .i64 t] ∧ a ≤ i ∧ i < b) ∧ SS en g q fr bk n d h' := by
  apply x65; unfold X65
  rintro h1 rfl
  have hpn : h.next ≠ q := Ne.symm (s.wf.ne s.row)
  have hgp := s.le
  have s1 := s.alloc (.row [.int .i64 0] 1 false)
  have hp1 : (h.alloc (.row [.int .i64 0] 1 false)).get h.next = some (cell 0) := Hp.get_alloc_self
  generalize h.alloc (.row [.int .i64 0] 1 false) = h1 at *
  generalize h.next = w at *
  have hq : (b - a).tdiv 4 = (b - a) / 4 := Int.tdiv_eq_ediv_of_nonneg (by omega)
  rw [wr (x := b - a) (by omega) (by omega), hq, wr (x := (b - a) / 4) (by omega) (by omega), wr (x := (b - a) / 4 * 1) (by omega) (by omega), wr (x := (b - a) / 4 * 2) (by omega) (by omega), wr (x := (b - a) / 4 * 3) (by omega) (by omega), wr (x := a + (b - a) / 4 * 1) (by omega) (by omega), wr (x := a + (b - a) / 4 * 2) (by omega) (by omega), wr (x := a + (b - a) / 4 * 3) (by omega) (by omega)]
  refine ⟨by decide, by decide, by decide, fun vs h' => match vs with
    | [.int _ i] => a ≤ i ∧ i < b ∧ SS en g q fr bk n d h' ∧ ∃ m, h'.get w = some (cell m)
    | _ => False, ?_, ?_⟩
  · cases hc : ltI (b - a) 8 with
    | true => exact ⟨rfl, by omega, by omega, s1, _, hp1⟩
    | false =>
      rw [ltI_eq, decide_eq_false_iff_not] at hc
      cases hc2 : ltI (b - a) 50 with
      | true =>
        refine (med_spec s1 hp1 hpn hgp (by omega) (by omega) (by omega) (by omega) (by omega) (by omega)).mono ?_
        rintro _ h2 ⟨⟨i, rfl, hi⟩, s2, m2, hp2⟩
        exact ⟨_, rfl, rfl, by omega, by omega, s2, m2, hp2⟩
      | false =>
        rw [ltI_eq, decide_eq_false_iff_not] at hc2
        refine (meda_spec s1 hp1 hpn hgp (by omega) (by omega) hn).mono ?_
        rintro _ h2 ⟨⟨i, rfl, hi, hi'⟩, s2, m2, hp2⟩
        refine ⟨_, rfl, ?_⟩
        refine (meda_spec s2 hp2 hpn hgp (by omega) (by omega) hn).mono ?_
        rintro _ h3 ⟨⟨j, rfl, hj, hj'⟩, s3, m3, hp3⟩
        refine ⟨_, rfl, ?_⟩
        refine (meda_spec s3 hp3 hpn hgp (by omega) (by omega) hn).mono ?_
        rintro _ h4 ⟨⟨k, rfl, hk, hk'⟩, s4, m4, hp4⟩
        refine ⟨_, rfl, ?_⟩
        refine (med_spec s4 hp4 hpn hgp (by omega) (by omega) (by omega) (by omega) (by omega) (by omega)).mono ?_
        rintro _ h5 ⟨⟨l, rfl, hl⟩, s5, m5, hp5⟩
        exact ⟨_, rfl, rfl, by omega, by omega, s5, m5, hp5⟩
  rintro bs i h2 ⟨hi0, hi1, s2, m, hm⟩
  refine ⟨m, by rw [Hp.ld_of hm]; rfl, ?_⟩
  cases m == 0 with
  | true => exact ⟨⟨i, _, rfl, hi0, hi1⟩, s2⟩
  | false =>
    cases m == 12 with
    | true => exact ⟨⟨i, _, rfl, hi0, hi1⟩, s2⟩
    | false => exact ⟨⟨i, _, rfl, hi0, hi1⟩, s2⟩
end
end Go.Vex.Sort
namespace Go.Vex.Sort
open Go.Proofs

section
variable {g h : Hp} {q n : Nat} {fr bk : List V} {d : Int → E} {f : Bool} {a b : Int}

/-- those behind a, ahead of i, are less than what stands at a; those behind j are not -/
def Pt (a b i j : Int) (d : Int → E) : Prop := a < i ∧ i ≤ j + 1 ∧ j < b ∧ (∀ k, a < k → k < i → lt (d k) (d a) = true) ∧ ∀ k, j < k → k < b → lt (d k) (d a) = false

theorem Pt.swap {i j : Int} {d : Int → E} (p : Pt a b i j d) (hij : i ≤ j) (hi : lt (d i) (d a) = false) (hj : lt (d j) (d a) = true) : Pt a b (i + 1) (j - 1) (sw d i j) := by
  obtain ⟨h1, h2, h3, h4, h5⟩ := p
  have hne : i ≠ j := fun e => by subst e; rw [hi] at hj; cases hj
  refine ⟨by omega, by omega, by omega, fun k k1 k2 => ?_, fun k k1 k2 => ?_⟩
  · rw [sw_ne (k := a) _ (by omega) (by omega)]
    by_cases e : k = i
    · subst e; rw [sw_l]; exact hj
    · rw [sw_ne _ e (by omega)]; exact h4 k k1 (by omega)
  · rw [sw_ne (k := a) _ (by omega) (by omega)]
    by_cases e : k = j
    · subst e; rw [sw_r]; exact hi
    · rw [sw_ne _ (by omega) e]; exact h5 k (by omega) k2

theorem Pt.fin {i j : Int} {d : Int → E} (p : Pt a b i j d) (hij : j < i) (ha : a ≤ j) : (∀ k, a ≤ k → k < j → lt (sw d j a j) (sw d j a k) = false) ∧ ∀ k, j < k → k < b → lt (sw d j a k) (sw d j a j) = false := by
  obtain ⟨h1, h2, h3, h4, h5⟩ := p
  refine ⟨fun k k1 k2 => ?_, fun k k1 k2 => ?_⟩
  · rw [sw_l]
    by_cases e : k = a
    · subst e; rw [sw_r]; exact ordr.asym _ _ (h4 j (by omega) (by omega))
    · rw [sw_ne _ (by omega) e]; exact ordr.asym _ _ (h4 k (by omega) (by omega))
  · rw [sw_l, sw_ne _ (by omega) (by omega)]; exact h5 k k1 k2

theorem part_spec {p : Int} (s : SS en g q fr bk n d h) (h0 : 0 ≤ a) (hap : a ≤ p) (hpb : p < b) (hb : b ≤ n) (hn : (n : Int) ≤ 2305843009213693952) :
    XCalls Try.prog 70 [.slc (some (q, fr.length)) n f, .int .i64 a, .int .i64 b, .int .i64 p] h fun v h' => ∃ m c, v = .tup [.int .i64 m, .bool c] ∧ a ≤ m ∧ m < b ∧ ∃ d', SS en g q fr bk n d' h' ∧ Sw a b d d' ∧
      (∀ k, a ≤ k → k < m → lt (d' m) (d' k) = false) ∧ ∀ k, m < k → k < b → lt (d' k) (d' m) = false := by
  refine XCalls.cps fun K hK => ?_
  apply x70; unfold X70
  obtain ⟨g1, g2, e1, e2, s3⟩ := s.swap (i := a) (j := p) (by omega) (by omega) (by omega) (by omega)
  refine ⟨⟨by omega, by omega⟩, d p, s.ld (by omega) (by omega), ⟨by omega, by omega⟩, d a, s.ld (by omega) (by omega), ⟨by omega, by omega⟩, g1, e1, (by trivial), (by trivial), ⟨by omega, by omega⟩, g2, e2, ?_⟩
  have w3 : Sw a b d (sw d a p) := Sw.refl.step a p (by omega) (by omega) (by omega) (by omega)
  generalize sw d a p = d3 at *
  simp (disch := omega) only [wr, eq_self, true_and, and_true, cond_true, cond_false, onS, Bool.not_true, Bool.not_false, Int.toNat_natCast]
  refine ⟨fun vs h' => match vs with
    | [.int _ i] => ∃ d', SS en g q fr bk n d' h' ∧ Sw a b d d' ∧ Pt a b i (b - 1) d' ∧ (i ≤ b - 1 → lt (d' i) (d' a) = false)
    | _ => False, ?_, ?_⟩
  · refine ⟨fun vs h' => match vs with
      | [.int _ i] => ∃ d', SS en g q fr bk n d' h' ∧ Sw a b d d' ∧ Pt a b i (b - 1) d'
      | _ => False, fun vs _ => match vs with
      | [.int _ i] => (b - i).toNat
      | _ => 0, ⟨d3, s3, w3, by omega, by omega, by omega, fun k h1 h2 => by omega, fun k h1 h2 => by omega⟩, ?_⟩
    rintro bs i h1 ⟨d4, s4, w4, p4⟩
    have p5 := p4
    obtain ⟨q1, q2, q3, q4, q5⟩ := p4
    cases hc : ltI (b - 1) i with
    | true => rw [ltI_eq, decide_eq_true_eq] at hc; exact ⟨d4, s4, w4, p5, fun h => by omega⟩
    | false =>
      rw [ltI_eq, decide_eq_false_iff_not] at hc
      simp (disch := omega) only [wr, eq_self, true_and, and_true, cond_true, cond_false, onS, Bool.not_true, Bool.not_false, Int.toNat_natCast]
      refine ⟨⟨by omega, by omega⟩, d4 i, s4.ld (by omega) (by omega), ⟨by omega, by omega⟩, d4 a, s4.ld (by omega) (by omega), ?_⟩
      refine (less_spec _ _).mono ?_
      rintro _ _ ⟨rfl, rfl⟩
      refine ⟨_, rfl, ?_⟩
      cases hl : lt (d4 i) (d4 a) with
      | true =>
        refine ⟨⟨d4, s4, w4, by omega, by omega, by omega, fun k k1 k2 => ?_, q5⟩, by omega⟩
        by_cases e : k = i
        · subst e; exact hl
        · exact q4 k k1 (by omega)
      | false => exact ⟨d4, s4, w4, p5, fun _ => by first | exact hl | rfl⟩
  rintro bs i h2 ⟨d4, s4, w4, p4, hi4⟩
  obtain ⟨q1, q2, q3, q4, q5⟩ := p4
  simp (disch := omega) only [wr, eq_self, true_and, and_true, cond_true, cond_false, onS, Bool.not_true, Bool.not_false, Int.toNat_natCast]
  refine ⟨fun vs h' => match vs with
    | [.int _ j] => Pt a b i j d4 ∧ SS en g q fr bk n d4 h' ∧ (i ≤ j → lt (d4 j) (d4 a) = true)
    | _ => False, ?_, ?_⟩
  · refine ⟨fun vs h' => match vs with
      | [.int _ j] => Pt a b i j d4 ∧ SS en g q fr bk n d4 h'
      | _ => False, fun vs _ => match vs with
      | [.int _ j] => (j + 1).toNat
      | _ => 0, ⟨⟨q1, q2, q3, q4, q5⟩, s4⟩, ?_⟩
    rintro bs3 j h3 ⟨p5, s5⟩
    have p6 := p5
    obtain ⟨r1, r2, r3, r4, r5⟩ := p5
    cases hc : ltI j i with
    | true => rw [ltI_eq, decide_eq_true_eq] at hc; exact ⟨p6, s5, fun h => by omega⟩
    | false =>
      rw [ltI_eq, decide_eq_false_iff_not] at hc
      simp (disch := omega) only [wr, eq_self, true_and, and_true, cond_true, cond_false, onS, Bool.not_true, Bool.not_false, Int.toNat_natCast]
      refine ⟨⟨by omega, by omega⟩, d4 j, s5.ld (by omega) (by omega), ⟨by omega, by omega⟩, d4 a, s5.ld (by omega) (by omega), ?_⟩
      refine (less_spec _ _).mono ?_
      rintro _ _ ⟨rfl, rfl⟩
      refine ⟨_, rfl, ?_⟩
      cases hl : lt (d4 j) (d4 a) with
      | false =>
        refine ⟨⟨⟨by omega, by omega, by omega, r4, fun k k1 k2 => ?_⟩, s5⟩, by omega⟩
        by_cases e : k = j
        · subst e; exact hl
        · exact r5 k (by omega) k2
      | true => exact ⟨p6, s5, fun _ => by first | exact hl | rfl⟩
  rintro bs4 j h4 ⟨p6, s6, hj6⟩
  have p7 := p6
  obtain ⟨r1, r2, r3, r4, r5⟩ := p6
  cases hc : ltI j i with
  | true =>
    rw [ltI_eq, decide_eq_true_eq] at hc
    obtain ⟨g3, g4, e3, e4, s7⟩ := s6.swap (i := j) (j := a) (by omega) (by omega) (by omega) (by omega)
    refine ⟨⟨by omega, by omega⟩, d4 a, s6.ld (by omega) (by omega), ⟨by omega, by omega⟩, d4 j, s6.ld (by omega) (by omega), ⟨by omega, by omega⟩, g3, e3, ⟨by omega, by omega⟩, g4, e4, ?_⟩
    have hf := p7.fin hc (by omega)
    exact hK _ _ ⟨j, true, rfl, by omega, by omega, _, s7, w4.step j a (by omega) (by omega) (by omega) (by omega), hf.1, hf.2⟩
  | false =>
    rw [ltI_eq, decide_eq_false_iff_not] at hc
    obtain ⟨g3, g4, e3, e4, s7⟩ := s6.swap (i := i) (j := j) (by omega) (by omega) (by omega) (by omega)
    have p8 := p7.swap (by omega) (hi4 (by omega)) (hj6 (by omega))
    have w8 := w4.step i j (by omega) (by omega) (by omega) (by omega)
    generalize sw d4 i j = d8 at *
    simp (disch := omega) only [wr, eq_self, true_and, and_true, cond_true, cond_false, onS, Bool.not_true, Bool.not_false, Int.toNat_natCast]
    refine ⟨⟨by omega, by omega⟩, d4 j, s6.ld (by omega) (by omega), ⟨by omega, by omega⟩, d4 i, s6.ld (by omega) (by omega), ⟨by omega, by omega⟩, g3, e3, ⟨by omega, by omega⟩, g4, e4, ?_⟩
    refine ⟨fun vs h' => match vs with
      | [.int _ i, .int _ j] => ∃ d', SS en g q fr bk n d' h' ∧ Sw a b d d' ∧ Pt a b i j d'
      | _ => False, fun vs _ => match vs with
      | [.int _ i, .int _ j] => (j + 1 - i).toNat
      | _ => 0, ⟨d8, s7, w8, p8⟩, ?_⟩
    clear p8 w8 s7 e3 e4 hc hi4 hj6 s6 p7 r1 r2 r3 r4 r5 s4 w4 q1 q2 q3 q4 q5 s3 w3 e1 e2
    rintro bs5 i j h5 ⟨d4, s4, w4, p4⟩
    refine ⟨fun vs h' => match vs with
      | [.int _ i'] => i ≤ i' ∧ ∃ d', SS en g q fr bk n d' h' ∧ Sw a b d d' ∧ Pt a b i' j d' ∧ (i' ≤ j → lt (d' i') (d' a) = false)
      | _ => False, ?_, ?_⟩
    · refine ⟨fun vs h' => match vs with
        | [.int _ i', .int _ j'] => j' = j ∧ i ≤ i' ∧ ∃ d', SS en g q fr bk n d' h' ∧ Sw a b d d' ∧ Pt a b i' j d'
        | _ => False, fun vs _ => match vs with
        | [.int _ i', .int _ j'] => (b - i').toNat
        | _ => 0, ⟨(by trivial), by omega, d4, s4, w4, p4⟩, ?_⟩
      rintro bs6 i' j' h6 ⟨rfl, hi', d5, s5, w5, p5⟩
      have p6 := p5
      obtain ⟨q1, q2, q3, q4, q5⟩ := p5
      cases hc : ltI j' i' with
      | true => rw [ltI_eq, decide_eq_true_eq] at hc; exact ⟨rfl, hi', d5, s5, w5, p6, fun h => by omega⟩
      | false =>
        rw [ltI_eq, decide_eq_false_iff_not] at hc
        simp (disch := omega) only [wr, eq_self, true_and, and_true, cond_true, cond_false, onS, Bool.not_true, Bool.not_false, Int.toNat_natCast]
        refine ⟨⟨by omega, by omega⟩, d5 i', s5.ld (by omega) (by omega), ⟨by omega, by omega⟩, d5 a, s5.ld (by omega) (by omega), ?_⟩
        refine (less_spec _ _).mono ?_
        rintro _ _ ⟨rfl, rfl⟩
        refine ⟨_, rfl, ?_⟩
        cases hl : lt (d5 i') (d5 a) with
        | true =>
          refine ⟨⟨by omega, d5, s5, w5, by omega, by omega, by omega, fun k k1 k2 => ?_, q5⟩, by omega⟩
          by_cases e : k = i'
          · subst e; exact hl
          · exact q4 k k1 (by omega)
        | false => exact ⟨hi', d5, s5, w5, p6, fun _ => by first | exact hl | rfl⟩
    rintro bs7 i2 h7 ⟨hi2, d5, s5, w5, p5, hi5⟩
    have p6 := p5
    obtain ⟨q1, q2, q3, q4, q5⟩ := p5
    simp (disch := omega) only [wr, eq_self, true_and, and_true, cond_true, cond_false, onS, Bool.not_true, Bool.not_false, Int.toNat_natCast]
    refine ⟨fun vs h' => match vs with
      | [.int _ j'] => j' ≤ j ∧ Pt a b i2 j' d5 ∧ SS en g q fr bk n d5 h' ∧ (i2 ≤ j' → lt (d5 j') (d5 a) = true)
      | _ => False, ?_, ?_⟩
    · refine ⟨fun vs h' => match vs with
        | [.int _ j'] => j' ≤ j ∧ Pt a b i2 j' d5 ∧ SS en g q fr bk n d5 h'
        | _ => False, fun vs _ => match vs with
        | [.int _ j'] => (j' + 1).toNat
        | _ => 0, ⟨by omega, p6, s5⟩, ?_⟩
      rintro bs8 j' h8 ⟨hj', p7, s8⟩
      have p8 := p7
      obtain ⟨r1, r2, r3, r4, r5⟩ := p7
      cases hc : ltI j' i2 with
      | true => rw [ltI_eq, decide_eq_true_eq] at hc; exact ⟨hj', p8, s8, fun h => by omega⟩
      | false =>
        rw [ltI_eq, decide_eq_false_iff_not] at hc
        simp (disch := omega) only [wr, eq_self, true_and, and_true, cond_true, cond_false, onS, Bool.not_true, Bool.not_false, Int.toNat_natCast]
        refine ⟨⟨by omega, by omega⟩, d5 j', s8.ld (by omega) (by omega), ⟨by omega, by omega⟩, d5 a, s8.ld (by omega) (by omega), ?_⟩
        refine (less_spec _ _).mono ?_
        rintro _ _ ⟨rfl, rfl⟩
        refine ⟨_, rfl, ?_⟩
        cases hl : lt (d5 j') (d5 a) with
        | false =>
          refine ⟨⟨by omega, ⟨by omega, by omega, by omega, r4, fun k k1 k2 => ?_⟩, s8⟩, by omega⟩
          by_cases e : k = j'
          · subst e; exact hl
          · exact r5 k (by omega) k2
        | true => exact ⟨hj', p8, s8, fun _ => by first | exact hl | rfl⟩
    rintro bs9 j2 h9 ⟨hj2, p9, s9, hj9⟩
    have p10 := p9
    obtain ⟨r1, r2, r3, r4, r5⟩ := p9
    cases hc : ltI j2 i2 with
    | true =>
      rw [ltI_eq, decide_eq_true_eq] at hc
      obtain ⟨g5, g6, e5, e6, s11⟩ := s9.swap (i := j2) (j := a) (by omega) (by omega) (by omega) (by omega)
      refine ⟨⟨by omega, by omega⟩, d5 a, s9.ld (by omega) (by omega), ⟨by omega, by omega⟩, d5 j2, s9.ld (by omega) (by omega), ⟨by omega, by omega⟩, g5, e5, ⟨by omega, by omega⟩, g6, e6, ?_⟩
      have hf := p10.fin hc (by omega)
      exact hK _ _ ⟨j2, false, rfl, by omega, by omega, _, s11, w5.step j2 a (by omega) (by omega) (by omega) (by omega), hf.1, hf.2⟩
    | false =>
      rw [ltI_eq, decide_eq_false_iff_not] at hc
      obtain ⟨g5, g6, e5, e6, s11⟩ := s9.swap (i := i2) (j := j2) (by omega) (by omega) (by omega) (by omega)
      have p12 := p10.swap (by omega) (hi5 (by omega)) (hj9 (by omega))
      have w12 := w5.step i2 j2 (by omega) (by omega) (by omega) (by omega)
      simp (disch := omega) only [wr, eq_self, true_and, and_true, cond_true, cond_false, onS, Bool.not_true, Bool.not_false, Int.toNat_natCast]
      refine ⟨⟨by omega, by omega⟩, d5 j2, s9.ld (by omega) (by omega), ⟨by omega, by omega⟩, d5 i2, s9.ld (by omega) (by omega), ⟨by omega, by omega⟩, g5, e5, ⟨by omega, by omega⟩, g6, e6, ⟨_, s11, w12, p12⟩, by omega⟩

/-- those from a on, ahead of i, are not more than what stands at a; those behind j are -/
def Pe (a b i j : Int) (d : Int → E) : Prop := a < i ∧ i ≤ j + 1 ∧ j < b ∧ (∀ k, a ≤ k → k < i → lt (d a) (d k) = false) ∧ ∀ k, j < k → k < b → lt (d a) (d k) = true

theorem peq_spec {p : Int} (s : SS en g q fr bk n d h) (h0 : 0 ≤ a) (hap : a ≤ p) (hpb : p < b) (hb : b ≤ n) (hn : (n : Int) ≤ 2305843009213693952) :
    XCalls Try.prog 69 [.slc (some (q, fr.length)) n f, .int .i64 a, .int .i64 b, .int .i64 p] h fun v h' => ∃ m, v = .int .i64 m ∧ a < m ∧ m ≤ b ∧ ∃ d', SS en g q fr bk n d' h' ∧ Sw a b d d' ∧ d' a = d p ∧
      (∀ k, a ≤ k → k < m → lt (d' a) (d' k) = false) := by
  refine XCalls.cps fun K hK => ?_
  apply x69; unfold X69
  obtain ⟨g1, g2, e1, e2, s3⟩ := s.swap (i := a) (j := p) (by omega) (by omega) (by omega) (by omega)
  refine ⟨⟨by omega, by omega⟩, d p, s.ld (by omega) (by omega), ⟨by omega, by omega⟩, d a, s.ld (by omega) (by omega), ⟨by omega, by omega⟩, g1, e1, (by trivial), (by trivial), ⟨by omega, by omega⟩, g2, e2, ?_⟩
  have w3 : Sw a b d (sw d a p) := Sw.refl.step a p (by omega) (by omega) (by omega) (by omega)
  have v3 : sw d a p a = d p := sw_l _ _ _
  generalize sw d a p = d3 at *
  simp (disch := omega) only [wr, eq_self, true_and, and_true, cond_true, cond_false, onS, Bool.not_true, Bool.not_false, Int.toNat_natCast]
  refine ⟨fun vs h' => match vs with
    | [.int _ i, .int _ j] => ∃ d', SS en g q fr bk n d' h' ∧ Sw a b d d' ∧ d' a = d p ∧ Pe a b i j d'
    | _ => False, fun vs _ => match vs with
    | [.int _ i, .int _ j] => (j + 1 - i).toNat
    | _ => 0, ⟨d3, s3, w3, v3, by omega, by omega, by omega, fun k h1 h2 => (show k = a by omega) ▸ ordr.irr _, fun k h1 h2 => by omega⟩, ?_⟩
  clear s3 w3 v3 e1 e2
  rintro bs5 i j h5 ⟨d4, s4, w4, v4, p4⟩
  refine ⟨fun vs h' => match vs with
    | [.int _ i'] => i ≤ i' ∧ ∃ d', SS en g q fr bk n d' h' ∧ Sw a b d d' ∧ d' a = d p ∧ Pe a b i' j d' ∧ (i' ≤ j → lt (d' a) (d' i') = true)
    | _ => False, ?_, ?_⟩
  · refine ⟨fun vs h' => match vs with
      | [.int _ i', .int _ j'] => j' = j ∧ i ≤ i' ∧ ∃ d', SS en g q fr bk n d' h' ∧ Sw a b d d' ∧ d' a = d p ∧ Pe a b i' j d'
      | _ => False, fun vs _ => match vs with
      | [.int _ i', .int _ j'] => (b - i').toNat
      | _ => 0, ⟨(by trivial), by omega, d4, s4, w4, v4, p4⟩, ?_⟩
    rintro bs6 i' j' h6 ⟨rfl, hi', d5, s5, w5, v5, p5⟩
    have p6 := p5
    obtain ⟨q1, q2, q3, q4, q5⟩ := p5
    cases hc : ltI j' i' with
    | true => rw [ltI_eq, decide_eq_true_eq] at hc; exact ⟨rfl, hi', d5, s5, w5, v5, p6, fun h => by omega⟩
    | false =>
      rw [ltI_eq, decide_eq_false_iff_not] at hc
      simp (disch := omega) only [wr, eq_self, true_and, and_true, cond_true, cond_false, onS, Bool.not_true, Bool.not_false, Int.toNat_natCast]
      refine ⟨⟨by omega, by omega⟩, d5 a, s5.ld (by omega) (by omega), ⟨by omega, by omega⟩, d5 i', s5.ld (by omega) (by omega), ?_⟩
      refine (less_spec _ _).mono ?_
      rintro _ _ ⟨rfl, rfl⟩
      refine ⟨_, rfl, ?_⟩
      cases hl : lt (d5 a) (d5 i') with
      | false =>
        refine ⟨⟨by omega, d5, s5, w5, v5, by omega, by omega, by omega, fun k k1 k2 => ?_, q5⟩, by omega⟩
        by_cases e : k = i'
        · subst e; exact hl
        · exact q4 k k1 (by omega)
      | true => exact ⟨hi', d5, s5, w5, v5, p6, fun _ => by first | exact hl | rfl⟩
  rintro bs7 i2 h7 ⟨hi2, d5, s5, w5, v5, p5, hi5⟩
  have p6 := p5
  obtain ⟨q1, q2, q3, q4, q5⟩ := p5
  simp (disch := omega) only [wr, eq_self, true_and, and_true, cond_true, cond_false, onS, Bool.not_true, Bool.not_false, Int.toNat_natCast]
  refine ⟨fun vs h' => match vs with
    | [.int _ j'] => j' ≤ j ∧ Pe a b i2 j' d5 ∧ SS en g q fr bk n d5 h' ∧ (i2 ≤ j' → lt (d5 a) (d5 j') = false)
    | _ => False, ?_, ?_⟩
  · refine ⟨fun vs h' => match vs with
      | [.int _ j'] => j' ≤ j ∧ Pe a b i2 j' d5 ∧ SS en g q fr bk n d5 h'
      | _ => False, fun vs _ => match vs with
      | [.int _ j'] => (j' + 1).toNat
      | _ => 0, ⟨by omega, p6, s5⟩, ?_⟩
    rintro bs8 j' h8 ⟨hj', p7, s8⟩
    have p8 := p7
    obtain ⟨r1, r2, r3, r4, r5⟩ := p7
    cases hc : ltI j' i2 with
    | true => rw [ltI_eq, decide_eq_true_eq] at hc; exact ⟨hj', p8, s8, fun h => by omega⟩
    | false =>
      rw [ltI_eq, decide_eq_false_iff_not] at hc
      simp (disch := omega) only [wr, eq_self, true_and, and_true, cond_true, cond_false, onS, Bool.not_true, Bool.not_false, Int.toNat_natCast]
      refine ⟨⟨by omega, by omega⟩, d5 a, s8.ld (by omega) (by omega), ⟨by omega, by omega⟩, d5 j', s8.ld (by omega) (by omega), ?_⟩
      refine (less_spec _ _).mono ?_
      rintro _ _ ⟨rfl, rfl⟩
      refine ⟨_, rfl, ?_⟩
      cases hl : lt (d5 a) (d5 j') with
      | true =>
        refine ⟨⟨by omega, ⟨by omega, by omega, by omega, r4, fun k k1 k2 => ?_⟩, s8⟩, by omega⟩
        by_cases e : k = j'
        · subst e; exact hl
        · exact r5 k (by omega) k2
      | false => exact ⟨hj', p8, s8, fun _ => by first | exact hl | rfl⟩
  rintro bs9 j2 h9 ⟨hj2, p9, s9, hj9⟩
  obtain ⟨r1, r2, r3, r4, r5⟩ := p9
  cases hc : ltI j2 i2 with
  | true =>
    rw [ltI_eq, decide_eq_true_eq] at hc
    exact hK _ _ ⟨i2, rfl, by omega, by omega, d5, s9, w5, v5, r4⟩
  | false =>
    rw [ltI_eq, decide_eq_false_iff_not] at hc
    obtain ⟨g5, g6, e5, e6, s11⟩ := s9.swap (i := i2) (j := j2) (by omega) (by omega) (by omega) (by omega)
    have w12 := w5.step i2 j2 (by omega) (by omega) (by omega) (by omega)
    have hne : i2 ≠ j2 := fun e => by subst e; have e1 := hi5 (by omega); have e2 := hj9 (by omega); rw [e1] at e2; cases e2
    simp (disch := omega) only [wr, eq_self, true_and, and_true, cond_true, cond_false, onS, Bool.not_true, Bool.not_false, Int.toNat_natCast]
    refine ⟨⟨by omega, by omega⟩, d5 j2, s9.ld (by omega) (by omega), ⟨by omega, by omega⟩, d5 i2, s9.ld (by omega) (by omega), ⟨by omega, by omega⟩, g5, e5, ⟨by omega, by omega⟩, g6, e6, ⟨_, s11, w12, ?_, by omega, by omega, by omega, fun k k1 k2 => ?_, fun k k1 k2 => ?_⟩, by omega⟩
    · rw [sw_ne _ (by omega) (by omega)]; exact v5
    · rw [sw_ne (k := a) _ (by omega) (by omega)]
      by_cases e : k = i2
      · subst e; rw [sw_l]; exact hj9 (by omega)
      · rw [sw_ne _ e (by omega)]; exact r4 k k1 (by omega)
    · rw [sw_ne (k := a) _ (by omega) (by omega)]
      by_cases e : k = j2
      · subst e; rw [sw_r]; exact hi5 (by omega)
      · rw [sw_ne _ (by omega) e]; exact r5 k (by omega) k2

/-- what stands ahead of a is not more than what follows -/
def Blw (a b : Int) (d : Int → E) : Prop := a = 0 ∨ ∀ k, a ≤ k → k < b → lt (d k) (d (a - 1)) = false

theorem Blw.keep {d d' : Int → E} (hf : Blw a b d) (hs : Sw a b d d') : Blw a b d' := by
  rcases hf with h | h
  · exact .inl h
  · right
    rw [hs.out (k := a - 1) (.inl (by omega))]
    exact hs.all (fun x => lt x (d (a - 1)) = false) h

theorem pins_spec (s : SS en g q fr bk n d h) (h0 : 0 ≤ a) (hab : a < b) (hb : b ≤ n) (hn : (n : Int) ≤ 2305843009213693952) (hbl : Blw a b d) :
    XCalls Try.prog 67 [.slc (some (q, fr.length)) n f, .int .i64 a, .int .i64 b] h fun v h' => ∃ t, v = .bool t ∧ ∃ d', SS en g q fr bk n d' h' ∧ Sw a b d d' ∧ (t = true → Srt lt a b d') := by
  refine XCalls.cps fun K hK => ?_
  apply x67; unfold X67
  simp (disch := omega) only [wr, eq_self, true_and, and_true, cond_true, cond_false, onS, Bool.not_true, Bool.not_false, Int.toNat_natCast]
  refine ⟨fun vs h' => match vs with
    | [.int _ i, .int _ c] => a < i ∧ i ≤ b ∧ 0 ≤ c ∧ c ≤ 5 ∧ ∃ d', SS en g q fr bk n d' h' ∧ Sw a b d d' ∧ Srt lt a i d'
    | _ => False, fun vs _ => match vs with
    | [.int _ i, .int _ c] => (5 - c).toNat
    | _ => 0, ⟨by omega, by omega, by omega, by omega, d, s, .refl, fun p r h1 h2 h3 => by omega⟩, ?_⟩
  rintro bs i c h1 ⟨hi0, hi1, hc0, hc1, d1, s1, w1, o1⟩
  cases hc5 : ltI c 5 with
  | false => exact hK _ _ ⟨false, rfl, d1, s1, w1, fun h => by cases h⟩
  | true =>
    rw [ltI_eq, decide_eq_true_eq] at hc5
    simp (disch := omega) only [wr, eq_self, true_and, and_true, cond_true, cond_false, onS, Bool.not_true, Bool.not_false, Int.toNat_natCast]
    refine ⟨fun vs h' => match vs with
      | [.int _ i] => a < i ∧ i ≤ b ∧ ∃ d', SS en g q fr bk n d' h' ∧ Sw a b d d' ∧ Srt lt a i d'
      | _ => False, ?_, ?_⟩
    · refine ⟨fun vs h' => match vs with
        | [.int _ i] => a < i ∧ i ≤ b ∧ ∃ d', SS en g q fr bk n d' h' ∧ Sw a b d d' ∧ Srt lt a i d'
        | _ => False, fun vs _ => match vs with
        | [.int _ i] => (b - i).toNat
        | _ => 0, ⟨hi0, hi1, d1, s1, w1, o1⟩, ?_⟩
      clear s1 w1 o1 hi0 hi1
      rintro bs2 i h2 ⟨hi0, hi1, d1, s1, w1, o1⟩
      cases hib : ltI i b with
      | false => exact ⟨hi0, hi1, d1, s1, w1, o1⟩
      | true =>
        rw [ltI_eq, decide_eq_true_eq] at hib
        simp (disch := omega) only [wr, eq_self, true_and, and_true, cond_true, cond_false, onS, Bool.not_true, Bool.not_false, Int.toNat_natCast]
        refine ⟨⟨by omega, by omega⟩, d1 i, s1.ld (by omega) (by omega), ⟨by omega, by omega⟩, d1 (i - 1), s1.ld (by omega) (by omega), ?_⟩
        refine (less_spec _ _).mono ?_
        rintro _ _ ⟨rfl, rfl⟩
        refine ⟨_, rfl, ?_⟩
        cases hl : lt (d1 i) (d1 (i - 1)) with
        | false =>
          refine ⟨⟨by omega, by omega, d1, s1, w1, fun p r k1 k2 k3 => ?_⟩, by omega⟩
          by_cases e : r = i
          · subst e
            by_cases e : p = r - 1
            · subst e; exact hl
            · exact ordr.trans _ _ _ (o1 p (r - 1) k1 (by omega) (by omega)) hl
          · exact o1 p r k1 k2 (by omega)
        | true => exact ⟨hi0, hi1, d1, s1, w1, o1⟩
    clear s1 w1 o1 hi0 hi1
    rintro bs3 i h3 ⟨hi0, hi1, d1, s1, w1, o1⟩
    cases hib : (i == b) with
    | true =>
      have hib : i = b := by simpa using hib
      subst hib
      exact hK _ _ ⟨true, rfl, d1, s1, w1, fun _ => o1⟩
    | false =>
      have hib : i ≠ b := by simpa using hib
      simp (disch := omega) only [wr, eq_self, true_and, and_true, cond_true, cond_false, onS, Bool.not_true, Bool.not_false, Int.toNat_natCast]
      cases hba : ltI (b - a) 50 with
      | true => exact hK _ _ ⟨false, rfl, d1, s1, w1, fun h => by cases h⟩
      | false =>
        obtain ⟨g1, g2, e1, e2, s2⟩ := s1.swap (i := i) (j := i - 1) (by omega) (by omega) (by omega) (by omega)
        have w2 := w1.step i (i - 1) (by omega) (by omega) (by omega) (by omega)
        have o2 : Srt lt a (i - 1) (sw d1 i (i - 1)) := fun p r k1 k2 k3 => by
          rw [sw_ne _ (by omega) (by omega), sw_ne _ (by omega) (by omega)]; exact o1 p r k1 k2 (by omega)
        generalize sw d1 i (i - 1) = d2 at *
        simp (disch := omega) only [wr, eq_self, true_and, and_true, cond_true, cond_false, onS, Bool.not_true, Bool.not_false, Int.toNat_natCast]
        refine ⟨⟨by omega, by omega⟩, d1 (i - 1), s1.ld (by omega) (by omega), ⟨by omega, by omega⟩, d1 i, s1.ld (by omega) (by omega), ⟨by omega, by omega⟩, g1, e1, ⟨by omega, by omega⟩, g2, e2, ?_⟩
        refine ⟨fun vs h' => match vs with
          | [] => ∃ d', SS en g q fr bk n d' h' ∧ Sw a b d d' ∧ Srt lt a i d'
          | _ => False, ?_, ?_⟩
        · cases hia : ltI (i - a) 2 with
          | true =>
            rw [ltI_eq, decide_eq_true_eq] at hia
            exact ⟨d2, s2, w2, fun p r k1 k2 k3 => by omega⟩
          | false =>
            rw [ltI_eq, decide_eq_false_iff_not] at hia
            simp (disch := omega) only [wr, eq_self, true_and, and_true, cond_true, cond_false, onS, Bool.not_true, Bool.not_false, Int.toNat_natCast]
            refine ⟨fun vs h' => match vs with
              | [.int _ j] => a ≤ j ∧ j < i ∧ ∃ d', SS en g q fr bk n d' h' ∧ Sw a b d d' ∧ ∀ p r, a ≤ p → p < r → r < i → r ≠ j → lt (d' r) (d' p) = false
              | _ => False, fun vs _ => match vs with
              | [.int _ j] => j.toNat
              | _ => 0, ⟨by omega, by omega, d2, s2, w2, fun p r k1 k2 k3 k4 => o2 p r k1 k2 (by omega)⟩, ?_⟩
            clear s2 w2 o2 e1 e2
            rintro bs4 j h4 ⟨hj0, hj1, d2, s2, w2, o2⟩
            cases hj : ltI j 1 with
            | true =>
              rw [ltI_eq, decide_eq_true_eq] at hj
              exact ⟨d2, s2, w2, fun p r k1 k2 k3 => o2 p r k1 k2 k3 (by omega)⟩
            | false =>
              rw [ltI_eq, decide_eq_false_iff_not] at hj
              simp (disch := omega) only [wr, eq_self, true_and, and_true, cond_true, cond_false, onS, Bool.not_true, Bool.not_false, Int.toNat_natCast]
              refine ⟨⟨by omega, by omega⟩, d2 j, s2.ld (by omega) (by omega), ⟨by omega, by omega⟩, d2 (j - 1), s2.ld (by omega) (by omega), ?_⟩
              refine (less_spec _ _).mono ?_
              rintro _ _ ⟨rfl, rfl⟩
              refine ⟨_, rfl, ?_⟩
              cases hl : lt (d2 j) (d2 (j - 1)) with
              | false =>
                refine ⟨d2, s2, w2, fun p r k1 k2 k3 => ?_⟩
                by_cases e : r = j
                · subst e
                  by_cases e : p = r - 1
                  · subst e; exact hl
                  · exact ordr.trans _ _ _ (o2 p (r - 1) k1 (by omega) (by omega) (by omega)) hl
                · exact o2 p r k1 k2 k3 e
              | true =>
                have hja : a < j := by
                  rcases hbl.keep w2 with e | e
                  · omega
                  · by_cases e1 : j = a
                    · subst e1; rw [e j (by omega) (by omega)] at hl; cases hl
                    · omega
                obtain ⟨g1, g2, e1, e2, s3⟩ := s2.swap (i := j) (j := j - 1) (by omega) (by omega) (by omega) (by omega)
                simp (disch := omega) only [wr, eq_self, true_and, and_true, cond_true, cond_false, onS, Bool.not_true, Bool.not_false, Int.toNat_natCast]
                refine ⟨⟨by omega, by omega⟩, d2 (j - 1), s2.ld (by omega) (by omega), ⟨by omega, by omega⟩, d2 j, s2.ld (by omega) (by omega), ⟨by omega, by omega⟩, g1, e1, ⟨by omega, by omega⟩, g2, e2, ⟨by omega, by omega, _, s3, w2.step j (j - 1) (by omega) (by omega) (by omega) (by omega), ?_⟩, by omega⟩
                intro p r hp hpr hr hrj
                by_cases e : r = j
                · subst e
                  rw [sw_l]
                  by_cases e : p = r - 1
                  · subst e; rw [sw_r]; exact ordr.asym _ _ hl
                  · rw [sw_ne _ (by omega) (by omega)]; exact o2 p (r - 1) hp (by omega) (by omega) (by omega)
                · rw [sw_ne _ e hrj]
                  by_cases e1 : p = j
                  · subst e1; rw [sw_l]; exact o2 (p - 1) r (by omega) (by omega) hr (by omega)
                  · by_cases e2 : p = j - 1
                    · subst e2; rw [sw_r]; exact o2 j r (by omega) (by omega) hr e
                    · rw [sw_ne _ e1 e2]; exact o2 p r hp hpr hr e
        clear s2 w2 o2 e1 e2
        rintro bs5 h5 ⟨d2, s2, w2, o2⟩
        cases hbi : ltI (b - i) 2 with
        | true => exact ⟨⟨hi0, hi1, by omega, by omega, d2, s2, w2, o2⟩, by omega⟩
        | false =>
          rw [ltI_eq, decide_eq_false_iff_not] at hbi
          simp (disch := omega) only [wr, eq_self, true_and, and_true, cond_true, cond_false, onS, Bool.not_true, Bool.not_false, Int.toNat_natCast]
          refine ⟨fun vs h' => match vs with
            | [.int _ j] => i < j ∧ j ≤ b ∧ ∃ d', SS en g q fr bk n d' h' ∧ Sw a b d d' ∧ Srt lt a i d'
            | _ => False, fun vs _ => match vs with
            | [.int _ j] => (b - j).toNat
            | _ => 0, ⟨by omega, by omega, d2, s2, w2, o2⟩, ?_⟩
          clear s2 w2 o2
          rintro bs6 j h6 ⟨hj0, hj1, d2, s2, w2, o2⟩
          cases hj : ltI j b with
          | false => exact ⟨⟨hi0, hi1, by omega, by omega, d2, s2, w2, o2⟩, by omega⟩
          | true =>
            rw [ltI_eq, decide_eq_true_eq] at hj
            simp (disch := omega) only [wr, eq_self, true_and, and_true, cond_true, cond_false, onS, Bool.not_true, Bool.not_false, Int.toNat_natCast]
            refine ⟨⟨by omega, by omega⟩, d2 j, s2.ld (by omega) (by omega), ⟨by omega, by omega⟩, d2 (j - 1), s2.ld (by omega) (by omega), ?_⟩
            refine (less_spec _ _).mono ?_
            rintro _ _ ⟨rfl, rfl⟩
            refine ⟨_, rfl, ?_⟩
            cases hl : lt (d2 j) (d2 (j - 1)) with
            | false => exact ⟨⟨hi0, hi1, by omega, by omega, d2, s2, w2, o2⟩, by omega⟩
            | true =>
              obtain ⟨g1, g2, e1, e2, s3⟩ := s2.swap (i := j) (j := j - 1) (by omega) (by omega) (by omega) (by omega)
              simp (disch := omega) only [wr, eq_self, true_and, and_true, cond_true, cond_false, onS, Bool.not_true, Bool.not_false, Int.toNat_natCast]
              refine ⟨⟨by omega, by omega⟩, d2 (j - 1), s2.ld (by omega) (by omega), ⟨by omega, by omega⟩, d2 j, s2.ld (by omega) (by omega), ⟨by omega, by omega⟩, g1, e1, ⟨by omega, by omega⟩, g2, e2, ⟨by omega, by omega, _, s3, w2.step j (j - 1) (by omega) (by omega) (by omega) (by omega), fun p r k1 k2 k3 => ?_⟩, by omega⟩
              rw [sw_ne _ (by omega) (by omega), sw_ne _ (by omega) (by omega)]; exact o2 p r k1 k2 k3
end
end Go.Vex.Sort
namespace Go.Vex.Sort
open Go.Proofs

section
variable {g h : Hp} {q n : Nat} {fr bk : List V} {d : Int → E} {f : Bool} {a b : Int}

theorem pdq_spec : ∀ (N : Nat) {h : Hp} {d : Int → E} {A B limit : Int}, (B - A).toNat < N → SS en g q fr bk n d h → 0 ≤ A → A ≤ B → B ≤ n → (n : Int) ≤ 2305843009213693952 → Blw A B d →
    XCalls Try.prog 58 [.slc (some (q, fr.length)) n f, .int .i64 A, .int .i64 B, .int .i64 limit] h fun v h' => v = .tup [] ∧ ∃ d', SS en g q fr bk n d' h' ∧ Sw A B d d' ∧ Srt lt A B d' := by
  intro N
  induction N with
  | zero => intro h d A B limit hN; omega
  | succ N ih =>
    intro h d A B limit hN s h0 hAB hB hn hbl
    refine XCalls.cps fun K hK => ?_
    apply x58; unfold X58
    refine ⟨fun vs h' => match vs with
      | [.int _ a, .int _ b, .int _ _, .bool _, .bool _] => A ≤ a ∧ a ≤ b ∧ b ≤ B ∧ ∃ d', SS en g q fr bk n d' h' ∧ Sw A B d d' ∧ Fix lt A B a b d'
      | _ => False, fun vs _ => match vs with
      | [.int _ a, .int _ b, .int _ _, .bool _, .bool _] => (b - a).toNat
      | _ => 0, ⟨rfl, by omega, by omega, by omega, d, s, .refl, fun p r h1 h2 h3 h4 => by omega⟩, ?_⟩
    rintro bs a b lim wB wP h1 ⟨ha, hab, hb, d1, s1, w1, x1⟩
    simp (disch := omega) only [wr, eq_self, true_and, and_true, cond_true, cond_false, onS, Bool.not_true, Bool.not_false, Int.toNat_natCast]
    have fin : ∀ h', (∃ d2, SS en g q fr bk n d2 h' ∧ Sw a b d1 d2 ∧ Srt lt a b d2) → K (.tup []) h' := fun h' ⟨d2, s2, w2, o2⟩ =>
      hK _ _ ⟨rfl, d2, s2, w1.trans (w2.mono ha hb), (x1.keep ha hb w2).srt o2⟩
    cases hc : ltI 12 (b - a) with
    | false =>
      refine (ins_spec s1 (by omega) hab (by omega) (by omega)).mono ?_
      rintro _ h2 ⟨rfl, hd⟩
      exact fin h2 hd
    | true =>
      rw [ltI_eq, decide_eq_true_eq] at hc
      simp (disch := omega) only [wr, eq_self, true_and, and_true, cond_true, cond_false, onS, Bool.not_true, Bool.not_false, Int.toNat_natCast]
      cases hl : (lim == 0) with
      | true =>
        refine (heap_spec s1 (by omega) hab (by omega) hn).mono ?_
        rintro _ h2 ⟨rfl, hd⟩
        exact fin h2 hd
      | false =>
        simp (disch := omega) only [wr, eq_self, true_and, and_true, cond_true, cond_false, onS, Bool.not_true, Bool.not_false, Int.toNat_natCast]
        -- the state at each join
        refine ⟨fun vs h' => match vs with
          | [.int _ _] => ∃ d', SS en g q fr bk n d' h' ∧ Sw a b d1 d'
          | _ => False, ?_, ?_⟩
        · cases wB with
          | true => exact ⟨d1, s1, .refl⟩
          | false =>
            refine (brk_spec s1 (by omega) hab (by omega) hn).mono ?_
            rintro _ h2 ⟨rfl, d2, s2, w2⟩
            exact ⟨d2, s2, w2⟩
        rintro bs2 lim2 h2 ⟨d2, s2, w2⟩
        refine (cho_spec s2 (by omega) (by omega) (by omega) hn).mono ?_
        rintro _ h3 ⟨⟨pv, hint, rfl, hp0, hp1⟩, s3⟩
        refine ⟨pv, hint, rfl, ?_⟩
        simp (disch := omega) only [wr, eq_self, true_and, and_true, cond_true, cond_false, onS, Bool.not_true, Bool.not_false, Int.toNat_natCast]
        refine ⟨fun vs h' => match vs with
          | [.int _ _, .int _ p] => a ≤ p ∧ p < b ∧ ∃ d', SS en g q fr bk n d' h' ∧ Sw a b d1 d'
          | _ => False, ?_, ?_⟩
        · cases hh : (hint == 2) with
          | true =>
            refine (rev_spec s3 (by omega) hab (by omega) hn).mono ?_
            rintro _ h4 ⟨rfl, d4, s4, w4⟩
            simp (disch := omega) only [wr, eq_self, true_and, and_true, cond_true, cond_false, onS, Bool.not_true, Bool.not_false, Int.toNat_natCast]
            exact ⟨by omega, by omega, d4, s4, w2.trans w4⟩
          | false => exact ⟨hp0, hp1, d2, s3, w2⟩
        clear s3 hp0 hp1 w2 s2
        rintro bs3 hint2 p h4 ⟨hp0, hp1, d4, s4, w4⟩
        refine ⟨fun vs h' => match vs with
          | [] => ∃ d', SS en g q fr bk n d' h' ∧ Sw a b d1 d'
          | _ => False, ?_, ?_⟩
        · cases wB with
          | false => exact ⟨d4, s4, w4⟩
          | true =>
            cases wP with
            | false => exact ⟨d4, s4, w4⟩
            | true =>
              cases hint2 == 1 with
              | false => exact ⟨d4, s4, w4⟩
              | true =>
                have hbl4 : Blw a b d4 := by
                  by_cases e : a = A
                  · subst e
                    rcases hbl with e | e
                    · exact .inl e
                    · right
                      have w5 := w1.trans (w4.mono (Int.le_refl _) hb)
                      rw [w5.out (k := a - 1) (.inl (by omega))]
                      have := w5.all (fun x => lt x (d (a - 1)) = false) e
                      exact fun k k1 k2 => this k k1 (by omega)
                  · right
                    intro k k1 k2
                    exact (x1.keep ha hb w4) (a - 1) k (by omega) (by omega) (by omega) (.inl (by omega))
                refine (pins_spec s4 (by omega) (by omega) (by omega) hn hbl4).mono ?_
                rintro _ h5 ⟨t, rfl, d5, s5, w5, o5⟩
                refine ⟨t, rfl, ?_⟩
                cases t with
                | true => exact fin h5 ⟨d5, s5, w4.trans w5, o5 rfl⟩
                | false => exact ⟨d5, s5, w4.trans w5⟩
        clear s4 w4
        rintro bs4 h5 ⟨d5, s5, w5⟩
        have x5 := x1.keep ha hb w5
        have hbl5 : Blw a b d5 := by
          by_cases e : a = A
          · subst e
            rcases hbl with e | e
            · exact .inl e
            · right
              have w6 := w1.trans (w5.mono (Int.le_refl _) hb)
              rw [w6.out (k := a - 1) (.inl (by omega))]
              have := w6.all (fun x => lt x (d (a - 1)) = false) e
              exact fun k k1 k2 => this k k1 (by omega)
          · right
            intro k k1 k2
            exact x5 (a - 1) k (by omega) (by omega) (by omega) (.inl (by omega))
        refine ⟨fun vs h' => match vs with
          | [.int _ a'] => a' = a ∧ SS en g q fr bk n d5 h'
          | _ => False, ?_, ?_⟩
        · cases ha0 : ltI 0 a with
          | false => exact ⟨rfl, s5⟩
          | true =>
            rw [ltI_eq, decide_eq_true_eq] at ha0
            simp (disch := omega) only [wr, eq_self, true_and, and_true, cond_true, cond_false, onS, Bool.not_true, Bool.not_false, Int.toNat_natCast]
            refine ⟨⟨by omega, by omega⟩, d5 (a - 1), s5.ld (by omega) (by omega), ⟨by omega, by omega⟩, d5 p, s5.ld (by omega) (by omega), ?_⟩
            refine (less_spec _ _).mono ?_
            rintro _ _ ⟨rfl, rfl⟩
            refine ⟨_, rfl, ?_⟩
            cases hlt : lt (d5 (a - 1)) (d5 p) with
            | true => exact s5
            | false =>
              refine (peq_spec s5 (by omega) hp0 hp1 (by omega) hn).mono ?_
              rintro _ h6 ⟨m, rfl, hm0, hm1, d6, s6, w6, v6, o6⟩
              have hge : ∀ k, a ≤ k → k < b → lt (d6 k) (d6 a) = false := by
                rw [v6]
                refine w6.all (fun x => lt x (d5 p) = false) fun k k1 k2 => ?_
                rcases hbl5 with e | e
                · omega
                · exact ordr.trans _ _ _ hlt (e k k1 k2)
              have x6 := x5.keep ha hb w6
              refine ⟨m, rfl, ⟨by omega, hm1, hb, d6, s6, w1.trans ((w5.trans w6).mono ha hb), fun i j k1 k2 k3 k4 => ?_⟩, by omega⟩
              by_cases e : i < a ∨ b ≤ j
              · exact x6 i j k1 k2 k3 e
              · exact ordr.trans _ _ _ (o6 i (by omega) (by omega)) (hge j (by omega) (by omega))
        rintro bs5 a' h6 ⟨rfl, s6⟩
        refine (part_spec s6 (by omega) hp0 hp1 (by omega) hn).mono ?_
        rintro _ h7 ⟨m, c, rfl, hm0, hm1, d7, s7, w7, l7, r7⟩
        have x7 := x5.keep ha hb w7
        have w75 := w1.trans ((w5.trans w7).mono ha hb)
        refine ⟨m, c, rfl, by decide, ?_⟩
        simp (disch := omega) only [wr, eq_self, true_and, and_true, cond_true, cond_false, onS, Bool.not_true, Bool.not_false, Int.toNat_natCast]
        have hbl7 := hbl5.keep w7
        cases hlr : ltI (m - a') (b - m) with
        | true =>
          refine (ih (by omega) s7 (by omega) hm0 (by omega) hn ?_).mono ?_
          · rcases hbl7 with e | e
            · exact .inl e
            · exact .inr fun k k1 k2 => e k k1 (by omega)
          rintro _ h8 ⟨rfl, d8, s8, w8, o8⟩
          refine ⟨⟨by omega, by omega, hb, d8, s8, w75.trans (w8.mono ha (by omega)), fun i j k1 k2 k3 k4 => ?_⟩, by omega⟩
          have x8 := x7.keep ha hb (w8.mono (Int.le_refl _) (by omega))
          by_cases e : i < a' ∨ b ≤ j
          · exact x8 i j k1 k2 k3 e
          · have hle : ∀ k, a' ≤ k → k < m → lt (d8 m) (d8 k) = false := by
              rw [w8.out (k := m) (.inr (by omega))]
              exact w8.all (fun x => lt (d7 m) x = false) l7
            have hge : ∀ k, m < k → k < b → lt (d8 k) (d8 m) = false := fun k y1 y2 => by
              rw [w8.out (k := m) (.inr (by omega)), w8.out (k := k) (.inr (by omega))]; exact r7 k y1 y2
            by_cases e1 : j < m
            · exact o8 i j (by omega) k2 e1
            · by_cases e2 : i < m
              · by_cases e3 : j = m
                · subst e3; exact hle i (by omega) e2
                · exact ordr.trans _ _ _ (hle i (by omega) e2) (hge j (by omega) (by omega))
              · obtain rfl : i = m := by omega
                exact hge j (by omega) (by omega)
        | false =>
          refine (ih (by omega) s7 (by omega) (by omega) (by omega) hn ?_).mono ?_
          · right
            intro k k1 k2
            rw [show m + 1 - 1 = m by omega]
            exact r7 k (by omega) k2
          rintro _ h8 ⟨rfl, d8, s8, w8, o8⟩
          refine ⟨⟨ha, hm0, by omega, d8, s8, w75.trans (w8.mono (by omega) hb), fun i j k1 k2 k3 k4 => ?_⟩, by omega⟩
          have x8 := x7.keep ha hb (w8.mono (by omega) (Int.le_refl _))
          by_cases e : i < a' ∨ b ≤ j
          · exact x8 i j k1 k2 k3 e
          · have hle : ∀ k, a' ≤ k → k < m → lt (d8 m) (d8 k) = false := fun k y1 y2 => by
              rw [w8.out (k := m) (.inl (by omega)), w8.out (k := k) (.inl (by omega))]; exact l7 k y1 y2
            have hge : ∀ k, m < k → k < b → lt (d8 k) (d8 m) = false := by
              rw [w8.out (k := m) (.inl (by omega))]
              exact fun k y1 y2 => w8.all (fun x => lt x (d7 m) = false) (fun k z1 z2 => r7 k (by omega) z2) k (by omega) y2
            by_cases e1 : m < i
            · exact o8 i j (by omega) k2 (by omega)
            · by_cases e2 : i = m
              · subst e2; exact hge j (by omega) (by omega)
              · by_cases e3 : j = m
                · subst e3; exact hle i (by omega) (by omega)
                · exact ordr.trans _ _ _ (hle i (by omega) (by omega)) (hge j (by omega) (by omega))

/-- slices.Sort sorts a row -/
theorem sort_spec (s : SS en g q fr bk n d h) (hn : (n : Int) ≤ 2305843009213693952) :
    XCalls Try.prog 50 [.slc (some (q, fr.length)) n f] h fun v h' => v = .tup [] ∧ ∃ d', SS en g q fr bk n d' h' ∧ Sw 0 n d d' ∧ Srt lt 0 n d' := by
  apply x50; unfold X50
  rw [u64w (by omega) (by omega)]
  refine (len_spec (by omega) (by omega)).mono ?_
  rintro _ _ ⟨rfl, m, rfl, _⟩
  refine ⟨_, rfl, ?_⟩
  refine (pdq_spec (n + 1) (by omega) s (by omega) (by omega) (by omega) hn (.inl rfl)).mono ?_
  rintro _ h2 ⟨rfl, hd⟩
  exact ⟨rfl, hd⟩

/-- and what has no element -/
theorem sort_none {o : Option (Nat × Nat)} : XCalls Try.prog 50 [.slc o 0 f] h fun v h' => v = .tup [] ∧ h' = h := by
  apply x50; unfold X50
  rw [u64w (by omega) (by omega)]
  refine (len_spec (by omega) (by omega)).mono ?_
  rintro _ h0 ⟨rfl, m, rfl, _⟩
  refine ⟨_, rfl, ?_⟩
  apply x58; unfold X58
  refine ⟨fun vs h' => match vs with
    | [.int _ a, .int _ b, .int _ _, .bool _, .bool _] => a = 0 ∧ b = 0 ∧ h' = h0
    | _ => False, fun _ _ => 0, ⟨rfl, rfl, rfl, rfl⟩, ?_⟩
  rintro bs a b lim wB wP h1 ⟨rfl, rfl, rfl⟩
  simp (disch := omega) only [wr, eq_self, true_and, and_true, cond_true, cond_false, onS, Bool.not_true, Bool.not_false, Int.toNat_natCast]
  have : ltI 12 (0 - 0) = false := rfl
  rw [this]
  apply x62; unfold X62
  refine ⟨fun vs h' => match vs with
    | [.int _ i] => i = 1 ∧ h' = h1
    | _ => False, fun _ _ => 0, ⟨rfl, rfl, rfl⟩, ?_⟩
  rintro bs2 i h2 ⟨rfl, rfl⟩
  have : ltI 1 0 = false := rfl
  rw [this]
  first | exact ⟨rfl, rfl⟩ | rfl
end

/-- rising, each once -/
def Rising (l : List E) : Prop := l.Pairwise fun x y => lt y x = false

theorem lst_rising {n : Nat} {d : Int → E} (h : Srt lt 0 n d) : Rising (lst n d) := by
  unfold Rising lst
  rw [List.pairwise_map]
  refine List.Pairwise.imp_of_mem ?_ List.pairwise_lt_range
  intro i j hi hj hij
  have := List.mem_range.1 hj
  exact h i j (by omega) (by omega) (by omega)

theorem own_rows {a : Option (Nat × Nat)} {n : Nat} {l : List E} {h : Hp} {F : List Nat} (ho : Own 1 a n (l.map fun k => [en k]) h F) (hn : 0 < n) :
    ∃ q fr, a = some (q, fr.length) ∧ F = [q] ∧ h.get q = some (.row (fr ++ (l.map en ++ [])) 1 false) ∧ l.length = n := by
  obtain ⟨h1, h2, h3⟩ := ho
  cases a with
  | none => obtain ⟨h3, _⟩ := h3; rw [h3] at h1; simp at h1; omega
  | some p =>
    obtain ⟨q, o⟩ := p
    obtain ⟨rfl, fr, rfl, hg⟩ := h3
    refine ⟨q, fr, rfl, rfl, ?_, by simpa using h1⟩
    have : (l.map fun k => [en k]).flatten = l.map en ++ [] := by
      rw [List.append_nil]; clear hg h1 h2
      induction l with
      | nil => rfl
      | cons x l ih => simp only [List.map_cons, List.flatten_cons, ih]; rfl
    rw [← this]; exact hg

/-- slices.Sort of a slice of its own -/
theorem sort_own {a : Option (Nat × Nat)} {n : Nat} {f : Bool} {l : List E} {h : Hp} {F : List Nat} (hw : h.wf) (ho : Own 1 a n (l.map fun k => [en k]) h F) (hn : n ≤ 1073741824) :
    XCalls Try.prog 50 [.slc a n f] h fun v h' => v = .tup [] ∧ ∃ l' : List E, l'.Perm l ∧ Rising l' ∧ Own 1 a n (l'.map fun k => [en k]) h' F ∧ (∀ j, j ∉ F → j < h.next → h'.get j = h.get j) ∧ h.next ≤ h'.next ∧ h'.wf := by
  by_cases h0 : n = 0
  · subst h0
    refine (sort_none).mono ?_
    rintro _ _ ⟨rfl, rfl⟩
    have : l = [] := by have := ho.1; simpa using this
    subst this
    exact ⟨rfl, [], .refl _, List.Pairwise.nil, ho, fun _ _ _ => rfl, Nat.le_refl _, hw⟩
  · obtain ⟨q, fr, rfl, rfl, hg, hl⟩ := own_rows ho (by omega)
    have hne : l ≠ [] := fun e => by subst e; simp at hl; omega
    obtain ⟨x0⟩ : Nonempty E := ⟨l.head hne⟩
    have hd : lst n (fun i => l.getD i.toNat x0) = l := by rw [← hl]; exact lst_ofFn l x0
    have s : SS en h q fr [] n (fun i => l.getD i.toNat x0) h := ⟨by unfold Rw; rw [hd]; exact hg, fun _ _ _ => rfl, Nat.le_refl _, hw⟩
    refine (sort_spec s (by omega)).mono ?_
    rintro _ h' ⟨rfl, d', s', w', o'⟩
    refine ⟨rfl, lst n d', by have := w'.perm; rw [hd] at this; exact this, lst_rising o', ⟨by simp [lst_length], by simp, rfl, fr, rfl, ?_⟩, fun j hj hlt => s'.same j (by simpa using hj) hlt, s'.le, s'.wf⟩
    have := s'.row
    unfold Rw at this
    rw [this, List.append_nil]
    congr 3
    generalize lst n d' = l2
    induction l2 with
    | nil => rfl
    | cons x l ih => simp only [List.map_cons, List.flatten_cons, ← ih]; rfl

end Go.Vex.Sort
namespace Go.Vex.Sort
open Go.Proofs

section
variable {β : Type} {vV : β → V}

theorem tMap : ∃ ti, T 64 = some ti ∧ ti.d = .map 34 31 := ⟨_, rfl, rfl⟩
theorem tSlc : ∃ ti, T 75 = some ti ∧ ti.d = .slc 34 := ⟨_, rfl, rfl⟩
theorem tK : ∃ ei, T 34 = some ei ∧ ei.size = 1 ∧ ei.bytes ≤ 16 ∧ zok ei = true := ⟨_, rfl, rfl, by decide, rfl⟩

/-- the iterator of maps.Keys: each key once, in some order -/
theorem keys1_spec {h : Hp} {K : V → Hp → Prop} {l c m : Nat} {L : List (E × β)} (J : List E → Hp → Prop) (hw : h.wf) (hc : h.get c = some (.row [.map (some m)] 1 false)) (hm : MapIs en vV L m h [m])
    (h0 : ∀ h', (∀ j, j ≠ h.next → h'.get j = h.get j) → h'.next = h.next + 1 → h'.wf → J [] h')
    (step : ∀ (done : List E) (k : E) (rest : List E) (h1 : Hp), J done h1 → (done ++ k :: rest).Perm (L.map Prod.fst) → XYield Try.prog l [en k] h1 fun v h2 => v = .bool true ∧ J (done ++ [k]) h2 ∧ h2.get m = h1.get m ∧ h2.get h.next = h1.get h.next)
    (stab : ∀ (done : List E) (h1 h2 : Hp), J done h1 → (∀ j, j ≠ h.next → h2.get j = h1.get j) → h2.next = h1.next → J done h2)
    (fin : ∀ (done : List E) (h1 : Hp), J done h1 → done.Perm (L.map Prod.fst) → K (.tup []) h1) :
    XCalls Try.prog 51 [.yld l, .ptr (some (c, 0))] h K := by
  obtain ⟨ti, ht, hd⟩ := tMap
  obtain ⟨g, cur, hx, hi, hcur, hsame, hnext, hwg⟩ := hm.range hw ht hd
  have hml : m < h.next := by obtain ⟨_, es, clk, hg, _⟩ := hm; exact hw.lt hg
  have hne : m ≠ h.next := by omega
  apply x51; unfold X51
  refine ⟨some m, by rw [Hp.ld_of hc]; rfl, g, hx, fun _ h1 => ∃ sn done, MapIter en vV cur m h.next sn h1 ∧ J done h1 ∧ (done ++ (rem cur sn).map fun z => z.1.1).Perm (L.map Prod.fst),
    fun _ h1 => match h1.get h.next with
      | some (.miter _ _ sn _) => (rem cur sn).length
      | _ => 0, ⟨rfl, [], [], hi, h0 g hsame hnext hwg, by rw [rem_nil, ← hcur, List.map_map]; exact .refl _⟩, ?_⟩
  rintro bs h1 ⟨sn, done, hi1, hJ, hp⟩
  obtain ⟨r, hr, hend, hforms, hstep⟩ := hi1.next hne
  refine ⟨r, hr, fun hm => ?_, hforms, ?_⟩
  · have := hend hm
    rw [this, List.map_nil, List.append_nil] at hp
    exact fin done h1 hJ hp
  · intro a b h2 hm2
    obtain ⟨z, hz, rfl, rfl, hi2, he, hs2, hn2⟩ := hstep a b h2 hm2
    have hrs := rem_step hi1.nodup hz
    have hp2 : (done ++ z.1.1 :: (rem cur (sn ++ [z.2])).map fun z => z.1.1).Perm (L.map Prod.fst) := (List.Perm.append_left done (hrs.map _).symm).trans hp
    refine ⟨z.1.1, _, he, ?_⟩
    refine (step done z.1.1 _ h2 (stab done h1 h2 hJ hs2 hn2) hp2).mono ?_
    rintro _ h3 ⟨rfl, hJ3, hm3, hit3⟩
    refine ⟨true, rfl, rfl, ⟨sn ++ [z.2], done ++ [z.1.1], hi2.keep hm3 hit3, hJ3, by simpa using hp2⟩, ?_⟩
    obtain ⟨clk1, _, _, e1⟩ := hi1.ex
    obtain ⟨clk2, _, _, e2⟩ := hi2.ex
    rw [← hit3] at e2
    show (match h3.get h.next with
      | some (.miter _ _ sn _) => (rem cur sn).length
      | _ => 0) < (match h1.get h.next with
      | some (.miter _ _ sn _) => (rem cur sn).length
      | _ => 0)
    rw [e1, e2]
    simp only
    have := hrs.length_eq
    simp only [List.length_cons] at this
    omega

/-- appended to nothing -/
theorem appseq_spec {h : Hp} {c m : Nat} {L : List (E × β)} (hw : h.wf) (hc : h.get c = some (.row [.map (some m)] 1 false)) (hm : MapIs en vV L m h [m]) (hL : L.length ≤ 1073741824) :
    XCalls Try.prog 57 [.slc none 0 true, .fn (.func 51) [] [.ptr (some (c, 0))]] h fun v h' => ∃ (a : Option (Nat × Nat)) (f : Bool) (done : List E) (F : List Nat), v = .slc a L.length f ∧ done.Perm (L.map Prod.fst) ∧ Own 1 a L.length (done.map fun k => [en k]) h' F ∧
      (∀ j, j < h.next → h'.get j = h.get j) ∧ h.next ≤ h'.next ∧ h'.wf ∧ ∀ j ∈ F, h.next ≤ j := by
  refine XCalls.cps fun K hK => ?_
  obtain ⟨ti, ht, hd⟩ := tSlc
  obtain ⟨ei, he, es, eb, ez⟩ := tK
  apply x57; unfold X57
  rintro h1 rfl rec hrec h2 rfl hY
  have hcl : c < h.next := hw.lt hc
  have hml : m < h.next := by obtain ⟨_, es, clk, hg, _⟩ := hm; exact hw.lt hg
  have n1 : (h.alloc (.row [.slc none 0 true] 1 false)).next = h.next + 1 := rfl
  rw [n1] at hY ⊢
  have hold : ∀ j, j < h.next → (((h.alloc (.row [.slc none 0 true] 1 false)).alloc (.dfr true)).alloc (rec .ready none)).get j = h.get j := fun j hj => by
    rw [Hp.get_alloc_ne (by simp; omega), Hp.get_alloc_ne (by simp; omega), Hp.get_alloc_ne (by omega)]
  have hp2 : (((h.alloc (.row [.slc none 0 true] 1 false)).alloc (.dfr true)).alloc (rec .ready none)).get h.next = some (.row [.slc none 0 true] 1 false) := by
    rw [Hp.get_alloc_ne (by simp; omega), Hp.get_alloc_ne (by simp), Hp.get_alloc_self]
  have hd2 : (((h.alloc (.row [.slc none 0 true] 1 false)).alloc (.dfr true)).alloc (rec .ready none)).get (h.next + 1) = some (.dfr true) := by
    rw [Hp.get_alloc_ne (by simp)]; exact Hp.get_alloc_self
  have hl2 : (((h.alloc (.row [.slc none 0 true] 1 false)).alloc (.dfr true)).alloc (rec .ready none)).get (h.next + 2) = some (rec .ready none) := Hp.get_alloc_self
  have hn2 : (((h.alloc (.row [.slc none 0 true] 1 false)).alloc (.dfr true)).alloc (rec .ready none)).next = h.next + 3 := rfl
  have hw2 : (((h.alloc (.row [.slc none 0 true] 1 false)).alloc (.dfr true)).alloc (rec .ready none)).wf := hw.alloc.alloc.alloc
  generalize ((h.alloc (.row [.slc none 0 true] 1 false)).alloc (.dfr true)).alloc (rec .ready none) = h2 at *
  have hc2 : h2.get c = some (.row [.map (some m)] 1 false) := by rw [hold c hcl]; exact hc
  have hm2 : MapIs en vV L m h2 [m] := (MapIs.rep _ _ _ _).loc _ _ _ (fun j hj => by rw [List.mem_singleton] at hj; subst hj; exact hold _ hml) hm
  refine (keys1_spec (K := fun v h' => ∃ (done : List E) (a : Option (Nat × Nat)) (f : Bool) (F : List Nat), done.Perm (L.map Prod.fst) ∧ h'.get h.next = some (.row [.slc a done.length f] 1 false) ∧ Own 1 a done.length (done.map fun k => [en k]) h' F ∧ h'.get (h.next + 2) = some (rec .ready none) ∧ h'.get (h.next + 1) = some (.dfr true) ∧
      (∀ j, j < h.next → h'.get j = h.get j) ∧ (∀ j ∈ F, h.next + 3 < j) ∧ h.next + 4 ≤ h'.next ∧ h'.wf)
    (fun done h' => ∃ a f F, h'.get h.next = some (.row [.slc a done.length f] 1 false) ∧ Own 1 a done.length (done.map fun k => [en k]) h' F ∧ h'.get (h.next + 2) = some (rec .ready none) ∧ h'.get (h.next + 1) = some (.dfr true) ∧
      (∀ j, j < h.next → h'.get j = h.get j) ∧ (∀ j ∈ F, h.next + 3 < j) ∧ h.next + 4 ≤ h'.next ∧ h'.wf) hw2 hc2 hm2 ?_ ?_ ?_ ?_).mono ?_
  · intro h' hs hn hw'
    rw [hn2] at hs hn
    exact ⟨none, true, [], by rw [hs _ (by omega)]; exact hp2, Own.nil 1 h', by rw [hs _ (by omega)]; exact hl2, by rw [hs _ (by omega)]; exact hd2, fun j hj => by rw [hs _ (by omega)]; exact hold j hj, by simp, by omega, hw'⟩
  · rintro done k rest g ⟨a, f, F, gp, go, gl, gd, gs, gF, gn, gw⟩ hperm
    rw [hn2]
    refine hY k g _ gl ⟨gl, ?_⟩
    have hlen : done.length + 1 ≤ L.length := by have := hperm.length_eq; simp at this; omega
    rintro g2 rfl
    have w2 : (g.set (h.next + 2) (rec .busy none)).wf := gw.set (by omega)
    refine ⟨a, done.length, f, by rw [Hp.ld_of (c := [.slc a done.length f]) (e := 1) (r := false) (by rw [Hp.get_set_ne (by omega)]; exact gp)]; rfl, ?_⟩
    rintro g3 rfl
    have hF3 : ∀ j ∈ F, ((g.set (h.next + 2) (rec .busy none)).alloc (.row [en k] 1 false)).get j = g.get j := fun j hj => by
      have := (Own.rep _ _ _ _).lt gw go hj
      have := gF j hj
      rw [Hp.get_alloc_ne (by simp; omega), Hp.get_set_ne (by omega)]
    have go3 := (Own.rep _ _ _ _).loc _ _ _ hF3 go
    have hx3 : ((g.set (h.next + 2) (rec .busy none)).alloc (.row [en k] 1 false)).get (g.set (h.next + 2) (rec .busy none)).next = some (.row [en k] 1 false) := Hp.get_alloc_self
    obtain ⟨g4, hx, go4, u4, w4⟩ := go3.app (f := f) (u := 75) (y := .slc (some ((g.set (h.next + 2) (rec .busy none)).next, 0)) 1 true) (news := [[en k]]) w2.alloc ht hd ht (by intro k; rw [hd]; exact fun h => by cases h) he es (by omega) ez
      (xnews_one hx3 rfl) (by simp) (by simp) (by simp; exact Nat.le_trans (Nat.mul_le_mul (show done.length + 1 ≤ 1073741824 by omega) eb) (by decide)) (by simp; omega)
    refine ⟨_, _, _, g4, hx, ?_⟩
    have keep4 : ∀ j, j < g.next → j ∉ F → j ≠ h.next + 2 → g4.get j = g.get j := fun j h1 h2 h3 => by
      rw [u4.same j (by simp; omega) h2, Hp.get_alloc_ne (by simp; omega), Hp.get_set_ne h3]
    have gp4 : g4.get h.next = some (.row [.slc a done.length f] 1 false) := by rw [keep4 _ (by omega) (fun hF => by have := gF _ hF; omega) (by omega)]; exact gp
    refine ⟨_, Hp.st_of gp4 (Nat.le_of_ble_eq_true rfl), ?_⟩
    have gl4 : g4.get (h.next + 2) = some (rec .busy none) := by
      rw [u4.same _ (by simp; omega) (fun hF => by have := gF _ hF; omega), Hp.get_alloc_ne (by simp; omega), Hp.get_set_self]
    have hn4 : g.next + 1 ≤ g4.next := u4.le
    have hF4 : h.next + 3 < g.next := by omega
    refine ⟨by rw [Hp.get_set_ne (by omega)]; exact gl4, ?_⟩
    rintro g6 rfl
    refine ⟨rfl, ⟨some (((g.set (h.next + 2) (rec .busy none)).alloc (.row [en k] 1 false)).next, 0), false, [((g.set (h.next + 2) (rec .busy none)).alloc (.row [en k] 1 false)).next], ?_, ?_, Hp.get_set_self, ?_, ?_, ?_, ?_, ?_⟩, ?_, ?_⟩
    · rw [Hp.get_set_ne (by omega), Hp.get_set_self, List.length_append]; rfl
    · rw [List.map_append, List.length_append]
      exact (Own.rep _ _ _ _).loc _ _ _ (fun j hj => by rw [List.mem_singleton] at hj; subst hj; rw [Hp.get_set_ne (by simp; omega), Hp.get_set_ne (by simp; omega)]) go4
    · rw [Hp.get_set_ne (by omega), Hp.get_set_ne (by omega), keep4 _ (by omega) (fun hF => by have := gF _ hF; omega) (by omega)]; exact gd
    · intro j hj
      rw [Hp.get_set_ne (by omega), Hp.get_set_ne (by omega), keep4 _ (by omega) (fun hF => by have := gF _ hF; omega) (by omega)]; exact gs j hj
    · intro j hj; rw [List.mem_singleton] at hj; subst hj; simp; omega
    · simp; omega
    · exact (w4.set (w4.lt gp4)).set (by simp; omega)
    · rw [Hp.get_set_ne (by omega), Hp.get_set_ne (by omega), keep4 _ (by omega) (fun hF => by have := gF _ hF; omega) (by omega)]
    · rw [Hp.get_set_ne (by omega), Hp.get_set_ne (by omega), keep4 _ (by omega) (fun hF => by have := gF _ hF; omega) (by omega)]
  · rintro done g g' ⟨a, f, F, gp, go, gl, gd, gs, gF, gn, gw⟩ hs hn
    rw [hn2] at hs
    refine ⟨a, f, F, by rw [hs _ (by omega)]; exact gp, (Own.rep _ _ _ _).loc _ _ _ (fun j hj => hs j (by have := gF j hj; omega)) go, by rw [hs _ (by omega)]; exact gl, by rw [hs _ (by omega)]; exact gd, fun j hj => by rw [hs _ (by omega)]; exact gs j hj, gF, by omega, ?_⟩
    intro q o hq
    rw [hn]
    by_cases e : q = h.next + 3
    · omega
    · rw [hs q e] at hq; exact gw _ _ hq
  · rintro done g ⟨a, f, F, gp, go, gl, gd, gs, gF, gn, gw⟩ hperm
    exact ⟨done, a, f, F, hperm, gp, go, gl, gd, gs, gF, gn, gw⟩
  · rintro v g ⟨done, a, f, F, hperm, gp, go, gl, gd, gs, gF, gn, gw⟩
    left
    refine ⟨gl, ?_⟩
    rintro g7 rfl
    have gp7 : (g.set (h.next + 2) (rec .exhausted none)).get h.next = some (.row [.slc a done.length f] 1 false) := by rw [Hp.get_set_ne (by omega)]; exact gp
    refine ⟨a, done.length, f, by rw [Hp.ld_of gp7]; rfl, _, shut_one (by rw [Hp.get_set_ne (by omega)]; exact gd), ?_⟩
    have hlen : done.length = L.length := by have := hperm.length_eq; simpa using this
    refine hK _ _ ⟨a, f, done, F, by rw [hlen], hperm, ?_, ?_, by simp; omega, (gw.set (by omega)).set (by simp; omega), fun j hj => by have := gF j hj; omega⟩
    · rw [← hlen]
      exact (Own.rep _ _ _ _).loc _ _ _ (fun j hj => by have := gF j hj; rw [Hp.get_set_ne (by omega), Hp.get_set_ne (by omega)]) go
    · intro j hj
      rw [Hp.get_set_ne (by omega), Hp.get_set_ne (by omega)]; exact gs j hj

/-- slices.Sorted(maps.Keys(m)), behind maps.Keys -/
theorem sorted_spec {h : Hp} {c m : Nat} {L : List (E × β)} (hw : h.wf) (hc : h.get c = some (.row [.map (some m)] 1 false)) (hm : MapIs en vV L m h [m]) (hL : L.length ≤ 1073741824) :
    XCalls Try.prog 38 [.fn (.func 51) [] [.ptr (some (c, 0))]] h fun v h' => ∃ (a : Option (Nat × Nat)) (f : Bool) (l : List E) (F : List Nat), v = .slc a L.length f ∧ l.Perm (L.map Prod.fst) ∧ Rising l ∧ Own 1 a L.length (l.map fun k => [en k]) h' F ∧
      (∀ j, j < h.next → h'.get j = h.get j) ∧ h.next ≤ h'.next ∧ h'.wf ∧ ∀ j ∈ F, h.next ≤ j := by
  apply x38; unfold X38
  apply x49; unfold X49
  refine (appseq_spec hw hc hm hL).mono ?_
  rintro _ h1 ⟨a, f, done, F, rfl, hp, ho, hs, hn, hw1, hF⟩
  refine ⟨_, _, _, rfl, _, _, _, rfl, ?_⟩
  refine (sort_own hw1 ho hL).mono ?_
  rintro _ h2 ⟨rfl, l, hp2, hr, ho2, hs2, hn2, hw2⟩
  exact ⟨a, f, l, F, rfl, hp2.trans hp, hr, ho2, fun j hj => by rw [hs2 j (fun h => by have := hF j h; omega) (by omega)]; exact hs j hj, by omega, hw2, hF⟩

/-- maps.Keys -/
theorem keys_spec {h : Hp} (m : Option Nat) : XCalls Try.prog 39 [.map m] h fun v h' => v = .fn (.func 51) [] [.ptr (some (h.next, 0))] ∧ h' = h.alloc (.row [.map m] 1 false) := by
  apply x39; unfold X39
  rintro h1 rfl
  exact ⟨rfl, rfl⟩
end
end Go.Vex.Sort
