/-
  Contracts of Go's slices.Sort, last part: pattern-defeating quicksort sorts; slices.Sort.
-/
import Derived.Test.YtkpkpnmkoejidaaVexBB
import Derived.Test.YtkpkpnmkoejidaaTab09
import Derived.Test.YtkpkpnmkoejidaaXs09
import Derived.Test.YtkpkpnmkoejidaaCsa09
import Derived.Test.YtkpkpnmkoejidaaCsb09
import Derived.Test.YtkpkpnmkoejidaaCsc09
set_option linter.unusedVariables false
set_option linter.unusedSimpArgs false
namespace Go.Vex.Sort
open Go.Proofs

section
variable {g h : Hp} {q n : Nat} {fr bk : List V} {d : Int → E} {f : Bool} {a b : Int}

theorem pdq_spec : ∀ (N : Nat) {h : Hp} {d : Int → E} {A B limit : Int}, (B - A).toNat < N → SS en g q fr bk n d h → 0 ≤ A → A ≤ B → B ≤ n → (n : Int) ≤ 2305843009213693952 → Blw A B d →
    XCalls Try.prog 26 [.slc (some (q, fr.length)) n f, .int .i64 A, .int .i64 B, .int .i64 limit] h fun v h' => v = .tup [] ∧ ∃ d', SS en g q fr bk n d' h' ∧ Sw A B d d' ∧ Srt lt A B d' := by
  intro N
  induction N with
  | zero => intro h d A B limit hN; omega
  | succ N ih =>
    intro h d A B limit hN s h0 hAB hB hn hbl
    refine XCalls.cps fun K hK => ?_
    apply x26; unfold X26
    refine ⟨fun vs h' => match vs with
      | [.int _ a, .int _ b, .int _ _, .bool _, .bool _] => A ≤ a ∧ a ≤ b ∧ b ≤ B ∧ ∃ d', SS en g q fr bk n d' h' ∧ Sw A B d d' ∧ Fix lt A B a b d'
      | _ => False, fun vs _ => match vs with
      | [.int _ a, .int _ b, .int _ _, .bool _, .bool _] => (b - a).toNat
      | _ => 0, ⟨rfl, by omega, by omega, by omega, d, s, .refl, fun p r h1 h2 h3 h4 => by omega⟩, ?_⟩
    rintro bs a b lim wB wP h1 ⟨ha, hab, hb, d1, s1, w1, x1⟩
    simp (disch := omega) only [wr, eq_self, true_and, and_true, cond_true, cond_false, onS, Bool.not_true, Bool.not_false, Int.toNat_natCast]
    have fin : ∀ h', (∃ d2, SS en g q fr bk n d2 h' ∧ Sw a b d1 d2 ∧ Srt lt a b d2) → K (.tup []) h' := fun h' ⟨d2, s2, w2, o2⟩ =>
      hK _ _ ⟨rfl, d2, s2, w1.trans (w2.mono ha hb), (x1.keep ha hb w2).srt o2⟩
    cases hc : ltI 12 (b - a) with
    | false =>
      refine (ins_spec s1 (by omega) hab (by omega) (by omega)).mono ?_
      rintro _ h2 ⟨rfl, hd⟩
      exact fin h2 hd
    | true =>
      rw [ltI_eq, decide_eq_true_eq] at hc
      simp (disch := omega) only [wr, eq_self, true_and, and_true, cond_true, cond_false, onS, Bool.not_true, Bool.not_false, Int.toNat_natCast]
      cases hl : (lim == 0) with
      | true =>
        refine (heap_spec s1 (by omega) hab (by omega) hn).mono ?_
        rintro _ h2 ⟨rfl, hd⟩
        exact fin h2 hd
      | false =>
        simp (disch := omega) only [wr, eq_self, true_and, and_true, cond_true, cond_false, onS, Bool.not_true, Bool.not_false, Int.toNat_natCast]
        -- the state at each join
        refine ⟨fun vs h' => match vs with
          | [.int _ _] => ∃ d', SS en g q fr bk n d' h' ∧ Sw a b d1 d'
          | _ => False, ?_, ?_⟩
        · cases wB with
          | true => exact ⟨d1, s1, .refl⟩
          | false =>
            refine (brk_spec s1 (by omega) hab (by omega) hn).mono ?_
            rintro _ h2 ⟨rfl, d2, s2, w2⟩
            exact ⟨d2, s2, w2⟩
        rintro bs2 lim2 h2 ⟨d2, s2, w2⟩
        refine (cho_spec s2 (by omega) (by omega) (by omega) hn).mono ?_
        rintro _ h3 ⟨⟨pv, hint, rfl, hp0, hp1⟩, s3⟩
        refine ⟨pv, hint, rfl, ?_⟩
        simp (disch := omega) only [wr, eq_self, true_and, and_true, cond_true, cond_false, onS, Bool.not_true, Bool.not_false, Int.toNat_natCast]
        refine ⟨fun vs h' => match vs with
          | [.int _ _, .int _ p] => a ≤ p ∧ p < b ∧ ∃ d', SS en g q fr bk n d' h' ∧ Sw a b d1 d'
          | _ => False, ?_, ?_⟩
        · cases hh : (hint == 2) with
          | true =>
            refine (rev_spec s3 (by omega) hab (by omega) hn).mono ?_
            rintro _ h4 ⟨rfl, d4, s4, w4⟩
            simp (disch := omega) only [wr, eq_self, true_and, and_true, cond_true, cond_false, onS, Bool.not_true, Bool.not_false, Int.toNat_natCast]
            exact ⟨by omega, by omega, d4, s4, w2.trans w4⟩
          | false => exact ⟨hp0, hp1, d2, s3, w2⟩
        clear s3 hp0 hp1 w2 s2
        rintro bs3 hint2 p h4 ⟨hp0, hp1, d4, s4, w4⟩
        refine ⟨fun vs h' => match vs with
          | [] => ∃ d', SS en g q fr bk n d' h' ∧ Sw a b d1 d'
          | _ => False, ?_, ?_⟩
        · cases wB with
          | false => exact ⟨d4, s4, w4⟩
          | true =>
            cases wP with
            | false => exact ⟨d4, s4, w4⟩
            | true =>
              cases hint2 == 1 with
              | false => exact ⟨d4, s4, w4⟩
              | true =>
                have hbl4 : Blw a b d4 := by
                  by_cases e : a = A
                  · subst e
                    rcases hbl with e | e
                    · exact .inl e
                    · right
                      have w5 := w1.trans (w4.mono (Int.le_refl _) hb)
                      rw [w5.out (k := a - 1) (.inl (by omega))]
                      have := w5.all (fun x => lt x (d (a - 1)) = false) e
                      exact fun k k1 k2 => this k k1 (by omega)
                  · right
                    intro k k1 k2
                    exact (x1.keep ha hb w4) (a - 1) k (by omega) (by omega) (by omega) (.inl (by omega))
                refine (pins_spec s4 (by omega) (by omega) (by omega) hn hbl4).mono ?_
                rintro _ h5 ⟨t, rfl, d5, s5, w5, o5⟩
                refine ⟨t, rfl, ?_⟩
                cases t with
                | true => exact fin h5 ⟨d5, s5, w4.trans w5, o5 rfl⟩
                | false => exact ⟨d5, s5, w4.trans w5⟩
        clear s4 w4
        rintro bs4 h5 ⟨d5, s5, w5⟩
        have x5 := x1.keep ha hb w5
        have hbl5 : Blw a b d5 := by
          by_cases e : a = A
          · subst e
            rcases hbl with e | e
            · exact .inl e
            · right
              have w6 := w1.trans (w5.mono (Int.le_refl _) hb)
              rw [w6.out (k := a - 1) (.inl (by omega))]
              have := w6.all (fun x => lt x (d (a - 1)) = false) e
              exact fun k k1 k2 => this k k1 (by omega)
          · right
            intro k k1 k2
            exact x5 (a - 1) k (by omega) (by omega) (by omega) (.inl (by omega))
        refine ⟨fun vs h' => match vs with
          | [.int _ a'] => a' = a ∧ SS en g q fr bk n d5 h'
          | _ => False, ?_, ?_⟩
        · cases ha0 : ltI 0 a with
          | false => exact ⟨rfl, s5⟩
          | true =>
            rw [ltI_eq, decide_eq_true_eq] at ha0
            simp (disch := omega) only [wr, eq_self, true_and, and_true, cond_true, cond_false, onS, Bool.not_true, Bool.not_false, Int.toNat_natCast]
            refine ⟨⟨by omega, by omega⟩, d5 (a - 1), s5.ld (by omega) (by omega), ⟨by omega, by omega⟩, d5 p, s5.ld (by omega) (by omega), ?_⟩
            refine (less_spec _ _).mono ?_
            rintro _ _ ⟨rfl, rfl⟩
            refine ⟨_, rfl, ?_⟩
            cases hlt : lt (d5 (a - 1)) (d5 p) with
            | true => exact s5
            | false =>
              refine (peq_spec s5 (by omega) hp0 hp1 (by omega) hn).mono ?_
              rintro _ h6 ⟨m, rfl, hm0, hm1, d6, s6, w6, v6, o6⟩
              have hge : ∀ k, a ≤ k → k < b → lt (d6 k) (d6 a) = false := by
                rw [v6]
                refine w6.all (fun x => lt x (d5 p) = false) fun k k1 k2 => ?_
                rcases hbl5 with e | e
                · omega
                · exact ordr.trans _ _ _ hlt (e k k1 k2)
              have x6 := x5.keep ha hb w6
              refine ⟨m, rfl, ⟨by omega, hm1, hb, d6, s6, w1.trans ((w5.trans w6).mono ha hb), fun i j k1 k2 k3 k4 => ?_⟩, by omega⟩
              by_cases e : i < a ∨ b ≤ j
              · exact x6 i j k1 k2 k3 e
              · exact ordr.trans _ _ _ (o6 i (by omega) (by omega)) (hge j (by omega) (by omega))
        rintro bs5 a' h6 ⟨rfl, s6⟩
        refine (part_spec s6 (by omega) hp0 hp1 (by omega) hn).mono ?_
        rintro _ h7 ⟨m, c, rfl, hm0, hm1, d7, s7, w7, l7, r7⟩
        have x7 := x5.keep ha hb w7
        have w75 := w1.trans ((w5.trans w7).mono ha hb)
        refine ⟨m, c, rfl, by decide, ?_⟩
        simp (disch := omega) only [wr, eq_self, true_and, and_true, cond_true, cond_false, onS, Bool.not_true, Bool.not_false, Int.toNat_natCast]
        have hbl7 := hbl5.keep w7
        cases hlr : ltI (m - a') (b - m) with
        | true =>
          refine (ih (by omega) s7 (by omega) hm0 (by omega) hn ?_).mono ?_
          · rcases hbl7 with e | e
            · exact .inl e
            · exact .inr fun k k1 k2 => e k k1 (by omega)
          rintro _ h8 ⟨rfl, d8, s8, w8, o8⟩
          refine ⟨⟨by omega, by omega, hb, d8, s8, w75.trans (w8.mono ha (by omega)), fun i j k1 k2 k3 k4 => ?_⟩, by omega⟩
          have x8 := x7.keep ha hb (w8.mono (Int.le_refl _) (by omega))
          by_cases e : i < a' ∨ b ≤ j
          · exact x8 i j k1 k2 k3 e
          · have hle : ∀ k, a' ≤ k → k < m → lt (d8 m) (d8 k) = false := by
              rw [w8.out (k := m) (.inr (by omega))]
              exact w8.all (fun x => lt (d7 m) x = false) l7
            have hge : ∀ k, m < k → k < b → lt (d8 k) (d8 m) = false := fun k y1 y2 => by
              rw [w8.out (k := m) (.inr (by omega)), w8.out (k := k) (.inr (by omega))]; exact r7 k y1 y2
            by_cases e1 : j < m
            · exact o8 i j (by omega) k2 e1
            · by_cases e2 : i < m
              · by_cases e3 : j = m
                · subst e3; exact hle i (by omega) e2
                · exact ordr.trans _ _ _ (hle i (by omega) e2) (hge j (by omega) (by omega))
              · obtain rfl : i = m := by omega
                exact hge j (by omega) (by omega)
        | false =>
          refine (ih (by omega) s7 (by omega) (by omega) (by omega) hn ?_).mono ?_
          · right
            intro k k1 k2
            rw [show m + 1 - 1 = m by omega]
            exact r7 k (by omega) k2
          rintro _ h8 ⟨rfl, d8, s8, w8, o8⟩
          refine ⟨⟨ha, hm0, by omega, d8, s8, w75.trans (w8.mono (by omega) hb), fun i j k1 k2 k3 k4 => ?_⟩, by omega⟩
          have x8 := x7.keep ha hb (w8.mono (by omega) (Int.le_refl _))
          by_cases e : i < a' ∨ b ≤ j
          · exact x8 i j k1 k2 k3 e
          · have hle : ∀ k, a' ≤ k → k < m → lt (d8 m) (d8 k) = false := fun k y1 y2 => by
              rw [w8.out (k := m) (.inl (by omega)), w8.out (k := k) (.inl (by omega))]; exact l7 k y1 y2
            have hge : ∀ k, m < k → k < b → lt (d8 k) (d8 m) = false := by
              rw [w8.out (k := m) (.inl (by omega))]
              exact fun k y1 y2 => w8.all (fun x => lt x (d7 m) = false) (fun k z1 z2 => r7 k (by omega) z2) k (by omega) y2
            by_cases e1 : m < i
            · exact o8 i j (by omega) k2 (by omega)
            · by_cases e2 : i = m
              · subst e2; exact hge j (by omega) (by omega)
              · by_cases e3 : j = m
                · subst e3; exact hle i (by omega) (by omega)
                · exact ordr.trans _ _ _ (hle i (by omega) (by omega)) (hge j (by omega) (by omega))

/-- slices.Sort sorts a row -/
theorem sort_spec (s : SS en g q fr bk n d h) (hn : (n : Int) ≤ 2305843009213693952) :
    XCalls Try.prog 23 [.slc (some (q, fr.length)) n f] h fun v h' => v = .tup [] ∧ ∃ d', SS en g q fr bk n d' h' ∧ Sw 0 n d d' ∧ Srt lt 0 n d' := by
  apply x23; unfold X23
  rw [u64w (by omega) (by omega)]
  refine (len_spec (by omega) (by omega)).mono ?_
  rintro _ _ ⟨rfl, m, rfl, _⟩
  refine ⟨_, rfl, ?_⟩
  refine (pdq_spec (n + 1) (by omega) s (by omega) (by omega) (by omega) hn (.inl rfl)).mono ?_
  rintro _ h2 ⟨rfl, hd⟩
  exact ⟨rfl, hd⟩

/-- and what has no element -/
theorem sort_none {o : Option (Nat × Nat)} : XCalls Try.prog 23 [.slc o 0 f] h fun v h' => v = .tup [] ∧ h' = h := by
  apply x23; unfold X23
  rw [u64w (by omega) (by omega)]
  refine (len_spec (by omega) (by omega)).mono ?_
  rintro _ h0 ⟨rfl, m, rfl, _⟩
  refine ⟨_, rfl, ?_⟩
  apply x26; unfold X26
  refine ⟨fun vs h' => match vs with
    | [.int _ a, .int _ b, .int _ _, .bool _, .bool _] => a = 0 ∧ b = 0 ∧ h' = h0
    | _ => False, fun _ _ => 0, ⟨rfl, rfl, rfl, rfl⟩, ?_⟩
  rintro bs a b lim wB wP h1 ⟨rfl, rfl, rfl⟩
  simp (disch := omega) only [wr, eq_self, true_and, and_true, cond_true, cond_false, onS, Bool.not_true, Bool.not_false, Int.toNat_natCast]
  have : ltI 12 (0 - 0) = false := rfl
  rw [this]
  apply x28; unfold X28
  refine ⟨fun vs h' => match vs with
    | [.int _ i] => i = 1 ∧ h' = h1
    | _ => False, fun _ _ => 0, ⟨rfl, rfl, rfl⟩, ?_⟩
  rintro bs2 i h2 ⟨rfl, rfl⟩
  have : ltI 1 0 = false := rfl
  rw [this]
  first | exact ⟨rfl, rfl⟩ | rfl
end

/-- rising, each once -/
def Rising (l : List E) : Prop := l.Pairwise fun x y => lt y x = false

theorem lst_rising {n : Nat} {d : Int → E} (h : Srt lt 0 n d) : Rising (lst n d) := by
  unfold Rising lst
  rw [List.pairwise_map]
  refine List.Pairwise.imp_of_mem ?_ List.pairwise_lt_range
  intro i j hi hj hij
  have := List.mem_range.1 hj
  exact h i j (by omega) (by omega) (by omega)

theorem own_rows {a : Option (Nat × Nat)} {n : Nat} {l : List E} {h : Hp} {F : List Nat} (ho : Own 1 a n (l.map fun k => [en k]) h F) (hn : 0 < n) :
    ∃ q fr, a = some (q, fr.length) ∧ F = [q] ∧ h.get q = some (.row (fr ++ (l.map en ++ [])) 1 false) ∧ l.length = n := by
  obtain ⟨h1, h2, h3⟩ := ho
  cases a with
  | none => obtain ⟨h3, _⟩ := h3; rw [h3] at h1; simp at h1; omega
  | some p =>
    obtain ⟨q, o⟩ := p
    obtain ⟨rfl, fr, rfl, hg⟩ := h3
    refine ⟨q, fr, rfl, rfl, ?_, by simpa using h1⟩
    have : (l.map fun k => [en k]).flatten = l.map en ++ [] := by
      rw [List.append_nil]; clear hg h1 h2
      induction l with
      | nil => rfl
      | cons x l ih => simp only [List.map_cons, List.flatten_cons, ih]; rfl
    rw [← this]; exact hg

/-- slices.Sort of a slice of its own -/
theorem sort_own {a : Option (Nat × Nat)} {n : Nat} {f : Bool} {l : List E} {h : Hp} {F : List Nat} (hw : h.wf) (ho : Own 1 a n (l.map fun k => [en k]) h F) (hn : n ≤ 1073741824) :
    XCalls Try.prog 23 [.slc a n f] h fun v h' => v = .tup [] ∧ ∃ l' : List E, l'.Perm l ∧ Rising l' ∧ Own 1 a n (l'.map fun k => [en k]) h' F ∧ (∀ j, j ∉ F → j < h.next → h'.get j = h.get j) ∧ h.next ≤ h'.next ∧ h'.wf := by
  by_cases h0 : n = 0
  · subst h0
    refine (sort_none).mono ?_
    rintro _ _ ⟨rfl, rfl⟩
    have : l = [] := by have := ho.1; simpa using this
    subst this
    exact ⟨rfl, [], .refl _, List.Pairwise.nil, ho, fun _ _ _ => rfl, Nat.le_refl _, hw⟩
  · obtain ⟨q, fr, rfl, rfl, hg, hl⟩ := own_rows ho (by omega)
    have hne : l ≠ [] := fun e => by subst e; simp at hl; omega
    obtain ⟨x0⟩ : Nonempty E := ⟨l.head hne⟩
    have hd : lst n (fun i => l.getD i.toNat x0) = l := by rw [← hl]; exact lst_ofFn l x0
    have s : SS en h q fr [] n (fun i => l.getD i.toNat x0) h := ⟨by unfold Rw; rw [hd]; exact hg, fun _ _ _ => rfl, Nat.le_refl _, hw⟩
    refine (sort_spec s (by omega)).mono ?_
    rintro _ h' ⟨rfl, d', s', w', o'⟩
    refine ⟨rfl, lst n d', by have := w'.perm; rw [hd] at this; exact this, lst_rising o', ⟨by simp [lst_length], by simp, rfl, fr, rfl, ?_⟩, fun j hj hlt => s'.same j (by simpa using hj) hlt, s'.le, s'.wf⟩
    have := s'.row
    unfold Rw at this
    rw [this, List.append_nil]
    congr 3
    generalize lst n d' = l2
    induction l2 with
    | nil => rfl
    | cons x l ih => simp only [List.map_cons, List.flatten_cons, ← ih]; rfl

end Go.Vex.Sort
