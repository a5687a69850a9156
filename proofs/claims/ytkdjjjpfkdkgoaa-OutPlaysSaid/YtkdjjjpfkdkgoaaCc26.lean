/-
  Contracts of the reference's Out (layer 26).
-/
import Derived.Test.YtkdjjjpfkdkgoaaVexAA
import Derived.Test.YtkdjjjpfkdkgoaaTab26
import Derived.Test.YtkdjjjpfkdkgoaaXc26
import Derived.Test.YtkdjjjpfkdkgoaaCa26
import Derived.Test.YtkdjjjpfkdkgoaaCb26
set_option linter.unusedVariables false
set_option linter.unusedSimpArgs false
namespace Go.Vex
open Go.Proofs

def RefO (o : Nat) (una sent most : Int) (S : List UInt8) (h : Hp) (F : List Nat) : Prop :=
  h.get o = some (outRow una (.str S) sent most) ∧ F = [o]

theorem RefO.rep (o : Nat) (una sent most : Int) (S : List UInt8) : Rep (RefO o una sent most S) where
  loc := fun h h' F hs ⟨h1, h2⟩ => by
    subst h2
    exact ⟨by rw [hs o (by simp)]; exact h1, rfl⟩
  dom := fun h F ⟨h1, h2⟩ j hj => by
    subst h2
    rw [List.mem_singleton] at hj
    subst hj
    exact ⟨_, h1, rfl⟩

/-- the row is turned -/
theorem RefO.turn {h : Hp} {o : Nat} {una sent most una' sent' : Int} {S S' : List UInt8} (hw : h.wf) (hg : h.get o = some (outRow una (.str S) sent most)) :
    RefO o una' sent' most S' (h.set o (outRow una' (.str S') sent' most)) [o] ∧ Upd h (h.set o (outRow una' (.str S') sent' most)) [o] [o] ∧ (h.set o (outRow una' (.str S') sent' most)).wf := by
  refine ⟨⟨Hp.get_set_self, rfl⟩, ⟨fun j hj hF => Hp.get_set_ne fun e => hF (by simp [e]), fun _ hj => .inl hj, Nat.le_refl _⟩, fun q x hq => ?_⟩
  show q < h.next
  by_cases e : q = o
  · subst e; exact hw _ _ hg
  · rw [Hp.get_set_ne e] at hq; exact hw _ _ hq

theorem refPlace_spec {h : Hp} {F : List Nat} {o : Nat} {una sent most : Int} {S : List UInt8} (r : RefO o una sent most S h F) (hS : S.length < 9223372036854775808) (at' : Int) :
    XCalls Try.prog 41 [.ptr (some (o, 0)), .int .u32 at'] h fun v h' => h' = h ∧ v = .int .i64 (if far una at' ≤ S.length then far una at' else -1) := by
  obtain ⟨h1, rfl⟩ := r
  have hf := far_bnd una at'
  apply x41
  unfold X41
  refine ⟨una, by rw [Hp.ld_of h1]; rfl, S, by rw [Hp.ld_of h1]; rfl, ?_⟩
  have e1 : IntKind.u64.wrap (↑S.length) = S.length := wrap_of (by simp [IntKind.min, IntKind.max, IntKind.signed, IntKind.bits]; omega)
  have e2 : IntKind.u64.wrap (IntKind.u32.wrap (at' - una)) = far una at' := wrap_of (by simp only [far] at hf; simp [IntKind.min, IntKind.max, IntKind.signed, IntKind.bits]; omega)
  have e3 : IntKind.i64.wrap (IntKind.u32.wrap (at' - una)) = far una at' := wrap_of (by simp only [far] at hf; simp [IntKind.min, IntKind.max, IntKind.signed, IntKind.bits]; omega)
  rw [e1, e2, e3]
  by_cases hc : far una at' ≤ S.length
  · have : ltI (↑S.length) (far una at') = false := by rw [ltI_eq, decide_eq_false_iff_not]; omega
    simp only [this, cond_false, if_pos hc]
    exact ⟨(by trivial), (by trivial)⟩
  · have : ltI (↑S.length) (far una at') = true := by rw [ltI_eq, decide_eq_true_eq]; omega
    simp only [this, cond_true, if_neg hc]
    exact ⟨(by trivial), (by trivial)⟩

theorem refSent_spec {h : Hp} {F : List Nat} {o : Nat} {una sent most : Int} {S : List UInt8} (hw : h.wf) (r : RefO o una sent most S h F) (hS : S.length < 9223372036854775808) (to : Int) :
    XCalls Try.prog 15 [.ptr (some (o, 0)), .int .u32 to] h fun v h' => v = .int .i64 (if far una to ≤ S.length then 0 else 2) ∧ RefO o una (sentTo una sent S to) most S h' F ∧ Upd h h' F F ∧ h'.wf := by
  have r0 := r
  have hf := far_bnd una to
  obtain ⟨h1, rfl⟩ := r
  apply x15
  unfold X15
  refine (refPlace_spec r0 hS to).mono fun v h' ⟨e, hv⟩ => ?_
  subst e
  refine ⟨_, hv, ?_⟩
  by_cases hc : far una to ≤ S.length
  · simp only [if_pos hc]
    have c : ltI (far una to) 0 = false := by rw [ltI_eq, decide_eq_false_iff_not]; omega
    simp only [c, cond_false]
    refine ⟨sent, by rw [Hp.ld_of h1]; rfl, _, Hp.st_of h1 (by simp), ?_⟩
    have e : (bif ltI sent (far una to) then far una to else sent) = sentTo una sent S to := by
      unfold sentTo
      rw [if_pos hc, ltI_eq]
      by_cases hd : sent < far una to <;> simp [hd]
    rw [e]
    exact ⟨(by trivial), RefO.turn hw h1⟩
  · simp only [if_neg hc]
    have c : ltI (-1) 0 = true := rfl
    simp only [c, cond_true]
    have e : sentTo una sent S to = sent := by simp [sentTo, hc]
    rw [e]
    exact ⟨(by trivial), r0, Upd.refl _ _, hw⟩

theorem refWrite_spec {h : Hp} {F : List Nat} {o : Nat} {una sent most : Int} {S : List UInt8} (hw : h.wf) (r : RefO o una sent most S h F) (hm : (S.length : Int) ≤ most ∧ most ≤ 16384) (text : List UInt8) :
    XCalls Try.prog 13 [.ptr (some (o, 0)), .str text] h fun v h' => v = .int .i64 (taken most S text) ∧ RefO o una sent most (S ++ text.take (taken most S text)) h' F ∧ Upd h h' F F ∧ h'.wf := by
  have r0 := r
  obtain ⟨h1, rfl⟩ := r
  apply x13
  unfold X13
  refine ⟨most, by rw [Hp.ld_of h1]; rfl, S, by rw [Hp.ld_of h1]; rfl, S, by rw [Hp.ld_of h1]; rfl, ?_⟩
  have e0 : IntKind.i64.wrap (most - S.length) = most - S.length := wrap_of (by simp [IntKind.min, IntKind.max, IntKind.signed, IntKind.bits]; omega)
  have e : (bif ltI (most - S.length) (↑text.length : Int) then most - S.length else (↑text.length : Int)) = (taken most S text : Int) := by
    unfold taken
    rw [ltI_eq]
    by_cases hd : most - S.length < text.length
    · simp only [hd, decide_true, cond_true]; omega
    · simp only [hd, decide_false, cond_false]; omega
  have htk : taken most S text ≤ text.length := by unfold taken; omega
  have htm : S.length + taken most S text ≤ 16384 := by unfold taken; omega
  rw [e0, e]
  simp only [Int.toNat_natCast, Nat.sub_zero, List.drop_zero]
  exact ⟨by omega, ⟨Nat.zero_le _, htk⟩, by rw [List.length_take]; omega, _, Hp.st_of h1 (by simp), (by trivial), RefO.turn hw h1⟩

theorem refAck_spec {h : Hp} {F : List Nat} {o : Nat} {una sent most : Int} {S : List UInt8} (hw : h.wf) (r : RefO o una sent most S h F) (hS : S.length ≤ 16384) (hs : sent ≤ 16384) (to : Int) :
    XCalls Try.prog 17 [.ptr (some (o, 0)), .int .u32 to] h fun v h' => v = .tup [.int .i64 (if acks una sent S to then far una to else 0), .bool (acks una sent S to)] ∧
      RefO o (if acks una sent S to then to else una) (if acks una sent S to then sent - far una to else sent) most (if acks una sent S to then S.drop (far una to).toNat else S) h' F ∧ Upd h h' F F ∧ h'.wf := by
  have r0 := r
  have hf := far_bnd una to
  obtain ⟨h1, rfl⟩ := r
  apply x17
  unfold X17
  refine (refPlace_spec r0 (by omega) to).mono fun v h' ⟨e, hv⟩ => ?_
  subst e
  refine ⟨_, hv, ?_⟩
  have bad : acks una sent S to = false → (V.tup [.int .i64 0, .bool false] = .tup [.int .i64 (if acks una sent S to then far una to else 0), .bool (acks una sent S to)] ∧
      RefO o (if acks una sent S to then to else una) (if acks una sent S to then sent - far una to else sent) most (if acks una sent S to then S.drop (far una to).toNat else S) h' [o] ∧ Upd h' h' [o] [o] ∧ h'.wf) := fun ha => by
    simp only [ha, if_false, Bool.false_eq_true]
    exact ⟨(by trivial), r0, Upd.refl _ _, hw⟩
  by_cases hc : far una to ≤ S.length
  · simp only [if_pos hc]
    by_cases hz : far una to = 0
    · have c : ltI 0 (far una to) = false := by rw [ltI_eq, decide_eq_false_iff_not]; omega
      simp only [c, Bool.not_false, cond_true]
      exact bad (by simp [acks, hz])
    · have c : ltI 0 (far una to) = true := by rw [ltI_eq, decide_eq_true_eq]; omega
      simp only [c, Bool.not_true, cond_false]
      refine ⟨sent, by rw [Hp.ld_of h1]; rfl, ?_⟩
      by_cases hd : far una to ≤ sent
      · have c2 : ltI sent (far una to) = false := by rw [ltI_eq, decide_eq_false_iff_not]; omega
        have ha : acks una sent S to = true := by simp [acks, hz, hc, hd]
        simp only [c2, cond_false, ha, if_true]
        have w1 : ∀ z, h'.st o 1 [.str z] = some (h'.set o (outRow una (.str z) sent most)) := fun z => Hp.st_of h1 (by simp)
        have w2 : ∀ (g : Hp) z, (g.set o (outRow una (.str z) sent most)).st o 0 [.int .u32 to] = some ((g.set o (outRow una (.str z) sent most)).set o (outRow to (.str z) sent most)) := fun g z => Hp.st_of Hp.get_set_self (by simp)
        have w3 : ∀ (g : Hp) z (y : Int), (g.set o (outRow to (.str z) sent most)).st o 2 [.int .i64 y] = some ((g.set o (outRow to (.str z) sent most)).set o (outRow to (.str z) y most)) := fun g z y => Hp.st_of Hp.get_set_self (by simp)
        refine ⟨S, by rw [Hp.ld_of h1]; rfl, by omega, ⟨by omega, Nat.le_refl _⟩, _, w1 _, _, w2 _ _, sent, by unfold outRow; rw [Hp.ld_of Hp.get_set_self]; rfl, _, w3 _ _ _, (by trivial), ?_⟩
        rw [wrap_of (by simp [IntKind.min, IntKind.max, IntKind.signed, IntKind.bits]; omega)]
        have etk : (S.drop (far una to).toNat).take (S.length - (far una to).toNat) = S.drop (far una to).toNat := List.take_of_length_le (by simp)
        rw [etk]
        refine ⟨⟨Hp.get_set_self, rfl⟩, ⟨fun j hj hF => ?_, fun _ hj => .inl hj, Nat.le_refl _⟩, fun q x hq => ?_⟩
        · have e : j ≠ o := fun e => hF (by simp [e])
          rw [Hp.get_set_ne e, Hp.get_set_ne e, Hp.get_set_ne e]
        · show q < h'.next
          by_cases e : q = o
          · subst e; exact hw _ _ h1
          · rw [Hp.get_set_ne e, Hp.get_set_ne e, Hp.get_set_ne e] at hq
            exact hw _ _ hq
      · have c2 : ltI sent (far una to) = true := by rw [ltI_eq, decide_eq_true_eq]; omega
        simp only [c2, cond_true]
        exact bad (by simp [acks, hd])
  · simp only [if_neg hc]
    have c : ltI 0 (-1) = false := rfl
    simp only [c, Bool.not_false, cond_true]
    exact bad (by simp [acks, hc])

theorem refGet_spec {h : Hp} {F : List Nat} {o : Nat} {una sent most : Int} {S : List UInt8} (r : RefO o una sent most S h F) (hS : S.length < 9223372036854775808) (at' n : Int) :
    XCalls Try.prog 23 [.ptr (some (o, 0)), .int .u32 at', .int .i64 n] h fun v h' => v = .str (gotten una S at' n) ∧ h' = h := by
  have hf := far_bnd una at'
  have r0 := r
  obtain ⟨h1, rfl⟩ := r
  apply x23
  unfold X23
  refine (refPlace_spec r0 hS at').mono fun v h' ⟨e, hv⟩ => ?_
  subst e
  refine ⟨_, hv, ?_⟩
  by_cases hc : far una at' ≤ S.length
  · simp only [if_pos hc]
    have c : ltI (far una at') 0 = false := by rw [ltI_eq, decide_eq_false_iff_not]; omega
    simp only [c, cond_false]
    by_cases hn : 0 < n
    · have c : ltI 0 n = true := by rw [ltI_eq, decide_eq_true_eq]; exact hn
      simp only [c, Bool.not_true, cond_false]
      refine ⟨S, by rw [Hp.ld_of h1]; rfl, S, by rw [Hp.ld_of h1]; rfl, ?_⟩
      have hsz : (bif ltI 16384 n then (16384 : Int) else n) = (if 16384 < n then 16384 else n) := by
        rw [ltI_eq]; by_cases h : 16384 < n <;> simp [h]
      rw [hsz]
      have hb : 1 ≤ (if 16384 < n then (16384 : Int) else n) ∧ (if 16384 < n then (16384 : Int) else n) ≤ 16384 := by split <;> omega
      have hgot : gotten una S at' n = (S.drop (far una at').toNat).take (if 16384 < n then 16384 else n).toNat := if_pos ⟨hc, hn⟩
      rw [hgot]
      generalize (if 16384 < n then (16384 : Int) else n) = z at hb ⊢
      by_cases hcap : (far una at') + z < 9223372036854775808
      · rw [wrap_of (by simp [IntKind.min, IntKind.max, IntKind.signed, IntKind.bits]; omega)]
        obtain ⟨d, hd⟩ : ∃ d : Nat, far una at' = d := ⟨(far una at').toNat, by omega⟩
        obtain ⟨y, hy⟩ : ∃ y : Nat, z = y := ⟨z.toNat, by omega⟩
        subst hy
        rw [hd] at hc ⊢
        obtain ⟨m, hmm⟩ : ∃ m : Nat, m = min (d + y) S.length := ⟨_, rfl⟩
        have e : (bif ltI ((d : Int) + (y : Int)) (S.length : Int) then ((d : Int) + (y : Int)) else (S.length : Int)) = (m : Int) := by
          rw [ltI_eq, hmm]
          by_cases h : (d : Int) + (y : Int) < S.length
          · simp only [h, decide_true, cond_true]; omega
          · simp only [h, decide_false, cond_false]; omega
        rw [e]
        simp only [Int.toNat_natCast]
        refine ⟨by omega, by omega, ⟨by omega, by omega⟩, ?_, (by trivial)⟩
        congr 1
        rw [hmm]
        by_cases h : d + y ≤ S.length
        · rw [Nat.min_eq_left h]; congr 1; omega
        · rw [Nat.min_eq_right (by omega), List.take_of_length_le (by simp), List.take_of_length_le (by simp; omega)]
      · omega
    · have c : ltI 0 n = false := by rw [ltI_eq, decide_eq_false_iff_not]; exact hn
      simp only [c, Bool.not_false, cond_true]
      have : gotten una S at' n = [] := by simp [gotten, hn]
      rw [this]
      exact ⟨(by trivial), (by trivial)⟩
  · simp only [if_neg hc]
    have c : ltI (-1) 0 = true := rfl
    simp only [c, cond_true]
    have : gotten una S at' n = [] := by simp [gotten, hc]
    rw [this]
    exact ⟨(by trivial), (by trivial)⟩
end Go.Vex
