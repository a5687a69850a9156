/-
  Contracts of bytes that are sent (layer 26), second part: Sent, Write, Get.
-/
import Derived.Test.YtkdjjjpfkdkgoaaVexAA
import Derived.Test.YtkdjjjpfkdkgoaaTab26
import Derived.Test.YtkdjjjpfkdkgoaaXa26
import Derived.Test.YtkdjjjpfkdkgoaaCa26
set_option linter.unusedVariables false
set_option linter.unusedSimpArgs false
namespace Go.Vex
open Go.Proofs

/-- the row's cells of an Out are turned -/
theorem OutR.turn {h : Hp} {o : Nat} {una sent most una' sent' : Int} {s : V} {a' : Option (Nat × Nat)} {n' : Nat} {f' : Bool} {S' : List UInt8} {G : List Nat}
    (hw : h.wf) (hg : h.get o = some (outRow una s sent most)) (ho : Own 1 a' n' (bRows S') h G) (hn : o ∉ G) :
    OutR o una' sent' most S' (h.set o (outRow una' (.slc a' n' f') sent' most)) (o :: G) ∧ (h.set o (outRow una' (.slc a' n' f') sent' most)).wf ∧ Upd h (h.set o (outRow una' (.slc a' n' f') sent' most)) (o :: G) (o :: G) := by
  refine ⟨⟨a', n', f', G, Hp.get_set_self, (Own.rep 1 a' n' _).loc h _ G (fun j hj => Hp.get_set_ne fun e => hn (e ▸ hj)) ho, rfl, hn⟩, fun q x hq => ?_, fun j hj hF => Hp.get_set_ne fun e => hF (by simp [e]), fun _ hj => .inl hj, Nat.le_refl _⟩
  show q < h.next
  by_cases e : q = o
  · subst e; exact hw _ _ hg
  · rw [Hp.get_set_ne e] at hq; exact hw _ _ hq

def sentTo (una sent : Int) (S : List UInt8) (to : Int) : Int := if far una to ≤ S.length then (if sent < far una to then far una to else sent) else sent

theorem sent_spec {h : Hp} {F : List Nat} {o : Nat} {una sent most : Int} {S : List UInt8} (hw : h.wf) (r : OutR o una sent most S h F) (hm : most ≠ 0) (hS : S.length < 9223372036854775808) (to : Int) :
    XCalls Try.prog 14 [.ptr (some (o, 0)), .int .u32 to] h fun v h' => v = .int .i64 (if far una to ≤ S.length then 0 else 2) ∧ OutR o una (sentTo una sent S to) most S h' F ∧ Upd h h' F F ∧ h'.wf := by
  have r0 := r
  obtain ⟨a, n, f, G, h1, h2, rfl, h4⟩ := r
  apply x14
  unfold X14
  refine ⟨most, by rw [Hp.ld_of h1]; rfl, ?_⟩
  have c0 : (most == 0) = false := by simp [hm]
  simp only [c0, cond_false]
  refine (place_spec r0 hm hS (at' := to)).mono fun v h' ⟨e, hv⟩ => ?_
  subst e
  by_cases hc : far una to ≤ S.length
  · simp only [if_pos hc] at hv
    refine ⟨_, _, hv, ?_⟩
    simp only [Bool.not_true, cond_false]
    refine ⟨sent, by rw [Hp.ld_of h1]; rfl, _, Hp.st_of h1 (by simp), ?_⟩
    have e : (bif ltI sent (far una to) then far una to else sent) = sentTo una sent S to := by
      unfold sentTo
      rw [if_pos hc, ltI_eq]
      by_cases hd : sent < far una to <;> simp [hd]
    rw [e, if_pos hc]
    have t := OutR.turn (una' := una) (sent' := sentTo una sent S to) (f' := f) hw h1 h2 h4
    exact ⟨rfl, t.1, t.2.2, t.2.1⟩
  · simp only [if_neg hc] at hv
    refine ⟨_, _, hv, ?_⟩
    simp only [Bool.not_false, cond_true]
    rw [if_neg hc]
    have e : sentTo una sent S to = sent := by simp [sentTo, hc]
    rw [e]
    exact ⟨rfl, r0, Upd.refl _ _, hw⟩

/-- how much 'Write' takes -/
def taken (most : Int) (S text : List UInt8) : Nat := min (most.toNat - S.length) text.length

theorem write_spec {h : Hp} {F : List Nat} {o : Nat} {una sent most : Int} {S : List UInt8} (hw : h.wf) (r : OutR o una sent most S h F) (hm : (S.length : Int) ≤ most ∧ most ≤ 16384) (text : List UInt8) :
    XCalls Try.prog 12 [.ptr (some (o, 0)), .str text] h fun v h' => v = .int .i64 (taken most S text) ∧ ∃ F', OutR o una sent most (S ++ text.take (taken most S text)) h' F' ∧ Upd h h' F F' ∧ h'.wf := by
  have r0 := r
  obtain ⟨a, n, f, G, h1, h2, rfl, h4⟩ := r
  have hn : n = S.length := by have := h2.1; simpa [bRows] using this.symm
  apply x12
  unfold X12
  refine (room_spec r0 hm).mono fun v h' ⟨hv, e⟩ => ?_
  subst e
  refine ⟨_, hv, ?_⟩
  have e : (bif ltI (most - S.length) (↑text.length : Int) then most - S.length else (↑text.length : Int)) = (taken most S text : Int) := by
    unfold taken
    rw [ltI_eq]
    by_cases hd : most - S.length < text.length
    · simp only [hd, decide_true, cond_true]; omega
    · simp only [hd, decide_false, cond_false]; omega
  rw [e]
  by_cases h0 : taken most S text = 0
  · have : ltI 0 (taken most S text : Int) = false := by rw [ltI_eq, decide_eq_false_iff_not]; omega
    simp only [this, cond_false]
    refine ⟨(by trivial), _, ?_, Upd.refl _ _, hw⟩
    rw [h0, List.take_zero, List.append_nil]
    exact r0
  · have : ltI 0 (taken most S text : Int) = true := by rw [ltI_eq, decide_eq_true_eq]; omega
    simp only [this, cond_true, Int.toNat_natCast, List.drop_zero, Nat.sub_zero]
    obtain ⟨ti, ht, hd⟩ := t68
    obtain ⟨ei, he, ed, es, eb, ez⟩ := t5
    obtain ⟨ui, hu, ud⟩ := t9
    have htk : taken most S text ≤ text.length := by unfold taken; omega
    have htm : S.length + taken most S text ≤ 16384 := by unfold taken; omega
    have hl : (bRows (text.take (taken most S text))).length = taken most S text := by simp [bRows, htk]
    obtain ⟨g, hx, hg, hU, hgw⟩ := h2.app (f := f) hw ht hd hu (by simp [ud]) he es (Nat.le_refl _) ez (y := .str (text.take (taken most S text))) (news := bRows (text.take (taken most S text)))
      (by rw [bRows_flat, hl]; simp [xnews, htk]) (bRows_one _) (fun e => h0 (by rw [← hl, e]; rfl)) (by rw [hl, eb]; omega) (by rw [hl]; omega)
    have hno : o < h'.next := hw _ _ h1
    have hg1 : g.get o = some (outRow una (.slc a n f) sent most) := by rw [hU.same o hno h4]; exact h1
    refine ⟨a, n, f, by rw [Hp.ld_of h1]; rfl, by omega, ⟨Nat.zero_le _, htk⟩, _, _, _, g, hx, (by trivial), _, Hp.st_of hg1 (by simp), ?_⟩
    have hap : bRows S ++ bRows (text.take (taken most S text)) = bRows (S ++ text.take (taken most S text)) := by simp [bRows]
    rw [hap] at hg
    have hon : o ∉ [h'.next] := by simp; omega
    have t := OutR.turn (una' := una) (sent' := sent) (f' := false) hgw hg1 hg hon
    refine ⟨(by trivial), o :: [h'.next], t.1, ⟨fun j hj hF => ?_, fun j hj => ?_, Nat.le_trans hU.le t.2.2.le⟩, t.2.1⟩
    · rw [List.mem_cons, not_or] at hF
      have e2 : j ∉ o :: [h'.next] := by
        simp only [List.mem_cons, List.not_mem_nil, or_false, not_or]
        exact ⟨hF.1, by omega⟩
      exact (t.2.2.same j (Nat.lt_of_lt_of_le hj hU.le) e2).trans (hU.same j hj hF.2)
    · simp only [List.mem_cons, List.not_mem_nil, or_false] at hj ⊢
      rcases hj with rfl | rfl
      · exact .inl (.inl rfl)
      · exact .inr (Nat.le_refl _)

/-- what 'Get' reads -/
def gotten (una : Int) (S : List UInt8) (at' n : Int) : List UInt8 :=
  if far una at' ≤ S.length ∧ 0 < n then (S.drop (far una at').toNat).take (if 16384 < n then 16384 else n).toNat else []

theorem get_spec {h : Hp} {F : List Nat} {o : Nat} {una sent most : Int} {S : List UInt8} (r : OutR o una sent most S h F) (hm : most ≠ 0) (hS : S.length < 9223372036854775808) (at' n : Int) :
    XCalls Try.prog 22 [.ptr (some (o, 0)), .int .u32 at', .int .i64 n] h fun v h' => v = .str (gotten una S at' n) ∧ h' = h := by
  have hf := far_bnd una at'
  obtain ⟨a, f, l0, l1, l2, l3, hz, G, hG, _⟩ := r.len
  apply x22
  unfold X22
  refine (place_spec r hm hS (at' := at')).mono fun v h' ⟨e, hv⟩ => ?_
  subst e
  by_cases hc : far una at' ≤ S.length
  · simp only [if_pos hc] at hv
    refine ⟨_, _, hv, ?_⟩
    simp only [Bool.not_true, cond_false]
    by_cases hn : 0 < n
    · have c : ltI 0 n = true := by rw [ltI_eq, decide_eq_true_eq]; exact hn
      simp only [c, Bool.not_true, cond_false]
      have hsz : (bif ltI 16384 n then (16384 : Int) else n) = (if 16384 < n then 16384 else n) := by
        rw [ltI_eq]; by_cases h : 16384 < n <;> simp [h]
      rw [hsz]
      have hb : 1 ≤ (if 16384 < n then (16384 : Int) else n) ∧ (if 16384 < n then (16384 : Int) else n) ≤ 16384 := by split <;> omega
      have hgot : gotten una S at' n = (S.drop (far una at').toNat).take (if 16384 < n then 16384 else n).toNat := if_pos ⟨hc, hn⟩
      rw [hgot]
      generalize (if 16384 < n then (16384 : Int) else n) = z at hb ⊢
      rw [wrap_of (by simp [IntKind.min, IntKind.max, IntKind.signed, IntKind.bits]; omega)]
      obtain ⟨d, hd⟩ : ∃ d : Nat, far una at' = d := ⟨(far una at').toNat, by omega⟩
      obtain ⟨y, hy⟩ : ∃ y : Nat, z = y := ⟨z.toNat, by omega⟩
      subst hy
      rw [hd] at hc ⊢
      obtain ⟨m, hmm⟩ : ∃ m : Nat, m = min (d + y) S.length := ⟨_, rfl⟩
      have e : (bif ltI ((d : Int) + (y : Int)) (S.length : Int) then ((d : Int) + (y : Int)) else (S.length : Int)) = (m : Int) := by
        rw [ltI_eq, hmm]
        by_cases h : (d : Int) + (y : Int) < S.length
        · simp only [h, decide_true, cond_true]; omega
        · simp only [h, decide_false, cond_false]; omega
      obtain ⟨a', n', f', e1, e2⟩ := hG.text (f := f) (l := d) (m := m) (by omega) (by omega) hz
      refine ⟨a, _, f, l1, a, _, f, l1, a', n', f', by rw [e]; exact e1, _, e2, ?_⟩
      refine ⟨?_, (by trivial)⟩
      congr 1
      rw [Int.toNat_natCast, Int.toNat_natCast, hmm]
      by_cases h : d + y ≤ S.length
      · rw [Nat.min_eq_left h]; congr 1; omega
      · rw [Nat.min_eq_right (by omega), List.take_of_length_le (by simp), List.take_of_length_le (by simp; omega)]
    · have c : ltI 0 n = false := by rw [ltI_eq, decide_eq_false_iff_not]; exact hn
      simp only [c, Bool.not_false, cond_true]
      have : gotten una S at' n = [] := by simp [gotten, hn]
      rw [this]
      exact ⟨rfl, (by trivial)⟩
  · simp only [if_neg hc] at hv
    refine ⟨_, _, hv, ?_⟩
    simp only [Bool.not_false, cond_true]
    have : gotten una S at' n = [] := by simp [gotten, hc]
    rw [this]
    exact ⟨rfl, (by trivial)⟩

/-- slices.Clone of bytes -/
theorem clone_spec {h : Hp} {G : List Nat} {a : Option (Nat × Nat)} {n : Nat} {f : Bool} {S : List UInt8} (hw : h.wf) (ho : Own 1 a n (bRows S) h G) (hb : n ≤ 140737488355328) :
    XCalls Try.prog 42 [.slc a n f] h fun v h' => ∃ a' f' G', v = .slc a' n f' ∧ Own 1 a' n (bRows S) h' G' ∧ (∀ j ∈ G', h.next ≤ j) ∧ (∀ j, j < h.next → h'.get j = h.get j) ∧ h.next ≤ h'.next ∧ h'.wf := by
  obtain ⟨ti, ht, hd⟩ := t68
  obtain ⟨ei, he, ed, es, eb, ez⟩ := t5
  have ho0 := ho
  obtain ⟨h1, h2, h3⟩ := ho
  apply x42
  unfold X42
  cases a with
  | none =>
    obtain ⟨hS, rfl⟩ := h3
    have hn : n = 0 := by rw [← h1, hS]; rfl
    subst hn
    refine ⟨none, true, [], (by trivial), ?_, by simp, fun _ _ => rfl, Nat.le_refl _, hw⟩
    rw [hS]; exact Own.nil 1 h
  | some p =>
    obtain ⟨q, k⟩ := p
    simp only [Option.isNone_some, cond_false]
    rintro g rfl
    obtain ⟨rfl, front, rfl, hg⟩ := h3
    have hq := hw _ _ hg
    have hg' : (h.alloc (.row [] 1 false)).get q = some (.row (front ++ (bRows S).flatten) 1 false) := by rw [Hp.get_alloc_ne (by omega)]; exact hg
    have ha : Own 1 (some (h.next, 0)) 0 (bRows []) (h.alloc (.row [] 1 false)) [h.next] := ⟨rfl, by simp [bRows], rfl, [], rfl, by simp [Hp.get_alloc_self, bRows]⟩
    by_cases hn : n = 0
    · subst hn
      have hS : bRows S = [] := List.eq_nil_of_length_eq_zero h1
      refine ⟨some (h.next, 0), 0, true, h.alloc (.row [] 1 false), ?_, _, _, [h.next], rfl, ?_, by simp, fun j hj => Hp.get_alloc_ne (by omega), Nat.le_succ _, hw.alloc⟩
      · simp [xapp, ht, hd, he, es, xnews, hg', cut, ble_eq', hS]
      · rw [hS]; exact ha
    · have hy : xnews (h.alloc (.row [] 1 false)) 1 (.slc (some (q, front.length)) n f) = some ((bRows S).length, (bRows S).flatten) := by
        have hl : (bRows S).flatten.length = n := by rw [bRows_flat]; simp [byteV]; simpa [bRows] using h1
        have hc : cut (front ++ (bRows S).flatten) front.length n = some ((bRows S).flatten) := by
          unfold cut
          have : Nat.ble (front.length + n) (front ++ (bRows S).flatten).length = true := by rw [ble_eq', decide_eq_true_eq]; simp only [List.length_append, hl]; omega
          rw [this, cond_true, List.drop_left, List.take_of_length_le (by omega)]
        simp [xnews, hg', hc, h1]
      obtain ⟨g, hx, hG, hU, hgw⟩ := ha.app (f := true) (u := 68) (ui := ti) hw.alloc ht hd ht (by simp [hd]) he es (Nat.le_refl _) ez hy (bRows_one S) (fun e => hn (by rw [← h1, e]; rfl)) (by rw [h1, eb]; omega) (by rw [h1]; omega)
      have e0 : 0 + (bRows S).length = n := by omega
      rw [e0] at hG hx
      refine ⟨_, _, _, g, hx, _, _, _, rfl, by simpa [bRows] using hG, ?_, fun j hj => ?_, Nat.le_trans (Nat.le_succ _) hU.le, hgw⟩
      · intro j hj
        rcases hU.new j hj with h | h
        · simp only [List.mem_singleton] at h; omega
        · exact Nat.le_trans (Nat.le_succ _) h
      · rw [hU.same j (Nat.lt_succ_of_lt hj) (by simp; omega), Hp.get_alloc_ne (by omega)]

def acks (una sent : Int) (S : List UInt8) (to : Int) : Bool := decide (far una to ≤ S.length ∧ far una to ≠ 0 ∧ far una to ≤ sent)

theorem ack_spec {h : Hp} {F : List Nat} {o : Nat} {una sent most : Int} {S : List UInt8} (hw : h.wf) (r : OutR o una sent most S h F) (hm : most ≠ 0) (hS : S.length ≤ 16384) (hs : sent ≤ 16384) (to : Int) :
    XCalls Try.prog 16 [.ptr (some (o, 0)), .int .u32 to] h fun v h' => v = .tup [.int .i64 (if acks una sent S to then far una to else 0), .bool (acks una sent S to)] ∧
      ∃ F', OutR o (if acks una sent S to then to else una) (if acks una sent S to then sent - far una to else sent) most (if acks una sent S to then S.drop (far una to).toNat else S) h' F' ∧ Upd h h' F F' ∧ h'.wf := by
  have r0 := r
  have hf := far_bnd una to
  obtain ⟨a, n, f, G, h1, h2, rfl, h4⟩ := r
  have hn : n = S.length := by have := h2.1; simpa [bRows] using this.symm
  apply x16
  unfold X16
  refine (place_spec r0 hm (by omega) (at' := to)).mono fun v h' ⟨e, hv⟩ => ?_
  subst e
  by_cases hc : far una to ≤ S.length
  · simp only [if_pos hc] at hv
    refine ⟨_, _, hv, ?_⟩
    simp only [Bool.not_true, cond_false]
    by_cases hz : far una to = 0
    · have c : (far una to == 0) = true := by simp [hz]
      have ha : acks una sent S to = false := by simp [acks, hz]
      simp only [c, cond_true, ha, if_false, Bool.false_eq_true]
      exact ⟨(by trivial), _, r0, Upd.refl _ _, hw⟩
    · have c : (far una to == 0) = false := by simp [hz]
      simp only [c, cond_false]
      refine ⟨sent, by rw [Hp.ld_of h1]; rfl, ?_⟩
      by_cases hd : far una to ≤ sent
      · have c2 : ltI sent (far una to) = false := by rw [ltI_eq, decide_eq_false_iff_not]; omega
        have ha : acks una sent S to = true := by simp [acks, hz, hc, hd]
        simp only [c2, cond_false, ha, if_true]
        obtain ⟨ti, ht, hd1⟩ := t68
        obtain ⟨ei, he, ed, es, eb, ez⟩ := t5
        obtain ⟨d, hd2⟩ : ∃ d : Nat, far una to = d := ⟨(far una to).toNat, by omega⟩
        rw [hd2] at hc hz hd hf ⊢
        have ha0 : a ≠ none := by
          rintro rfl
          have := h2.2.2.1
          have : S.length = 0 := by simpa [bRows] using congrArg List.length this
          omega
        obtain ⟨a', f', ex, hG⟩ := h2.tail (f := f) (κ := .i64) ht hd1 he es (k := d) (by omega) (.inl ha0)
        have hdr : (bRows S).drop d = bRows (S.drop d) := by simp [bRows, List.map_drop]
        rw [hdr] at hG
        refine ⟨a, n, f, by rw [Hp.ld_of h1]; rfl, _, _, _, ex, ?_⟩
        refine (clone_spec (f := f') hw hG (by omega)).mono fun v g ⟨a2, f2, G2, hv2, hG2, hnew, hst, hle, hgw⟩ => ?_
        have hno : o < h'.next := hw _ _ h1
        have hg1 : g.get o = some (outRow una (.slc a n f) sent most) := by rw [hst o hno]; exact h1
        have w1 : g.st o 1 [.slc a2 (n - d) f2] = some (g.set o (outRow una (.slc a2 (n - d) f2) sent most)) := Hp.st_of hg1 (by simp)
        have w2 : ∀ g' : Hp, (g'.set o (outRow una (.slc a2 (n - d) f2) sent most)).st o 0 [.int .u32 to] = some ((g'.set o (outRow una (.slc a2 (n - d) f2) sent most)).set o (outRow to (.slc a2 (n - d) f2) sent most)) := fun g' => Hp.st_of Hp.get_set_self (by simp)
        have w3 : ∀ (g' : Hp) (z : Int), (g'.set o (outRow to (.slc a2 (n - d) f2) sent most)).st o 2 [.int .i64 z] = some ((g'.set o (outRow to (.slc a2 (n - d) f2) sent most)).set o (outRow to (.slc a2 (n - d) f2) z most)) := fun g' z => Hp.st_of Hp.get_set_self (by simp)
        refine ⟨a2, _, f2, hv2, _, w1, sent, by unfold outRow; rw [Hp.ld_of Hp.get_set_self]; rfl, _, w2 _, _, w3 _ _, ?_⟩
        rw [wrap_of (by simp [IntKind.min, IntKind.max, IntKind.signed, IntKind.bits]; omega), Int.toNat_natCast]
        have hon : o ∉ G2 := fun h => by have := hnew o h; omega
        refine ⟨(by trivial), o :: G2, ⟨a2, _, f2, G2, Hp.get_set_self, (Own.rep 1 a2 _ _).loc g _ G2 (fun j hj => ?_) hG2, rfl, hon⟩, ⟨fun j hj hF => ?_, fun j hj => ?_, hle⟩, fun q x hq => ?_⟩
        · have e : j ≠ o := fun e => hon (e ▸ hj)
          rw [Hp.get_set_ne e, Hp.get_set_ne e, Hp.get_set_ne e]
        · have e : j ≠ o := fun e => hF (by simp [e])
          rw [Hp.get_set_ne e, Hp.get_set_ne e, Hp.get_set_ne e, hst j hj]
        · rcases List.mem_cons.1 hj with rfl | hj
          · exact .inl (by simp)
          · exact .inr (hnew j hj)
        · show q < g.next
          by_cases e : q = o
          · subst e; omega
          · rw [Hp.get_set_ne e, Hp.get_set_ne e, Hp.get_set_ne e] at hq
            exact hgw _ _ hq
      · have c2 : ltI sent (far una to) = true := by rw [ltI_eq, decide_eq_true_eq]; omega
        have ha : acks una sent S to = false := by simp [acks, hd]
        simp only [c2, cond_true, ha, if_false, Bool.false_eq_true]
        exact ⟨(by trivial), _, r0, Upd.refl _ _, hw⟩
  · simp only [if_neg hc] at hv
    refine ⟨_, _, hv, ?_⟩
    have ha : acks una sent S to = false := by simp [acks, hc]
    simp only [Bool.not_false, cond_true, ha, if_false, Bool.false_eq_true]
    exact ⟨(by trivial), _, r0, Upd.refl _ _, hw⟩
end Go.Vex
