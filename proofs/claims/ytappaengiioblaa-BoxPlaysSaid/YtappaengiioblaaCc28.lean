/-
  Contracts of the document's box of datagrams (layer 28), and more of the program's.
-/
import Derived.Test.YtappaengiioblaaVexZ
import Derived.Test.YtappaengiioblaaTab28
import Derived.Test.YtappaengiioblaaXb28
import Derived.Test.YtappaengiioblaaCb28
import Derived.Test.YtappaengiioblaaXc28
set_option linter.unusedVariables false
set_option linter.unusedSimpArgs false
namespace Go.Vex
open Go.Proofs

def mlen : List V → Int
  | [_, _, .str s] => s.length
  | _ => 0

def tot : List (List V) → Int
  | [] => 0
  | m :: l => mlen m + tot l

theorem tot_append (l : List (List V)) (m : List V) : tot (l ++ [m]) = tot l + mlen m := by
  induction l with
  | nil => simp [tot]
  | cons x l ih => simp [tot, ih]; omega

theorem mlen_nonneg (x : List V) : 0 ≤ mlen x := by unfold mlen; split <;> omega

theorem tot_nonneg (l : List (List V)) : 0 ≤ tot l := by
  induction l with
  | nil => simp [tot]
  | cons x l ih => have := mlen_nonneg x; simp [tot]; omega

theorem tot_take (l : List (List V)) (k : Nat) : tot (l.take k) ≤ tot l := by
  induction l generalizing k with
  | nil => simp [tot]
  | cons x l ih =>
    cases k with
    | zero => simp only [List.take_zero]; exact tot_nonneg _
    | succ k => have := ih k; simp [tot]; omega

theorem newBox_err {h : Hp} {most room : Int} (h1 : most < 1 ∨ 256 < most ∨ room < 1 ∨ 16769792 < room) :
    XCalls Try.prog 21 [.int .i64 most, .int .i64 room] h fun v h' => v = .tup [.ptr none, .int .i64 2] ∧ h' = h := by
  apply x21
  unfold X21
  cases c1 : ltI most 1 with
  | true => exact ⟨rfl, rfl⟩
  | false =>
    cases c2 : ltI 256 most with
    | true => exact ⟨rfl, rfl⟩
    | false =>
      cases c3 : ltI room 1 with
      | true => exact ⟨rfl, rfl⟩
      | false =>
        cases c4 : ltI 16769792 room with
        | true => exact ⟨rfl, rfl⟩
        | false =>
          rw [ltI_eq, decide_eq_false_iff_not] at c1 c2 c3 c4
          omega

/-- a box whose own row alone turned -/
theorem BoxR.set {h : Hp} {F : List Nat} {b : Nat} {lost most room bytes fails fails' : Int} {L : List (List V)} {a : Option (Nat × Nat)} {n : Nat} {f : Bool} {G : List Nat}
    (h1 : h.get b = some (boxRow lost most room (.slc a n f) bytes fails)) (h2 : Own 3 a n L h G) (h3 : F = b :: G) (h4 : b ∉ G) :
    BoxR b lost most room bytes fails' L (h.set b (boxRow lost most room (.slc a n f) bytes fails')) F ∧ Upd h (h.set b (boxRow lost most room (.slc a n f) bytes fails')) F F := by
  subst h3
  refine ⟨⟨a, n, f, G, Hp.get_set_self, (Own.rep 3 a n L).loc h _ G (fun j hj => Hp.get_set_ne fun e => h4 (e ▸ hj)) h2, rfl, h4⟩, fun j hj hF => Hp.get_set_ne fun e => hF (by simp [e]), fun j hj => .inl hj, Nat.le_refl _⟩

theorem failed_spec {h : Hp} {F : List Nat} {b : Nat} {lost most room bytes fails : Int} {L : List (List V)} (r : BoxR b lost most room bytes fails L h F) :
    XCalls Try.prog 25 [.ptr (some (b, 0))] h fun v h' => v = .int .i64 fails ∧ BoxR b lost most room bytes 0 L h' F ∧ Upd h h' F F := by
  obtain ⟨a, n, f, G, h1, h2, h3, h4⟩ := r
  apply x25
  unfold X25
  refine ⟨fails, by rw [Hp.ld_of h1]; rfl, _, Hp.st_of h1 (Nat.le_of_ble_eq_true rfl), rfl, ?_⟩
  exact BoxR.set (fails' := 0) h1 h2 h3 h4

theorem fail_spec {h : Hp} {F : List Nat} {b : Nat} {lost most room bytes fails e : Int} {L : List (List V)} (r : BoxR b lost most room bytes fails L h F) :
    XCalls Try.prog 26 [.ptr (some (b, 0)), .int .i64 e] h fun v h' => BoxR b lost most room bytes (if e = 0 then fails else e) L h' F ∧ Upd h h' F F := by
  obtain ⟨a, n, f, G, h1, h2, h3, h4⟩ := r
  apply x26
  unfold X26
  by_cases he : e = 0
  · subst he
    exact ⟨⟨a, n, f, G, h1, h2, h3, h4⟩, Upd.refl _ _⟩
  · have : (e != 0) = true := by simp [he]
    rw [this, if_neg he]
    refine ⟨_, Hp.st_of h1 (Nat.le_of_ble_eq_true rfl), ?_⟩
    exact BoxR.set (fails' := e) h1 h2 h3 h4

theorem dropped_spec {h : Hp} {F : List Nat} {b : Nat} {lost most room bytes fails : Int} {L : List (List V)} (r : BoxR b lost most room bytes fails L h F) :
    XCalls Try.prog 29 [.ptr (some (b, 0))] h fun v h' => v = .int .u64 lost ∧ h' = h := by
  obtain ⟨a, n, f, G, h1, h2, h3, h4⟩ := r
  apply x29
  unfold X29
  exact ⟨lost, by rw [Hp.ld_of h1]; rfl, rfl, rfl⟩

/-! ### the document's -/

def refRow (most room : Int) (s : V) (fails lost : Int) : O := .row [.int .i64 most, .int .i64 room, s, .int .i64 fails, .int .u64 lost] 1 false

def RefR (b : Nat) (most room fails lost : Int) (L : List (List V)) (h : Hp) (F : List Nat) : Prop :=
  ∃ a n f G, h.get b = some (refRow most room (.slc a n f) fails lost) ∧ Own 3 a n L h G ∧ F = b :: G ∧ b ∉ G

theorem RefR.rep (b : Nat) (most room fails lost : Int) (L : List (List V)) : Rep (RefR b most room fails lost L) where
  loc := fun h h' F hs ⟨a, n, f, G, h1, h2, h3, h4⟩ => by
    subst h3
    exact ⟨a, n, f, G, by rw [hs b (by simp)]; exact h1, (Own.rep 3 a n L).loc h h' G (fun j hj => hs j (by simp [hj])) h2, rfl, h4⟩
  dom := fun h F ⟨a, n, f, G, h1, h2, h3, h4⟩ j hj => by
    subst h3
    rcases List.mem_cons.1 hj with rfl | hj
    · exact ⟨_, h1, rfl⟩
    · exact (Own.rep 3 a n L).dom h G h2 j hj

theorem wrap_succ {k n : Nat} (h : k < n) (hn : n ≤ 9223372036854775807) : IntKind.i64.wrap ((k : Int) + 1) = ((k + 1 : Nat) : Int) := by
  rw [wrap_of (by simp [IntKind.min, IntKind.max, IntKind.signed, IntKind.bits]; omega)]; rfl

theorem bytes_spec {h : Hp} {F : List Nat} {b : Nat} {most room fails lost : Int} {L : List (List V)} (r : RefR b most room fails lost L h F) (hz : ∀ r ∈ L, ∃ ip port s, r = mailRow ip port s) (ht : tot L ≤ 16769792) (hl : L.length ≤ 256) :
    XCalls Try.prog 28 [.ptr (some (b, 0))] h fun v h' => v = .int .i64 (tot L) ∧ h' = h := by
  obtain ⟨a, n, f, G, h1, h2, h3, h4⟩ := r
  have hn := h2.1
  apply x28
  unfold X28
  refine ⟨fun vs h' => match vs with
    | [.int _ x, .int _ i] => h' = h ∧ ∃ k : Nat, i = k ∧ k ≤ n ∧ x = tot (L.take k)
    | _ => False, fun vs _ => match vs with
    | [_, .int _ i] => n - i.toNat
    | _ => 0, ⟨rfl, rfl, 0, rfl, by omega, rfl⟩, ?_⟩
  rintro bs x i h1' ⟨rfl, k, rfl, hk, rfl⟩
  refine ⟨a, n, f, by rw [Hp.ld_of h1]; rfl, ?_⟩
  cases hi : ltI (↑k) (↑n) with
  | false =>
    rw [ltI_eq, decide_eq_false_iff_not] at hi
    refine ⟨?_, rfl⟩
    rw [List.take_of_length_le (by omega)]
  | true =>
    rw [ltI_eq, decide_eq_true_eq] at hi
    obtain ⟨q, o, r, rfl, hr, hrl, hld, hlda⟩ := h2.ld (k := k) (by omega)
    obtain ⟨ip, port, s, rfl⟩ := hz r (List.mem_of_getElem? hr)
    have hw1 := wrap_succ (k := k) (n := n) (by omega) (by omega)
    have hta : tot (L.take (k + 1)) = tot (L.take k) + s.length := by
      rw [List.take_add_one, hr]; exact tot_append _ _
    have hle := tot_take L (k + 1)
    have hnn := tot_nonneg (L.take k)
    have hw2 : IntKind.i64.wrap (tot (L.take k) + s.length) = tot (L.take (k + 1)) := by
      rw [wrap_of (by simp [IntKind.min, IntKind.max, IntKind.signed, IntKind.bits]; omega), hta]
    refine ⟨some (q, o), n, f, by rw [Hp.ld_of h1]; rfl, ⟨by omega, hi⟩, s, hld 2 (by omega), rfl, ⟨rfl, k + 1, hw1, by omega, hw2⟩, ?_⟩
    show n - Int.toNat (IntKind.i64.wrap ((k : Int) + 1)) < n - Int.toNat (k : Int)
    rw [hw1]; simp only [Int.toNat_natCast]; omega

theorem refPut_spec {h : Hp} {F : List Nat} {b : Nat} {lost most room fails ip port : Int} {s : List UInt8} {L : List (List V)} (hw : h.wf) (r : RefR b most room fails lost L h F) (hz : ∀ r ∈ L, ∃ ip port s, r = mailRow ip port s)
    (hm : 0 < most ∧ most ≤ 256) (hl : L.length ≤ 256) (hb : tot L ≤ room ∧ room ≤ 16769792) (hs : s.length ≤ reachBytes) :
    XCalls Try.prog 27 [.ptr (some (b, 0)), .agg (mailRow ip port s)] h fun v h' => ∃ F', Upd h h' F F' ∧
      if (L.length : Int) < most ∧ (s.length : Int) ≤ room - tot L then v = .int .i64 0 ∧ RefR b most room fails lost (L ++ [mailRow ip port s]) h' F'
      else v = .int .i64 6 ∧ RefR b most room fails (IntKind.u64.wrap (lost + 1)) L h' F' := by
  have r0 := r
  obtain ⟨a, n, f, G, h1, h2, rfl, h4⟩ := r
  have hn := h2.1
  simp only [reachBytes] at hs
  refine XCalls.cps fun K hK => ?_
  apply x27
  unfold X27
  rintro g1 rfl
  have hbn := hw.ne h1
  have hblt := hw.lt h1
  have hbn1 : b ≠ h.next + 1 := by omega
  have hGlt : ∀ j ∈ G, j < h.next := fun j hj => (Own.rep 3 a n L).lt hw h2 hj
  have hw1 : (h.alloc (.row [.int .u32 ip, .int .u16 port, .str s] 1 false)).wf := hw.alloc
  have hst : ∀ j, j < h.next → (h.alloc (.row [.int .u32 ip, .int .u16 port, .str s] 1 false)).get j = h.get j := fun j hj => Hp.get_alloc_ne (by omega)
  have lose : ∀ x, K (.int .i64 6) ((h.alloc (.row [.int .u32 ip, .int .u16 port, .str s] 1 false)).set b (refRow most room (.slc a n f) fails (IntKind.u64.wrap (lost + 1)))) ∨ ((L.length : Int) < most ∧ (s.length : Int) ≤ room - tot L) ∨ x = 0 := by
    intro x
    by_cases hc : (L.length : Int) < most ∧ (s.length : Int) ≤ room - tot L
    · exact .inr (.inl hc)
    · refine .inl (hK _ _ ⟨b :: G, ⟨fun j hj hF => ?_, fun j hj => .inl hj, Nat.le_succ _⟩, ?_⟩)
      · have g1 : j ≠ b := fun e => hF (by simp [e])
        simp only [Hp.st, Hp.ld, Hp.lda, Hp.get_set, Hp.get_alloc, Hp.get_kill, Hp.next_alloc, Hp.next_set, Hp.next_kill, splice, ble_eq', if_true, if_false, ite_true, ite_false, cond_true, cond_false, decide_true, decide_false, List.length_cons, List.length_nil, List.take_zero, List.take_succ_cons, List.nil_append, List.cons_append, List.append_nil, List.drop_succ_cons, List.drop_zero, List.drop_nil, List.getElem?_cons_succ, List.getElem?_cons_zero, Nat.reduceAdd, Nat.reduceLeDiff, Nat.reduceEqDiff, Nat.zero_add, Nat.add_zero, Nat.le_refl, Nat.zero_le, Nat.succ_ne_self, Nat.mul_one, Int.toNat_natCast, Option.some.injEq, Option.isNone_some, Option.isNone_none, V.int.injEq, V.str.injEq, V.bool.injEq, V.ptr.injEq, V.slc.injEq, V.map.injEq, V.agg.injEq, V.tup.injEq, List.cons.injEq, Prod.mk.injEq, onS, true_and, and_true, and_assoc, exists_and_left, exists_eq_left', forall_eq, heq_eq_eq, reduceCtorEq, Bool.not_true, Bool.not_false, eq_self, not_false_eq_true, Nat.left_eq_add, Nat.add_eq_left, Nat.add_left_cancel_iff, Nat.add_right_cancel_iff, Nat.reduceEqDiff, Nat.one_ne_zero, g1, show j ≠ h.next by omega]
      · rw [if_neg hc]
        refine ⟨rfl, a, n, f, G, Hp.get_set_self, (Own.rep 3 a n L).loc h _ G (fun j hj => ?_) h2, rfl, h4⟩
        have g1 : j ≠ b := fun e => h4 (e ▸ hj)
        have := hGlt j hj
        simp only [Hp.st, Hp.ld, Hp.lda, Hp.get_set, Hp.get_alloc, Hp.get_kill, Hp.next_alloc, Hp.next_set, Hp.next_kill, splice, ble_eq', if_true, if_false, ite_true, ite_false, cond_true, cond_false, decide_true, decide_false, List.length_cons, List.length_nil, List.take_zero, List.take_succ_cons, List.nil_append, List.cons_append, List.append_nil, List.drop_succ_cons, List.drop_zero, List.drop_nil, List.getElem?_cons_succ, List.getElem?_cons_zero, Nat.reduceAdd, Nat.reduceLeDiff, Nat.reduceEqDiff, Nat.zero_add, Nat.add_zero, Nat.le_refl, Nat.zero_le, Nat.succ_ne_self, Nat.mul_one, Int.toNat_natCast, Option.some.injEq, Option.isNone_some, Option.isNone_none, V.int.injEq, V.str.injEq, V.bool.injEq, V.ptr.injEq, V.slc.injEq, V.map.injEq, V.agg.injEq, V.tup.injEq, List.cons.injEq, Prod.mk.injEq, onS, true_and, and_true, and_assoc, exists_and_left, exists_eq_left', forall_eq, heq_eq_eq, reduceCtorEq, Bool.not_true, Bool.not_false, eq_self, not_false_eq_true, Nat.left_eq_add, Nat.add_eq_left, Nat.add_left_cancel_iff, Nat.add_right_cancel_iff, Nat.reduceEqDiff, Nat.one_ne_zero, g1, show j ≠ h.next by omega]
  have lose' : ¬ ((L.length : Int) < most ∧ (s.length : Int) ≤ room - tot L) → K (.int .i64 6) ((h.alloc (.row [.int .u32 ip, .int .u16 port, .str s] 1 false)).set b (refRow most room (.slc a n f) fails (IntKind.u64.wrap (lost + 1)))) := fun hc => by
    rcases lose (1 : Nat) with h | h | h
    · exact h
    · exact absurd h hc
    · cases h
  simp only [Hp.st, Hp.ld, Hp.lda, Hp.get_set, Hp.get_alloc, Hp.get_kill, Hp.next_alloc, Hp.next_set, Hp.next_kill, splice, ble_eq', if_true, if_false, ite_true, ite_false, cond_true, cond_false, decide_true, decide_false, List.length_cons, List.length_nil, List.take_zero, List.take_succ_cons, List.nil_append, List.cons_append, List.append_nil, List.drop_succ_cons, List.drop_zero, List.drop_nil, List.getElem?_cons_succ, List.getElem?_cons_zero, Nat.reduceAdd, Nat.reduceLeDiff, Nat.reduceEqDiff, Nat.zero_add, Nat.add_zero, Nat.le_refl, Nat.zero_le, Nat.succ_ne_self, Nat.mul_one, Int.toNat_natCast, Option.some.injEq, Option.isNone_some, Option.isNone_none, V.int.injEq, V.str.injEq, V.bool.injEq, V.ptr.injEq, V.slc.injEq, V.map.injEq, V.agg.injEq, V.tup.injEq, List.cons.injEq, Prod.mk.injEq, onS, true_and, and_true, and_assoc, exists_and_left, exists_eq_left', forall_eq, heq_eq_eq, reduceCtorEq, Bool.not_true, Bool.not_false, eq_self, not_false_eq_true, Nat.left_eq_add, Nat.add_eq_left, Nat.add_left_cancel_iff, Nat.add_right_cancel_iff, Nat.reduceEqDiff, Nat.one_ne_zero, hbn, h1, refRow, mailRow]
  by_cases hc : (L.length : Int) < most
  · have hc1 : ltI (↑n) most = true := by rw [ltI_eq, decide_eq_true_eq, ← hn]; exact hc
    simp only [Hp.st, Hp.ld, Hp.lda, Hp.get_set, Hp.get_alloc, Hp.get_kill, Hp.next_alloc, Hp.next_set, Hp.next_kill, splice, ble_eq', if_true, if_false, ite_true, ite_false, cond_true, cond_false, decide_true, decide_false, List.length_cons, List.length_nil, List.take_zero, List.take_succ_cons, List.nil_append, List.cons_append, List.append_nil, List.drop_succ_cons, List.drop_zero, List.drop_nil, List.getElem?_cons_succ, List.getElem?_cons_zero, Nat.reduceAdd, Nat.reduceLeDiff, Nat.reduceEqDiff, Nat.zero_add, Nat.add_zero, Nat.le_refl, Nat.zero_le, Nat.succ_ne_self, Nat.mul_one, Int.toNat_natCast, Option.some.injEq, Option.isNone_some, Option.isNone_none, V.int.injEq, V.str.injEq, V.bool.injEq, V.ptr.injEq, V.slc.injEq, V.map.injEq, V.agg.injEq, V.tup.injEq, List.cons.injEq, Prod.mk.injEq, onS, true_and, and_true, and_assoc, exists_and_left, exists_eq_left', forall_eq, heq_eq_eq, reduceCtorEq, Bool.not_true, Bool.not_false, eq_self, not_false_eq_true, Nat.left_eq_add, Nat.add_eq_left, Nat.add_left_cancel_iff, Nat.add_right_cancel_iff, Nat.reduceEqDiff, Nat.one_ne_zero, hc1]
    refine (bytes_spec ((RefR.rep b most room fails lost L).stay hw r0 hst) hz (by omega) hl).mono ?_
    rintro _ g2 ⟨rfl, rfl⟩
    refine ⟨_, rfl, ?_⟩
    have htn := tot_nonneg L
    have hwr : IntKind.i64.wrap (tot L + s.length) = tot L + s.length := wrap_of (by simp [IntKind.min, IntKind.max, IntKind.signed, IntKind.bits]; omega)
    simp only [Hp.st, Hp.ld, Hp.lda, Hp.get_set, Hp.get_alloc, Hp.get_kill, Hp.next_alloc, Hp.next_set, Hp.next_kill, splice, ble_eq', if_true, if_false, ite_true, ite_false, cond_true, cond_false, decide_true, decide_false, List.length_cons, List.length_nil, List.take_zero, List.take_succ_cons, List.nil_append, List.cons_append, List.append_nil, List.drop_succ_cons, List.drop_zero, List.drop_nil, List.getElem?_cons_succ, List.getElem?_cons_zero, Nat.reduceAdd, Nat.reduceLeDiff, Nat.reduceEqDiff, Nat.zero_add, Nat.add_zero, Nat.le_refl, Nat.zero_le, Nat.succ_ne_self, Nat.mul_one, Int.toNat_natCast, Option.some.injEq, Option.isNone_some, Option.isNone_none, V.int.injEq, V.str.injEq, V.bool.injEq, V.ptr.injEq, V.slc.injEq, V.map.injEq, V.agg.injEq, V.tup.injEq, List.cons.injEq, Prod.mk.injEq, onS, true_and, and_true, and_assoc, exists_and_left, exists_eq_left', forall_eq, heq_eq_eq, reduceCtorEq, Bool.not_true, Bool.not_false, eq_self, not_false_eq_true, Nat.left_eq_add, Nat.add_eq_left, Nat.add_left_cancel_iff, Nat.add_right_cancel_iff, Nat.reduceEqDiff, Nat.one_ne_zero, hbn, h1, refRow, mailRow, hwr]
    by_cases hc2 : (s.length : Int) ≤ room - tot L
    · have hc3 : ltI room (tot L + ↑s.length) = false := by rw [ltI_eq, decide_eq_false_iff_not]; omega
      obtain ⟨ti, ht, hd⟩ := t59
      obtain ⟨ei, he, es, eb, ez⟩ := t61
      simp only [Hp.st, Hp.ld, Hp.lda, Hp.get_set, Hp.get_alloc, Hp.get_kill, Hp.next_alloc, Hp.next_set, Hp.next_kill, splice, ble_eq', if_true, if_false, ite_true, ite_false, cond_true, cond_false, decide_true, decide_false, List.length_cons, List.length_nil, List.take_zero, List.take_succ_cons, List.nil_append, List.cons_append, List.append_nil, List.drop_succ_cons, List.drop_zero, List.drop_nil, List.getElem?_cons_succ, List.getElem?_cons_zero, Nat.reduceAdd, Nat.reduceLeDiff, Nat.reduceEqDiff, Nat.zero_add, Nat.add_zero, Nat.le_refl, Nat.zero_le, Nat.succ_ne_self, Nat.mul_one, Int.toNat_natCast, Option.some.injEq, Option.isNone_some, Option.isNone_none, V.int.injEq, V.str.injEq, V.bool.injEq, V.ptr.injEq, V.slc.injEq, V.map.injEq, V.agg.injEq, V.tup.injEq, List.cons.injEq, Prod.mk.injEq, onS, true_and, and_true, and_assoc, exists_and_left, exists_eq_left', forall_eq, heq_eq_eq, reduceCtorEq, Bool.not_true, Bool.not_false, eq_self, not_false_eq_true, Nat.left_eq_add, Nat.add_eq_left, Nat.add_left_cancel_iff, Nat.add_right_cancel_iff, Nat.reduceEqDiff, Nat.one_ne_zero, hc3, hbn1]
      have ho : Own 3 a n L ((h.alloc (.row [.int .u32 ip, .int .u16 port, .str s] 1 false)).alloc (.row [.int .u32 ip, .int .u16 port, .str s] 3 false)) G :=
        (Own.rep 3 a n L).loc h _ G (fun j hj => by have := hGlt j hj; simp only [Hp.st, Hp.ld, Hp.lda, Hp.get_set, Hp.get_alloc, Hp.get_kill, Hp.next_alloc, Hp.next_set, Hp.next_kill, splice, ble_eq', if_true, if_false, ite_true, ite_false, cond_true, cond_false, decide_true, decide_false, List.length_cons, List.length_nil, List.take_zero, List.take_succ_cons, List.nil_append, List.cons_append, List.append_nil, List.drop_succ_cons, List.drop_zero, List.drop_nil, List.getElem?_cons_succ, List.getElem?_cons_zero, Nat.reduceAdd, Nat.reduceLeDiff, Nat.reduceEqDiff, Nat.zero_add, Nat.add_zero, Nat.le_refl, Nat.zero_le, Nat.succ_ne_self, Nat.mul_one, Int.toNat_natCast, Option.some.injEq, Option.isNone_some, Option.isNone_none, V.int.injEq, V.str.injEq, V.bool.injEq, V.ptr.injEq, V.slc.injEq, V.map.injEq, V.agg.injEq, V.tup.injEq, List.cons.injEq, Prod.mk.injEq, onS, true_and, and_true, and_assoc, exists_and_left, exists_eq_left', forall_eq, heq_eq_eq, reduceCtorEq, Bool.not_true, Bool.not_false, eq_self, not_false_eq_true, Nat.left_eq_add, Nat.add_eq_left, Nat.add_left_cancel_iff, Nat.add_right_cancel_iff, Nat.reduceEqDiff, Nat.one_ne_zero, show j ≠ h.next by omega, show j ≠ h.next + 1 by omega]) h2
      obtain ⟨h9, hx, ho9, u9, hw9⟩ := ho.app (f := f) (u := 59) (y := .slc (some (h.next + 1, 0)) 1 true) (news := [mailRow ip port s]) hw.alloc.alloc ht hd ht (by intro k; rw [hd]; exact fun h => by cases h) he es (by omega) ez
        (xnews_one (by simp only [Hp.st, Hp.ld, Hp.lda, Hp.get_set, Hp.get_alloc, Hp.get_kill, Hp.next_alloc, Hp.next_set, Hp.next_kill, splice, ble_eq', if_true, if_false, ite_true, ite_false, cond_true, cond_false, decide_true, decide_false, List.length_cons, List.length_nil, List.take_zero, List.take_succ_cons, List.nil_append, List.cons_append, List.append_nil, List.drop_succ_cons, List.drop_zero, List.drop_nil, List.getElem?_cons_succ, List.getElem?_cons_zero, Nat.reduceAdd, Nat.reduceLeDiff, Nat.reduceEqDiff, Nat.zero_add, Nat.add_zero, Nat.le_refl, Nat.zero_le, Nat.succ_ne_self, Nat.mul_one, Int.toNat_natCast, Option.some.injEq, Option.isNone_some, Option.isNone_none, V.int.injEq, V.str.injEq, V.bool.injEq, V.ptr.injEq, V.slc.injEq, V.map.injEq, V.agg.injEq, V.tup.injEq, List.cons.injEq, Prod.mk.injEq, onS, true_and, and_true, and_assoc, exists_and_left, exists_eq_left', forall_eq, heq_eq_eq, reduceCtorEq, Bool.not_true, Bool.not_false, eq_self, not_false_eq_true, Nat.left_eq_add, Nat.add_eq_left, Nat.add_left_cancel_iff, Nat.add_right_cancel_iff, Nat.reduceEqDiff, Nat.one_ne_zero, mailRow]) rfl) (by simp [mailRow]) (by simp) (by rw [eb]; simp; omega) (by simp; omega)
      have hb9 : h9.get b = some (refRow most room (.slc a n f) fails lost) := by
        rw [u9.same b (by simp only [Hp.st, Hp.ld, Hp.lda, Hp.get_set, Hp.get_alloc, Hp.get_kill, Hp.next_alloc, Hp.next_set, Hp.next_kill, splice, ble_eq', if_true, if_false, ite_true, ite_false, cond_true, cond_false, decide_true, decide_false, List.length_cons, List.length_nil, List.take_zero, List.take_succ_cons, List.nil_append, List.cons_append, List.append_nil, List.drop_succ_cons, List.drop_zero, List.drop_nil, List.getElem?_cons_succ, List.getElem?_cons_zero, Nat.reduceAdd, Nat.reduceLeDiff, Nat.reduceEqDiff, Nat.zero_add, Nat.add_zero, Nat.le_refl, Nat.zero_le, Nat.succ_ne_self, Nat.mul_one, Int.toNat_natCast, Option.some.injEq, Option.isNone_some, Option.isNone_none, V.int.injEq, V.str.injEq, V.bool.injEq, V.ptr.injEq, V.slc.injEq, V.map.injEq, V.agg.injEq, V.tup.injEq, List.cons.injEq, Prod.mk.injEq, onS, true_and, and_true, and_assoc, exists_and_left, exists_eq_left', forall_eq, heq_eq_eq, reduceCtorEq, Bool.not_true, Bool.not_false, eq_self, not_false_eq_true, Nat.left_eq_add, Nat.add_eq_left, Nat.add_left_cancel_iff, Nat.add_right_cancel_iff, Nat.reduceEqDiff, Nat.one_ne_zero]; omega) h4]; simp only [Hp.st, Hp.ld, Hp.lda, Hp.get_set, Hp.get_alloc, Hp.get_kill, Hp.next_alloc, Hp.next_set, Hp.next_kill, splice, ble_eq', if_true, if_false, ite_true, ite_false, cond_true, cond_false, decide_true, decide_false, List.length_cons, List.length_nil, List.take_zero, List.take_succ_cons, List.nil_append, List.cons_append, List.append_nil, List.drop_succ_cons, List.drop_zero, List.drop_nil, List.getElem?_cons_succ, List.getElem?_cons_zero, Nat.reduceAdd, Nat.reduceLeDiff, Nat.reduceEqDiff, Nat.zero_add, Nat.add_zero, Nat.le_refl, Nat.zero_le, Nat.succ_ne_self, Nat.mul_one, Int.toNat_natCast, Option.some.injEq, Option.isNone_some, Option.isNone_none, V.int.injEq, V.str.injEq, V.bool.injEq, V.ptr.injEq, V.slc.injEq, V.map.injEq, V.agg.injEq, V.tup.injEq, List.cons.injEq, Prod.mk.injEq, onS, true_and, and_true, and_assoc, exists_and_left, exists_eq_left', forall_eq, heq_eq_eq, reduceCtorEq, Bool.not_true, Bool.not_false, eq_self, not_false_eq_true, Nat.left_eq_add, Nat.add_eq_left, Nat.add_left_cancel_iff, Nat.add_right_cancel_iff, Nat.reduceEqDiff, Nat.one_ne_zero, hbn, hbn1, h1]
      refine ⟨_, _, _, _, hx, ?_⟩
      simp only [Hp.st, Hp.ld, Hp.lda, Hp.get_set, Hp.get_alloc, Hp.get_kill, Hp.next_alloc, Hp.next_set, Hp.next_kill, splice, ble_eq', if_true, if_false, ite_true, ite_false, cond_true, cond_false, decide_true, decide_false, List.length_cons, List.length_nil, List.take_zero, List.take_succ_cons, List.nil_append, List.cons_append, List.append_nil, List.drop_succ_cons, List.drop_zero, List.drop_nil, List.getElem?_cons_succ, List.getElem?_cons_zero, Nat.reduceAdd, Nat.reduceLeDiff, Nat.reduceEqDiff, Nat.zero_add, Nat.add_zero, Nat.le_refl, Nat.zero_le, Nat.succ_ne_self, Nat.mul_one, Int.toNat_natCast, Option.some.injEq, Option.isNone_some, Option.isNone_none, V.int.injEq, V.str.injEq, V.bool.injEq, V.ptr.injEq, V.slc.injEq, V.map.injEq, V.agg.injEq, V.tup.injEq, List.cons.injEq, Prod.mk.injEq, onS, true_and, and_true, and_assoc, exists_and_left, exists_eq_left', forall_eq, heq_eq_eq, reduceCtorEq, Bool.not_true, Bool.not_false, eq_self, not_false_eq_true, Nat.left_eq_add, Nat.add_eq_left, Nat.add_left_cancel_iff, Nat.add_right_cancel_iff, Nat.reduceEqDiff, Nat.one_ne_zero, hb9, refRow]
      refine hK _ _ ⟨b :: [h.next + 1 + 1], ⟨fun j hj hF => ?_, fun j hj => ?_, ?_⟩, ?_⟩
      · have g1 : j ≠ b := fun e => hF (by simp [e])
        simp only [Hp.st, Hp.ld, Hp.lda, Hp.get_set, Hp.get_alloc, Hp.get_kill, Hp.next_alloc, Hp.next_set, Hp.next_kill, splice, ble_eq', if_true, if_false, ite_true, ite_false, cond_true, cond_false, decide_true, decide_false, List.length_cons, List.length_nil, List.take_zero, List.take_succ_cons, List.nil_append, List.cons_append, List.append_nil, List.drop_succ_cons, List.drop_zero, List.drop_nil, List.getElem?_cons_succ, List.getElem?_cons_zero, Nat.reduceAdd, Nat.reduceLeDiff, Nat.reduceEqDiff, Nat.zero_add, Nat.add_zero, Nat.le_refl, Nat.zero_le, Nat.succ_ne_self, Nat.mul_one, Int.toNat_natCast, Option.some.injEq, Option.isNone_some, Option.isNone_none, V.int.injEq, V.str.injEq, V.bool.injEq, V.ptr.injEq, V.slc.injEq, V.map.injEq, V.agg.injEq, V.tup.injEq, List.cons.injEq, Prod.mk.injEq, onS, true_and, and_true, and_assoc, exists_and_left, exists_eq_left', forall_eq, heq_eq_eq, reduceCtorEq, Bool.not_true, Bool.not_false, eq_self, not_false_eq_true, Nat.left_eq_add, Nat.add_eq_left, Nat.add_left_cancel_iff, Nat.add_right_cancel_iff, Nat.reduceEqDiff, Nat.one_ne_zero, g1]
        rw [u9.same j (by simp only [Hp.st, Hp.ld, Hp.lda, Hp.get_set, Hp.get_alloc, Hp.get_kill, Hp.next_alloc, Hp.next_set, Hp.next_kill, splice, ble_eq', if_true, if_false, ite_true, ite_false, cond_true, cond_false, decide_true, decide_false, List.length_cons, List.length_nil, List.take_zero, List.take_succ_cons, List.nil_append, List.cons_append, List.append_nil, List.drop_succ_cons, List.drop_zero, List.drop_nil, List.getElem?_cons_succ, List.getElem?_cons_zero, Nat.reduceAdd, Nat.reduceLeDiff, Nat.reduceEqDiff, Nat.zero_add, Nat.add_zero, Nat.le_refl, Nat.zero_le, Nat.succ_ne_self, Nat.mul_one, Int.toNat_natCast, Option.some.injEq, Option.isNone_some, Option.isNone_none, V.int.injEq, V.str.injEq, V.bool.injEq, V.ptr.injEq, V.slc.injEq, V.map.injEq, V.agg.injEq, V.tup.injEq, List.cons.injEq, Prod.mk.injEq, onS, true_and, and_true, and_assoc, exists_and_left, exists_eq_left', forall_eq, heq_eq_eq, reduceCtorEq, Bool.not_true, Bool.not_false, eq_self, not_false_eq_true, Nat.left_eq_add, Nat.add_eq_left, Nat.add_left_cancel_iff, Nat.add_right_cancel_iff, Nat.reduceEqDiff, Nat.one_ne_zero]; omega) (fun hj => hF (by simp [hj]))]
        simp only [Hp.st, Hp.ld, Hp.lda, Hp.get_set, Hp.get_alloc, Hp.get_kill, Hp.next_alloc, Hp.next_set, Hp.next_kill, splice, ble_eq', if_true, if_false, ite_true, ite_false, cond_true, cond_false, decide_true, decide_false, List.length_cons, List.length_nil, List.take_zero, List.take_succ_cons, List.nil_append, List.cons_append, List.append_nil, List.drop_succ_cons, List.drop_zero, List.drop_nil, List.getElem?_cons_succ, List.getElem?_cons_zero, Nat.reduceAdd, Nat.reduceLeDiff, Nat.reduceEqDiff, Nat.zero_add, Nat.add_zero, Nat.le_refl, Nat.zero_le, Nat.succ_ne_self, Nat.mul_one, Int.toNat_natCast, Option.some.injEq, Option.isNone_some, Option.isNone_none, V.int.injEq, V.str.injEq, V.bool.injEq, V.ptr.injEq, V.slc.injEq, V.map.injEq, V.agg.injEq, V.tup.injEq, List.cons.injEq, Prod.mk.injEq, onS, true_and, and_true, and_assoc, exists_and_left, exists_eq_left', forall_eq, heq_eq_eq, reduceCtorEq, Bool.not_true, Bool.not_false, eq_self, not_false_eq_true, Nat.left_eq_add, Nat.add_eq_left, Nat.add_left_cancel_iff, Nat.add_right_cancel_iff, Nat.reduceEqDiff, Nat.one_ne_zero, show j ≠ h.next by omega, show j ≠ h.next + 1 by omega]
      · rcases List.mem_cons.1 hj with rfl | hj
        · exact .inl (by simp)
        · rw [List.mem_singleton] at hj; exact .inr (by omega)
      · have := u9.le
        simp only [Hp.next_alloc] at this
        simp only [Hp.st, Hp.ld, Hp.lda, Hp.get_set, Hp.get_alloc, Hp.get_kill, Hp.next_alloc, Hp.next_set, Hp.next_kill, splice, ble_eq', if_true, if_false, ite_true, ite_false, cond_true, cond_false, decide_true, decide_false, List.length_cons, List.length_nil, List.take_zero, List.take_succ_cons, List.nil_append, List.cons_append, List.append_nil, List.drop_succ_cons, List.drop_zero, List.drop_nil, List.getElem?_cons_succ, List.getElem?_cons_zero, Nat.reduceAdd, Nat.reduceLeDiff, Nat.reduceEqDiff, Nat.zero_add, Nat.add_zero, Nat.le_refl, Nat.zero_le, Nat.succ_ne_self, Nat.mul_one, Int.toNat_natCast, Option.some.injEq, Option.isNone_some, Option.isNone_none, V.int.injEq, V.str.injEq, V.bool.injEq, V.ptr.injEq, V.slc.injEq, V.map.injEq, V.agg.injEq, V.tup.injEq, List.cons.injEq, Prod.mk.injEq, onS, true_and, and_true, and_assoc, exists_and_left, exists_eq_left', forall_eq, heq_eq_eq, reduceCtorEq, Bool.not_true, Bool.not_false, eq_self, not_false_eq_true, Nat.left_eq_add, Nat.add_eq_left, Nat.add_left_cancel_iff, Nat.add_right_cancel_iff, Nat.reduceEqDiff, Nat.one_ne_zero]; omega
      · rw [if_pos ⟨hc, hc2⟩]
        refine ⟨rfl, some (h.next + 1 + 1, 0), n + 1, false, [h.next + 1 + 1], ?_, ?_, rfl, ?_⟩
        · simp only [Hp.st, Hp.ld, Hp.lda, Hp.get_set, Hp.get_alloc, Hp.get_kill, Hp.next_alloc, Hp.next_set, Hp.next_kill, splice, ble_eq', if_true, if_false, ite_true, ite_false, cond_true, cond_false, decide_true, decide_false, List.length_cons, List.length_nil, List.take_zero, List.take_succ_cons, List.nil_append, List.cons_append, List.append_nil, List.drop_succ_cons, List.drop_zero, List.drop_nil, List.getElem?_cons_succ, List.getElem?_cons_zero, Nat.reduceAdd, Nat.reduceLeDiff, Nat.reduceEqDiff, Nat.zero_add, Nat.add_zero, Nat.le_refl, Nat.zero_le, Nat.succ_ne_self, Nat.mul_one, Int.toNat_natCast, Option.some.injEq, Option.isNone_some, Option.isNone_none, V.int.injEq, V.str.injEq, V.bool.injEq, V.ptr.injEq, V.slc.injEq, V.map.injEq, V.agg.injEq, V.tup.injEq, List.cons.injEq, Prod.mk.injEq, onS, true_and, and_true, and_assoc, exists_and_left, exists_eq_left', forall_eq, heq_eq_eq, reduceCtorEq, Bool.not_true, Bool.not_false, eq_self, not_false_eq_true, Nat.left_eq_add, Nat.add_eq_left, Nat.add_left_cancel_iff, Nat.add_right_cancel_iff, Nat.reduceEqDiff, Nat.one_ne_zero, refRow]
        · refine (Own.rep 3 _ _ _).loc h9 _ _ (fun j hj => ?_) ho9
          rw [List.mem_singleton] at hj
          subst hj
          simp only [Hp.st, Hp.ld, Hp.lda, Hp.get_set, Hp.get_alloc, Hp.get_kill, Hp.next_alloc, Hp.next_set, Hp.next_kill, splice, ble_eq', if_true, if_false, ite_true, ite_false, cond_true, cond_false, decide_true, decide_false, List.length_cons, List.length_nil, List.take_zero, List.take_succ_cons, List.nil_append, List.cons_append, List.append_nil, List.drop_succ_cons, List.drop_zero, List.drop_nil, List.getElem?_cons_succ, List.getElem?_cons_zero, Nat.reduceAdd, Nat.reduceLeDiff, Nat.reduceEqDiff, Nat.zero_add, Nat.add_zero, Nat.le_refl, Nat.zero_le, Nat.succ_ne_self, Nat.mul_one, Int.toNat_natCast, Option.some.injEq, Option.isNone_some, Option.isNone_none, V.int.injEq, V.str.injEq, V.bool.injEq, V.ptr.injEq, V.slc.injEq, V.map.injEq, V.agg.injEq, V.tup.injEq, List.cons.injEq, Prod.mk.injEq, onS, true_and, and_true, and_assoc, exists_and_left, exists_eq_left', forall_eq, heq_eq_eq, reduceCtorEq, Bool.not_true, Bool.not_false, eq_self, not_false_eq_true, Nat.left_eq_add, Nat.add_eq_left, Nat.add_left_cancel_iff, Nat.add_right_cancel_iff, Nat.reduceEqDiff, Nat.one_ne_zero, show h.next + 1 + 1 ≠ b by omega]
        · simp; omega
    · have hc3 : ltI room (tot L + ↑s.length) = true := by rw [ltI_eq, decide_eq_true_eq]; omega
      simp only [Hp.st, Hp.ld, Hp.lda, Hp.get_set, Hp.get_alloc, Hp.get_kill, Hp.next_alloc, Hp.next_set, Hp.next_kill, splice, ble_eq', if_true, if_false, ite_true, ite_false, cond_true, cond_false, decide_true, decide_false, List.length_cons, List.length_nil, List.take_zero, List.take_succ_cons, List.nil_append, List.cons_append, List.append_nil, List.drop_succ_cons, List.drop_zero, List.drop_nil, List.getElem?_cons_succ, List.getElem?_cons_zero, Nat.reduceAdd, Nat.reduceLeDiff, Nat.reduceEqDiff, Nat.zero_add, Nat.add_zero, Nat.le_refl, Nat.zero_le, Nat.succ_ne_self, Nat.mul_one, Int.toNat_natCast, Option.some.injEq, Option.isNone_some, Option.isNone_none, V.int.injEq, V.str.injEq, V.bool.injEq, V.ptr.injEq, V.slc.injEq, V.map.injEq, V.agg.injEq, V.tup.injEq, List.cons.injEq, Prod.mk.injEq, onS, true_and, and_true, and_assoc, exists_and_left, exists_eq_left', forall_eq, heq_eq_eq, reduceCtorEq, Bool.not_true, Bool.not_false, eq_self, not_false_eq_true, Nat.left_eq_add, Nat.add_eq_left, Nat.add_left_cancel_iff, Nat.add_right_cancel_iff, Nat.reduceEqDiff, Nat.one_ne_zero, hc3]
      exact lose' (by omega)
  · have hc1 : ltI (↑n) most = false := by rw [ltI_eq, decide_eq_false_iff_not, ← hn]; exact hc
    simp only [Hp.st, Hp.ld, Hp.lda, Hp.get_set, Hp.get_alloc, Hp.get_kill, Hp.next_alloc, Hp.next_set, Hp.next_kill, splice, ble_eq', if_true, if_false, ite_true, ite_false, cond_true, cond_false, decide_true, decide_false, List.length_cons, List.length_nil, List.take_zero, List.take_succ_cons, List.nil_append, List.cons_append, List.append_nil, List.drop_succ_cons, List.drop_zero, List.drop_nil, List.getElem?_cons_succ, List.getElem?_cons_zero, Nat.reduceAdd, Nat.reduceLeDiff, Nat.reduceEqDiff, Nat.zero_add, Nat.add_zero, Nat.le_refl, Nat.zero_le, Nat.succ_ne_self, Nat.mul_one, Int.toNat_natCast, Option.some.injEq, Option.isNone_some, Option.isNone_none, V.int.injEq, V.str.injEq, V.bool.injEq, V.ptr.injEq, V.slc.injEq, V.map.injEq, V.agg.injEq, V.tup.injEq, List.cons.injEq, Prod.mk.injEq, onS, true_and, and_true, and_assoc, exists_and_left, exists_eq_left', forall_eq, heq_eq_eq, reduceCtorEq, Bool.not_true, Bool.not_false, eq_self, not_false_eq_true, Nat.left_eq_add, Nat.add_eq_left, Nat.add_left_cancel_iff, Nat.add_right_cancel_iff, Nat.reduceEqDiff, Nat.one_ne_zero, hc1]
    exact lose' (by omega)
end Go.Vex
