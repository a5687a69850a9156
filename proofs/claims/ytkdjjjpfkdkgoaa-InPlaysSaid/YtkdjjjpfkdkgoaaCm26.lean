/-
  The reference's In (layer 26): contracts by the same functions as the program's.
-/
import Derived.Test.YtkdjjjpfkdkgoaaVexGG
import Derived.Test.YtkdjjjpfkdkgoaaVexFF
import Derived.Test.YtkdjjjpfkdkgoaaTab26
import Derived.Test.YtkdjjjpfkdkgoaaXa26
import Derived.Test.YtkdjjjpfkdkgoaaCa26
import Derived.Test.YtkdjjjpfkdkgoaaXg26
import Derived.Test.YtkdjjjpfkdkgoaaCg26
import Derived.Test.YtkdjjjpfkdkgoaaCi26
import Derived.Test.YtkdjjjpfkdkgoaaCj26
import Derived.Test.YtkdjjjpfkdkgoaaCk26
import Derived.Test.YtkdjjjpfkdkgoaaCl26
import Derived.Test.YtkdjjjpfkdkgoaaXj26
set_option linter.unusedVariables false
set_option linter.unusedSimpArgs false
namespace Go.Vex.In
open Go.Proofs

def fRows (F : Nat → Int) (n : Nat) : List (List V) := (List.range n).map fun k => [.int .i64 (F k)]

theorem fRows_len (F : Nat → Int) (n : Nat) : (fRows F n).length = n := by simp [fRows]

theorem fRows_get {F : Nat → Int} {n k : Nat} (h : k < n) : (fRows F n)[k]? = some [.int .i64 (F k)] := by
  unfold fRows; rw [List.getElem?_map, List.getElem?_range h]; rfl

theorem fRows_set {F : Nat → Int} {n p : Nat} (c : Int) (h : p < n) : (fRows F n).set p [.int .i64 c] = fRows (up F p c) n := by
  apply List.ext_getElem?
  intro k
  rw [List.getElem?_set, fRows_len]
  by_cases hk : k < n
  · rw [fRows_get hk, fRows_get hk]
    by_cases e : p = k
    · subst e; rw [if_pos rfl, if_pos h, up_self]
    · rw [if_neg e, up_ne (Ne.symm e)]
  · rw [if_neg (by omega), List.getElem?_eq_none (by rw [fRows_len]; omega), List.getElem?_eq_none (by rw [fRows_len]; omega)]

theorem fRows_succ (F : Nat → Int) (n : Nat) : fRows F (n + 1) = fRows F n ++ [[.int .i64 (F n)]] := by
  unfold fRows; rw [List.range_succ, List.map_append]; rfl

theorem fRows_congr {F F' : Nat → Int} {n : Nat} (h : ∀ k, k < n → F k = F' k) : fRows F n = fRows F' n :=
  List.map_congr_left fun k hk => by rw [h k (List.mem_range.1 hk)]

def RefI (r : Nat) (nx : Int) (rd : List UInt8) (F : Nat → Int) (n : Nat) (E : Int) (h : Hp) (FB : List Nat) : Prop :=
  ∃ a f G, h.get r = some (.row [.int .u32 nx, .str rd, .slc a n f, .int .i64 E, .int .i64 n] 1 false) ∧ Own 1 a n (fRows F n) h G ∧ FB = r :: G ∧ r ∉ G

theorem RefI.rep (r : Nat) (nx : Int) (rd : List UInt8) (F : Nat → Int) (n : Nat) (E : Int) : Rep (RefI r nx rd F n E) where
  loc := fun h h' FB hs ⟨a, f, G, e1, e2, e3, e4⟩ => by
    subst e3
    exact ⟨a, f, G, by rw [hs r (by simp)]; exact e1, (Own.rep _ _ _ _).loc h h' G (fun j hj => hs j (by simp [hj])) e2, rfl, e4⟩
  dom := fun h FB ⟨a, f, G, e1, e2, e3, e4⟩ j hj => by
    subst e3
    rcases List.mem_cons.1 hj with rfl | hj
    · exact ⟨_, e1, rfl⟩
    · exact (Own.rep _ _ _ _).dom h G e2 j hj

theorem rnew_ex {h : Hp} {a0 : Int} {n : Nat} (hw : h.wf) (hn : n ≤ 400) : XCalls Try.prog 34 [.int .u32 a0, .int .i64 n] h fun v h' => v = .ptr (some (h.next, 0)) ∧ ∃ FB, RefI h.next a0 [] (fun _ => -1) n (-1) h' FB ∧ Quiet h h' ∧ ∀ j ∈ FB, h.next ≤ j := by
  refine XCalls.cps fun K hK => ?_
  apply x34; unfold X34
  rintro h1 rfl
  have q1 := Quiet.alloc hw (.row [.int .u32 a0, .str [], .slc none 0 true, .int .i64 (-1), .int .i64 n] 1 false)
  refine ⟨fun vs h' => match vs with
    | [.int _ k] => ∃ (k' : Nat) (a : Option (Nat × Nat)) (f : Bool) (G : List Nat), k = k' ∧ k' ≤ n ∧ h'.get h.next = some (.row [.int .u32 a0, .str [], .slc a k' f, .int .i64 (-1), .int .i64 n] 1 false) ∧ Own 1 a k' (fRows (fun _ => -1) k') h' G ∧ (∀ j ∈ G, h.next < j) ∧ (∀ j, j < h.next → h'.get j = h.get j) ∧ h'.wf ∧ h.next < h'.next
    | _ => False, fun vs _ => match vs with
    | [.int _ k] => n - k.toNat
    | _ => 0, ⟨by trivial, 0, none, true, [], rfl, Nat.zero_le _, Hp.get_alloc_self, Own.nil _ _, by simp, q1.same, q1.wf, by simp⟩, ?_⟩
  rintro bs k h2 ⟨k, a, f, G, rfl, hk, g1, o1, hG, s2, w2, n2⟩
  cases hi : ltI (↑k) (↑n) with
  | false =>
    rw [ltI_eq, decide_eq_false_iff_not] at hi
    obtain rfl : k = n := by omega
    exact hK _ _ ⟨rfl, h.next :: G, ⟨a, f, G, g1, o1, rfl, fun hh => by have := hG _ hh; omega⟩, ⟨s2, by omega, w2⟩, fun j hj => by
      rcases List.mem_cons.1 hj with rfl | hj
      · omega
      · have := hG j hj; omega⟩
  | true =>
    rw [ltI_eq, decide_eq_true_eq] at hi
    have hwk : IntKind.i64.wrap ((k : Int) + 1) = ((k + 1 : Nat) : Int) := by rw [wr (by omega) (by omega)]; rfl
    refine ⟨a, k, f, by simp (disch := (first | omega | (simp only [Hp.alloc_next, Hp.set_next] <;> omega) | (simp (disch := (first | omega | (simp only [Hp.alloc_next, Hp.set_next] <;> omega) | fail)) only [Hp.get_set_self, Hp.get_set_ne, Hp.get_alloc_self, Hp.get_alloc_ne, Hp.get_alloc_at, Hp.get_set_at, Hp.set_next, Hp.alloc_next, g1]; done) | fail)) only [Hp.st, Hp.ld, Hp.lda, splice, ble_eq', if_true, if_false, ite_true, ite_false, cond_true, cond_false, decide_true, decide_false, List.length_cons, List.length_nil, List.take_zero, List.take_succ_cons, List.nil_append, List.cons_append, List.append_nil, List.drop_succ_cons, List.drop_zero, List.drop_nil, List.getElem?_cons_succ, List.getElem?_cons_zero, Nat.reduceAdd, Nat.reduceLeDiff, Nat.reduceEqDiff, Nat.zero_add, Nat.add_zero, Nat.le_refl, Nat.zero_le, Nat.succ_ne_self, Nat.mul_one, Int.toNat_natCast, Option.some.injEq, Option.isNone_some, Option.isNone_none, V.int.injEq, V.str.injEq, V.bool.injEq, V.ptr.injEq, V.slc.injEq, V.map.injEq, V.agg.injEq, V.tup.injEq, List.cons.injEq, Prod.mk.injEq, onS, true_and, and_true, and_assoc, exists_and_left, exists_eq_left', forall_eq, heq_eq_eq, reduceCtorEq, Bool.not_true, Bool.not_false, eq_self, not_false_eq_true, Nat.left_eq_add, Nat.add_eq_left, Nat.add_left_cancel_iff, Nat.add_right_cancel_iff, Nat.reduceEqDiff, Nat.one_ne_zero, Hp.get_set_self, Hp.get_set_ne, Hp.get_alloc_self, Hp.get_alloc_ne, Hp.get_alloc_at, Hp.get_set_at, Hp.set_next, Hp.alloc_next, Option.some_ne_none, V.tup.injEq, Option.isSome_some, Option.isSome_none, exists_eq_left, exists_eq, Nat.mul_zero, g1], ?_⟩
    rintro h3 rfl
    obtain ⟨h4, hx, o4, u4, w4⟩ := app61 (f := f) (c := [.int .i64 (-1)]) o1 w2 (by omega) rfl
    have g4 : h4.get h.next = some (.row [.int .u32 a0, .str [], .slc a k f, .int .i64 (-1), .int .i64 n] 1 false) := by rw [u4.same _ n2 (fun hh => by have := hG _ hh; omega)]; exact g1
    have n4 := u4.le
    rw [hwk]
    refine ⟨_, _, _, h4, hx, _, Hp.st_of g4 (Nat.le_of_ble_eq_true rfl), by trivial, ⟨k + 1, some (h2.next + 1, 0), false, [h2.next + 1], rfl, by omega, by rw [Hp.get_set_self]; rfl, ?_, fun j hj => by rw [List.mem_singleton] at hj; omega, fun j hj => ?_, w4.set (by omega), by simp only [Hp.set_next]; omega⟩, by simp only [Int.toNat_natCast]; omega⟩
    · rw [fRows_succ]
      exact (Own.rep _ _ _ _).loc _ _ _ (fun x hx => by rw [List.mem_singleton] at hx; rw [Hp.get_set_ne (by omega)]) o4
    · rw [Hp.get_set_ne (by omega), u4.same j (by omega) (fun hh => by have := hG _ hh; omega)]; exact s2 j hj

section
variable {r : Nat} {nx : Int} {rd : List UInt8} {F : Nat → Int} {n : Nat} {E : Int} {h : Hp} {FB : List Nat}

theorem RefI.nx0 (i : RefI r nx rd F n E h FB) : h.ld r 0 = some (.int .u32 nx) := by obtain ⟨a, f, G, e1, _⟩ := i; simp (disch := (first | omega | (simp only [Hp.alloc_next, Hp.set_next] <;> omega) | (simp (disch := (first | omega | (simp only [Hp.alloc_next, Hp.set_next] <;> omega) | fail)) only [Hp.get_set_self, Hp.get_set_ne, Hp.get_alloc_self, Hp.get_alloc_ne, Hp.get_alloc_at, Hp.get_set_at, Hp.set_next, Hp.alloc_next, e1]; done) | fail)) only [Hp.st, Hp.ld, Hp.lda, splice, ble_eq', if_true, if_false, ite_true, ite_false, cond_true, cond_false, decide_true, decide_false, List.length_cons, List.length_nil, List.take_zero, List.take_succ_cons, List.nil_append, List.cons_append, List.append_nil, List.drop_succ_cons, List.drop_zero, List.drop_nil, List.getElem?_cons_succ, List.getElem?_cons_zero, Nat.reduceAdd, Nat.reduceLeDiff, Nat.reduceEqDiff, Nat.zero_add, Nat.add_zero, Nat.le_refl, Nat.zero_le, Nat.succ_ne_self, Nat.mul_one, Int.toNat_natCast, Option.some.injEq, Option.isNone_some, Option.isNone_none, V.int.injEq, V.str.injEq, V.bool.injEq, V.ptr.injEq, V.slc.injEq, V.map.injEq, V.agg.injEq, V.tup.injEq, List.cons.injEq, Prod.mk.injEq, onS, true_and, and_true, and_assoc, exists_and_left, exists_eq_left', forall_eq, heq_eq_eq, reduceCtorEq, Bool.not_true, Bool.not_false, eq_self, not_false_eq_true, Nat.left_eq_add, Nat.add_eq_left, Nat.add_left_cancel_iff, Nat.add_right_cancel_iff, Nat.reduceEqDiff, Nat.one_ne_zero, Hp.get_set_self, Hp.get_set_ne, Hp.get_alloc_self, Hp.get_alloc_ne, Hp.get_alloc_at, Hp.get_set_at, Hp.set_next, Hp.alloc_next, Option.some_ne_none, V.tup.injEq, Option.isSome_some, Option.isSome_none, exists_eq_left, exists_eq, Nat.mul_zero, e1]
theorem RefI.rd1 (i : RefI r nx rd F n E h FB) : h.ld r 1 = some (.str rd) := by obtain ⟨a, f, G, e1, _⟩ := i; simp (disch := (first | omega | (simp only [Hp.alloc_next, Hp.set_next] <;> omega) | (simp (disch := (first | omega | (simp only [Hp.alloc_next, Hp.set_next] <;> omega) | fail)) only [Hp.get_set_self, Hp.get_set_ne, Hp.get_alloc_self, Hp.get_alloc_ne, Hp.get_alloc_at, Hp.get_set_at, Hp.set_next, Hp.alloc_next, e1]; done) | fail)) only [Hp.st, Hp.ld, Hp.lda, splice, ble_eq', if_true, if_false, ite_true, ite_false, cond_true, cond_false, decide_true, decide_false, List.length_cons, List.length_nil, List.take_zero, List.take_succ_cons, List.nil_append, List.cons_append, List.append_nil, List.drop_succ_cons, List.drop_zero, List.drop_nil, List.getElem?_cons_succ, List.getElem?_cons_zero, Nat.reduceAdd, Nat.reduceLeDiff, Nat.reduceEqDiff, Nat.zero_add, Nat.add_zero, Nat.le_refl, Nat.zero_le, Nat.succ_ne_self, Nat.mul_one, Int.toNat_natCast, Option.some.injEq, Option.isNone_some, Option.isNone_none, V.int.injEq, V.str.injEq, V.bool.injEq, V.ptr.injEq, V.slc.injEq, V.map.injEq, V.agg.injEq, V.tup.injEq, List.cons.injEq, Prod.mk.injEq, onS, true_and, and_true, and_assoc, exists_and_left, exists_eq_left', forall_eq, heq_eq_eq, reduceCtorEq, Bool.not_true, Bool.not_false, eq_self, not_false_eq_true, Nat.left_eq_add, Nat.add_eq_left, Nat.add_left_cancel_iff, Nat.add_right_cancel_iff, Nat.reduceEqDiff, Nat.one_ne_zero, Hp.get_set_self, Hp.get_set_ne, Hp.get_alloc_self, Hp.get_alloc_ne, Hp.get_alloc_at, Hp.get_set_at, Hp.set_next, Hp.alloc_next, Option.some_ne_none, V.tup.injEq, Option.isSome_some, Option.isSome_none, exists_eq_left, exists_eq, Nat.mul_zero, e1]
theorem RefI.e3 (i : RefI r nx rd F n E h FB) : h.ld r 3 = some (.int .i64 E) := by obtain ⟨a, f, G, e1, _⟩ := i; simp (disch := (first | omega | (simp only [Hp.alloc_next, Hp.set_next] <;> omega) | (simp (disch := (first | omega | (simp only [Hp.alloc_next, Hp.set_next] <;> omega) | fail)) only [Hp.get_set_self, Hp.get_set_ne, Hp.get_alloc_self, Hp.get_alloc_ne, Hp.get_alloc_at, Hp.get_set_at, Hp.set_next, Hp.alloc_next, e1]; done) | fail)) only [Hp.st, Hp.ld, Hp.lda, splice, ble_eq', if_true, if_false, ite_true, ite_false, cond_true, cond_false, decide_true, decide_false, List.length_cons, List.length_nil, List.take_zero, List.take_succ_cons, List.nil_append, List.cons_append, List.append_nil, List.drop_succ_cons, List.drop_zero, List.drop_nil, List.getElem?_cons_succ, List.getElem?_cons_zero, Nat.reduceAdd, Nat.reduceLeDiff, Nat.reduceEqDiff, Nat.zero_add, Nat.add_zero, Nat.le_refl, Nat.zero_le, Nat.succ_ne_self, Nat.mul_one, Int.toNat_natCast, Option.some.injEq, Option.isNone_some, Option.isNone_none, V.int.injEq, V.str.injEq, V.bool.injEq, V.ptr.injEq, V.slc.injEq, V.map.injEq, V.agg.injEq, V.tup.injEq, List.cons.injEq, Prod.mk.injEq, onS, true_and, and_true, and_assoc, exists_and_left, exists_eq_left', forall_eq, heq_eq_eq, reduceCtorEq, Bool.not_true, Bool.not_false, eq_self, not_false_eq_true, Nat.left_eq_add, Nat.add_eq_left, Nat.add_left_cancel_iff, Nat.add_right_cancel_iff, Nat.reduceEqDiff, Nat.one_ne_zero, Hp.get_set_self, Hp.get_set_ne, Hp.get_alloc_self, Hp.get_alloc_ne, Hp.get_alloc_at, Hp.get_set_at, Hp.set_next, Hp.alloc_next, Option.some_ne_none, V.tup.injEq, Option.isSome_some, Option.isSome_none, exists_eq_left, exists_eq, Nat.mul_zero, e1]

theorem rwindow_ex (i : RefI r nx rd F n E h FB) (hb : rd.length ≤ n ∧ n ≤ 400) : XCalls Try.prog 39 [.ptr (some (r, 0))] h fun v h' => v = .int .i64 ((n : Int) - rd.length) ∧ h' = h := by
  obtain ⟨a, f, G, e1, _⟩ := i
  apply x39; unfold X39
  refine ⟨n, by simp (disch := (first | omega | (simp only [Hp.alloc_next, Hp.set_next] <;> omega) | (simp (disch := (first | omega | (simp only [Hp.alloc_next, Hp.set_next] <;> omega) | fail)) only [Hp.get_set_self, Hp.get_set_ne, Hp.get_alloc_self, Hp.get_alloc_ne, Hp.get_alloc_at, Hp.get_set_at, Hp.set_next, Hp.alloc_next, e1]; done) | fail)) only [Hp.st, Hp.ld, Hp.lda, splice, ble_eq', if_true, if_false, ite_true, ite_false, cond_true, cond_false, decide_true, decide_false, List.length_cons, List.length_nil, List.take_zero, List.take_succ_cons, List.nil_append, List.cons_append, List.append_nil, List.drop_succ_cons, List.drop_zero, List.drop_nil, List.getElem?_cons_succ, List.getElem?_cons_zero, Nat.reduceAdd, Nat.reduceLeDiff, Nat.reduceEqDiff, Nat.zero_add, Nat.add_zero, Nat.le_refl, Nat.zero_le, Nat.succ_ne_self, Nat.mul_one, Int.toNat_natCast, Option.some.injEq, Option.isNone_some, Option.isNone_none, V.int.injEq, V.str.injEq, V.bool.injEq, V.ptr.injEq, V.slc.injEq, V.map.injEq, V.agg.injEq, V.tup.injEq, List.cons.injEq, Prod.mk.injEq, onS, true_and, and_true, and_assoc, exists_and_left, exists_eq_left', forall_eq, heq_eq_eq, reduceCtorEq, Bool.not_true, Bool.not_false, eq_self, not_false_eq_true, Nat.left_eq_add, Nat.add_eq_left, Nat.add_left_cancel_iff, Nat.add_right_cancel_iff, Nat.reduceEqDiff, Nat.one_ne_zero, Hp.get_set_self, Hp.get_set_ne, Hp.get_alloc_self, Hp.get_alloc_ne, Hp.get_alloc_at, Hp.get_set_at, Hp.set_next, Hp.alloc_next, Option.some_ne_none, V.tup.injEq, Option.isSome_some, Option.isSome_none, exists_eq_left, exists_eq, Nat.mul_zero, e1], rd, by simp (disch := (first | omega | (simp only [Hp.alloc_next, Hp.set_next] <;> omega) | (simp (disch := (first | omega | (simp only [Hp.alloc_next, Hp.set_next] <;> omega) | fail)) only [Hp.get_set_self, Hp.get_set_ne, Hp.get_alloc_self, Hp.get_alloc_ne, Hp.get_alloc_at, Hp.get_set_at, Hp.set_next, Hp.alloc_next, e1]; done) | fail)) only [Hp.st, Hp.ld, Hp.lda, splice, ble_eq', if_true, if_false, ite_true, ite_false, cond_true, cond_false, decide_true, decide_false, List.length_cons, List.length_nil, List.take_zero, List.take_succ_cons, List.nil_append, List.cons_append, List.append_nil, List.drop_succ_cons, List.drop_zero, List.drop_nil, List.getElem?_cons_succ, List.getElem?_cons_zero, Nat.reduceAdd, Nat.reduceLeDiff, Nat.reduceEqDiff, Nat.zero_add, Nat.add_zero, Nat.le_refl, Nat.zero_le, Nat.succ_ne_self, Nat.mul_one, Int.toNat_natCast, Option.some.injEq, Option.isNone_some, Option.isNone_none, V.int.injEq, V.str.injEq, V.bool.injEq, V.ptr.injEq, V.slc.injEq, V.map.injEq, V.agg.injEq, V.tup.injEq, List.cons.injEq, Prod.mk.injEq, onS, true_and, and_true, and_assoc, exists_and_left, exists_eq_left', forall_eq, heq_eq_eq, reduceCtorEq, Bool.not_true, Bool.not_false, eq_self, not_false_eq_true, Nat.left_eq_add, Nat.add_eq_left, Nat.add_left_cancel_iff, Nat.add_right_cancel_iff, Nat.reduceEqDiff, Nat.one_ne_zero, Hp.get_set_self, Hp.get_set_ne, Hp.get_alloc_self, Hp.get_alloc_ne, Hp.get_alloc_at, Hp.get_set_at, Hp.set_next, Hp.alloc_next, Option.some_ne_none, V.tup.injEq, Option.isSome_some, Option.isSome_none, exists_eq_left, exists_eq, Nat.mul_zero, e1], ?_⟩
  rw [wr (by omega) (by omega)]
  exact ⟨rfl, rfl⟩

theorem rread_ex (hw : h.wf) (i : RefI r nx rd F n E h FB) (k : Int) : XCalls Try.prog 35 [.ptr (some (r, 0)), .int .i64 k] h fun v h' => ∃ k' : Nat, (k' : Int) = min (max k 0) rd.length ∧ v = .str (rd.take k') ∧ RefI r nx (rd.drop k') F n E h' FB ∧ Upd h h' FB FB ∧ h'.wf := by
  obtain ⟨a, f, G, e1, e2, rfl, e4⟩ := i
  refine XCalls.cps fun K hK => ?_
  apply x35; unfold X35
  obtain ⟨k', hk, hkl⟩ : ∃ k' : Nat, (bif ltI (↑rd.length) (bif ltI k 0 then 0 else k) then (↑rd.length) else bif ltI k 0 then 0 else k) = (k' : Int) ∧ k' ≤ rd.length ∧ (k' : Int) = min (max k 0) rd.length := by
    by_cases h0 : k < 0
    · have c : ltI k 0 = true := by rw [ltI_eq, decide_eq_true_eq]; exact h0
      have c2 : ltI (↑rd.length) 0 = false := by rw [ltI_eq, decide_eq_false_iff_not]; omega
      rw [c, cond_true, c2]
      exact ⟨0, rfl, by omega, by omega⟩
    · have c : ltI k 0 = false := by rw [ltI_eq, decide_eq_false_iff_not]; exact h0
      rw [c, cond_false]
      by_cases h1 : (rd.length : Int) < k
      · have c2 : ltI (↑rd.length) k = true := by rw [ltI_eq, decide_eq_true_eq]; exact h1
        rw [c2]; exact ⟨rd.length, rfl, by omega, by omega⟩
      · have c2 : ltI (↑rd.length) k = false := by rw [ltI_eq, decide_eq_false_iff_not]; exact h1
        rw [c2]; exact ⟨k.toNat, by simp only [cond_false]; omega, by omega, by omega⟩
  have tk : ((k' : Int)).toNat = k' := by omega
  refine ⟨rd, by simp (disch := (first | omega | (simp only [Hp.alloc_next, Hp.set_next] <;> omega) | (simp (disch := (first | omega | (simp only [Hp.alloc_next, Hp.set_next] <;> omega) | fail)) only [Hp.get_set_self, Hp.get_set_ne, Hp.get_alloc_self, Hp.get_alloc_ne, Hp.get_alloc_at, Hp.get_set_at, Hp.set_next, Hp.alloc_next, e1]; done) | fail)) only [Hp.st, Hp.ld, Hp.lda, splice, ble_eq', if_true, if_false, ite_true, ite_false, cond_true, cond_false, decide_true, decide_false, List.length_cons, List.length_nil, List.take_zero, List.take_succ_cons, List.nil_append, List.cons_append, List.append_nil, List.drop_succ_cons, List.drop_zero, List.drop_nil, List.getElem?_cons_succ, List.getElem?_cons_zero, Nat.reduceAdd, Nat.reduceLeDiff, Nat.reduceEqDiff, Nat.zero_add, Nat.add_zero, Nat.le_refl, Nat.zero_le, Nat.succ_ne_self, Nat.mul_one, Int.toNat_natCast, Option.some.injEq, Option.isNone_some, Option.isNone_none, V.int.injEq, V.str.injEq, V.bool.injEq, V.ptr.injEq, V.slc.injEq, V.map.injEq, V.agg.injEq, V.tup.injEq, List.cons.injEq, Prod.mk.injEq, onS, true_and, and_true, and_assoc, exists_and_left, exists_eq_left', forall_eq, heq_eq_eq, reduceCtorEq, Bool.not_true, Bool.not_false, eq_self, not_false_eq_true, Nat.left_eq_add, Nat.add_eq_left, Nat.add_left_cancel_iff, Nat.add_right_cancel_iff, Nat.reduceEqDiff, Nat.one_ne_zero, Hp.get_set_self, Hp.get_set_ne, Hp.get_alloc_self, Hp.get_alloc_ne, Hp.get_alloc_at, Hp.get_set_at, Hp.set_next, Hp.alloc_next, Option.some_ne_none, V.tup.injEq, Option.isSome_some, Option.isSome_none, exists_eq_left, exists_eq, Nat.mul_zero, e1], ?_⟩
  rw [hk]
  refine ⟨rd, by simp (disch := (first | omega | (simp only [Hp.alloc_next, Hp.set_next] <;> omega) | (simp (disch := (first | omega | (simp only [Hp.alloc_next, Hp.set_next] <;> omega) | fail)) only [Hp.get_set_self, Hp.get_set_ne, Hp.get_alloc_self, Hp.get_alloc_ne, Hp.get_alloc_at, Hp.get_set_at, Hp.set_next, Hp.alloc_next, e1]; done) | fail)) only [Hp.st, Hp.ld, Hp.lda, splice, ble_eq', if_true, if_false, ite_true, ite_false, cond_true, cond_false, decide_true, decide_false, List.length_cons, List.length_nil, List.take_zero, List.take_succ_cons, List.nil_append, List.cons_append, List.append_nil, List.drop_succ_cons, List.drop_zero, List.drop_nil, List.getElem?_cons_succ, List.getElem?_cons_zero, Nat.reduceAdd, Nat.reduceLeDiff, Nat.reduceEqDiff, Nat.zero_add, Nat.add_zero, Nat.le_refl, Nat.zero_le, Nat.succ_ne_self, Nat.mul_one, Int.toNat_natCast, Option.some.injEq, Option.isNone_some, Option.isNone_none, V.int.injEq, V.str.injEq, V.bool.injEq, V.ptr.injEq, V.slc.injEq, V.map.injEq, V.agg.injEq, V.tup.injEq, List.cons.injEq, Prod.mk.injEq, onS, true_and, and_true, and_assoc, exists_and_left, exists_eq_left', forall_eq, heq_eq_eq, reduceCtorEq, Bool.not_true, Bool.not_false, eq_self, not_false_eq_true, Nat.left_eq_add, Nat.add_eq_left, Nat.add_left_cancel_iff, Nat.add_right_cancel_iff, Nat.reduceEqDiff, Nat.one_ne_zero, Hp.get_set_self, Hp.get_set_ne, Hp.get_alloc_self, Hp.get_alloc_ne, Hp.get_alloc_at, Hp.get_set_at, Hp.set_next, Hp.alloc_next, Option.some_ne_none, V.tup.injEq, Option.isSome_some, Option.isSome_none, exists_eq_left, exists_eq, Nat.mul_zero, e1], by omega, by omega, rd, by simp (disch := (first | omega | (simp only [Hp.alloc_next, Hp.set_next] <;> omega) | (simp (disch := (first | omega | (simp only [Hp.alloc_next, Hp.set_next] <;> omega) | fail)) only [Hp.get_set_self, Hp.get_set_ne, Hp.get_alloc_self, Hp.get_alloc_ne, Hp.get_alloc_at, Hp.get_set_at, Hp.set_next, Hp.alloc_next, e1]; done) | fail)) only [Hp.st, Hp.ld, Hp.lda, splice, ble_eq', if_true, if_false, ite_true, ite_false, cond_true, cond_false, decide_true, decide_false, List.length_cons, List.length_nil, List.take_zero, List.take_succ_cons, List.nil_append, List.cons_append, List.append_nil, List.drop_succ_cons, List.drop_zero, List.drop_nil, List.getElem?_cons_succ, List.getElem?_cons_zero, Nat.reduceAdd, Nat.reduceLeDiff, Nat.reduceEqDiff, Nat.zero_add, Nat.add_zero, Nat.le_refl, Nat.zero_le, Nat.succ_ne_self, Nat.mul_one, Int.toNat_natCast, Option.some.injEq, Option.isNone_some, Option.isNone_none, V.int.injEq, V.str.injEq, V.bool.injEq, V.ptr.injEq, V.slc.injEq, V.map.injEq, V.agg.injEq, V.tup.injEq, List.cons.injEq, Prod.mk.injEq, onS, true_and, and_true, and_assoc, exists_and_left, exists_eq_left', forall_eq, heq_eq_eq, reduceCtorEq, Bool.not_true, Bool.not_false, eq_self, not_false_eq_true, Nat.left_eq_add, Nat.add_eq_left, Nat.add_left_cancel_iff, Nat.add_right_cancel_iff, Nat.reduceEqDiff, Nat.one_ne_zero, Hp.get_set_self, Hp.get_set_ne, Hp.get_alloc_self, Hp.get_alloc_ne, Hp.get_alloc_at, Hp.get_set_at, Hp.set_next, Hp.alloc_next, Option.some_ne_none, V.tup.injEq, Option.isSome_some, Option.isSome_none, exists_eq_left, exists_eq, Nat.mul_zero, e1], by omega, by omega, _, Hp.st_of e1 (Nat.le_of_ble_eq_true rfl), ?_⟩
  rw [tk]
  have e5 : List.take (rd.length - k') (List.drop k' rd) = rd.drop k' := List.take_of_length_le (by rw [List.length_drop]; omega)
  rw [e5, Nat.sub_zero, List.drop_zero]
  refine hK _ _ ⟨k', hkl.2, rfl, ⟨a, f, G, by rw [Hp.get_set_self]; rfl, (Own.rep _ _ _ _).loc _ _ _ (fun j hj => Hp.get_set_ne fun e => e4 (e ▸ hj)) e2, rfl, e4⟩, ⟨fun j hj hF => ?_, fun j hj => .inl hj, by simp⟩, hw.set (hw.lt e1)⟩
  simp only [List.mem_cons, not_or] at hF
  rw [Hp.get_set_ne hF.1]

theorem RefI.far (i : RefI r nx rd F n E h FB) : ∃ a f, h.ld r 2 = some (.slc a n f) ∧ ∀ k, k < n → ∃ q o, a = some (q, o) ∧ h.ld q (o + k * 1) = some (.int .i64 (F k)) := by
  obtain ⟨a, f, G, e1, e2, rfl, e4⟩ := i
  refine ⟨a, f, by simp (disch := (first | omega | (simp only [Hp.alloc_next, Hp.set_next] <;> omega) | (simp (disch := (first | omega | (simp only [Hp.alloc_next, Hp.set_next] <;> omega) | fail)) only [Hp.get_set_self, Hp.get_set_ne, Hp.get_alloc_self, Hp.get_alloc_ne, Hp.get_alloc_at, Hp.get_set_at, Hp.set_next, Hp.alloc_next, e1]; done) | fail)) only [Hp.st, Hp.ld, Hp.lda, splice, ble_eq', if_true, if_false, ite_true, ite_false, cond_true, cond_false, decide_true, decide_false, List.length_cons, List.length_nil, List.take_zero, List.take_succ_cons, List.nil_append, List.cons_append, List.append_nil, List.drop_succ_cons, List.drop_zero, List.drop_nil, List.getElem?_cons_succ, List.getElem?_cons_zero, Nat.reduceAdd, Nat.reduceLeDiff, Nat.reduceEqDiff, Nat.zero_add, Nat.add_zero, Nat.le_refl, Nat.zero_le, Nat.succ_ne_self, Nat.mul_one, Int.toNat_natCast, Option.some.injEq, Option.isNone_some, Option.isNone_none, V.int.injEq, V.str.injEq, V.bool.injEq, V.ptr.injEq, V.slc.injEq, V.map.injEq, V.agg.injEq, V.tup.injEq, List.cons.injEq, Prod.mk.injEq, onS, true_and, and_true, and_assoc, exists_and_left, exists_eq_left', forall_eq, heq_eq_eq, reduceCtorEq, Bool.not_true, Bool.not_false, eq_self, not_false_eq_true, Nat.left_eq_add, Nat.add_eq_left, Nat.add_left_cancel_iff, Nat.add_right_cancel_iff, Nat.reduceEqDiff, Nat.one_ne_zero, Hp.get_set_self, Hp.get_set_ne, Hp.get_alloc_self, Hp.get_alloc_ne, Hp.get_alloc_at, Hp.get_set_at, Hp.set_next, Hp.alloc_next, Option.some_ne_none, V.tup.injEq, Option.isSome_some, Option.isSome_none, exists_eq_left, exists_eq, Nat.mul_zero, e1], fun k hk => ?_⟩
  obtain ⟨q, o, row, rfl, hrow, _, hld, _⟩ := e2.ld hk
  rw [fRows_get hk] at hrow
  obtain rfl := (Option.some.inj hrow).symm
  exact ⟨q, o, rfl, hld 0 (by omega)⟩

theorem rrows_ex (i : RefI r nx rd F n E h FB) (hn : n ≤ 400) : XCalls Try.prog 46 [.ptr (some (r, 0))] h fun v h' => v = .int .i64 (rn F n) ∧ h' = h := by
  obtain ⟨a, f, l2, hld⟩ := i.far
  refine XCalls.cps fun K hK => ?_
  apply x46; unfold X46
  refine ⟨fun vs h' => match vs with
    | [.int _ c, .int _ k] => ∃ k' : Nat, k = k' ∧ k' ≤ n ∧ c = rn F k' ∧ h' = h
    | _ => False, fun vs _ => match vs with
    | [_, .int _ k] => n - k.toNat
    | _ => 0, ⟨rfl, 0, rfl, Nat.zero_le _, rfl, rfl⟩, ?_⟩
  rintro bs c k h1 ⟨k, rfl, hk, rfl, rfl⟩
  have hr := rn_le F k
  refine ⟨a, n, f, l2, ?_⟩
  cases hi : ltI (↑k) (↑n) with
  | false =>
    rw [ltI_eq, decide_eq_false_iff_not] at hi
    obtain rfl : k = n := by omega
    exact hK _ _ ⟨rfl, rfl⟩
  | true =>
  rw [ltI_eq, decide_eq_true_eq] at hi
  have hk' : k < n := by omega
  have hwk : IntKind.i64.wrap ((k : Int) + 1) = ((k + 1 : Nat) : Int) := by rw [wr (by omega) (by omega)]; rfl
  have hwc : IntKind.i64.wrap ((rn F k : Int) + 1) = ((rn F k + 1 : Nat) : Int) := by rw [wr (by omega) (by omega)]; rfl
  have tk : ((k : Int)).toNat = k := by omega
  have es : rn F (k + 1) = rn F k + if 0 < k ∧ 0 ≤ F k ∧ F (k - 1) < 0 then 1 else 0 := rfl
  rw [hwk, hwc]
  have no : ¬(0 < k ∧ 0 ≤ F k ∧ F (k - 1) < 0) → ∃ k'' : Nat, (((k + 1 : Nat) : Int) = k'') ∧ k'' ≤ n ∧ (rn F k : Int) = rn F k'' ∧ h1 = h1 := fun hno => ⟨k + 1, rfl, hk', by rw [es, if_neg hno]; rfl, rfl⟩
  have ms : n - (((k + 1 : Nat) : Int)).toNat < n - ((k : Int)).toNat := by omega
  obtain ⟨q, o, hq, l⟩ := hld k hk'
  subst hq
  cases hz : ltI 0 (↑k) with
  | false =>
    rw [ltI_eq, decide_eq_false_iff_not] at hz
    exact ⟨rfl, no (by omega), ms⟩
  | true =>
    rw [ltI_eq, decide_eq_true_eq] at hz
    refine ⟨_, n, f, l2, ⟨by omega, by omega⟩, F k, by rw [tk]; exact l, ?_⟩
    cases c1 : ltI (F k) 0 with
    | true => rw [ltI_eq, decide_eq_true_eq] at c1; exact ⟨rfl, no (by omega), ms⟩
    | false =>
      rw [ltI_eq, decide_eq_false_iff_not] at c1
      have hw1 : IntKind.i64.wrap ((k : Int) - 1) = ((k - 1 : Nat) : Int) := by rw [wr (by omega) (by omega)]; omega
      rw [hw1]
      obtain ⟨q2, o2, hq2, lp⟩ := hld (k - 1) (by omega)
      cases hq2
      have tk1 : (((k - 1 : Nat) : Int)).toNat = k - 1 := by omega
      refine ⟨_, n, f, l2, ⟨by omega, by omega⟩, F (k - 1), by rw [tk1]; exact lp, ?_⟩
      cases c2 : ltI (F (k - 1)) 0 with
      | true =>
        rw [ltI_eq, decide_eq_true_eq] at c2
        exact ⟨rfl, ⟨k + 1, rfl, hk', by rw [es, if_pos ⟨by omega, by omega, c2⟩], rfl⟩, ms⟩
      | false => rw [ltI_eq, decide_eq_false_iff_not] at c2; exact ⟨rfl, no (by omega), ms⟩

theorem rfin_ex (hw : h.wf) (i : RefI r nx rd F n E h FB) (hb : rd.length ≤ n ∧ n ≤ 400) (hnx : 0 ≤ nx ∧ nx < 4294967296) {at' : Int} (ha : 0 ≤ at' ∧ at' < 4294967296) :
    XCalls Try.prog 36 [.ptr (some (r, 0)), .int .u32 at'] h fun v h' => v = .bool (finE n (n - rd.length) F E (farOf at' nx) == 0) ∧ RefI r nx rd F n (finE n (n - rd.length) F E (farOf at' nx)) h' FB ∧ Upd h h' FB FB ∧ h'.wf := by
  refine XCalls.cps fun K hK => ?_
  have keep : ¬(E < 0 ∧ 0 ≤ farOf at' nx ∧ farOf at' nx ≤ (n : Int) - rd.length ∧ lst F n < farOf at' nx) → K (.bool (E == 0)) h := fun hno => hK _ _ (by
    rw [finE, if_neg hno]; exact ⟨rfl, i, Upd.refl _ _, hw⟩)
  obtain ⟨hf0, hf1, hf2, hf3⟩ := far_spec ha hnx
  have hfo : IntKind.i64.wrap (IntKind.i32.wrap (IntKind.u32.wrap (at' - nx))) = farOf at' nx := rfl
  have i0 := i
  obtain ⟨a, f, l2, hld⟩ := i.far
  apply x36; unfold X36
  refine ⟨nx, i.nx0, E, i.e3, ?_⟩
  rw [hfo]
  cases c0 : ltI E 0 with
  | false => rw [ltI_eq, decide_eq_false_iff_not] at c0; exact ⟨E, i.e3, keep (by omega)⟩
  | true =>
  rw [ltI_eq, decide_eq_true_eq] at c0
  cases c1 : ltI (farOf at' nx) 0 with
  | true => rw [ltI_eq, decide_eq_true_eq] at c1; exact ⟨E, i.e3, keep (by omega)⟩
  | false =>
  rw [ltI_eq, decide_eq_false_iff_not] at c1
  refine (rwindow_ex i hb).mono ?_
  rintro _ h1 ⟨rfl, rfl⟩
  refine ⟨_, rfl, ?_⟩
  cases c2 : ltI ((n : Int) - rd.length) (farOf at' nx) with
  | true => rw [ltI_eq, decide_eq_true_eq] at c2; exact ⟨E, i.e3, keep (by omega)⟩
  | false =>
  rw [ltI_eq, decide_eq_false_iff_not] at c2
  refine ⟨fun vs h' => match vs with
    | [.int _ c, .int _ k] => ∃ k' : Nat, k = k' ∧ k' ≤ n ∧ c = lst F k' ∧ h' = h1
    | _ => False, fun vs _ => match vs with
    | [_, .int _ k] => n - k.toNat
    | _ => 0, ⟨by trivial, 0, rfl, Nat.zero_le _, rfl, rfl⟩, ?_⟩
  rintro bs c k h2 ⟨k, rfl, hk, rfl, rfl⟩
  refine ⟨a, n, f, l2, ?_⟩
  cases hi : ltI (↑k) (↑n) with
  | false =>
    rw [ltI_eq, decide_eq_false_iff_not] at hi
    obtain rfl : k = n := by omega
    cases c3 : ltI (lst F k) (farOf at' nx) with
    | false => rw [ltI_eq, decide_eq_false_iff_not] at c3; exact ⟨E, i.e3, keep (by omega)⟩
    | true =>
      rw [ltI_eq, decide_eq_true_eq] at c3
      obtain ⟨a', f', G, e1, e2, e3, e4⟩ := i0
      have g1 : (h2.set r (.row (splice [.int .u32 nx, .str rd, .slc a' k f', .int .i64 E, .int .i64 k] 3 [.int .i64 (farOf at' nx)]) 1 false)).get r = some (.row [.int .u32 nx, .str rd, .slc a' k f', .int .i64 (farOf at' nx), .int .i64 k] 1 false) := by rw [Hp.get_set_self]; rfl
      refine ⟨_, Hp.st_of e1 (Nat.le_of_ble_eq_true rfl), farOf at' nx, by simp (disch := (first | omega | (simp only [Hp.alloc_next, Hp.set_next] <;> omega) | (simp (disch := (first | omega | (simp only [Hp.alloc_next, Hp.set_next] <;> omega) | fail)) only [Hp.get_set_self, Hp.get_set_ne, Hp.get_alloc_self, Hp.get_alloc_ne, Hp.get_alloc_at, Hp.get_set_at, Hp.set_next, Hp.alloc_next, g1]; done) | fail)) only [Hp.st, Hp.ld, Hp.lda, splice, ble_eq', if_true, if_false, ite_true, ite_false, cond_true, cond_false, decide_true, decide_false, List.length_cons, List.length_nil, List.take_zero, List.take_succ_cons, List.nil_append, List.cons_append, List.append_nil, List.drop_succ_cons, List.drop_zero, List.drop_nil, List.getElem?_cons_succ, List.getElem?_cons_zero, Nat.reduceAdd, Nat.reduceLeDiff, Nat.reduceEqDiff, Nat.zero_add, Nat.add_zero, Nat.le_refl, Nat.zero_le, Nat.succ_ne_self, Nat.mul_one, Int.toNat_natCast, Option.some.injEq, Option.isNone_some, Option.isNone_none, V.int.injEq, V.str.injEq, V.bool.injEq, V.ptr.injEq, V.slc.injEq, V.map.injEq, V.agg.injEq, V.tup.injEq, List.cons.injEq, Prod.mk.injEq, onS, true_and, and_true, and_assoc, exists_and_left, exists_eq_left', forall_eq, heq_eq_eq, reduceCtorEq, Bool.not_true, Bool.not_false, eq_self, not_false_eq_true, Nat.left_eq_add, Nat.add_eq_left, Nat.add_left_cancel_iff, Nat.add_right_cancel_iff, Nat.reduceEqDiff, Nat.one_ne_zero, Hp.get_set_self, Hp.get_set_ne, Hp.get_alloc_self, Hp.get_alloc_ne, Hp.get_alloc_at, Hp.get_set_at, Hp.set_next, Hp.alloc_next, Option.some_ne_none, V.tup.injEq, Option.isSome_some, Option.isSome_none, exists_eq_left, exists_eq, Nat.mul_zero, g1], ?_⟩
      refine hK _ _ ?_
      rw [finE, if_pos ⟨c0, by omega, by omega, c3⟩]
      refine ⟨rfl, ⟨a', f', G, g1, (Own.rep _ _ _ _).loc _ _ _ (fun x hx => Hp.get_set_ne fun e => e4 (e ▸ hx)) e2, e3, e4⟩, ⟨fun x hx hxF => ?_, fun x hx => .inl hx, by simp⟩, hw.set (hw.lt e1)⟩
      rw [Hp.get_set_ne]; rintro rfl; exact hxF (by rw [e3]; simp)
  | true =>
    rw [ltI_eq, decide_eq_true_eq] at hi
    have hk' : k < n := by omega
    have hwk : IntKind.i64.wrap ((k : Int) + 1) = ((k + 1 : Nat) : Int) := by rw [wr (by omega) (by omega)]; rfl
    have tk : ((k : Int)).toNat = k := by omega
    obtain ⟨q, o, hq, l⟩ := hld k hk'
    subst hq
    have es : lst F (k + 1) = if 0 ≤ F k then (k : Int) else lst F k := rfl
    rw [hwk]
    refine ⟨_, n, f, l2, ⟨by omega, by omega⟩, F k, by rw [tk]; exact l, ?_⟩
    cases c3 : ltI (F k) 0 with
    | true =>
      rw [ltI_eq, decide_eq_true_eq] at c3
      exact ⟨by trivial, ⟨k + 1, rfl, hk', by rw [es, if_neg (by omega)], rfl⟩, by simp only [Int.toNat_natCast]; omega⟩
    | false =>
      rw [ltI_eq, decide_eq_false_iff_not] at c3
      exact ⟨by trivial, ⟨k + 1, rfl, hk', by rw [es, if_pos (by omega)], rfl⟩, by simp only [Int.toNat_natCast]; omega⟩
end

end Go.Vex.In
