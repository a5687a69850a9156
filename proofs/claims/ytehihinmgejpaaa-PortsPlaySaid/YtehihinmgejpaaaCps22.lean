/-
  Contracts of the reference of ports, second part: Bind, Lend, Who.
-/
import Derived.Test.YtehihinmgejpaaaVexEE
import Derived.Test.YtehihinmgejpaaaTab22
import Derived.Test.YtehihinmgejpaaaXp22
import Derived.Test.YtehihinmgejpaaaXpq22
import Derived.Test.YtehihinmgejpaaaCpa22
import Derived.Test.YtehihinmgejpaaaCpb22
import Derived.Test.YtehihinmgejpaaaCpc22
import Derived.Test.YtehihinmgejpaaaCpd22
import Derived.Test.YtehihinmgejpaaaXs22
import Derived.Test.YtehihinmgejpaaaCsa22
import Derived.Test.YtehihinmgejpaaaCsb22
import Derived.Test.YtehihinmgejpaaaCsc22
import Derived.Test.YtehihinmgejpaaaCsd22
import Derived.Test.YtehihinmgejpaaaCpe22
import Derived.Test.YtehihinmgejpaaaCpr22
set_option linter.unusedVariables false
set_option linter.unusedSimpArgs false
namespace Go.Vex.Ports
open Go.Proofs

theorem mget_no {R : List (Int × Bd)} {s : Int} (h : ∀ x ∈ R, x.1 ≠ s) : mget R s = none := by
  unfold mget
  rw [Option.map_eq_none_iff, List.find?_eq_none]
  intro x hx e
  have e := of_decide_eq_true e
  exact h x hx e.symm

theorem mget_yes {R : List (Int × Bd)} {s : Int} {b : Bd} {k : Nat} (h : R[k]? = some (s, b)) : (mget R s).isSome = true := by
  unfold mget
  rw [Option.isSome_map, List.find?_isSome]
  exact ⟨(s, b), List.mem_of_getElem? h, by simp⟩

theorem kind_or (k : Int) : (k == 1 || k == 2) = false ↔ (k ≠ 1 ∧ k ≠ 2) := by simp

theorem bind_may {R : List (Int × Bd)} {s : Int} {b : Bd} {c : Int} (h : mayCode R s b true = c) (hc : c ≠ 0) : bindCode R s b = c := by
  unfold bindCode; rw [h, if_pos hc]

theorem rbind_spec {h : Hp} {p : Nat} {R : List (Int × Bd)} {F : List Nat} {s : Int} {b : Bd} (hw : h.wf) (r : RefP p R h F) (hn : R.length ≤ 1024) :
    XCalls Try.prog 20 [.ptr (some (p, 0)), .int .u64 s, bV b] h fun v h' => v = .int .i64 (bindCode R s b) ∧ ∃ F', RefP p (if bindCode R s b = 0 then insK R s b else R) h' F' ∧ Upd h h' F F' ∧ h'.wf := by
  refine XCalls.cps fun K hK => ?_
  have stay : ∀ (c : Int) (g : Hp), Quiet h g → bindCode R s b = c → c ≠ 0 → K (.int .i64 c) g := fun c g q e hc => hK _ _ ⟨by rw [e], F, by rw [if_neg (by rw [e]; exact hc)]; exact r.quiet hw q, q.upd _, q.wf⟩
  apply x20; unfold X20
  rintro g1 rfl
  have q1 := Quiet.alloc hw (.row [.int .u8 b.kind, .int .u32 b.ip, .int .u16 b.port, .bool b.share] 1 false)
  have c1 : (h.alloc (.row [.int .u8 b.kind, .int .u32 b.ip, .int .u16 b.port, .bool b.share] 1 false)).get h.next = some (.row [.int .u8 b.kind, .int .u32 b.ip, .int .u16 b.port, .bool b.share] 1 false) := Hp.get_alloc_self
  generalize h.alloc (.row [.int .u8 b.kind, .int .u32 b.ip, .int .u16 b.port, .bool b.share] 1 false) = g1 at *
  have n1 := q1.wf.lt c1
  have r1 := r.quiet hw q1
  refine ⟨b.kind, by simp (disch := (first | omega | (simp only [Hp.alloc_next, Hp.set_next] <;> omega) | (simp (disch := (first | omega | (simp only [Hp.alloc_next, Hp.set_next] <;> omega) | fail)) only [Hp.get_set_self, Hp.get_set_ne, Hp.get_alloc_self, Hp.get_alloc_ne, Hp.get_alloc_at, Hp.get_set_at, Hp.set_next, Hp.alloc_next, c1]; done) | fail)) only [Hp.st, Hp.ld, Hp.lda, splice, ble_eq', if_true, if_false, ite_true, ite_false, cond_true, cond_false, decide_true, decide_false, List.length_cons, List.length_nil, List.take_zero, List.take_succ_cons, List.nil_append, List.cons_append, List.append_nil, List.drop_succ_cons, List.drop_zero, List.drop_nil, List.getElem?_cons_succ, List.getElem?_cons_zero, Nat.reduceAdd, Nat.reduceLeDiff, Nat.reduceEqDiff, Nat.zero_add, Nat.add_zero, Nat.le_refl, Nat.zero_le, Nat.succ_ne_self, Nat.mul_one, Int.toNat_natCast, Option.some.injEq, Option.isNone_some, Option.isNone_none, V.int.injEq, V.str.injEq, V.bool.injEq, V.ptr.injEq, V.slc.injEq, V.map.injEq, V.agg.injEq, V.tup.injEq, List.cons.injEq, Prod.mk.injEq, onS, true_and, and_true, and_assoc, exists_and_left, exists_eq_left', forall_eq, heq_eq_eq, reduceCtorEq, Bool.not_true, Bool.not_false, eq_self, not_false_eq_true, Nat.left_eq_add, Nat.add_eq_left, Nat.add_left_cancel_iff, Nat.add_right_cancel_iff, Nat.reduceEqDiff, Nat.one_ne_zero, Hp.get_set_self, Hp.get_set_ne, Hp.get_alloc_self, Hp.get_alloc_ne, Hp.get_alloc_at, Hp.get_set_at, Hp.set_next, Hp.alloc_next, Option.some_ne_none, V.tup.injEq, Option.isSome_some, Option.isSome_none, exists_eq_left, exists_eq, Nat.mul_zero, c1], ?_⟩
  refine kind_spec.mono ?_
  rintro _ g2 ⟨rfl, rfl⟩
  refine ⟨_, rfl, ?_⟩
  cases ck : (b.kind == 1 || b.kind == 2) with
  | false =>
    rw [kind_or] at ck
    exact stay 2 _ q1 (bind_may (by unfold mayCode; rw [if_pos (Or.inl ck)]) (by decide)) (by decide)
  | true =>
  have hk : ¬ (b.kind ≠ 1 ∧ b.kind ≠ 2) := by rw [← kind_or, ck]; simp
  refine ⟨b.port, by simp (disch := (first | omega | (simp only [Hp.alloc_next, Hp.set_next] <;> omega) | (simp (disch := (first | omega | (simp only [Hp.alloc_next, Hp.set_next] <;> omega) | fail)) only [Hp.get_set_self, Hp.get_set_ne, Hp.get_alloc_self, Hp.get_alloc_ne, Hp.get_alloc_at, Hp.get_set_at, Hp.set_next, Hp.alloc_next, c1]; done) | fail)) only [Hp.st, Hp.ld, Hp.lda, splice, ble_eq', if_true, if_false, ite_true, ite_false, cond_true, cond_false, decide_true, decide_false, List.length_cons, List.length_nil, List.take_zero, List.take_succ_cons, List.nil_append, List.cons_append, List.append_nil, List.drop_succ_cons, List.drop_zero, List.drop_nil, List.getElem?_cons_succ, List.getElem?_cons_zero, Nat.reduceAdd, Nat.reduceLeDiff, Nat.reduceEqDiff, Nat.zero_add, Nat.add_zero, Nat.le_refl, Nat.zero_le, Nat.succ_ne_self, Nat.mul_one, Int.toNat_natCast, Option.some.injEq, Option.isNone_some, Option.isNone_none, V.int.injEq, V.str.injEq, V.bool.injEq, V.ptr.injEq, V.slc.injEq, V.map.injEq, V.agg.injEq, V.tup.injEq, List.cons.injEq, Prod.mk.injEq, onS, true_and, and_true, and_assoc, exists_and_left, exists_eq_left', forall_eq, heq_eq_eq, reduceCtorEq, Bool.not_true, Bool.not_false, eq_self, not_false_eq_true, Nat.left_eq_add, Nat.add_eq_left, Nat.add_left_cancel_iff, Nat.add_right_cancel_iff, Nat.reduceEqDiff, Nat.one_ne_zero, Hp.get_set_self, Hp.get_set_ne, Hp.get_alloc_self, Hp.get_alloc_ne, Hp.get_alloc_at, Hp.get_set_at, Hp.set_next, Hp.alloc_next, Option.some_ne_none, V.tup.injEq, Option.isSome_some, Option.isSome_none, exists_eq_left, exists_eq, Nat.mul_zero, c1], ?_⟩
  by_cases hp0 : b.port = 0
  · have c : (b.port == 0) = true := by simp [hp0]
    rw [c]
    exact stay 2 _ q1 (bind_may (by unfold mayCode; rw [if_pos (Or.inr ⟨rfl, hp0⟩)]) (by decide)) (by decide)
  have c : (b.port == 0) = false := by simp [hp0]
  rw [c]
  have hnk : ¬ ((b.kind ≠ 1 ∧ b.kind ≠ 2) ∨ (true = true ∧ b.port = 0)) := by rintro (h | h); exact hk h; exact hp0 h.2
  refine (rat_spec r1 hn).mono ?_
  rintro _ g2 ⟨i, rfl, rfl, hc⟩
  refine ⟨_, rfl, ?_⟩
  rcases hc with ⟨rfl, hno⟩ | ⟨k, b', rfl, hkk⟩
  rotate_left
  · have c : ltI (↑k) 0 = false := by rw [ltI_eq, decide_eq_false_iff_not]; omega
    rw [c]
    exact stay 7 _ q1 (bind_may (by unfold mayCode; rw [if_neg hnk, if_pos (mget_yes hkk)]) (by decide)) (by decide)
  have hmg := mget_no hno
  obtain ⟨a, f, hg, hel⟩ := r1.hd
  refine ⟨a, R.length, f, by simp (disch := (first | omega | (simp only [Hp.alloc_next, Hp.set_next] <;> omega) | (simp (disch := (first | omega | (simp only [Hp.alloc_next, Hp.set_next] <;> omega) | fail)) only [Hp.get_set_self, Hp.get_set_ne, Hp.get_alloc_self, Hp.get_alloc_ne, Hp.get_alloc_at, Hp.get_set_at, Hp.set_next, Hp.alloc_next, hg]; done) | fail)) only [Hp.st, Hp.ld, Hp.lda, splice, ble_eq', if_true, if_false, ite_true, ite_false, cond_true, cond_false, decide_true, decide_false, List.length_cons, List.length_nil, List.take_zero, List.take_succ_cons, List.nil_append, List.cons_append, List.append_nil, List.drop_succ_cons, List.drop_zero, List.drop_nil, List.getElem?_cons_succ, List.getElem?_cons_zero, Nat.reduceAdd, Nat.reduceLeDiff, Nat.reduceEqDiff, Nat.zero_add, Nat.add_zero, Nat.le_refl, Nat.zero_le, Nat.succ_ne_self, Nat.mul_one, Int.toNat_natCast, Option.some.injEq, Option.isNone_some, Option.isNone_none, V.int.injEq, V.str.injEq, V.bool.injEq, V.ptr.injEq, V.slc.injEq, V.map.injEq, V.agg.injEq, V.tup.injEq, List.cons.injEq, Prod.mk.injEq, onS, true_and, and_true, and_assoc, exists_and_left, exists_eq_left', forall_eq, heq_eq_eq, reduceCtorEq, Bool.not_true, Bool.not_false, eq_self, not_false_eq_true, Nat.left_eq_add, Nat.add_eq_left, Nat.add_left_cancel_iff, Nat.add_right_cancel_iff, Nat.reduceEqDiff, Nat.one_ne_zero, Hp.get_set_self, Hp.get_set_ne, Hp.get_alloc_self, Hp.get_alloc_ne, Hp.get_alloc_at, Hp.get_set_at, Hp.set_next, Hp.alloc_next, Option.some_ne_none, V.tup.injEq, Option.isSome_some, Option.isSome_none, exists_eq_left, exists_eq, Nat.mul_zero, hg], ?_⟩
  cases hl : ltI (↑R.length) 1024 with
  | false =>
    rw [ltI_eq, decide_eq_false_iff_not] at hl
    exact stay 6 _ q1 (bind_may (by unfold mayCode; rw [if_neg hnk, if_neg (by simp [hmg]), if_pos (by omega)]) (by decide)) (by decide)
  | true =>
  rw [ltI_eq, decide_eq_true_eq] at hl
  have hmay : mayCode R s b true = 0 := by unfold mayCode; rw [if_neg hnk, if_neg (by simp [hmg]), if_neg (by omega)]
  refine ⟨fun vs g => match vs with
    | [.int _ i] => Quiet g2 g ∧ ∃ k : Nat, i = k ∧ k ≤ R.length ∧ ∀ j x, j < k → R[j]? = some x → clashB b x.2 = false
    | _ => False, fun vs _ => match vs with
    | [.int _ i] => R.length - i.toNat
    | _ => 0, ⟨rfl, Quiet.refl q1.wf, 0, rfl, by omega, fun j x hj => by omega⟩, ?_⟩
  rintro bs i g3 ⟨q3, k, rfl, hk, hall⟩
  have r3 := r1.quiet q1.wf q3
  have c3 : g3.get h.next = some (.row [.int .u8 b.kind, .int .u32 b.ip, .int .u16 b.port, .bool b.share] 1 false) := by rw [q3.same _ n1]; exact c1
  clear hel hg
  obtain ⟨a, f, hg, hel⟩ := r3.hd
  refine ⟨a, R.length, f, by simp (disch := (first | omega | (simp only [Hp.alloc_next, Hp.set_next] <;> omega) | (simp (disch := (first | omega | (simp only [Hp.alloc_next, Hp.set_next] <;> omega) | fail)) only [Hp.get_set_self, Hp.get_set_ne, Hp.get_alloc_self, Hp.get_alloc_ne, Hp.get_alloc_at, Hp.get_set_at, Hp.set_next, Hp.alloc_next, hg]; done) | fail)) only [Hp.st, Hp.ld, Hp.lda, splice, ble_eq', if_true, if_false, ite_true, ite_false, cond_true, cond_false, decide_true, decide_false, List.length_cons, List.length_nil, List.take_zero, List.take_succ_cons, List.nil_append, List.cons_append, List.append_nil, List.drop_succ_cons, List.drop_zero, List.drop_nil, List.getElem?_cons_succ, List.getElem?_cons_zero, Nat.reduceAdd, Nat.reduceLeDiff, Nat.reduceEqDiff, Nat.zero_add, Nat.add_zero, Nat.le_refl, Nat.zero_le, Nat.succ_ne_self, Nat.mul_one, Int.toNat_natCast, Option.some.injEq, Option.isNone_some, Option.isNone_none, V.int.injEq, V.str.injEq, V.bool.injEq, V.ptr.injEq, V.slc.injEq, V.map.injEq, V.agg.injEq, V.tup.injEq, List.cons.injEq, Prod.mk.injEq, onS, true_and, and_true, and_assoc, exists_and_left, exists_eq_left', forall_eq, heq_eq_eq, reduceCtorEq, Bool.not_true, Bool.not_false, eq_self, not_false_eq_true, Nat.left_eq_add, Nat.add_eq_left, Nat.add_left_cancel_iff, Nat.add_right_cancel_iff, Nat.reduceEqDiff, Nat.one_ne_zero, Hp.get_set_self, Hp.get_set_ne, Hp.get_alloc_self, Hp.get_alloc_ne, Hp.get_alloc_at, Hp.get_set_at, Hp.set_next, Hp.alloc_next, Option.some_ne_none, V.tup.injEq, Option.isSome_some, Option.isSome_none, exists_eq_left, exists_eq, Nat.mul_zero, hg], ?_⟩
  cases hi : ltI (↑k) (↑R.length) with
  | false =>
    rw [ltI_eq, decide_eq_false_iff_not] at hi
    have h0 : bindCode R s b = 0 := by
      unfold bindCode
      rw [if_neg (by omega), if_neg]
      rw [Bool.not_eq_true, List.any_eq_false]
      intro x hx
      obtain ⟨j, hj, e⟩ := List.getElem_of_mem hx
      simpa using hall j x (by omega) (by rw [List.getElem?_eq_getElem hj, e])
    refine ⟨b.kind, b.ip, b.port, b.share, by simp (disch := (first | omega | (simp only [Hp.alloc_next, Hp.set_next] <;> omega) | (simp (disch := (first | omega | (simp only [Hp.alloc_next, Hp.set_next] <;> omega) | fail)) only [Hp.get_set_self, Hp.get_set_ne, Hp.get_alloc_self, Hp.get_alloc_ne, Hp.get_alloc_at, Hp.get_set_at, Hp.set_next, Hp.alloc_next, c3]; done) | fail)) only [Hp.st, Hp.ld, Hp.lda, splice, ble_eq', if_true, if_false, ite_true, ite_false, cond_true, cond_false, decide_true, decide_false, List.length_cons, List.length_nil, List.take_zero, List.take_succ_cons, List.nil_append, List.cons_append, List.append_nil, List.drop_succ_cons, List.drop_zero, List.drop_nil, List.getElem?_cons_succ, List.getElem?_cons_zero, Nat.reduceAdd, Nat.reduceLeDiff, Nat.reduceEqDiff, Nat.zero_add, Nat.add_zero, Nat.le_refl, Nat.zero_le, Nat.succ_ne_self, Nat.mul_one, Int.toNat_natCast, Option.some.injEq, Option.isNone_some, Option.isNone_none, V.int.injEq, V.str.injEq, V.bool.injEq, V.ptr.injEq, V.slc.injEq, V.map.injEq, V.agg.injEq, V.tup.injEq, List.cons.injEq, Prod.mk.injEq, onS, true_and, and_true, and_assoc, exists_and_left, exists_eq_left', forall_eq, heq_eq_eq, reduceCtorEq, Bool.not_true, Bool.not_false, eq_self, not_false_eq_true, Nat.left_eq_add, Nat.add_eq_left, Nat.add_left_cancel_iff, Nat.add_right_cancel_iff, Nat.reduceEqDiff, Nat.one_ne_zero, Hp.get_set_self, Hp.get_set_ne, Hp.get_alloc_self, Hp.get_alloc_ne, Hp.get_alloc_at, Hp.get_set_at, Hp.set_next, Hp.alloc_next, Option.some_ne_none, V.tup.injEq, Option.isSome_some, Option.isSome_none, exists_eq_left, exists_eq, Nat.mul_zero, c3], ?_⟩
    refine (put_spec (s := s) (b := b) q3.wf r3 hn).mono ?_
    rintro _ g4 ⟨rfl, F', r4, u4, w4⟩
    exact hK _ _ ⟨by rw [h0], F', by rw [if_pos h0]; exact r4, ((q1.trans q3).upd _).trans u4, w4⟩
  | true =>
    rw [ltI_eq, decide_eq_true_eq] at hi
    have hk' : k < R.length := by omega
    obtain ⟨x, hx⟩ : ∃ x, R[k]? = some x := ⟨_, List.getElem?_eq_getElem hk'⟩
    obtain ⟨q, o, rfl, hl1, hl2⟩ := hel k x hx
    refine ⟨some (q, o), R.length, f, by simp (disch := (first | omega | (simp only [Hp.alloc_next, Hp.set_next] <;> omega) | (simp (disch := (first | omega | (simp only [Hp.alloc_next, Hp.set_next] <;> omega) | fail)) only [Hp.get_set_self, Hp.get_set_ne, Hp.get_alloc_self, Hp.get_alloc_ne, Hp.get_alloc_at, Hp.get_set_at, Hp.set_next, Hp.alloc_next, hg]; done) | fail)) only [Hp.st, Hp.ld, Hp.lda, splice, ble_eq', if_true, if_false, ite_true, ite_false, cond_true, cond_false, decide_true, decide_false, List.length_cons, List.length_nil, List.take_zero, List.take_succ_cons, List.nil_append, List.cons_append, List.append_nil, List.drop_succ_cons, List.drop_zero, List.drop_nil, List.getElem?_cons_succ, List.getElem?_cons_zero, Nat.reduceAdd, Nat.reduceLeDiff, Nat.reduceEqDiff, Nat.zero_add, Nat.add_zero, Nat.le_refl, Nat.zero_le, Nat.succ_ne_self, Nat.mul_one, Int.toNat_natCast, Option.some.injEq, Option.isNone_some, Option.isNone_none, V.int.injEq, V.str.injEq, V.bool.injEq, V.ptr.injEq, V.slc.injEq, V.map.injEq, V.agg.injEq, V.tup.injEq, List.cons.injEq, Prod.mk.injEq, onS, true_and, and_true, and_assoc, exists_and_left, exists_eq_left', forall_eq, heq_eq_eq, reduceCtorEq, Bool.not_true, Bool.not_false, eq_self, not_false_eq_true, Nat.left_eq_add, Nat.add_eq_left, Nat.add_left_cancel_iff, Nat.add_right_cancel_iff, Nat.reduceEqDiff, Nat.one_ne_zero, Hp.get_set_self, Hp.get_set_ne, Hp.get_alloc_self, Hp.get_alloc_ne, Hp.get_alloc_at, Hp.get_set_at, Hp.set_next, Hp.alloc_next, Option.some_ne_none, V.tup.injEq, Option.isSome_some, Option.isSome_none, exists_eq_left, exists_eq, Nat.mul_zero, hg], ⟨by omega, hi⟩, x.2.kind, x.2.ip, x.2.port, x.2.share, hl2, b.kind, b.ip, b.port, b.share, by simp (disch := (first | omega | (simp only [Hp.alloc_next, Hp.set_next] <;> omega) | (simp (disch := (first | omega | (simp only [Hp.alloc_next, Hp.set_next] <;> omega) | fail)) only [Hp.get_set_self, Hp.get_set_ne, Hp.get_alloc_self, Hp.get_alloc_ne, Hp.get_alloc_at, Hp.get_set_at, Hp.set_next, Hp.alloc_next, c3]; done) | fail)) only [Hp.st, Hp.ld, Hp.lda, splice, ble_eq', if_true, if_false, ite_true, ite_false, cond_true, cond_false, decide_true, decide_false, List.length_cons, List.length_nil, List.take_zero, List.take_succ_cons, List.nil_append, List.cons_append, List.append_nil, List.drop_succ_cons, List.drop_zero, List.drop_nil, List.getElem?_cons_succ, List.getElem?_cons_zero, Nat.reduceAdd, Nat.reduceLeDiff, Nat.reduceEqDiff, Nat.zero_add, Nat.add_zero, Nat.le_refl, Nat.zero_le, Nat.succ_ne_self, Nat.mul_one, Int.toNat_natCast, Option.some.injEq, Option.isNone_some, Option.isNone_none, V.int.injEq, V.str.injEq, V.bool.injEq, V.ptr.injEq, V.slc.injEq, V.map.injEq, V.agg.injEq, V.tup.injEq, List.cons.injEq, Prod.mk.injEq, onS, true_and, and_true, and_assoc, exists_and_left, exists_eq_left', forall_eq, heq_eq_eq, reduceCtorEq, Bool.not_true, Bool.not_false, eq_self, not_false_eq_true, Nat.left_eq_add, Nat.add_eq_left, Nat.add_left_cancel_iff, Nat.add_right_cancel_iff, Nat.reduceEqDiff, Nat.one_ne_zero, Hp.get_set_self, Hp.get_set_ne, Hp.get_alloc_self, Hp.get_alloc_ne, Hp.get_alloc_at, Hp.get_set_at, Hp.set_next, Hp.alloc_next, Option.some_ne_none, V.tup.injEq, Option.isSome_some, Option.isSome_none, exists_eq_left, exists_eq, Nat.mul_zero, c3], ?_⟩
    refine (together_spec (a := x.2) (b := b) q3.wf).mono ?_
    rintro _ g4 ⟨rfl, q4⟩
    refine ⟨_, rfl, ?_⟩
    cases cc : clashB b x.2 with
    | true =>
      refine stay 220 _ ((q1.trans q3).trans q4) ?_ (by decide)
      unfold bindCode
      rw [if_neg (by omega), if_pos]
      rw [List.any_eq_true]
      exact ⟨x, List.mem_of_getElem? hx, cc⟩
    | false =>
      rw [wrap_succ hk' (by omega)]
      exact ⟨rfl, ⟨q3.trans q4, k + 1, rfl, by omega, fun j y hj hy => by
        by_cases ej : j = k
        · subst ej; rw [hx] at hy; cases hy; exact cc
        · exact hall j y (by omega) hy⟩, by simp only [Int.toNat_natCast]; omega⟩

/-- what the reference's Lend does -/
def RLendR (R : List (Int × Bd)) (s : Int) (b : Bd) (draw code port : Int) (R' : List (Int × Bd)) : Prop :=
  (mayCode R s b false ≠ 0 ∧ code = mayCode R s b false ∧ port = 0 ∧ R' = R) ∨
  (mayCode R s b false = 0 ∧ (∃ i : Nat, i < 28232 ∧ (∀ j, j < i → freeB R (lendAt b draw j) = false) ∧ freeB R (lendAt b draw i) = true ∧ code = 0 ∧ port = (lendAt b draw i).port ∧ R' = insK R s (lendAt b draw i))) ∨
  (mayCode R s b false = 0 ∧ (∀ j : Nat, j < 28232 → freeB R (lendAt b draw j) = false) ∧ code = 220 ∧ port = 0 ∧ R' = R)

theorem rlend_spec {h : Hp} {p : Nat} {R : List (Int × Bd)} {F : List Nat} {s draw : Int} {b : Bd} (hw : h.wf) (r : RefP p R h F) (hn : R.length ≤ 1024) (hd : 0 ≤ draw ∧ draw < 65536) :
    XCalls Try.prog 21 [.ptr (some (p, 0)), .int .u64 s, bV b, .int .u16 draw] h fun v h' => ∃ code port R' F', v = .tup [.int .u16 port, .int .i64 code] ∧ RLendR R s b draw code port R' ∧ RefP p R' h' F' ∧ Upd h h' F F' ∧ h'.wf := by
  refine XCalls.cps fun K hK => ?_
  have stay : ∀ (c : Int) (g : Hp), Quiet h g → RLendR R s b draw c 0 R → K (.tup [.int .u16 0, .int .i64 c]) g := fun c g q e => hK _ _ ⟨c, 0, R, F, rfl, e, r.quiet hw q, q.upd _, q.wf⟩
  apply x21; unfold X21
  rintro g1 rfl
  have q1 := Quiet.alloc hw (.row [.int .u8 b.kind, .int .u32 b.ip, .int .u16 b.port, .bool b.share] 1 false)
  have c1 : (h.alloc (.row [.int .u8 b.kind, .int .u32 b.ip, .int .u16 b.port, .bool b.share] 1 false)).get h.next = some (.row [.int .u8 b.kind, .int .u32 b.ip, .int .u16 b.port, .bool b.share] 1 false) := Hp.get_alloc_self
  generalize h.alloc (.row [.int .u8 b.kind, .int .u32 b.ip, .int .u16 b.port, .bool b.share] 1 false) = g1 at *
  have n1 := q1.wf.lt c1
  have r1 := r.quiet hw q1
  refine ⟨b.kind, by simp (disch := (first | omega | (simp only [Hp.alloc_next, Hp.set_next] <;> omega) | (simp (disch := (first | omega | (simp only [Hp.alloc_next, Hp.set_next] <;> omega) | fail)) only [Hp.get_set_self, Hp.get_set_ne, Hp.get_alloc_self, Hp.get_alloc_ne, Hp.get_alloc_at, Hp.get_set_at, Hp.set_next, Hp.alloc_next, c1]; done) | fail)) only [Hp.st, Hp.ld, Hp.lda, splice, ble_eq', if_true, if_false, ite_true, ite_false, cond_true, cond_false, decide_true, decide_false, List.length_cons, List.length_nil, List.take_zero, List.take_succ_cons, List.nil_append, List.cons_append, List.append_nil, List.drop_succ_cons, List.drop_zero, List.drop_nil, List.getElem?_cons_succ, List.getElem?_cons_zero, Nat.reduceAdd, Nat.reduceLeDiff, Nat.reduceEqDiff, Nat.zero_add, Nat.add_zero, Nat.le_refl, Nat.zero_le, Nat.succ_ne_self, Nat.mul_one, Int.toNat_natCast, Option.some.injEq, Option.isNone_some, Option.isNone_none, V.int.injEq, V.str.injEq, V.bool.injEq, V.ptr.injEq, V.slc.injEq, V.map.injEq, V.agg.injEq, V.tup.injEq, List.cons.injEq, Prod.mk.injEq, onS, true_and, and_true, and_assoc, exists_and_left, exists_eq_left', forall_eq, heq_eq_eq, reduceCtorEq, Bool.not_true, Bool.not_false, eq_self, not_false_eq_true, Nat.left_eq_add, Nat.add_eq_left, Nat.add_left_cancel_iff, Nat.add_right_cancel_iff, Nat.reduceEqDiff, Nat.one_ne_zero, Hp.get_set_self, Hp.get_set_ne, Hp.get_alloc_self, Hp.get_alloc_ne, Hp.get_alloc_at, Hp.get_set_at, Hp.set_next, Hp.alloc_next, Option.some_ne_none, V.tup.injEq, Option.isSome_some, Option.isSome_none, exists_eq_left, exists_eq, Nat.mul_zero, c1], ?_⟩
  refine kind_spec.mono ?_
  rintro _ g2 ⟨rfl, rfl⟩
  refine ⟨_, rfl, ?_⟩
  have early : ∀ c, mayCode R s b false = c → c ≠ 0 → K (.tup [.int .u16 0, .int .i64 c]) g2 := fun c e hc => stay c _ q1 (.inl ⟨by rw [e]; exact hc, e.symm, rfl, rfl⟩)
  cases ck : (b.kind == 1 || b.kind == 2) with
  | false =>
    rw [kind_or] at ck
    exact early 2 (by unfold mayCode; rw [if_pos (Or.inl ck)]) (by decide)
  | true =>
  have hk : ¬ (b.kind ≠ 1 ∧ b.kind ≠ 2) := by rw [← kind_or, ck]; simp
  have hnk : ¬ ((b.kind ≠ 1 ∧ b.kind ≠ 2) ∨ (false = true ∧ b.port = 0)) := by rintro (h | h); exact hk h; exact absurd h.1 (by decide)
  refine (rat_spec r1 hn).mono ?_
  rintro _ g2 ⟨i, rfl, rfl, hc⟩
  refine ⟨_, rfl, ?_⟩
  rcases hc with ⟨rfl, hno⟩ | ⟨k, b', rfl, hkk⟩
  rotate_left
  · have c : ltI (↑k) 0 = false := by rw [ltI_eq, decide_eq_false_iff_not]; omega
    rw [c]
    exact early 7 (by unfold mayCode; rw [if_neg hnk, if_pos (mget_yes hkk)]) (by decide)
  have hmg := mget_no hno
  obtain ⟨a, f, hg, hel⟩ := r1.hd
  refine ⟨a, R.length, f, by simp (disch := (first | omega | (simp only [Hp.alloc_next, Hp.set_next] <;> omega) | (simp (disch := (first | omega | (simp only [Hp.alloc_next, Hp.set_next] <;> omega) | fail)) only [Hp.get_set_self, Hp.get_set_ne, Hp.get_alloc_self, Hp.get_alloc_ne, Hp.get_alloc_at, Hp.get_set_at, Hp.set_next, Hp.alloc_next, hg]; done) | fail)) only [Hp.st, Hp.ld, Hp.lda, splice, ble_eq', if_true, if_false, ite_true, ite_false, cond_true, cond_false, decide_true, decide_false, List.length_cons, List.length_nil, List.take_zero, List.take_succ_cons, List.nil_append, List.cons_append, List.append_nil, List.drop_succ_cons, List.drop_zero, List.drop_nil, List.getElem?_cons_succ, List.getElem?_cons_zero, Nat.reduceAdd, Nat.reduceLeDiff, Nat.reduceEqDiff, Nat.zero_add, Nat.add_zero, Nat.le_refl, Nat.zero_le, Nat.succ_ne_self, Nat.mul_one, Int.toNat_natCast, Option.some.injEq, Option.isNone_some, Option.isNone_none, V.int.injEq, V.str.injEq, V.bool.injEq, V.ptr.injEq, V.slc.injEq, V.map.injEq, V.agg.injEq, V.tup.injEq, List.cons.injEq, Prod.mk.injEq, onS, true_and, and_true, and_assoc, exists_and_left, exists_eq_left', forall_eq, heq_eq_eq, reduceCtorEq, Bool.not_true, Bool.not_false, eq_self, not_false_eq_true, Nat.left_eq_add, Nat.add_eq_left, Nat.add_left_cancel_iff, Nat.add_right_cancel_iff, Nat.reduceEqDiff, Nat.one_ne_zero, Hp.get_set_self, Hp.get_set_ne, Hp.get_alloc_self, Hp.get_alloc_ne, Hp.get_alloc_at, Hp.get_set_at, Hp.set_next, Hp.alloc_next, Option.some_ne_none, V.tup.injEq, Option.isSome_some, Option.isSome_none, exists_eq_left, exists_eq, Nat.mul_zero, hg], ?_⟩
  cases hl : ltI (↑R.length) 1024 with
  | false =>
    rw [ltI_eq, decide_eq_false_iff_not] at hl
    exact early 6 (by unfold mayCode; rw [if_neg hnk, if_neg (by simp [hmg]), if_pos (by omega)]) (by decide)
  | true =>
  rw [ltI_eq, decide_eq_true_eq] at hl
  have hmay : mayCode R s b false = 0 := by unfold mayCode; rw [if_neg hnk, if_neg (by simp [hmg]), if_neg (by omega)]
  clear hel hg
  refine ⟨fun vs g => match vs with
    | [.int _ i] => Quiet g2 g ∧ ∃ k : Nat, i = k ∧ k ≤ 28232 ∧ ∀ j, j < k → freeB R (lendAt b draw j) = false
    | _ => False, fun vs _ => match vs with
    | [.int _ i] => 28232 - i.toNat
    | _ => 0, ⟨rfl, Quiet.refl q1.wf, 0, rfl, by omega, fun j hj => by omega⟩, ?_⟩
  rintro bs i g3 ⟨q3, k, rfl, hk, hall⟩
  cases hi : ltI (↑k) 28232 with
  | false =>
    rw [ltI_eq, decide_eq_false_iff_not] at hi
    obtain rfl : k = 28232 := by omega
    exact stay 220 _ (q1.trans q3) (.inr (.inr ⟨hmay, hall, rfl, rfl, rfl⟩))
  | true =>
  rw [ltI_eq, decide_eq_true_eq] at hi
  have c3 : g3.get h.next = some (.row [.int .u8 b.kind, .int .u32 b.ip, .int .u16 b.port, .bool b.share] 1 false) := by rw [q3.same _ n1]; exact c1
  refine ⟨b.kind, b.ip, b.port, b.share, by simp (disch := (first | omega | (simp only [Hp.alloc_next, Hp.set_next] <;> omega) | (simp (disch := (first | omega | (simp only [Hp.alloc_next, Hp.set_next] <;> omega) | fail)) only [Hp.get_set_self, Hp.get_set_ne, Hp.get_alloc_self, Hp.get_alloc_ne, Hp.get_alloc_at, Hp.get_set_at, Hp.set_next, Hp.alloc_next, c3]; done) | fail)) only [Hp.st, Hp.ld, Hp.lda, splice, ble_eq', if_true, if_false, ite_true, ite_false, cond_true, cond_false, decide_true, decide_false, List.length_cons, List.length_nil, List.take_zero, List.take_succ_cons, List.nil_append, List.cons_append, List.append_nil, List.drop_succ_cons, List.drop_zero, List.drop_nil, List.getElem?_cons_succ, List.getElem?_cons_zero, Nat.reduceAdd, Nat.reduceLeDiff, Nat.reduceEqDiff, Nat.zero_add, Nat.add_zero, Nat.le_refl, Nat.zero_le, Nat.succ_ne_self, Nat.mul_one, Int.toNat_natCast, Option.some.injEq, Option.isNone_some, Option.isNone_none, V.int.injEq, V.str.injEq, V.bool.injEq, V.ptr.injEq, V.slc.injEq, V.map.injEq, V.agg.injEq, V.tup.injEq, List.cons.injEq, Prod.mk.injEq, onS, true_and, and_true, and_assoc, exists_and_left, exists_eq_left', forall_eq, heq_eq_eq, reduceCtorEq, Bool.not_true, Bool.not_false, eq_self, not_false_eq_true, Nat.left_eq_add, Nat.add_eq_left, Nat.add_left_cancel_iff, Nat.add_right_cancel_iff, Nat.reduceEqDiff, Nat.one_ne_zero, Hp.get_set_self, Hp.get_set_ne, Hp.get_alloc_self, Hp.get_alloc_ne, Hp.get_alloc_at, Hp.get_set_at, Hp.set_next, Hp.alloc_next, Option.some_ne_none, V.tup.injEq, Option.isSome_some, Option.isSome_none, exists_eq_left, exists_eq, Nat.mul_zero, c3], ?_⟩
  rintro g4 rfl
  refine ⟨_, Hp.st_of Hp.get_alloc_self (Nat.le_of_ble_eq_true rfl), _, Hp.st_of Hp.get_set_self (Nat.le_of_ble_eq_true rfl), by decide, by decide, _, Hp.st_of Hp.get_set_self (Nat.le_of_ble_eq_true rfl), ?_⟩
  have ew : IntKind.u16.wrap (IntKind.i64.wrap (32768 + (IntKind.i64.wrap ((IntKind.i64.wrap draw).tmod 28232 + (k : Int))).tmod 28232)) = (lendAt b draw k).port := by
    have t1 : draw.tmod 28232 = draw % 28232 := Int.tmod_eq_emod_of_nonneg (by omega)
    have t2 : (draw % 28232 + (k : Int)).tmod 28232 = (draw % 28232 + (k : Int)) % 28232 := Int.tmod_eq_emod_of_nonneg (by omega)
    rw [wr (x := draw) (by omega) (by omega), t1, wr (x := draw % 28232 + k) (by omega) (by omega), t2, wr (by omega) (by omega), u16w (by omega) (by omega)]
    simp only [lendAt]; omega
  rw [ew]
  obtain ⟨x, hx⟩ : ∃ x, x = lendAt b draw k := ⟨_, rfl⟩
  have hxk : x.kind = b.kind := by rw [hx]; rfl
  have hxi : x.ip = b.ip := by rw [hx]; rfl
  have hxs : x.share = false := by rw [hx]; rfl
  have hsp : ((((g3.alloc (.row [.int .u8 0, .int .u32 0, .int .u16 0, .bool false] 1 false)).set g3.next (.row (splice [.int .u8 0, .int .u32 0, .int .u16 0, .bool false] 0 [.int .u8 b.kind, .int .u32 b.ip, .int .u16 b.port, .bool b.share]) 1 false)).set g3.next (.row (splice (splice [.int .u8 0, .int .u32 0, .int .u16 0, .bool false] 0 [.int .u8 b.kind, .int .u32 b.ip, .int .u16 b.port, .bool b.share]) 3 [.bool false]) 1 false)).set g3.next (.row (splice (splice (splice [.int .u8 0, .int .u32 0, .int .u16 0, .bool false] 0 [.int .u8 b.kind, .int .u32 b.ip, .int .u16 b.port, .bool b.share]) 3 [.bool false]) 2 [.int .u16 (lendAt b draw k).port]) 1 false)).get g3.next = some (.row [.int .u8 x.kind, .int .u32 x.ip, .int .u16 x.port, .bool x.share] 1 false) := by
    rw [Hp.get_set_self, hxk, hxi, hxs, hx]; rfl
  obtain ⟨g5, hg5⟩ : ∃ g5, g5 = (((g3.alloc (.row [.int .u8 0, .int .u32 0, .int .u16 0, .bool false] 1 false)).set g3.next (.row (splice [.int .u8 0, .int .u32 0, .int .u16 0, .bool false] 0 [.int .u8 b.kind, .int .u32 b.ip, .int .u16 b.port, .bool b.share]) 1 false)).set g3.next (.row (splice (splice [.int .u8 0, .int .u32 0, .int .u16 0, .bool false] 0 [.int .u8 b.kind, .int .u32 b.ip, .int .u16 b.port, .bool b.share]) 3 [.bool false]) 1 false)).set g3.next (.row (splice (splice (splice [.int .u8 0, .int .u32 0, .int .u16 0, .bool false] 0 [.int .u8 b.kind, .int .u32 b.ip, .int .u16 b.port, .bool b.share]) 3 [.bool false]) 2 [.int .u16 (lendAt b draw k).port]) 1 false) := ⟨_, rfl⟩
  rw [← hg5] at hsp ⊢
  have q5 : Quiet g3 g5 := by rw [hg5]; exact ⟨fun j hj => by simp (disch := (first | omega | (simp only [Hp.alloc_next, Hp.set_next] <;> omega) | (simp (disch := (first | omega | (simp only [Hp.alloc_next, Hp.set_next] <;> omega) | fail)) only [Hp.get_set_self, Hp.get_set_ne, Hp.get_alloc_self, Hp.get_alloc_ne, Hp.get_alloc_at, Hp.get_set_at, Hp.set_next, Hp.alloc_next]; done) | fail)) only [Hp.st, Hp.ld, Hp.lda, splice, ble_eq', if_true, if_false, ite_true, ite_false, cond_true, cond_false, decide_true, decide_false, List.length_cons, List.length_nil, List.take_zero, List.take_succ_cons, List.nil_append, List.cons_append, List.append_nil, List.drop_succ_cons, List.drop_zero, List.drop_nil, List.getElem?_cons_succ, List.getElem?_cons_zero, Nat.reduceAdd, Nat.reduceLeDiff, Nat.reduceEqDiff, Nat.zero_add, Nat.add_zero, Nat.le_refl, Nat.zero_le, Nat.succ_ne_self, Nat.mul_one, Int.toNat_natCast, Option.some.injEq, Option.isNone_some, Option.isNone_none, V.int.injEq, V.str.injEq, V.bool.injEq, V.ptr.injEq, V.slc.injEq, V.map.injEq, V.agg.injEq, V.tup.injEq, List.cons.injEq, Prod.mk.injEq, onS, true_and, and_true, and_assoc, exists_and_left, exists_eq_left', forall_eq, heq_eq_eq, reduceCtorEq, Bool.not_true, Bool.not_false, eq_self, not_false_eq_true, Nat.left_eq_add, Nat.add_eq_left, Nat.add_left_cancel_iff, Nat.add_right_cancel_iff, Nat.reduceEqDiff, Nat.one_ne_zero, Hp.get_set_self, Hp.get_set_ne, Hp.get_alloc_self, Hp.get_alloc_ne, Hp.get_alloc_at, Hp.get_set_at, Hp.set_next, Hp.alloc_next, Option.some_ne_none, V.tup.injEq, Option.isSome_some, Option.isSome_none, exists_eq_left, exists_eq, Nat.mul_zero], by simp (disch := (first | omega | (simp only [Hp.alloc_next, Hp.set_next] <;> omega) | (simp (disch := (first | omega | (simp only [Hp.alloc_next, Hp.set_next] <;> omega) | fail)) only [Hp.get_set_self, Hp.get_set_ne, Hp.get_alloc_self, Hp.get_alloc_ne, Hp.get_alloc_at, Hp.get_set_at, Hp.set_next, Hp.alloc_next]; done) | fail)) only [Hp.st, Hp.ld, Hp.lda, splice, ble_eq', if_true, if_false, ite_true, ite_false, cond_true, cond_false, decide_true, decide_false, List.length_cons, List.length_nil, List.take_zero, List.take_succ_cons, List.nil_append, List.cons_append, List.append_nil, List.drop_succ_cons, List.drop_zero, List.drop_nil, List.getElem?_cons_succ, List.getElem?_cons_zero, Nat.reduceAdd, Nat.reduceLeDiff, Nat.reduceEqDiff, Nat.zero_add, Nat.add_zero, Nat.le_refl, Nat.zero_le, Nat.succ_ne_self, Nat.mul_one, Int.toNat_natCast, Option.some.injEq, Option.isNone_some, Option.isNone_none, V.int.injEq, V.str.injEq, V.bool.injEq, V.ptr.injEq, V.slc.injEq, V.map.injEq, V.agg.injEq, V.tup.injEq, List.cons.injEq, Prod.mk.injEq, onS, true_and, and_true, and_assoc, exists_and_left, exists_eq_left', forall_eq, heq_eq_eq, reduceCtorEq, Bool.not_true, Bool.not_false, eq_self, not_false_eq_true, Nat.left_eq_add, Nat.add_eq_left, Nat.add_left_cancel_iff, Nat.add_right_cancel_iff, Nat.reduceEqDiff, Nat.one_ne_zero, Hp.get_set_self, Hp.get_set_ne, Hp.get_alloc_self, Hp.get_alloc_ne, Hp.get_alloc_at, Hp.get_set_at, Hp.set_next, Hp.alloc_next, Option.some_ne_none, V.tup.injEq, Option.isSome_some, Option.isSome_none, exists_eq_left, exists_eq, Nat.mul_zero]; omega, ((q3.wf.alloc.set (Nat.lt_succ_self _)).set (by simp (disch := (first | omega | (simp only [Hp.alloc_next, Hp.set_next] <;> omega) | (simp (disch := (first | omega | (simp only [Hp.alloc_next, Hp.set_next] <;> omega) | fail)) only [Hp.get_set_self, Hp.get_set_ne, Hp.get_alloc_self, Hp.get_alloc_ne, Hp.get_alloc_at, Hp.get_set_at, Hp.set_next, Hp.alloc_next]; done) | fail)) only [Hp.st, Hp.ld, Hp.lda, splice, ble_eq', if_true, if_false, ite_true, ite_false, cond_true, cond_false, decide_true, decide_false, List.length_cons, List.length_nil, List.take_zero, List.take_succ_cons, List.nil_append, List.cons_append, List.append_nil, List.drop_succ_cons, List.drop_zero, List.drop_nil, List.getElem?_cons_succ, List.getElem?_cons_zero, Nat.reduceAdd, Nat.reduceLeDiff, Nat.reduceEqDiff, Nat.zero_add, Nat.add_zero, Nat.le_refl, Nat.zero_le, Nat.succ_ne_self, Nat.mul_one, Int.toNat_natCast, Option.some.injEq, Option.isNone_some, Option.isNone_none, V.int.injEq, V.str.injEq, V.bool.injEq, V.ptr.injEq, V.slc.injEq, V.map.injEq, V.agg.injEq, V.tup.injEq, List.cons.injEq, Prod.mk.injEq, onS, true_and, and_true, and_assoc, exists_and_left, exists_eq_left', forall_eq, heq_eq_eq, reduceCtorEq, Bool.not_true, Bool.not_false, eq_self, not_false_eq_true, Nat.left_eq_add, Nat.add_eq_left, Nat.add_left_cancel_iff, Nat.add_right_cancel_iff, Nat.reduceEqDiff, Nat.one_ne_zero, Hp.get_set_self, Hp.get_set_ne, Hp.get_alloc_self, Hp.get_alloc_ne, Hp.get_alloc_at, Hp.get_set_at, Hp.set_next, Hp.alloc_next, Option.some_ne_none, V.tup.injEq, Option.isSome_some, Option.isSome_none, exists_eq_left, exists_eq, Nat.mul_zero]; omega)).set (by simp (disch := (first | omega | (simp only [Hp.alloc_next, Hp.set_next] <;> omega) | (simp (disch := (first | omega | (simp only [Hp.alloc_next, Hp.set_next] <;> omega) | fail)) only [Hp.get_set_self, Hp.get_set_ne, Hp.get_alloc_self, Hp.get_alloc_ne, Hp.get_alloc_at, Hp.get_set_at, Hp.set_next, Hp.alloc_next]; done) | fail)) only [Hp.st, Hp.ld, Hp.lda, splice, ble_eq', if_true, if_false, ite_true, ite_false, cond_true, cond_false, decide_true, decide_false, List.length_cons, List.length_nil, List.take_zero, List.take_succ_cons, List.nil_append, List.cons_append, List.append_nil, List.drop_succ_cons, List.drop_zero, List.drop_nil, List.getElem?_cons_succ, List.getElem?_cons_zero, Nat.reduceAdd, Nat.reduceLeDiff, Nat.reduceEqDiff, Nat.zero_add, Nat.add_zero, Nat.le_refl, Nat.zero_le, Nat.succ_ne_self, Nat.mul_one, Int.toNat_natCast, Option.some.injEq, Option.isNone_some, Option.isNone_none, V.int.injEq, V.str.injEq, V.bool.injEq, V.ptr.injEq, V.slc.injEq, V.map.injEq, V.agg.injEq, V.tup.injEq, List.cons.injEq, Prod.mk.injEq, onS, true_and, and_true, and_assoc, exists_and_left, exists_eq_left', forall_eq, heq_eq_eq, reduceCtorEq, Bool.not_true, Bool.not_false, eq_self, not_false_eq_true, Nat.left_eq_add, Nat.add_eq_left, Nat.add_left_cancel_iff, Nat.add_right_cancel_iff, Nat.reduceEqDiff, Nat.one_ne_zero, Hp.get_set_self, Hp.get_set_ne, Hp.get_alloc_self, Hp.get_alloc_ne, Hp.get_alloc_at, Hp.get_set_at, Hp.set_next, Hp.alloc_next, Option.some_ne_none, V.tup.injEq, Option.isSome_some, Option.isSome_none, exists_eq_left, exists_eq, Nat.mul_zero]; omega)⟩
  clear hg5
  have q25 := q3.trans q5
  have r5 := r1.quiet q1.wf q25
  have n5 := q5.wf.lt hsp
  refine ⟨fun vs g => match vs with
    | [.bool fr] => fr = freeB R x ∧ Quiet g5 g
    | _ => False, ?_, ?_⟩
  · refine ⟨fun vs g => match vs with
      | [.bool fr, .int _ i] => Quiet g5 g ∧ ∃ k : Nat, i = k ∧ k ≤ R.length ∧ fr = freeB (R.take k) x
      | _ => False, fun vs _ => match vs with
      | [_, .int _ i] => R.length - i.toNat
      | _ => 0, ⟨rfl, Quiet.refl q5.wf, 0, rfl, by omega, rfl⟩, ?_⟩
    rintro bs2 fr i2 g6 ⟨q6, k2, rfl, hk2, rfl⟩
    have r6 := r5.quiet q5.wf q6
    have c6 : g6.get g3.next = some (.row [.int .u8 x.kind, .int .u32 x.ip, .int .u16 x.port, .bool x.share] 1 false) := by rw [q6.same _ n5]; exact hsp
    obtain ⟨a, f, hg, hel⟩ := r6.hd
    refine ⟨a, R.length, f, by simp (disch := (first | omega | (simp only [Hp.alloc_next, Hp.set_next] <;> omega) | (simp (disch := (first | omega | (simp only [Hp.alloc_next, Hp.set_next] <;> omega) | fail)) only [Hp.get_set_self, Hp.get_set_ne, Hp.get_alloc_self, Hp.get_alloc_ne, Hp.get_alloc_at, Hp.get_set_at, Hp.set_next, Hp.alloc_next, hg]; done) | fail)) only [Hp.st, Hp.ld, Hp.lda, splice, ble_eq', if_true, if_false, ite_true, ite_false, cond_true, cond_false, decide_true, decide_false, List.length_cons, List.length_nil, List.take_zero, List.take_succ_cons, List.nil_append, List.cons_append, List.append_nil, List.drop_succ_cons, List.drop_zero, List.drop_nil, List.getElem?_cons_succ, List.getElem?_cons_zero, Nat.reduceAdd, Nat.reduceLeDiff, Nat.reduceEqDiff, Nat.zero_add, Nat.add_zero, Nat.le_refl, Nat.zero_le, Nat.succ_ne_self, Nat.mul_one, Int.toNat_natCast, Option.some.injEq, Option.isNone_some, Option.isNone_none, V.int.injEq, V.str.injEq, V.bool.injEq, V.ptr.injEq, V.slc.injEq, V.map.injEq, V.agg.injEq, V.tup.injEq, List.cons.injEq, Prod.mk.injEq, onS, true_and, and_true, and_assoc, exists_and_left, exists_eq_left', forall_eq, heq_eq_eq, reduceCtorEq, Bool.not_true, Bool.not_false, eq_self, not_false_eq_true, Nat.left_eq_add, Nat.add_eq_left, Nat.add_left_cancel_iff, Nat.add_right_cancel_iff, Nat.reduceEqDiff, Nat.one_ne_zero, Hp.get_set_self, Hp.get_set_ne, Hp.get_alloc_self, Hp.get_alloc_ne, Hp.get_alloc_at, Hp.get_set_at, Hp.set_next, Hp.alloc_next, Option.some_ne_none, V.tup.injEq, Option.isSome_some, Option.isSome_none, exists_eq_left, exists_eq, Nat.mul_zero, hg], ?_⟩
    cases hi2 : ltI (↑k2) (↑R.length) with
    | false =>
      rw [ltI_eq, decide_eq_false_iff_not] at hi2
      exact ⟨rfl, by rw [List.take_of_length_le (by omega)], q6⟩
    | true =>
      rw [ltI_eq, decide_eq_true_eq] at hi2
      have hk' : k2 < R.length := by omega
      cases hf : freeB (R.take k2) x with
      | false =>
        refine ⟨rfl, ?_, q6⟩
        unfold freeB at hf ⊢
        rw [List.all_eq_false] at hf
        obtain ⟨y, hy, h2⟩ := hf
        symm
        rw [List.all_eq_false]
        exact ⟨y, List.mem_of_mem_take hy, h2⟩
      | true =>
        obtain ⟨y, hy⟩ : ∃ y, R[k2]? = some y := ⟨_, List.getElem?_eq_getElem hk'⟩
        obtain ⟨q, o, rfl, hl1, hl2⟩ := hel k2 y hy
        refine ⟨some (q, o), R.length, f, by simp (disch := (first | omega | (simp only [Hp.alloc_next, Hp.set_next] <;> omega) | (simp (disch := (first | omega | (simp only [Hp.alloc_next, Hp.set_next] <;> omega) | fail)) only [Hp.get_set_self, Hp.get_set_ne, Hp.get_alloc_self, Hp.get_alloc_ne, Hp.get_alloc_at, Hp.get_set_at, Hp.set_next, Hp.alloc_next, hg]; done) | fail)) only [Hp.st, Hp.ld, Hp.lda, splice, ble_eq', if_true, if_false, ite_true, ite_false, cond_true, cond_false, decide_true, decide_false, List.length_cons, List.length_nil, List.take_zero, List.take_succ_cons, List.nil_append, List.cons_append, List.append_nil, List.drop_succ_cons, List.drop_zero, List.drop_nil, List.getElem?_cons_succ, List.getElem?_cons_zero, Nat.reduceAdd, Nat.reduceLeDiff, Nat.reduceEqDiff, Nat.zero_add, Nat.add_zero, Nat.le_refl, Nat.zero_le, Nat.succ_ne_self, Nat.mul_one, Int.toNat_natCast, Option.some.injEq, Option.isNone_some, Option.isNone_none, V.int.injEq, V.str.injEq, V.bool.injEq, V.ptr.injEq, V.slc.injEq, V.map.injEq, V.agg.injEq, V.tup.injEq, List.cons.injEq, Prod.mk.injEq, onS, true_and, and_true, and_assoc, exists_and_left, exists_eq_left', forall_eq, heq_eq_eq, reduceCtorEq, Bool.not_true, Bool.not_false, eq_self, not_false_eq_true, Nat.left_eq_add, Nat.add_eq_left, Nat.add_left_cancel_iff, Nat.add_right_cancel_iff, Nat.reduceEqDiff, Nat.one_ne_zero, Hp.get_set_self, Hp.get_set_ne, Hp.get_alloc_self, Hp.get_alloc_ne, Hp.get_alloc_at, Hp.get_set_at, Hp.set_next, Hp.alloc_next, Option.some_ne_none, V.tup.injEq, Option.isSome_some, Option.isSome_none, exists_eq_left, exists_eq, Nat.mul_zero, hg], ⟨by omega, hi2⟩, y.2.kind, y.2.ip, y.2.port, y.2.share, hl2, x.kind, x.ip, x.port, x.share, by simp (disch := (first | omega | (simp only [Hp.alloc_next, Hp.set_next] <;> omega) | (simp (disch := (first | omega | (simp only [Hp.alloc_next, Hp.set_next] <;> omega) | fail)) only [Hp.get_set_self, Hp.get_set_ne, Hp.get_alloc_self, Hp.get_alloc_ne, Hp.get_alloc_at, Hp.get_set_at, Hp.set_next, Hp.alloc_next, c6]; done) | fail)) only [Hp.st, Hp.ld, Hp.lda, splice, ble_eq', if_true, if_false, ite_true, ite_false, cond_true, cond_false, decide_true, decide_false, List.length_cons, List.length_nil, List.take_zero, List.take_succ_cons, List.nil_append, List.cons_append, List.append_nil, List.drop_succ_cons, List.drop_zero, List.drop_nil, List.getElem?_cons_succ, List.getElem?_cons_zero, Nat.reduceAdd, Nat.reduceLeDiff, Nat.reduceEqDiff, Nat.zero_add, Nat.add_zero, Nat.le_refl, Nat.zero_le, Nat.succ_ne_self, Nat.mul_one, Int.toNat_natCast, Option.some.injEq, Option.isNone_some, Option.isNone_none, V.int.injEq, V.str.injEq, V.bool.injEq, V.ptr.injEq, V.slc.injEq, V.map.injEq, V.agg.injEq, V.tup.injEq, List.cons.injEq, Prod.mk.injEq, onS, true_and, and_true, and_assoc, exists_and_left, exists_eq_left', forall_eq, heq_eq_eq, reduceCtorEq, Bool.not_true, Bool.not_false, eq_self, not_false_eq_true, Nat.left_eq_add, Nat.add_eq_left, Nat.add_left_cancel_iff, Nat.add_right_cancel_iff, Nat.reduceEqDiff, Nat.one_ne_zero, Hp.get_set_self, Hp.get_set_ne, Hp.get_alloc_self, Hp.get_alloc_ne, Hp.get_alloc_at, Hp.get_set_at, Hp.set_next, Hp.alloc_next, Option.some_ne_none, V.tup.injEq, Option.isSome_some, Option.isSome_none, exists_eq_left, exists_eq, Nat.mul_zero, c6], ?_⟩
        refine (meet_spec (a := y.2) (b := x) q6.wf).mono ?_
        rintro _ g7 ⟨rfl, q7⟩
        refine ⟨_, rfl, ?_⟩
        rw [wrap_succ hk' (by omega)]
        refine ⟨rfl, ⟨q6.trans q7, k2 + 1, rfl, by omega, ?_⟩, by simp only [Int.toNat_natCast]; omega⟩
        unfold freeB at hf ⊢
        obtain ⟨hk3, e⟩ := List.getElem?_eq_some_iff.1 hy
        rw [List.take_succ_eq_append_getElem hk3, e, List.all_append, hf]
        simp
  rintro bs2 fr g6 ⟨rfl, q6⟩
  cases hf : freeB R x with
  | true =>
    have c6 : g6.get g3.next = some (.row [.int .u8 x.kind, .int .u32 x.ip, .int .u16 x.port, .bool x.share] 1 false) := by rw [q6.same _ n5]; exact hsp
    refine ⟨x.kind, x.ip, x.port, x.share, by simp (disch := (first | omega | (simp only [Hp.alloc_next, Hp.set_next] <;> omega) | (simp (disch := (first | omega | (simp only [Hp.alloc_next, Hp.set_next] <;> omega) | fail)) only [Hp.get_set_self, Hp.get_set_ne, Hp.get_alloc_self, Hp.get_alloc_ne, Hp.get_alloc_at, Hp.get_set_at, Hp.set_next, Hp.alloc_next, c6]; done) | fail)) only [Hp.st, Hp.ld, Hp.lda, splice, ble_eq', if_true, if_false, ite_true, ite_false, cond_true, cond_false, decide_true, decide_false, List.length_cons, List.length_nil, List.take_zero, List.take_succ_cons, List.nil_append, List.cons_append, List.append_nil, List.drop_succ_cons, List.drop_zero, List.drop_nil, List.getElem?_cons_succ, List.getElem?_cons_zero, Nat.reduceAdd, Nat.reduceLeDiff, Nat.reduceEqDiff, Nat.zero_add, Nat.add_zero, Nat.le_refl, Nat.zero_le, Nat.succ_ne_self, Nat.mul_one, Int.toNat_natCast, Option.some.injEq, Option.isNone_some, Option.isNone_none, V.int.injEq, V.str.injEq, V.bool.injEq, V.ptr.injEq, V.slc.injEq, V.map.injEq, V.agg.injEq, V.tup.injEq, List.cons.injEq, Prod.mk.injEq, onS, true_and, and_true, and_assoc, exists_and_left, exists_eq_left', forall_eq, heq_eq_eq, reduceCtorEq, Bool.not_true, Bool.not_false, eq_self, not_false_eq_true, Nat.left_eq_add, Nat.add_eq_left, Nat.add_left_cancel_iff, Nat.add_right_cancel_iff, Nat.reduceEqDiff, Nat.one_ne_zero, Hp.get_set_self, Hp.get_set_ne, Hp.get_alloc_self, Hp.get_alloc_ne, Hp.get_alloc_at, Hp.get_set_at, Hp.set_next, Hp.alloc_next, Option.some_ne_none, V.tup.injEq, Option.isSome_some, Option.isSome_none, exists_eq_left, exists_eq, Nat.mul_zero, c6], ?_⟩
    have n6 := q6.wf.lt c6
    have r6 := r5.quiet q5.wf q6
    have hFl := fun j hj => (RefP.rep _ _).lt q1.wf r1 (j := j) hj
    have n23 := q3.le
    refine (put_spec (s := s) (b := x) q6.wf r6 hn).mono ?_
    rintro _ g7 ⟨rfl, F', r7, u7, w7⟩
    have c7 : g7.get g3.next = some (.row [.int .u8 x.kind, .int .u32 x.ip, .int .u16 x.port, .bool x.share] 1 false) := by rw [u7.same _ n6 (fun hF => by have := hFl _ hF; omega)]; exact c6
    refine ⟨x.port, by simp (disch := (first | omega | (simp only [Hp.alloc_next, Hp.set_next] <;> omega) | (simp (disch := (first | omega | (simp only [Hp.alloc_next, Hp.set_next] <;> omega) | fail)) only [Hp.get_set_self, Hp.get_set_ne, Hp.get_alloc_self, Hp.get_alloc_ne, Hp.get_alloc_at, Hp.get_set_at, Hp.set_next, Hp.alloc_next, c7]; done) | fail)) only [Hp.st, Hp.ld, Hp.lda, splice, ble_eq', if_true, if_false, ite_true, ite_false, cond_true, cond_false, decide_true, decide_false, List.length_cons, List.length_nil, List.take_zero, List.take_succ_cons, List.nil_append, List.cons_append, List.append_nil, List.drop_succ_cons, List.drop_zero, List.drop_nil, List.getElem?_cons_succ, List.getElem?_cons_zero, Nat.reduceAdd, Nat.reduceLeDiff, Nat.reduceEqDiff, Nat.zero_add, Nat.add_zero, Nat.le_refl, Nat.zero_le, Nat.succ_ne_self, Nat.mul_one, Int.toNat_natCast, Option.some.injEq, Option.isNone_some, Option.isNone_none, V.int.injEq, V.str.injEq, V.bool.injEq, V.ptr.injEq, V.slc.injEq, V.map.injEq, V.agg.injEq, V.tup.injEq, List.cons.injEq, Prod.mk.injEq, onS, true_and, and_true, and_assoc, exists_and_left, exists_eq_left', forall_eq, heq_eq_eq, reduceCtorEq, Bool.not_true, Bool.not_false, eq_self, not_false_eq_true, Nat.left_eq_add, Nat.add_eq_left, Nat.add_left_cancel_iff, Nat.add_right_cancel_iff, Nat.reduceEqDiff, Nat.one_ne_zero, Hp.get_set_self, Hp.get_set_ne, Hp.get_alloc_self, Hp.get_alloc_ne, Hp.get_alloc_at, Hp.get_set_at, Hp.set_next, Hp.alloc_next, Option.some_ne_none, V.tup.injEq, Option.isSome_some, Option.isSome_none, exists_eq_left, exists_eq, Nat.mul_zero, c7], ?_⟩
    exact hK _ _ ⟨0, x.port, _, F', rfl, .inr (.inl ⟨hmay, k, by omega, hall, by rw [← hx]; exact hf, rfl, by rw [hx], by rw [hx]⟩), r7, (((q1.trans q25).trans q6).upd _).trans u7, w7⟩
  | false =>
    have hw1 : IntKind.i64.wrap ((k : Int) + 1) = ((k + 1 : Nat) : Int) := by rw [wr (by omega) (by omega)]; rfl
    rw [hw1]
    exact ⟨rfl, ⟨q25.trans q6, k + 1, rfl, by omega, fun j hj => by
      by_cases ej : j = k
      · subst ej; rw [← hx]; exact hf
      · exact hall j (by omega)⟩, by simp only [Int.toNat_natCast]; omega⟩

end Go.Vex.Ports
