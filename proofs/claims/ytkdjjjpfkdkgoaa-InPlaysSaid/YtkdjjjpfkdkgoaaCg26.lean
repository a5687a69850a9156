/-
  Contracts of bytes that are received (layer 26).
-/
import Derived.Test.YtkdjjjpfkdkgoaaVexGG
import Derived.Test.YtkdjjjpfkdkgoaaTab26
import Derived.Test.YtkdjjjpfkdkgoaaXa26
import Derived.Test.YtkdjjjpfkdkgoaaCa26
import Derived.Test.YtkdjjjpfkdkgoaaXg26
set_option linter.unusedVariables false
set_option linter.unusedSimpArgs false
namespace Go.Vex.In
open Go.Proofs

structure Quiet (h h' : Hp) : Prop where
  same : ∀ j, j < h.next → h'.get j = h.get j
  le : h.next ≤ h'.next
  wf : h'.wf

theorem Quiet.refl {h : Hp} (hw : h.wf) : Quiet h h := ⟨fun _ _ => rfl, Nat.le_refl _, hw⟩
theorem Quiet.trans {h h' h'' : Hp} (q : Quiet h h') (r : Quiet h' h'') : Quiet h h'' := ⟨fun j hj => by rw [r.same j (by have := q.le; omega), q.same j hj], by have := q.le; have := r.le; omega, r.wf⟩
theorem Quiet.upd {h h' : Hp} (q : Quiet h h') (F : List Nat) : Upd h h' F F := Upd.quiet F q.same q.le
theorem Quiet.alloc {h : Hp} (hw : h.wf) (o : O) : Quiet h (h.alloc o) := ⟨fun j hj => Hp.get_alloc_ne (by omega), by simp [Hp.alloc_next], hw.alloc⟩

abbrev kU : Int → V := fun n => .int .u32 n
abbrev bU : Int → V := fun n => .int .u8 n

theorem mtF : MT T 73 kU (bU 0) := ⟨(T 73).get rfl, 22, 5, (T 5).get rfl, rfl, rfl, rfl, rfl, KL.int (ti := (T 22).get rfl) rfl rfl⟩

structure IS where
  nx : Int
  rd : List UInt8
  A : List (Int × Int)
  rows : Int
  most : Int
  fin : Bool
  en : Int

def InR (i : Nat) (s : IS) (h : Hp) (F : List Nat) : Prop :=
  ∃ m a f o G, h.get i = some (.row [.int .u32 s.nx, .slc a s.rd.length f, .map (some m), .int .i64 s.rows, .int .i64 s.most, .bool s.fin, .int .u32 s.en] 1 false) ∧ h.get m = some o ∧ MO kU bU s.A o ∧ Own 1 a s.rd.length (bRows s.rd) h G ∧
    F = i :: m :: G ∧ i ≠ m ∧ i ∉ G ∧ m ∉ G

theorem InR.rep (i : Nat) (s : IS) : Rep (InR i s) where
  loc := fun h h' F hs ⟨m, a, f, o, G, e1, e2, e3, e4, e5, e6⟩ => by
    subst e5
    exact ⟨m, a, f, o, G, by rw [hs i (by simp)]; exact e1, by rw [hs m (by simp)]; exact e2, e3, (Own.rep _ _ _ _).loc h h' G (fun j hj => hs j (by simp [hj])) e4, rfl, e6⟩
  dom := fun h F ⟨m, a, f, o, G, e1, e2, e3, e4, e5, e6⟩ j hj => by
    subst e5
    rcases List.mem_cons.1 hj with rfl | hj
    · exact ⟨_, e1, rfl⟩
    rcases List.mem_cons.1 hj with rfl | hj
    · exact ⟨_, e2, e3.rw⟩
    · exact (Own.rep _ _ _ _).dom h G e4 j hj

theorem InR.quiet {i : Nat} {s : IS} {h h' : Hp} {F : List Nat} (r : InR i s h F) (hw : h.wf) (q : Quiet h h') : InR i s h' F := (InR.rep _ _).stay hw r q.same

theorem u32w (x : Int) : IntKind.u32.wrap x = x % 4294967296 := by simp [IntKind.wrap, IntKind.bits, IntKind.signed]

theorem new_spec {h : Hp} {at' most : Int} (hw : h.wf) (hb : 1 ≤ most ∧ most ≤ 16384) : XCalls Try.prog 25 [.int .u32 at', .int .i64 most] h fun v h' => v = .tup [.ptr (some (h.next + 1, 0)), .int .i64 0] ∧ InR (h.next + 1) ⟨at', [], [], 0, most, false, 0⟩ h' [h.next + 1, h.next] ∧ Quiet h h' := by
  apply x25; unfold X25
  have c1 : ltI most 1 = false := by rw [ltI_eq, decide_eq_false_iff_not]; omega
  have c2 : ltI 16384 most = false := by rw [ltI_eq, decide_eq_false_iff_not]; omega
  rw [c1, c2]
  rintro h1 rfl h2 rfl
  refine ⟨rfl, ⟨h.next, none, true, _, [], Hp.get_alloc_self, by simp (disch := (first | omega | (simp only [Hp.alloc_next, Hp.set_next] <;> omega) | (simp (disch := (first | omega | (simp only [Hp.alloc_next, Hp.set_next] <;> omega) | fail)) only [Hp.get_set_self, Hp.get_set_ne, Hp.get_alloc_self, Hp.get_alloc_ne, Hp.get_alloc_at, Hp.get_set_at, Hp.set_next, Hp.alloc_next]; done) | fail)) only [Hp.st, Hp.ld, Hp.lda, splice, ble_eq', if_true, if_false, ite_true, ite_false, cond_true, cond_false, decide_true, decide_false, List.length_cons, List.length_nil, List.take_zero, List.take_succ_cons, List.nil_append, List.cons_append, List.append_nil, List.drop_succ_cons, List.drop_zero, List.drop_nil, List.getElem?_cons_succ, List.getElem?_cons_zero, Nat.reduceAdd, Nat.reduceLeDiff, Nat.reduceEqDiff, Nat.zero_add, Nat.add_zero, Nat.le_refl, Nat.zero_le, Nat.succ_ne_self, Nat.mul_one, Int.toNat_natCast, Option.some.injEq, Option.isNone_some, Option.isNone_none, V.int.injEq, V.str.injEq, V.bool.injEq, V.ptr.injEq, V.slc.injEq, V.map.injEq, V.agg.injEq, V.tup.injEq, List.cons.injEq, Prod.mk.injEq, onS, true_and, and_true, and_assoc, exists_and_left, exists_eq_left', forall_eq, heq_eq_eq, reduceCtorEq, Bool.not_true, Bool.not_false, eq_self, not_false_eq_true, Nat.left_eq_add, Nat.add_eq_left, Nat.add_left_cancel_iff, Nat.add_right_cancel_iff, Nat.reduceEqDiff, Nat.one_ne_zero, Hp.get_set_self, Hp.get_set_ne, Hp.get_alloc_self, Hp.get_alloc_ne, Hp.get_alloc_at, Hp.get_set_at, Hp.set_next, Hp.alloc_next, Option.some_ne_none, V.tup.injEq, Option.isSome_some, Option.isSome_none, exists_eq_left, exists_eq, Nat.mul_zero], MO.nil _ _, Own.nil _ _, rfl, by omega, by simp, by simp⟩, (Quiet.alloc hw _).trans (Quiet.alloc hw.alloc _)⟩

theorem new_err {h : Hp} {at' most : Int} (hb : most < 1 ∨ 16384 < most) : XCalls Try.prog 25 [.int .u32 at', .int .i64 most] h fun v h' => v = .tup [.ptr none, .int .i64 2] ∧ h' = h := by
  apply x25; unfold X25
  cases c1 : ltI most 1 with
  | true => exact ⟨rfl, rfl⟩
  | false =>
    rw [ltI_eq, decide_eq_false_iff_not] at c1
    have c2 : ltI 16384 most = true := by rw [ltI_eq, decide_eq_true_eq]; omega
    rw [c2]; exact ⟨rfl, rfl⟩

section
variable {h : Hp} {i : Nat} {s : IS} {F : List Nat}

theorem has_spec (r : InR i s h F) (k : Int) : XCalls Try.prog 48 [.ptr (some (i, 0)), .int .u32 k] h fun v h' => v = .int .i64 (if (mget s.A k).isSome then 1 else 0) ∧ h' = h := by
  obtain ⟨m, a, f, o, G, e1, e2, e3, e4, e5, e6⟩ := r
  apply x48; unfold X48
  have hlk := e3.look2 mtF k
  rw [lookV_getD] at hlk
  refine ⟨some m, by simp (disch := (first | omega | (simp only [Hp.alloc_next, Hp.set_next] <;> omega) | (simp (disch := (first | omega | (simp only [Hp.alloc_next, Hp.set_next] <;> omega) | fail)) only [Hp.get_set_self, Hp.get_set_ne, Hp.get_alloc_self, Hp.get_alloc_ne, Hp.get_alloc_at, Hp.get_set_at, Hp.set_next, Hp.alloc_next, e1]; done) | fail)) only [Hp.st, Hp.ld, Hp.lda, splice, ble_eq', if_true, if_false, ite_true, ite_false, cond_true, cond_false, decide_true, decide_false, List.length_cons, List.length_nil, List.take_zero, List.take_succ_cons, List.nil_append, List.cons_append, List.append_nil, List.drop_succ_cons, List.drop_zero, List.drop_nil, List.getElem?_cons_succ, List.getElem?_cons_zero, Nat.reduceAdd, Nat.reduceLeDiff, Nat.reduceEqDiff, Nat.zero_add, Nat.add_zero, Nat.le_refl, Nat.zero_le, Nat.succ_ne_self, Nat.mul_one, Int.toNat_natCast, Option.some.injEq, Option.isNone_some, Option.isNone_none, V.int.injEq, V.str.injEq, V.bool.injEq, V.ptr.injEq, V.slc.injEq, V.map.injEq, V.agg.injEq, V.tup.injEq, List.cons.injEq, Prod.mk.injEq, onS, true_and, and_true, and_assoc, exists_and_left, exists_eq_left', forall_eq, heq_eq_eq, reduceCtorEq, Bool.not_true, Bool.not_false, eq_self, not_false_eq_true, Nat.left_eq_add, Nat.add_eq_left, Nat.add_left_cancel_iff, Nat.add_right_cancel_iff, Nat.reduceEqDiff, Nat.one_ne_zero, Hp.get_set_self, Hp.get_set_ne, Hp.get_alloc_self, Hp.get_alloc_ne, Hp.get_alloc_at, Hp.get_set_at, Hp.set_next, Hp.alloc_next, Option.some_ne_none, V.tup.injEq, Option.isSome_some, Option.isSome_none, exists_eq_left, exists_eq, Nat.mul_zero, e1], _, _, hlk _ _ e2, ?_⟩
  cases (mget s.A k).isSome <;> exact ⟨rfl, rfl⟩

theorem next_spec (r : InR i s h F) : XCalls Try.prog 31 [.ptr (some (i, 0))] h fun v h' => v = .int .u32 s.nx ∧ h' = h := by
  obtain ⟨m, a, f, o, G, e1, e2, e3, e4, e5, e6⟩ := r
  apply x31; unfold X31
  exact ⟨s.nx, by simp (disch := (first | omega | (simp only [Hp.alloc_next, Hp.set_next] <;> omega) | (simp (disch := (first | omega | (simp only [Hp.alloc_next, Hp.set_next] <;> omega) | fail)) only [Hp.get_set_self, Hp.get_set_ne, Hp.get_alloc_self, Hp.get_alloc_ne, Hp.get_alloc_at, Hp.get_set_at, Hp.set_next, Hp.alloc_next, e1]; done) | fail)) only [Hp.st, Hp.ld, Hp.lda, splice, ble_eq', if_true, if_false, ite_true, ite_false, cond_true, cond_false, decide_true, decide_false, List.length_cons, List.length_nil, List.take_zero, List.take_succ_cons, List.nil_append, List.cons_append, List.append_nil, List.drop_succ_cons, List.drop_zero, List.drop_nil, List.getElem?_cons_succ, List.getElem?_cons_zero, Nat.reduceAdd, Nat.reduceLeDiff, Nat.reduceEqDiff, Nat.zero_add, Nat.add_zero, Nat.le_refl, Nat.zero_le, Nat.succ_ne_self, Nat.mul_one, Int.toNat_natCast, Option.some.injEq, Option.isNone_some, Option.isNone_none, V.int.injEq, V.str.injEq, V.bool.injEq, V.ptr.injEq, V.slc.injEq, V.map.injEq, V.agg.injEq, V.tup.injEq, List.cons.injEq, Prod.mk.injEq, onS, true_and, and_true, and_assoc, exists_and_left, exists_eq_left', forall_eq, heq_eq_eq, reduceCtorEq, Bool.not_true, Bool.not_false, eq_self, not_false_eq_true, Nat.left_eq_add, Nat.add_eq_left, Nat.add_left_cancel_iff, Nat.add_right_cancel_iff, Nat.reduceEqDiff, Nat.one_ne_zero, Hp.get_set_self, Hp.get_set_ne, Hp.get_alloc_self, Hp.get_alloc_ne, Hp.get_alloc_at, Hp.get_set_at, Hp.set_next, Hp.alloc_next, Option.some_ne_none, V.tup.injEq, Option.isSome_some, Option.isSome_none, exists_eq_left, exists_eq, Nat.mul_zero, e1], rfl, rfl⟩

theorem ready_spec (r : InR i s h F) : XCalls Try.prog 29 [.ptr (some (i, 0))] h fun v h' => v = .int .i64 s.rd.length ∧ h' = h := by
  obtain ⟨m, a, f, o, G, e1, e2, e3, e4, e5, e6⟩ := r
  apply x29; unfold X29
  exact ⟨a, s.rd.length, f, by simp (disch := (first | omega | (simp only [Hp.alloc_next, Hp.set_next] <;> omega) | (simp (disch := (first | omega | (simp only [Hp.alloc_next, Hp.set_next] <;> omega) | fail)) only [Hp.get_set_self, Hp.get_set_ne, Hp.get_alloc_self, Hp.get_alloc_ne, Hp.get_alloc_at, Hp.get_set_at, Hp.set_next, Hp.alloc_next, e1]; done) | fail)) only [Hp.st, Hp.ld, Hp.lda, splice, ble_eq', if_true, if_false, ite_true, ite_false, cond_true, cond_false, decide_true, decide_false, List.length_cons, List.length_nil, List.take_zero, List.take_succ_cons, List.nil_append, List.cons_append, List.append_nil, List.drop_succ_cons, List.drop_zero, List.drop_nil, List.getElem?_cons_succ, List.getElem?_cons_zero, Nat.reduceAdd, Nat.reduceLeDiff, Nat.reduceEqDiff, Nat.zero_add, Nat.add_zero, Nat.le_refl, Nat.zero_le, Nat.succ_ne_self, Nat.mul_one, Int.toNat_natCast, Option.some.injEq, Option.isNone_some, Option.isNone_none, V.int.injEq, V.str.injEq, V.bool.injEq, V.ptr.injEq, V.slc.injEq, V.map.injEq, V.agg.injEq, V.tup.injEq, List.cons.injEq, Prod.mk.injEq, onS, true_and, and_true, and_assoc, exists_and_left, exists_eq_left', forall_eq, heq_eq_eq, reduceCtorEq, Bool.not_true, Bool.not_false, eq_self, not_false_eq_true, Nat.left_eq_add, Nat.add_eq_left, Nat.add_left_cancel_iff, Nat.add_right_cancel_iff, Nat.reduceEqDiff, Nat.one_ne_zero, Hp.get_set_self, Hp.get_set_ne, Hp.get_alloc_self, Hp.get_alloc_ne, Hp.get_alloc_at, Hp.get_set_at, Hp.set_next, Hp.alloc_next, Option.some_ne_none, V.tup.injEq, Option.isSome_some, Option.isSome_none, exists_eq_left, exists_eq, Nat.mul_zero, e1], rfl, rfl⟩

theorem window_spec (r : InR i s h F) (hb : (s.rd.length : Int) ≤ s.most ∧ s.most ≤ 16384) : XCalls Try.prog 30 [.ptr (some (i, 0))] h fun v h' => v = .int .i64 (s.most - s.rd.length) ∧ h' = h := by
  obtain ⟨m, a, f, o, G, e1, e2, e3, e4, e5, e6⟩ := r
  apply x30; unfold X30
  refine ⟨s.most, by simp (disch := (first | omega | (simp only [Hp.alloc_next, Hp.set_next] <;> omega) | (simp (disch := (first | omega | (simp only [Hp.alloc_next, Hp.set_next] <;> omega) | fail)) only [Hp.get_set_self, Hp.get_set_ne, Hp.get_alloc_self, Hp.get_alloc_ne, Hp.get_alloc_at, Hp.get_set_at, Hp.set_next, Hp.alloc_next, e1]; done) | fail)) only [Hp.st, Hp.ld, Hp.lda, splice, ble_eq', if_true, if_false, ite_true, ite_false, cond_true, cond_false, decide_true, decide_false, List.length_cons, List.length_nil, List.take_zero, List.take_succ_cons, List.nil_append, List.cons_append, List.append_nil, List.drop_succ_cons, List.drop_zero, List.drop_nil, List.getElem?_cons_succ, List.getElem?_cons_zero, Nat.reduceAdd, Nat.reduceLeDiff, Nat.reduceEqDiff, Nat.zero_add, Nat.add_zero, Nat.le_refl, Nat.zero_le, Nat.succ_ne_self, Nat.mul_one, Int.toNat_natCast, Option.some.injEq, Option.isNone_some, Option.isNone_none, V.int.injEq, V.str.injEq, V.bool.injEq, V.ptr.injEq, V.slc.injEq, V.map.injEq, V.agg.injEq, V.tup.injEq, List.cons.injEq, Prod.mk.injEq, onS, true_and, and_true, and_assoc, exists_and_left, exists_eq_left', forall_eq, heq_eq_eq, reduceCtorEq, Bool.not_true, Bool.not_false, eq_self, not_false_eq_true, Nat.left_eq_add, Nat.add_eq_left, Nat.add_left_cancel_iff, Nat.add_right_cancel_iff, Nat.reduceEqDiff, Nat.one_ne_zero, Hp.get_set_self, Hp.get_set_ne, Hp.get_alloc_self, Hp.get_alloc_ne, Hp.get_alloc_at, Hp.get_set_at, Hp.set_next, Hp.alloc_next, Option.some_ne_none, V.tup.injEq, Option.isSome_some, Option.isSome_none, exists_eq_left, exists_eq, Nat.mul_zero, e1], a, s.rd.length, f, by simp (disch := (first | omega | (simp only [Hp.alloc_next, Hp.set_next] <;> omega) | (simp (disch := (first | omega | (simp only [Hp.alloc_next, Hp.set_next] <;> omega) | fail)) only [Hp.get_set_self, Hp.get_set_ne, Hp.get_alloc_self, Hp.get_alloc_ne, Hp.get_alloc_at, Hp.get_set_at, Hp.set_next, Hp.alloc_next, e1]; done) | fail)) only [Hp.st, Hp.ld, Hp.lda, splice, ble_eq', if_true, if_false, ite_true, ite_false, cond_true, cond_false, decide_true, decide_false, List.length_cons, List.length_nil, List.take_zero, List.take_succ_cons, List.nil_append, List.cons_append, List.append_nil, List.drop_succ_cons, List.drop_zero, List.drop_nil, List.getElem?_cons_succ, List.getElem?_cons_zero, Nat.reduceAdd, Nat.reduceLeDiff, Nat.reduceEqDiff, Nat.zero_add, Nat.add_zero, Nat.le_refl, Nat.zero_le, Nat.succ_ne_self, Nat.mul_one, Int.toNat_natCast, Option.some.injEq, Option.isNone_some, Option.isNone_none, V.int.injEq, V.str.injEq, V.bool.injEq, V.ptr.injEq, V.slc.injEq, V.map.injEq, V.agg.injEq, V.tup.injEq, List.cons.injEq, Prod.mk.injEq, onS, true_and, and_true, and_assoc, exists_and_left, exists_eq_left', forall_eq, heq_eq_eq, reduceCtorEq, Bool.not_true, Bool.not_false, eq_self, not_false_eq_true, Nat.left_eq_add, Nat.add_eq_left, Nat.add_left_cancel_iff, Nat.add_right_cancel_iff, Nat.reduceEqDiff, Nat.one_ne_zero, Hp.get_set_self, Hp.get_set_ne, Hp.get_alloc_self, Hp.get_alloc_ne, Hp.get_alloc_at, Hp.get_set_at, Hp.set_next, Hp.alloc_next, Option.some_ne_none, V.tup.injEq, Option.isSome_some, Option.isSome_none, exists_eq_left, exists_eq, Nat.mul_zero, e1], ?_⟩
  rw [wr (by omega) (by omega)]
  exact ⟨rfl, rfl⟩

theorem ended_spec (r : InR i s h F) : XCalls Try.prog 32 [.ptr (some (i, 0))] h fun v h' => v = .bool (s.fin && (s.en == s.nx && ((s.rd.length : Int) == 0))) ∧ h' = h := by
  obtain ⟨m, a, f, o, G, e1, e2, e3, e4, e5, e6⟩ := r
  apply x32; unfold X32
  refine ⟨s.fin, by simp (disch := (first | omega | (simp only [Hp.alloc_next, Hp.set_next] <;> omega) | (simp (disch := (first | omega | (simp only [Hp.alloc_next, Hp.set_next] <;> omega) | fail)) only [Hp.get_set_self, Hp.get_set_ne, Hp.get_alloc_self, Hp.get_alloc_ne, Hp.get_alloc_at, Hp.get_set_at, Hp.set_next, Hp.alloc_next, e1]; done) | fail)) only [Hp.st, Hp.ld, Hp.lda, splice, ble_eq', if_true, if_false, ite_true, ite_false, cond_true, cond_false, decide_true, decide_false, List.length_cons, List.length_nil, List.take_zero, List.take_succ_cons, List.nil_append, List.cons_append, List.append_nil, List.drop_succ_cons, List.drop_zero, List.drop_nil, List.getElem?_cons_succ, List.getElem?_cons_zero, Nat.reduceAdd, Nat.reduceLeDiff, Nat.reduceEqDiff, Nat.zero_add, Nat.add_zero, Nat.le_refl, Nat.zero_le, Nat.succ_ne_self, Nat.mul_one, Int.toNat_natCast, Option.some.injEq, Option.isNone_some, Option.isNone_none, V.int.injEq, V.str.injEq, V.bool.injEq, V.ptr.injEq, V.slc.injEq, V.map.injEq, V.agg.injEq, V.tup.injEq, List.cons.injEq, Prod.mk.injEq, onS, true_and, and_true, and_assoc, exists_and_left, exists_eq_left', forall_eq, heq_eq_eq, reduceCtorEq, Bool.not_true, Bool.not_false, eq_self, not_false_eq_true, Nat.left_eq_add, Nat.add_eq_left, Nat.add_left_cancel_iff, Nat.add_right_cancel_iff, Nat.reduceEqDiff, Nat.one_ne_zero, Hp.get_set_self, Hp.get_set_ne, Hp.get_alloc_self, Hp.get_alloc_ne, Hp.get_alloc_at, Hp.get_set_at, Hp.set_next, Hp.alloc_next, Option.some_ne_none, V.tup.injEq, Option.isSome_some, Option.isSome_none, exists_eq_left, exists_eq, Nat.mul_zero, e1], ?_⟩
  cases s.fin with
  | false => exact ⟨rfl, rfl⟩
  | true =>
    refine ⟨s.en, by simp (disch := (first | omega | (simp only [Hp.alloc_next, Hp.set_next] <;> omega) | (simp (disch := (first | omega | (simp only [Hp.alloc_next, Hp.set_next] <;> omega) | fail)) only [Hp.get_set_self, Hp.get_set_ne, Hp.get_alloc_self, Hp.get_alloc_ne, Hp.get_alloc_at, Hp.get_set_at, Hp.set_next, Hp.alloc_next, e1]; done) | fail)) only [Hp.st, Hp.ld, Hp.lda, splice, ble_eq', if_true, if_false, ite_true, ite_false, cond_true, cond_false, decide_true, decide_false, List.length_cons, List.length_nil, List.take_zero, List.take_succ_cons, List.nil_append, List.cons_append, List.append_nil, List.drop_succ_cons, List.drop_zero, List.drop_nil, List.getElem?_cons_succ, List.getElem?_cons_zero, Nat.reduceAdd, Nat.reduceLeDiff, Nat.reduceEqDiff, Nat.zero_add, Nat.add_zero, Nat.le_refl, Nat.zero_le, Nat.succ_ne_self, Nat.mul_one, Int.toNat_natCast, Option.some.injEq, Option.isNone_some, Option.isNone_none, V.int.injEq, V.str.injEq, V.bool.injEq, V.ptr.injEq, V.slc.injEq, V.map.injEq, V.agg.injEq, V.tup.injEq, List.cons.injEq, Prod.mk.injEq, onS, true_and, and_true, and_assoc, exists_and_left, exists_eq_left', forall_eq, heq_eq_eq, reduceCtorEq, Bool.not_true, Bool.not_false, eq_self, not_false_eq_true, Nat.left_eq_add, Nat.add_eq_left, Nat.add_left_cancel_iff, Nat.add_right_cancel_iff, Nat.reduceEqDiff, Nat.one_ne_zero, Hp.get_set_self, Hp.get_set_ne, Hp.get_alloc_self, Hp.get_alloc_ne, Hp.get_alloc_at, Hp.get_set_at, Hp.set_next, Hp.alloc_next, Option.some_ne_none, V.tup.injEq, Option.isSome_some, Option.isSome_none, exists_eq_left, exists_eq, Nat.mul_zero, e1], s.nx, by simp (disch := (first | omega | (simp only [Hp.alloc_next, Hp.set_next] <;> omega) | (simp (disch := (first | omega | (simp only [Hp.alloc_next, Hp.set_next] <;> omega) | fail)) only [Hp.get_set_self, Hp.get_set_ne, Hp.get_alloc_self, Hp.get_alloc_ne, Hp.get_alloc_at, Hp.get_set_at, Hp.set_next, Hp.alloc_next, e1]; done) | fail)) only [Hp.st, Hp.ld, Hp.lda, splice, ble_eq', if_true, if_false, ite_true, ite_false, cond_true, cond_false, decide_true, decide_false, List.length_cons, List.length_nil, List.take_zero, List.take_succ_cons, List.nil_append, List.cons_append, List.append_nil, List.drop_succ_cons, List.drop_zero, List.drop_nil, List.getElem?_cons_succ, List.getElem?_cons_zero, Nat.reduceAdd, Nat.reduceLeDiff, Nat.reduceEqDiff, Nat.zero_add, Nat.add_zero, Nat.le_refl, Nat.zero_le, Nat.succ_ne_self, Nat.mul_one, Int.toNat_natCast, Option.some.injEq, Option.isNone_some, Option.isNone_none, V.int.injEq, V.str.injEq, V.bool.injEq, V.ptr.injEq, V.slc.injEq, V.map.injEq, V.agg.injEq, V.tup.injEq, List.cons.injEq, Prod.mk.injEq, onS, true_and, and_true, and_assoc, exists_and_left, exists_eq_left', forall_eq, heq_eq_eq, reduceCtorEq, Bool.not_true, Bool.not_false, eq_self, not_false_eq_true, Nat.left_eq_add, Nat.add_eq_left, Nat.add_left_cancel_iff, Nat.add_right_cancel_iff, Nat.reduceEqDiff, Nat.one_ne_zero, Hp.get_set_self, Hp.get_set_ne, Hp.get_alloc_self, Hp.get_alloc_ne, Hp.get_alloc_at, Hp.get_set_at, Hp.set_next, Hp.alloc_next, Option.some_ne_none, V.tup.injEq, Option.isSome_some, Option.isSome_none, exists_eq_left, exists_eq, Nat.mul_zero, e1], ?_⟩
    cases s.en == s.nx with
    | false => exact ⟨rfl, rfl⟩
    | true => exact ⟨a, s.rd.length, f, by simp (disch := (first | omega | (simp only [Hp.alloc_next, Hp.set_next] <;> omega) | (simp (disch := (first | omega | (simp only [Hp.alloc_next, Hp.set_next] <;> omega) | fail)) only [Hp.get_set_self, Hp.get_set_ne, Hp.get_alloc_self, Hp.get_alloc_ne, Hp.get_alloc_at, Hp.get_set_at, Hp.set_next, Hp.alloc_next, e1]; done) | fail)) only [Hp.st, Hp.ld, Hp.lda, splice, ble_eq', if_true, if_false, ite_true, ite_false, cond_true, cond_false, decide_true, decide_false, List.length_cons, List.length_nil, List.take_zero, List.take_succ_cons, List.nil_append, List.cons_append, List.append_nil, List.drop_succ_cons, List.drop_zero, List.drop_nil, List.getElem?_cons_succ, List.getElem?_cons_zero, Nat.reduceAdd, Nat.reduceLeDiff, Nat.reduceEqDiff, Nat.zero_add, Nat.add_zero, Nat.le_refl, Nat.zero_le, Nat.succ_ne_self, Nat.mul_one, Int.toNat_natCast, Option.some.injEq, Option.isNone_some, Option.isNone_none, V.int.injEq, V.str.injEq, V.bool.injEq, V.ptr.injEq, V.slc.injEq, V.map.injEq, V.agg.injEq, V.tup.injEq, List.cons.injEq, Prod.mk.injEq, onS, true_and, and_true, and_assoc, exists_and_left, exists_eq_left', forall_eq, heq_eq_eq, reduceCtorEq, Bool.not_true, Bool.not_false, eq_self, not_false_eq_true, Nat.left_eq_add, Nat.add_eq_left, Nat.add_left_cancel_iff, Nat.add_right_cancel_iff, Nat.reduceEqDiff, Nat.one_ne_zero, Hp.get_set_self, Hp.get_set_ne, Hp.get_alloc_self, Hp.get_alloc_ne, Hp.get_alloc_at, Hp.get_set_at, Hp.set_next, Hp.alloc_next, Option.some_ne_none, V.tup.injEq, Option.isSome_some, Option.isSome_none, exists_eq_left, exists_eq, Nat.mul_zero, e1], rfl, rfl⟩

theorem own_nil {a : Option (Nat × Nat)} {n : Nat} {rows : List (List V)} {G : List Nat} (o : Own 1 a n rows h G) : a ≠ none ∨ n = 0 := by
  obtain ⟨h1, h2, h3⟩ := o
  cases a with
  | none => obtain ⟨rfl, _⟩ := h3; right; simpa using h1.symm
  | some p => left; simp

theorem bRows_len (l : List UInt8) : (bRows l).length = l.length := by simp [bRows]

theorem read_spec (hw : h.wf) (r : InR i s h F) (n : Int) : XCalls Try.prog 26 [.ptr (some (i, 0)), .int .i64 n] h fun v h' => ∃ k : Nat, (k : Int) = min (max n 0) s.rd.length ∧ v = .str (s.rd.take k) ∧ InR i { s with rd := s.rd.drop k } h' F ∧ Upd h h' F F ∧ h'.wf := by
  obtain ⟨m, a, f, o, G, e1, e2, e3, e4, rfl, d1, d2, d3⟩ := r
  refine XCalls.cps fun K hK => ?_
  apply x26; unfold X26
  obtain ⟨k, hk, hkl⟩ : ∃ k : Nat, (bif ltI (↑s.rd.length) (bif ltI n 0 then 0 else n) then (↑s.rd.length) else bif ltI n 0 then 0 else n) = (k : Int) ∧ k ≤ s.rd.length ∧ (k : Int) = min (max n 0) s.rd.length := by
    by_cases h0 : n < 0
    · have c : ltI n 0 = true := by rw [ltI_eq, decide_eq_true_eq]; exact h0
      have c2 : ltI (↑s.rd.length) 0 = false := by rw [ltI_eq, decide_eq_false_iff_not]; omega
      rw [c, cond_true, c2]
      exact ⟨0, rfl, by omega, by omega⟩
    · have c : ltI n 0 = false := by rw [ltI_eq, decide_eq_false_iff_not]; exact h0
      rw [c, cond_false]
      by_cases h1 : (s.rd.length : Int) < n
      · have c2 : ltI (↑s.rd.length) n = true := by rw [ltI_eq, decide_eq_true_eq]; exact h1
        rw [c2]; exact ⟨s.rd.length, rfl, by omega, by omega⟩
      · have c2 : ltI (↑s.rd.length) n = false := by rw [ltI_eq, decide_eq_false_iff_not]; exact h1
        rw [c2]; exact ⟨n.toNat, by simp only [cond_false]; omega, by omega, by omega⟩
  have h0 := own_nil e4
  obtain ⟨ti, ht, hd⟩ := t68
  obtain ⟨ei, he, ed, es, _⟩ := t5
  have hx := Own.text (f := f) e4 (Nat.zero_le k) hkl.1 h0
  obtain ⟨a2, n2, f2, hx2, hc2⟩ := hx
  have hx2' : xslice T h 68 (.slc a s.rd.length f) none (some (.int .i64 k)) none = some (.slc a2 n2 f2) := by
    have e : xslice T h 68 (.slc a s.rd.length f) none (some (.int .i64 k)) none = xslice T h 68 (.slc a s.rd.length f) (some (.int .i64 ((0 : Nat) : Int))) (some (.int .i64 k)) none := by
      simp only [xslice, bnd]; rfl
    rw [e]; exact hx2
  obtain ⟨a3, f3, hx3, ho3⟩ := e4.tail (T := T) (t := 68) (f := f) (κ := .i64) ht hd he es hkl.1 (h0.imp id fun e => ⟨e, by omega⟩)
  refine ⟨a, s.rd.length, f, by simp (disch := (first | omega | (simp only [Hp.alloc_next, Hp.set_next] <;> omega) | (simp (disch := (first | omega | (simp only [Hp.alloc_next, Hp.set_next] <;> omega) | fail)) only [Hp.get_set_self, Hp.get_set_ne, Hp.get_alloc_self, Hp.get_alloc_ne, Hp.get_alloc_at, Hp.get_set_at, Hp.set_next, Hp.alloc_next, e1]; done) | fail)) only [Hp.st, Hp.ld, Hp.lda, splice, ble_eq', if_true, if_false, ite_true, ite_false, cond_true, cond_false, decide_true, decide_false, List.length_cons, List.length_nil, List.take_zero, List.take_succ_cons, List.nil_append, List.cons_append, List.append_nil, List.drop_succ_cons, List.drop_zero, List.drop_nil, List.getElem?_cons_succ, List.getElem?_cons_zero, Nat.reduceAdd, Nat.reduceLeDiff, Nat.reduceEqDiff, Nat.zero_add, Nat.add_zero, Nat.le_refl, Nat.zero_le, Nat.succ_ne_self, Nat.mul_one, Int.toNat_natCast, Option.some.injEq, Option.isNone_some, Option.isNone_none, V.int.injEq, V.str.injEq, V.bool.injEq, V.ptr.injEq, V.slc.injEq, V.map.injEq, V.agg.injEq, V.tup.injEq, List.cons.injEq, Prod.mk.injEq, onS, true_and, and_true, and_assoc, exists_and_left, exists_eq_left', forall_eq, heq_eq_eq, reduceCtorEq, Bool.not_true, Bool.not_false, eq_self, not_false_eq_true, Nat.left_eq_add, Nat.add_eq_left, Nat.add_left_cancel_iff, Nat.add_right_cancel_iff, Nat.reduceEqDiff, Nat.one_ne_zero, Hp.get_set_self, Hp.get_set_ne, Hp.get_alloc_self, Hp.get_alloc_ne, Hp.get_alloc_at, Hp.get_set_at, Hp.set_next, Hp.alloc_next, Option.some_ne_none, V.tup.injEq, Option.isSome_some, Option.isSome_none, exists_eq_left, exists_eq, Nat.mul_zero, e1], a, s.rd.length, f, by simp (disch := (first | omega | (simp only [Hp.alloc_next, Hp.set_next] <;> omega) | (simp (disch := (first | omega | (simp only [Hp.alloc_next, Hp.set_next] <;> omega) | fail)) only [Hp.get_set_self, Hp.get_set_ne, Hp.get_alloc_self, Hp.get_alloc_ne, Hp.get_alloc_at, Hp.get_set_at, Hp.set_next, Hp.alloc_next, e1]; done) | fail)) only [Hp.st, Hp.ld, Hp.lda, splice, ble_eq', if_true, if_false, ite_true, ite_false, cond_true, cond_false, decide_true, decide_false, List.length_cons, List.length_nil, List.take_zero, List.take_succ_cons, List.nil_append, List.cons_append, List.append_nil, List.drop_succ_cons, List.drop_zero, List.drop_nil, List.getElem?_cons_succ, List.getElem?_cons_zero, Nat.reduceAdd, Nat.reduceLeDiff, Nat.reduceEqDiff, Nat.zero_add, Nat.add_zero, Nat.le_refl, Nat.zero_le, Nat.succ_ne_self, Nat.mul_one, Int.toNat_natCast, Option.some.injEq, Option.isNone_some, Option.isNone_none, V.int.injEq, V.str.injEq, V.bool.injEq, V.ptr.injEq, V.slc.injEq, V.map.injEq, V.agg.injEq, V.tup.injEq, List.cons.injEq, Prod.mk.injEq, onS, true_and, and_true, and_assoc, exists_and_left, exists_eq_left', forall_eq, heq_eq_eq, reduceCtorEq, Bool.not_true, Bool.not_false, eq_self, not_false_eq_true, Nat.left_eq_add, Nat.add_eq_left, Nat.add_left_cancel_iff, Nat.add_right_cancel_iff, Nat.reduceEqDiff, Nat.one_ne_zero, Hp.get_set_self, Hp.get_set_ne, Hp.get_alloc_self, Hp.get_alloc_ne, Hp.get_alloc_at, Hp.get_set_at, Hp.set_next, Hp.alloc_next, Option.some_ne_none, V.tup.injEq, Option.isSome_some, Option.isSome_none, exists_eq_left, exists_eq, Nat.mul_zero, e1], a2, n2, f2, by rw [hk]; exact hx2', _, hc2, a, s.rd.length, f, by simp (disch := (first | omega | (simp only [Hp.alloc_next, Hp.set_next] <;> omega) | (simp (disch := (first | omega | (simp only [Hp.alloc_next, Hp.set_next] <;> omega) | fail)) only [Hp.get_set_self, Hp.get_set_ne, Hp.get_alloc_self, Hp.get_alloc_ne, Hp.get_alloc_at, Hp.get_set_at, Hp.set_next, Hp.alloc_next, e1]; done) | fail)) only [Hp.st, Hp.ld, Hp.lda, splice, ble_eq', if_true, if_false, ite_true, ite_false, cond_true, cond_false, decide_true, decide_false, List.length_cons, List.length_nil, List.take_zero, List.take_succ_cons, List.nil_append, List.cons_append, List.append_nil, List.drop_succ_cons, List.drop_zero, List.drop_nil, List.getElem?_cons_succ, List.getElem?_cons_zero, Nat.reduceAdd, Nat.reduceLeDiff, Nat.reduceEqDiff, Nat.zero_add, Nat.add_zero, Nat.le_refl, Nat.zero_le, Nat.succ_ne_self, Nat.mul_one, Int.toNat_natCast, Option.some.injEq, Option.isNone_some, Option.isNone_none, V.int.injEq, V.str.injEq, V.bool.injEq, V.ptr.injEq, V.slc.injEq, V.map.injEq, V.agg.injEq, V.tup.injEq, List.cons.injEq, Prod.mk.injEq, onS, true_and, and_true, and_assoc, exists_and_left, exists_eq_left', forall_eq, heq_eq_eq, reduceCtorEq, Bool.not_true, Bool.not_false, eq_self, not_false_eq_true, Nat.left_eq_add, Nat.add_eq_left, Nat.add_left_cancel_iff, Nat.add_right_cancel_iff, Nat.reduceEqDiff, Nat.one_ne_zero, Hp.get_set_self, Hp.get_set_ne, Hp.get_alloc_self, Hp.get_alloc_ne, Hp.get_alloc_at, Hp.get_set_at, Hp.set_next, Hp.alloc_next, Option.some_ne_none, V.tup.injEq, Option.isSome_some, Option.isSome_none, exists_eq_left, exists_eq, Nat.mul_zero, e1], a3, _, f3, by rw [hk]; exact hx3, _, Hp.st_of e1 (Nat.le_of_ble_eq_true rfl), ?_⟩
  rw [Nat.sub_zero, List.drop_zero]
  have hlen : (s.rd.drop k).length = s.rd.length - k := by simp
  refine hK _ _ ⟨k, hkl.2, rfl, ⟨m, a3, f3, o, G, ?_, by rw [Hp.get_set_ne (Ne.symm d1)]; exact e2, e3, ?_, rfl, d1, d2, d3⟩, ⟨fun j hj hF => ?_, fun j hj => .inl hj, by simp⟩, hw.set (hw.lt e1)⟩
  · rw [Hp.get_set_self, hlen]; rfl
  · rw [hlen]
    have : bRows (s.rd.drop k) = (bRows s.rd).drop k := by simp [bRows, List.map_drop]
    rw [this]
    exact (Own.rep _ _ _ _).loc _ _ _ (fun j hj => Hp.get_set_ne fun e => d2 (e ▸ hj)) ho3
  · simp only [List.mem_cons, not_or] at hF
    rw [Hp.get_set_ne hF.1]
end

/-! ### a stream comes -/

structure SI (S : List UInt8) (fr : Int) (most : Nat) (N g lo : Nat) (s : IS) : Prop where
  nx : s.nx = (fr + N) % 4294967296
  rd : s.rd = (S.take N).drop g
  gN : g ≤ N
  NS : N ≤ S.length
  rl : N ≤ g + most
  mo : s.most = most
  far : ∀ x ∈ s.A, ∃ (j : Nat) (b : UInt8), lo ≤ j ∧ j < g + most ∧ x.1 = (fr + j) % 4294967296 ∧ S[j]? = some b ∧ x.2 = b.toNat
  nA : (s.A.map Prod.fst).Nodup
  en : s.fin = true → s.en = (fr + S.length) % 4294967296

section
variable {S : List UInt8} {fr : Int} {most N g lo : Nat} {s : IS}

theorem SI.len (i : SI S fr most N g lo s) : s.rd.length = N - g := by
  rw [i.rd, List.length_drop, List.length_take, Nat.min_eq_left i.NS]

theorem SI.weak {lo' : Nat} (i : SI S fr most N g lo s) (h : lo' ≤ lo) : SI S fr most N g lo' s :=
  ⟨i.nx, i.rd, i.gN, i.NS, i.rl, i.mo, fun x hx => by obtain ⟨j, b, h1, h2⟩ := i.far x hx; exact ⟨j, b, by omega, h2⟩, i.nA, i.en⟩

theorem mod_inj {fr : Int} {j k : Nat} (hj : j < 65536) (hk : k < 65536) (h : (fr + j) % 4294967296 = (fr + k) % 4294967296) : j = k := by omega

/-- the next byte comes to what is ready -/
theorem SI.push (i : SI S fr most N g lo s) {b : UInt8} (hb : S[N]? = some b) (hl : N < g + most) {A' : List (Int × Int)} (hA : ∀ x ∈ A', ∃ (j : Nat) (b : UInt8), N + 1 ≤ j ∧ j < g + most ∧ x.1 = (fr + j) % 4294967296 ∧ S[j]? = some b ∧ x.2 = b.toNat) (hn : (A'.map Prod.fst).Nodup) (rows : Int) :
    SI S fr most (N + 1) g (N + 1) ⟨(s.nx + 1) % 4294967296, s.rd ++ [b], A', rows, s.most, s.fin, s.en⟩ := by
  obtain ⟨hNl, e⟩ := List.getElem?_eq_some_iff.1 hb
  have := i.gN
  refine ⟨?_, ?_, by omega, hNl, by omega, i.mo, hA, hn, i.en⟩
  · show (s.nx + 1) % 4294967296 = _
    rw [i.nx]; omega
  · show s.rd ++ [b] = _
    rw [i.rd, List.take_succ_eq_append_getElem hNl, e, List.drop_append_of_le_length (by rw [List.length_take]; omega)]
end

theorem tb : ∃ ti, T 68 = some ti ∧ ti.d = .slc 5 := ⟨_, rfl, rfl⟩
theorem te : ∃ ei, T 5 = some ei ∧ ei.size = 1 ∧ ei.bytes = 1 ∧ zok ei = true := ⟨_, rfl, rfl, rfl, rfl⟩

/-- 'append(ready, c)' -/
theorem app_spec {a : Option (Nat × Nat)} {f : Bool} {l : List UInt8} {g : Hp} {G : List Nat} {b : UInt8} (ho : Own 1 a l.length (bRows l) g G) (hw : g.wf) (hl : l.length ≤ 100000) :
    ∃ h', xapp T (g.alloc (.row [.int .u8 b.toNat] 1 false)) 68 68 (.slc a l.length f) (.slc (some (g.next, 0)) 1 true) = some (.slc (some (g.next + 1, 0)) (l.length + 1) false, h') ∧
      Own 1 (some (g.next + 1, 0)) (l.length + 1) (bRows (l ++ [b])) h' [g.next + 1] ∧ Upd g h' G [g.next + 1] ∧ h'.wf := by
  have q := Quiet.alloc hw (.row [.int .u8 b.toNat] 1 false)
  have ho' := (Own.rep _ _ _ _).stay hw ho q.same
  have hc : (g.alloc (.row [.int .u8 b.toNat] 1 false)).get g.next = some (.row [.int .u8 b.toNat] 1 false) := Hp.get_alloc_self
  obtain ⟨ti, ht, hd⟩ := tb
  obtain ⟨ei, he, hs, hb, hz⟩ := te
  have hud : ∀ k, ti.d ≠ .int k := fun k e => by rw [hd] at e; cases e
  obtain ⟨h', hx, ho2, u, wf⟩ := ho'.app (f := f) q.wf ht hd ht hud he hs (by omega) hz (news := [bRow b]) (xnews_one hc rfl) (by simp [bRow]) (by simp) (by rw [hb]; simp only [List.length_singleton]; omega) (by simp; omega)
  refine ⟨h', hx, ?_, (q.upd _).trans u, wf⟩
  have : bRows (l ++ [b]) = bRows l ++ [bRow b] := by simp [bRows]
  rw [this]; exact ho2

theorem takes_spec {S : List UInt8} {fr : Int} {most N g : Nat} {s : IS} {h : Hp} {i : Nat} {F : List Nat} {j : Nat} {b : UInt8} (hS : S.length ≤ 4096) (hm : 1 ≤ most ∧ most ≤ 16384) (hw : h.wf) (r : InR i s h F) (si : SI S fr most N g (N + 1) s) (hj : N ≤ j) (hb : S[j]? = some b) :
    XCalls Try.prog 43 [.ptr (some (i, 0)), .int .u32 ((fr + j) % 4294967296), .int .u8 b.toNat] h fun v h' => ∃ t s' N' F', v = .bool t ∧ InR i s' h' F' ∧ SI S fr most N' g N' s' ∧ N ≤ N' ∧ s'.fin = s.fin ∧ Upd h h' F F' ∧ h'.wf ∧ (j = N → N < g + most → s.fin = false → t = true ∧ N' = N + 1) := by
  have hjl := (List.getElem?_eq_some_iff.1 hb).1
  have hlen := si.len
  have hgN := si.gN
  have hNS := si.NS
  have hrl := si.rl
  have hmo := si.mo
  refine XCalls.cps fun K hK => ?_
  have r0 := r
  obtain ⟨m, a, f, o, G, e1, e2, e3, e4, hF, d1, d2, d3⟩ := r
  have hnone : ∀ k : Nat, k < 65536 → (mget s.A ((fr + k) % 4294967296)).isSome = true → N + 1 ≤ k := fun k hk hh => by
    obtain ⟨x, hx, hxe⟩ := mget_isSome.1 hh
    obtain ⟨j', b', h1, h2, h3, h4, h5⟩ := si.far x hx
    have hj' := (List.getElem?_eq_some_iff.1 h4).1
    have := mod_inj (fr := fr) (j := j') (k := k) (by omega) hk (by rw [← h3, hxe])
    omega
  have stay : ¬ (j = N ∧ N < g + most ∧ s.fin = false) → K (.bool false) h := fun hno => hK _ _ ⟨false, s, N, F, rfl, r0, si.weak (by omega), Nat.le_refl _, rfl, Upd.refl _ _, hw, fun h1 h2 h3 => absurd ⟨h1, h2, h3⟩ hno⟩
  apply x43; unfold X43
  have hd : IntKind.u32.wrap ((fr + j) % 4294967296 - s.nx) = ((j - N : Nat) : Int) := by rw [u32w, si.nx]; omega
  refine ⟨s.nx, by simp (disch := (first | omega | (simp only [Hp.alloc_next, Hp.set_next] <;> omega) | (simp (disch := (first | omega | (simp only [Hp.alloc_next, Hp.set_next] <;> omega) | fail)) only [Hp.get_set_self, Hp.get_set_ne, Hp.get_alloc_self, Hp.get_alloc_ne, Hp.get_alloc_at, Hp.get_set_at, Hp.set_next, Hp.alloc_next, e1]; done) | fail)) only [Hp.st, Hp.ld, Hp.lda, splice, ble_eq', if_true, if_false, ite_true, ite_false, cond_true, cond_false, decide_true, decide_false, List.length_cons, List.length_nil, List.take_zero, List.take_succ_cons, List.nil_append, List.cons_append, List.append_nil, List.drop_succ_cons, List.drop_zero, List.drop_nil, List.getElem?_cons_succ, List.getElem?_cons_zero, Nat.reduceAdd, Nat.reduceLeDiff, Nat.reduceEqDiff, Nat.zero_add, Nat.add_zero, Nat.le_refl, Nat.zero_le, Nat.succ_ne_self, Nat.mul_one, Int.toNat_natCast, Option.some.injEq, Option.isNone_some, Option.isNone_none, V.int.injEq, V.str.injEq, V.bool.injEq, V.ptr.injEq, V.slc.injEq, V.map.injEq, V.agg.injEq, V.tup.injEq, List.cons.injEq, Prod.mk.injEq, onS, true_and, and_true, and_assoc, exists_and_left, exists_eq_left', forall_eq, heq_eq_eq, reduceCtorEq, Bool.not_true, Bool.not_false, eq_self, not_false_eq_true, Nat.left_eq_add, Nat.add_eq_left, Nat.add_left_cancel_iff, Nat.add_right_cancel_iff, Nat.reduceEqDiff, Nat.one_ne_zero, Hp.get_set_self, Hp.get_set_ne, Hp.get_alloc_self, Hp.get_alloc_ne, Hp.get_alloc_at, Hp.get_set_at, Hp.set_next, Hp.alloc_next, Option.some_ne_none, V.tup.injEq, Option.isSome_some, Option.isSome_none, exists_eq_left, exists_eq, Nat.mul_zero, e1], fun vs h' => match vs with
    | [] => h' = h ∧ (mget s.A ((fr + j) % 4294967296)).isSome = false ∧ j < g + most
    | _ => False, ?_, ?_⟩
  · refine (window_spec r0 (by omega)).mono ?_
    rintro _ h1 ⟨rfl, rfl⟩
    rw [hd]
    have hwin : IntKind.u32.wrap (s.most - s.rd.length) = s.most - s.rd.length := by rw [u32w]; omega
    refine ⟨_, rfl, rfl, ?_⟩
    rw [hwin]
    cases c1 : ltI ((j - N : Nat) : Int) (s.most - s.rd.length) with
    | false =>
      rw [ltI_eq, decide_eq_false_iff_not] at c1
      exact stay (by rintro ⟨a1, a2, a3⟩; omega)
    | true =>
      rw [ltI_eq, decide_eq_true_eq] at c1
      have c2 : ltI ((j - N : Nat) : Int) 2147483648 = true := by rw [ltI_eq, decide_eq_true_eq]; omega
      rw [c2]
      refine ⟨s.fin, by simp (disch := (first | omega | (simp only [Hp.alloc_next, Hp.set_next] <;> omega) | (simp (disch := (first | omega | (simp only [Hp.alloc_next, Hp.set_next] <;> omega) | fail)) only [Hp.get_set_self, Hp.get_set_ne, Hp.get_alloc_self, Hp.get_alloc_ne, Hp.get_alloc_at, Hp.get_set_at, Hp.set_next, Hp.alloc_next, e1]; done) | fail)) only [Hp.st, Hp.ld, Hp.lda, splice, ble_eq', if_true, if_false, ite_true, ite_false, cond_true, cond_false, decide_true, decide_false, List.length_cons, List.length_nil, List.take_zero, List.take_succ_cons, List.nil_append, List.cons_append, List.append_nil, List.drop_succ_cons, List.drop_zero, List.drop_nil, List.getElem?_cons_succ, List.getElem?_cons_zero, Nat.reduceAdd, Nat.reduceLeDiff, Nat.reduceEqDiff, Nat.zero_add, Nat.add_zero, Nat.le_refl, Nat.zero_le, Nat.succ_ne_self, Nat.mul_one, Int.toNat_natCast, Option.some.injEq, Option.isNone_some, Option.isNone_none, V.int.injEq, V.str.injEq, V.bool.injEq, V.ptr.injEq, V.slc.injEq, V.map.injEq, V.agg.injEq, V.tup.injEq, List.cons.injEq, Prod.mk.injEq, onS, true_and, and_true, and_assoc, exists_and_left, exists_eq_left', forall_eq, heq_eq_eq, reduceCtorEq, Bool.not_true, Bool.not_false, eq_self, not_false_eq_true, Nat.left_eq_add, Nat.add_eq_left, Nat.add_left_cancel_iff, Nat.add_right_cancel_iff, Nat.reduceEqDiff, Nat.one_ne_zero, Hp.get_set_self, Hp.get_set_ne, Hp.get_alloc_self, Hp.get_alloc_ne, Hp.get_alloc_at, Hp.get_set_at, Hp.set_next, Hp.alloc_next, Option.some_ne_none, V.tup.injEq, Option.isSome_some, Option.isSome_none, exists_eq_left, exists_eq, Nat.mul_zero, e1], ?_⟩
      have hash : ∀ (Q : Prop), ((mget s.A ((fr + j) % 4294967296)).isSome = false → Q) → XCalls Try.prog 48 [.ptr (some (i, 0)), .int .u32 ((fr + j) % 4294967296)] h1 fun v2 h2 => ∃ n6, v2 = .int .i64 n6 ∧ bif n6 == 1 then K (.bool false) h2 else (h2 = h1 ∧ Q) := fun Q hQ => by
        refine (has_spec r0 _).mono ?_
        rintro _ h2 ⟨rfl, rfl⟩
        cases hh : (mget s.A ((fr + j) % 4294967296)).isSome with
        | true =>
          refine ⟨1, rfl, stay ?_⟩
          rintro ⟨rfl, _, _⟩
          have := hnone j (by omega) hh; omega
        | false => exact ⟨0, rfl, rfl, hQ hh⟩
      cases hfin : s.fin with
      | true =>
        refine ⟨s.nx, by simp (disch := (first | omega | (simp only [Hp.alloc_next, Hp.set_next] <;> omega) | (simp (disch := (first | omega | (simp only [Hp.alloc_next, Hp.set_next] <;> omega) | fail)) only [Hp.get_set_self, Hp.get_set_ne, Hp.get_alloc_self, Hp.get_alloc_ne, Hp.get_alloc_at, Hp.get_set_at, Hp.set_next, Hp.alloc_next, e1]; done) | fail)) only [Hp.st, Hp.ld, Hp.lda, splice, ble_eq', if_true, if_false, ite_true, ite_false, cond_true, cond_false, decide_true, decide_false, List.length_cons, List.length_nil, List.take_zero, List.take_succ_cons, List.nil_append, List.cons_append, List.append_nil, List.drop_succ_cons, List.drop_zero, List.drop_nil, List.getElem?_cons_succ, List.getElem?_cons_zero, Nat.reduceAdd, Nat.reduceLeDiff, Nat.reduceEqDiff, Nat.zero_add, Nat.add_zero, Nat.le_refl, Nat.zero_le, Nat.succ_ne_self, Nat.mul_one, Int.toNat_natCast, Option.some.injEq, Option.isNone_some, Option.isNone_none, V.int.injEq, V.str.injEq, V.bool.injEq, V.ptr.injEq, V.slc.injEq, V.map.injEq, V.agg.injEq, V.tup.injEq, List.cons.injEq, Prod.mk.injEq, onS, true_and, and_true, and_assoc, exists_and_left, exists_eq_left', forall_eq, heq_eq_eq, reduceCtorEq, Bool.not_true, Bool.not_false, eq_self, not_false_eq_true, Nat.left_eq_add, Nat.add_eq_left, Nat.add_left_cancel_iff, Nat.add_right_cancel_iff, Nat.reduceEqDiff, Nat.one_ne_zero, Hp.get_set_self, Hp.get_set_ne, Hp.get_alloc_self, Hp.get_alloc_ne, Hp.get_alloc_at, Hp.get_set_at, Hp.set_next, Hp.alloc_next, Option.some_ne_none, V.tup.injEq, Option.isSome_some, Option.isSome_none, exists_eq_left, exists_eq, Nat.mul_zero, e1], s.en, by simp (disch := (first | omega | (simp only [Hp.alloc_next, Hp.set_next] <;> omega) | (simp (disch := (first | omega | (simp only [Hp.alloc_next, Hp.set_next] <;> omega) | fail)) only [Hp.get_set_self, Hp.get_set_ne, Hp.get_alloc_self, Hp.get_alloc_ne, Hp.get_alloc_at, Hp.get_set_at, Hp.set_next, Hp.alloc_next, e1]; done) | fail)) only [Hp.st, Hp.ld, Hp.lda, splice, ble_eq', if_true, if_false, ite_true, ite_false, cond_true, cond_false, decide_true, decide_false, List.length_cons, List.length_nil, List.take_zero, List.take_succ_cons, List.nil_append, List.cons_append, List.append_nil, List.drop_succ_cons, List.drop_zero, List.drop_nil, List.getElem?_cons_succ, List.getElem?_cons_zero, Nat.reduceAdd, Nat.reduceLeDiff, Nat.reduceEqDiff, Nat.zero_add, Nat.add_zero, Nat.le_refl, Nat.zero_le, Nat.succ_ne_self, Nat.mul_one, Int.toNat_natCast, Option.some.injEq, Option.isNone_some, Option.isNone_none, V.int.injEq, V.str.injEq, V.bool.injEq, V.ptr.injEq, V.slc.injEq, V.map.injEq, V.agg.injEq, V.tup.injEq, List.cons.injEq, Prod.mk.injEq, onS, true_and, and_true, and_assoc, exists_and_left, exists_eq_left', forall_eq, heq_eq_eq, reduceCtorEq, Bool.not_true, Bool.not_false, eq_self, not_false_eq_true, Nat.left_eq_add, Nat.add_eq_left, Nat.add_left_cancel_iff, Nat.add_right_cancel_iff, Nat.reduceEqDiff, Nat.one_ne_zero, Hp.get_set_self, Hp.get_set_ne, Hp.get_alloc_self, Hp.get_alloc_ne, Hp.get_alloc_at, Hp.get_set_at, Hp.set_next, Hp.alloc_next, Option.some_ne_none, V.tup.injEq, Option.isSome_some, Option.isSome_none, exists_eq_left, exists_eq, Nat.mul_zero, e1], s.nx, by simp (disch := (first | omega | (simp only [Hp.alloc_next, Hp.set_next] <;> omega) | (simp (disch := (first | omega | (simp only [Hp.alloc_next, Hp.set_next] <;> omega) | fail)) only [Hp.get_set_self, Hp.get_set_ne, Hp.get_alloc_self, Hp.get_alloc_ne, Hp.get_alloc_at, Hp.get_set_at, Hp.set_next, Hp.alloc_next, e1]; done) | fail)) only [Hp.st, Hp.ld, Hp.lda, splice, ble_eq', if_true, if_false, ite_true, ite_false, cond_true, cond_false, decide_true, decide_false, List.length_cons, List.length_nil, List.take_zero, List.take_succ_cons, List.nil_append, List.cons_append, List.append_nil, List.drop_succ_cons, List.drop_zero, List.drop_nil, List.getElem?_cons_succ, List.getElem?_cons_zero, Nat.reduceAdd, Nat.reduceLeDiff, Nat.reduceEqDiff, Nat.zero_add, Nat.add_zero, Nat.le_refl, Nat.zero_le, Nat.succ_ne_self, Nat.mul_one, Int.toNat_natCast, Option.some.injEq, Option.isNone_some, Option.isNone_none, V.int.injEq, V.str.injEq, V.bool.injEq, V.ptr.injEq, V.slc.injEq, V.map.injEq, V.agg.injEq, V.tup.injEq, List.cons.injEq, Prod.mk.injEq, onS, true_and, and_true, and_assoc, exists_and_left, exists_eq_left', forall_eq, heq_eq_eq, reduceCtorEq, Bool.not_true, Bool.not_false, eq_self, not_false_eq_true, Nat.left_eq_add, Nat.add_eq_left, Nat.add_left_cancel_iff, Nat.add_right_cancel_iff, Nat.reduceEqDiff, Nat.one_ne_zero, Hp.get_set_self, Hp.get_set_ne, Hp.get_alloc_self, Hp.get_alloc_ne, Hp.get_alloc_at, Hp.get_set_at, Hp.set_next, Hp.alloc_next, Option.some_ne_none, V.tup.injEq, Option.isSome_some, Option.isSome_none, exists_eq_left, exists_eq, Nat.mul_zero, e1], ?_⟩
        cases c3 : ltI (IntKind.u32.wrap ((fr + ↑j) % 4294967296 - s.nx)) (IntKind.u32.wrap (s.en - s.nx)) with
        | false => exact stay (by rw [hfin]; rintro ⟨_, _, h⟩; cases h)
        | true =>
          refine (hash (j < g + most ∧ (mget s.A ((fr + j) % 4294967296)).isSome = false) fun hh => ⟨by omega, hh⟩).mono ?_
          rintro _ h2 ⟨n6, rfl, hh⟩
          refine ⟨n6, rfl, ?_⟩
          cases hn6 : n6 == 1 with
          | true => rw [hn6] at hh; exact hh
          | false => rw [hn6] at hh; exact ⟨rfl, hh.1, hh.2.2, hh.2.1⟩
      | false =>
        refine (hash (j < g + most ∧ (mget s.A ((fr + j) % 4294967296)).isSome = false) fun hh => ⟨by omega, hh⟩).mono ?_
        rintro _ h2 ⟨n6, rfl, hh⟩
        refine ⟨n6, rfl, ?_⟩
        cases hn6 : n6 == 1 with
        | true => rw [hn6] at hh; exact hh
        | false => rw [hn6] at hh; exact ⟨rfl, hh.1, hh.2.2, hh.2.1⟩
  rintro bs h1 ⟨rfl, hh, hjm⟩
  rw [hd]
  have hil := hw.lt e1
  have hml := hw.lt e2
  have hGl : ∀ x ∈ G, x < h1.next := fun x hx => (Own.rep _ _ _ _).lt hw e4 hx
  by_cases hjN : j = N
  · have c : (((j - N : Nat) : Int) == 0) = true := by rw [beq_iff_eq]; omega
    rw [c]
    refine ⟨a, s.rd.length, f, by simp (disch := (first | omega | (simp only [Hp.alloc_next, Hp.set_next] <;> omega) | (simp (disch := (first | omega | (simp only [Hp.alloc_next, Hp.set_next] <;> omega) | fail)) only [Hp.get_set_self, Hp.get_set_ne, Hp.get_alloc_self, Hp.get_alloc_ne, Hp.get_alloc_at, Hp.get_set_at, Hp.set_next, Hp.alloc_next, e1]; done) | fail)) only [Hp.st, Hp.ld, Hp.lda, splice, ble_eq', if_true, if_false, ite_true, ite_false, cond_true, cond_false, decide_true, decide_false, List.length_cons, List.length_nil, List.take_zero, List.take_succ_cons, List.nil_append, List.cons_append, List.append_nil, List.drop_succ_cons, List.drop_zero, List.drop_nil, List.getElem?_cons_succ, List.getElem?_cons_zero, Nat.reduceAdd, Nat.reduceLeDiff, Nat.reduceEqDiff, Nat.zero_add, Nat.add_zero, Nat.le_refl, Nat.zero_le, Nat.succ_ne_self, Nat.mul_one, Int.toNat_natCast, Option.some.injEq, Option.isNone_some, Option.isNone_none, V.int.injEq, V.str.injEq, V.bool.injEq, V.ptr.injEq, V.slc.injEq, V.map.injEq, V.agg.injEq, V.tup.injEq, List.cons.injEq, Prod.mk.injEq, onS, true_and, and_true, and_assoc, exists_and_left, exists_eq_left', forall_eq, heq_eq_eq, reduceCtorEq, Bool.not_true, Bool.not_false, eq_self, not_false_eq_true, Nat.left_eq_add, Nat.add_eq_left, Nat.add_left_cancel_iff, Nat.add_right_cancel_iff, Nat.reduceEqDiff, Nat.one_ne_zero, Hp.get_set_self, Hp.get_set_ne, Hp.get_alloc_self, Hp.get_alloc_ne, Hp.get_alloc_at, Hp.get_set_at, Hp.set_next, Hp.alloc_next, Option.some_ne_none, V.tup.injEq, Option.isSome_some, Option.isSome_none, exists_eq_left, exists_eq, Nat.mul_zero, e1], s.nx, by simp (disch := (first | omega | (simp only [Hp.alloc_next, Hp.set_next] <;> omega) | (simp (disch := (first | omega | (simp only [Hp.alloc_next, Hp.set_next] <;> omega) | fail)) only [Hp.get_set_self, Hp.get_set_ne, Hp.get_alloc_self, Hp.get_alloc_ne, Hp.get_alloc_at, Hp.get_set_at, Hp.set_next, Hp.alloc_next, e1]; done) | fail)) only [Hp.st, Hp.ld, Hp.lda, splice, ble_eq', if_true, if_false, ite_true, ite_false, cond_true, cond_false, decide_true, decide_false, List.length_cons, List.length_nil, List.take_zero, List.take_succ_cons, List.nil_append, List.cons_append, List.append_nil, List.drop_succ_cons, List.drop_zero, List.drop_nil, List.getElem?_cons_succ, List.getElem?_cons_zero, Nat.reduceAdd, Nat.reduceLeDiff, Nat.reduceEqDiff, Nat.zero_add, Nat.add_zero, Nat.le_refl, Nat.zero_le, Nat.succ_ne_self, Nat.mul_one, Int.toNat_natCast, Option.some.injEq, Option.isNone_some, Option.isNone_none, V.int.injEq, V.str.injEq, V.bool.injEq, V.ptr.injEq, V.slc.injEq, V.map.injEq, V.agg.injEq, V.tup.injEq, List.cons.injEq, Prod.mk.injEq, onS, true_and, and_true, and_assoc, exists_and_left, exists_eq_left', forall_eq, heq_eq_eq, reduceCtorEq, Bool.not_true, Bool.not_false, eq_self, not_false_eq_true, Nat.left_eq_add, Nat.add_eq_left, Nat.add_left_cancel_iff, Nat.add_right_cancel_iff, Nat.reduceEqDiff, Nat.one_ne_zero, Hp.get_set_self, Hp.get_set_ne, Hp.get_alloc_self, Hp.get_alloc_ne, Hp.get_alloc_at, Hp.get_set_at, Hp.set_next, Hp.alloc_next, Option.some_ne_none, V.tup.injEq, Option.isSome_some, Option.isSome_none, exists_eq_left, exists_eq, Nat.mul_zero, e1], ?_⟩
    rintro h2 rfl
    have q2 := Quiet.alloc hw (.row [.int .u8 b.toNat] 1 false)
    have e1' : (h1.alloc (.row [.int .u8 b.toNat] 1 false)).get i = some (.row [.int .u32 s.nx, .slc a s.rd.length f, .map (some m), .int .i64 s.rows, .int .i64 s.most, .bool s.fin, .int .u32 s.en] 1 false) := by rw [q2.same _ hil]; exact e1
    obtain ⟨h3, hx3, ho3, u3, w3⟩ := app_spec (b := b) (f := f) e4 hw (by omega)
    have e3' : h3.get i = some (.row [.int .u32 s.nx, .slc a s.rd.length f, .map (some m), .int .i64 s.rows, .int .i64 s.most, .bool s.fin, .int .u32 s.en] 1 false) := by rw [u3.same _ hil d2]; exact e1
    have m3 : h3.get m = some o := by rw [u3.same _ hml d3]; exact e2
    have n3 := u3.le
    refine ⟨rfl, ⟨s.nx, by simp (disch := (first | omega | (simp only [Hp.alloc_next, Hp.set_next] <;> omega) | (simp (disch := (first | omega | (simp only [Hp.alloc_next, Hp.set_next] <;> omega) | fail)) only [Hp.get_set_self, Hp.get_set_ne, Hp.get_alloc_self, Hp.get_alloc_ne, Hp.get_alloc_at, Hp.get_set_at, Hp.set_next, Hp.alloc_next, e1']; done) | fail)) only [Hp.st, Hp.ld, Hp.lda, splice, ble_eq', if_true, if_false, ite_true, ite_false, cond_true, cond_false, decide_true, decide_false, List.length_cons, List.length_nil, List.take_zero, List.take_succ_cons, List.nil_append, List.cons_append, List.append_nil, List.drop_succ_cons, List.drop_zero, List.drop_nil, List.getElem?_cons_succ, List.getElem?_cons_zero, Nat.reduceAdd, Nat.reduceLeDiff, Nat.reduceEqDiff, Nat.zero_add, Nat.add_zero, Nat.le_refl, Nat.zero_le, Nat.succ_ne_self, Nat.mul_one, Int.toNat_natCast, Option.some.injEq, Option.isNone_some, Option.isNone_none, V.int.injEq, V.str.injEq, V.bool.injEq, V.ptr.injEq, V.slc.injEq, V.map.injEq, V.agg.injEq, V.tup.injEq, List.cons.injEq, Prod.mk.injEq, onS, true_and, and_true, and_assoc, exists_and_left, exists_eq_left', forall_eq, heq_eq_eq, reduceCtorEq, Bool.not_true, Bool.not_false, eq_self, not_false_eq_true, Nat.left_eq_add, Nat.add_eq_left, Nat.add_left_cancel_iff, Nat.add_right_cancel_iff, Nat.reduceEqDiff, Nat.one_ne_zero, Hp.get_set_self, Hp.get_set_ne, Hp.get_alloc_self, Hp.get_alloc_ne, Hp.get_alloc_at, Hp.get_set_at, Hp.set_next, Hp.alloc_next, Option.some_ne_none, V.tup.injEq, Option.isSome_some, Option.isSome_none, exists_eq_left, exists_eq, Nat.mul_zero, e1'], rfl⟩, rfl, rfl, rfl, ⟨a, s.rd.length, f, by simp (disch := (first | omega | (simp only [Hp.alloc_next, Hp.set_next] <;> omega) | (simp (disch := (first | omega | (simp only [Hp.alloc_next, Hp.set_next] <;> omega) | fail)) only [Hp.get_set_self, Hp.get_set_ne, Hp.get_alloc_self, Hp.get_alloc_ne, Hp.get_alloc_at, Hp.get_set_at, Hp.set_next, Hp.alloc_next, e1']; done) | fail)) only [Hp.st, Hp.ld, Hp.lda, splice, ble_eq', if_true, if_false, ite_true, ite_false, cond_true, cond_false, decide_true, decide_false, List.length_cons, List.length_nil, List.take_zero, List.take_succ_cons, List.nil_append, List.cons_append, List.append_nil, List.drop_succ_cons, List.drop_zero, List.drop_nil, List.getElem?_cons_succ, List.getElem?_cons_zero, Nat.reduceAdd, Nat.reduceLeDiff, Nat.reduceEqDiff, Nat.zero_add, Nat.add_zero, Nat.le_refl, Nat.zero_le, Nat.succ_ne_self, Nat.mul_one, Int.toNat_natCast, Option.some.injEq, Option.isNone_some, Option.isNone_none, V.int.injEq, V.str.injEq, V.bool.injEq, V.ptr.injEq, V.slc.injEq, V.map.injEq, V.agg.injEq, V.tup.injEq, List.cons.injEq, Prod.mk.injEq, onS, true_and, and_true, and_assoc, exists_and_left, exists_eq_left', forall_eq, heq_eq_eq, reduceCtorEq, Bool.not_true, Bool.not_false, eq_self, not_false_eq_true, Nat.left_eq_add, Nat.add_eq_left, Nat.add_left_cancel_iff, Nat.add_right_cancel_iff, Nat.reduceEqDiff, Nat.one_ne_zero, Hp.get_set_self, Hp.get_set_ne, Hp.get_alloc_self, Hp.get_alloc_ne, Hp.get_alloc_at, Hp.get_set_at, Hp.set_next, Hp.alloc_next, Option.some_ne_none, V.tup.injEq, Option.isSome_some, Option.isSome_none, exists_eq_left, exists_eq, Nat.mul_zero, e1'], rfl⟩, rfl, rfl, rfl, rfl, rfl, _, _, _, _, hx3, rfl, ⟨s.nx, by simp (disch := (first | omega | (simp only [Hp.alloc_next, Hp.set_next] <;> omega) | (simp (disch := (first | omega | (simp only [Hp.alloc_next, Hp.set_next] <;> omega) | fail)) only [Hp.get_set_self, Hp.get_set_ne, Hp.get_alloc_self, Hp.get_alloc_ne, Hp.get_alloc_at, Hp.get_set_at, Hp.set_next, Hp.alloc_next, e3']; done) | fail)) only [Hp.st, Hp.ld, Hp.lda, splice, ble_eq', if_true, if_false, ite_true, ite_false, cond_true, cond_false, decide_true, decide_false, List.length_cons, List.length_nil, List.take_zero, List.take_succ_cons, List.nil_append, List.cons_append, List.append_nil, List.drop_succ_cons, List.drop_zero, List.drop_nil, List.getElem?_cons_succ, List.getElem?_cons_zero, Nat.reduceAdd, Nat.reduceLeDiff, Nat.reduceEqDiff, Nat.zero_add, Nat.add_zero, Nat.le_refl, Nat.zero_le, Nat.succ_ne_self, Nat.mul_one, Int.toNat_natCast, Option.some.injEq, Option.isNone_some, Option.isNone_none, V.int.injEq, V.str.injEq, V.bool.injEq, V.ptr.injEq, V.slc.injEq, V.map.injEq, V.agg.injEq, V.tup.injEq, List.cons.injEq, Prod.mk.injEq, onS, true_and, and_true, and_assoc, exists_and_left, exists_eq_left', forall_eq, heq_eq_eq, reduceCtorEq, Bool.not_true, Bool.not_false, eq_self, not_false_eq_true, Nat.left_eq_add, Nat.add_eq_left, Nat.add_left_cancel_iff, Nat.add_right_cancel_iff, Nat.reduceEqDiff, Nat.one_ne_zero, Hp.get_set_self, Hp.get_set_ne, Hp.get_alloc_self, Hp.get_alloc_ne, Hp.get_alloc_at, Hp.get_set_at, Hp.set_next, Hp.alloc_next, Option.some_ne_none, V.tup.injEq, Option.isSome_some, Option.isSome_none, exists_eq_left, exists_eq, Nat.mul_zero, e3'], rfl⟩, rfl, rfl, rfl, rfl, rfl, _, Hp.st_of e3' (Nat.le_of_ble_eq_true rfl), rfl, rfl, _, Hp.st_of Hp.get_set_self (Nat.le_of_ble_eq_true rfl), ?_⟩
    rw [u32w]
    subst hF
    have hbN : S[N]? = some b := by rw [← hjN]; exact hb
    have si' := si.push hbN (by omega) (A' := s.A) (fun x hx => si.far x hx) si.nA s.rows
    refine hK _ _ ⟨true, (⟨(s.nx + 1) % 4294967296, s.rd ++ [b], s.A, s.rows, s.most, s.fin, s.en⟩ : IS), N + 1, i :: m :: [h1.next + 1], rfl, ⟨m, some (h1.next + 1, 0), false, o, [h1.next + 1], ?_, ?_, e3, ?_, rfl, d1, by simp; omega, by simp; omega⟩, si', by omega, rfl, ⟨fun x hx hxF => ?_, fun x hx => ?_, ?_⟩, (w3.set (by omega)).set (by simp only [Hp.set_next]; omega), fun _ _ _ => ⟨rfl, rfl⟩⟩
    · rw [Hp.get_set_self]
      have : (s.rd ++ [b]).length = s.rd.length + 1 := by simp
      show _ = some (O.row [.int .u32 ((s.nx + 1) % 4294967296), .slc (some (h1.next + 1, 0)) (s.rd ++ [b]).length false, .map (some m), .int .i64 s.rows, .int .i64 s.most, .bool s.fin, .int .u32 s.en] 1 false)
      rw [this]; rfl
    · rw [Hp.get_set_ne (Ne.symm d1), Hp.get_set_ne (Ne.symm d1)]; exact m3
    · have : (s.rd ++ [b]).length = s.rd.length + 1 := by simp
      show Own 1 _ (s.rd ++ [b]).length (bRows (s.rd ++ [b])) _ _
      rw [this]
      exact (Own.rep _ _ _ _).loc _ _ _ (fun x hx => by rw [List.mem_singleton] at hx; rw [Hp.get_set_ne (by omega), Hp.get_set_ne (by omega)]) ho3
    · simp only [List.mem_cons, not_or] at hxF
      rw [Hp.get_set_ne hxF.1, Hp.get_set_ne hxF.1, u3.same x hx hxF.2.2]
    · simp only [List.mem_cons, List.not_mem_nil, or_false] at hx
      rcases hx with rfl | rfl | rfl
      · exact .inl (by simp)
      · exact .inl (by simp)
      · exact .inr (by omega)
    · simp only [Hp.set_next]; omega
  · have c : (((j - N : Nat) : Int) == 0) = false := by rw [beq_eq_false_iff_ne]; omega
    rw [c]
    refine ⟨s.rows, by simp (disch := (first | omega | (simp only [Hp.alloc_next, Hp.set_next] <;> omega) | (simp (disch := (first | omega | (simp only [Hp.alloc_next, Hp.set_next] <;> omega) | fail)) only [Hp.get_set_self, Hp.get_set_ne, Hp.get_alloc_self, Hp.get_alloc_ne, Hp.get_alloc_at, Hp.get_set_at, Hp.set_next, Hp.alloc_next, e1]; done) | fail)) only [Hp.st, Hp.ld, Hp.lda, splice, ble_eq', if_true, if_false, ite_true, ite_false, cond_true, cond_false, decide_true, decide_false, List.length_cons, List.length_nil, List.take_zero, List.take_succ_cons, List.nil_append, List.cons_append, List.append_nil, List.drop_succ_cons, List.drop_zero, List.drop_nil, List.getElem?_cons_succ, List.getElem?_cons_zero, Nat.reduceAdd, Nat.reduceLeDiff, Nat.reduceEqDiff, Nat.zero_add, Nat.add_zero, Nat.le_refl, Nat.zero_le, Nat.succ_ne_self, Nat.mul_one, Int.toNat_natCast, Option.some.injEq, Option.isNone_some, Option.isNone_none, V.int.injEq, V.str.injEq, V.bool.injEq, V.ptr.injEq, V.slc.injEq, V.map.injEq, V.agg.injEq, V.tup.injEq, List.cons.injEq, Prod.mk.injEq, onS, true_and, and_true, and_assoc, exists_and_left, exists_eq_left', forall_eq, heq_eq_eq, reduceCtorEq, Bool.not_true, Bool.not_false, eq_self, not_false_eq_true, Nat.left_eq_add, Nat.add_eq_left, Nat.add_left_cancel_iff, Nat.add_right_cancel_iff, Nat.reduceEqDiff, Nat.one_ne_zero, Hp.get_set_self, Hp.get_set_ne, Hp.get_alloc_self, Hp.get_alloc_ne, Hp.get_alloc_at, Hp.get_set_at, Hp.set_next, Hp.alloc_next, Option.some_ne_none, V.tup.injEq, Option.isSome_some, Option.isSome_none, exists_eq_left, exists_eq, Nat.mul_zero, e1], ?_⟩
    refine (has_spec r0 _).mono ?_
    rintro _ h2 ⟨rfl, rfl⟩
    refine ⟨_, rfl, rfl, rfl, rfl, rfl, ⟨s.rows, by simp (disch := (first | omega | (simp only [Hp.alloc_next, Hp.set_next] <;> omega) | (simp (disch := (first | omega | (simp only [Hp.alloc_next, Hp.set_next] <;> omega) | fail)) only [Hp.get_set_self, Hp.get_set_ne, Hp.get_alloc_self, Hp.get_alloc_ne, Hp.get_alloc_at, Hp.get_set_at, Hp.set_next, Hp.alloc_next, e1]; done) | fail)) only [Hp.st, Hp.ld, Hp.lda, splice, ble_eq', if_true, if_false, ite_true, ite_false, cond_true, cond_false, decide_true, decide_false, List.length_cons, List.length_nil, List.take_zero, List.take_succ_cons, List.nil_append, List.cons_append, List.append_nil, List.drop_succ_cons, List.drop_zero, List.drop_nil, List.getElem?_cons_succ, List.getElem?_cons_zero, Nat.reduceAdd, Nat.reduceLeDiff, Nat.reduceEqDiff, Nat.zero_add, Nat.add_zero, Nat.le_refl, Nat.zero_le, Nat.succ_ne_self, Nat.mul_one, Int.toNat_natCast, Option.some.injEq, Option.isNone_some, Option.isNone_none, V.int.injEq, V.str.injEq, V.bool.injEq, V.ptr.injEq, V.slc.injEq, V.map.injEq, V.agg.injEq, V.tup.injEq, List.cons.injEq, Prod.mk.injEq, onS, true_and, and_true, and_assoc, exists_and_left, exists_eq_left', forall_eq, heq_eq_eq, reduceCtorEq, Bool.not_true, Bool.not_false, eq_self, not_false_eq_true, Nat.left_eq_add, Nat.add_eq_left, Nat.add_left_cancel_iff, Nat.add_right_cancel_iff, Nat.reduceEqDiff, Nat.one_ne_zero, Hp.get_set_self, Hp.get_set_ne, Hp.get_alloc_self, Hp.get_alloc_ne, Hp.get_alloc_at, Hp.get_set_at, Hp.set_next, Hp.alloc_next, Option.some_ne_none, V.tup.injEq, Option.isSome_some, Option.isSome_none, exists_eq_left, exists_eq, Nat.mul_zero, e1], rfl⟩, rfl, rfl, rfl, ?_⟩
    refine (has_spec r0 _).mono ?_
    rintro _ h3 ⟨rfl, rfl⟩
    refine ⟨_, rfl, rfl, rfl, ⟨s.rows, by simp (disch := (first | omega | (simp only [Hp.alloc_next, Hp.set_next] <;> omega) | (simp (disch := (first | omega | (simp only [Hp.alloc_next, Hp.set_next] <;> omega) | fail)) only [Hp.get_set_self, Hp.get_set_ne, Hp.get_alloc_self, Hp.get_alloc_ne, Hp.get_alloc_at, Hp.get_set_at, Hp.set_next, Hp.alloc_next, e1]; done) | fail)) only [Hp.st, Hp.ld, Hp.lda, splice, ble_eq', if_true, if_false, ite_true, ite_false, cond_true, cond_false, decide_true, decide_false, List.length_cons, List.length_nil, List.take_zero, List.take_succ_cons, List.nil_append, List.cons_append, List.append_nil, List.drop_succ_cons, List.drop_zero, List.drop_nil, List.getElem?_cons_succ, List.getElem?_cons_zero, Nat.reduceAdd, Nat.reduceLeDiff, Nat.reduceEqDiff, Nat.zero_add, Nat.add_zero, Nat.le_refl, Nat.zero_le, Nat.succ_ne_self, Nat.mul_one, Int.toNat_natCast, Option.some.injEq, Option.isNone_some, Option.isNone_none, V.int.injEq, V.str.injEq, V.bool.injEq, V.ptr.injEq, V.slc.injEq, V.map.injEq, V.agg.injEq, V.tup.injEq, List.cons.injEq, Prod.mk.injEq, onS, true_and, and_true, and_assoc, exists_and_left, exists_eq_left', forall_eq, heq_eq_eq, reduceCtorEq, Bool.not_true, Bool.not_false, eq_self, not_false_eq_true, Nat.left_eq_add, Nat.add_eq_left, Nat.add_left_cancel_iff, Nat.add_right_cancel_iff, Nat.reduceEqDiff, Nat.one_ne_zero, Hp.get_set_self, Hp.get_set_ne, Hp.get_alloc_self, Hp.get_alloc_ne, Hp.get_alloc_at, Hp.get_set_at, Hp.set_next, Hp.alloc_next, Option.some_ne_none, V.tup.injEq, Option.isSome_some, Option.isSome_none, exists_eq_left, exists_eq, Nat.mul_zero, e1], rfl⟩, rfl, rfl, rfl, ?_⟩
    generalize IntKind.i64.wrap (IntKind.i64.wrap (IntKind.i64.wrap (s.rows + 1) - _) - _) = rows'
    cases ltI 64 rows' with
    | true => exact stay (by rintro ⟨h, _, _⟩; exact hjN h)
    | false =>
      obtain ⟨oa, ob, w1, k1, hob, hen, hst⟩ := e3.entry (z := (0 : Int)) mtF ((fr + j) % 4294967296) (b.toNat : Int)
      have e5 : ((h3.set m oa).set m ob).get i = some (.row [.int .u32 s.nx, .slc a s.rd.length f, .map (some m), .int .i64 s.rows, .int .i64 s.most, .bool s.fin, .int .u32 s.en] 1 false) := by rw [Hp.get_set_ne d1, Hp.get_set_ne d1]; exact e1
      refine ⟨some m, by simp (disch := (first | omega | (simp only [Hp.alloc_next, Hp.set_next] <;> omega) | (simp (disch := (first | omega | (simp only [Hp.alloc_next, Hp.set_next] <;> omega) | fail)) only [Hp.get_set_self, Hp.get_set_ne, Hp.get_alloc_self, Hp.get_alloc_ne, Hp.get_alloc_at, Hp.get_set_at, Hp.set_next, Hp.alloc_next, e1]; done) | fail)) only [Hp.st, Hp.ld, Hp.lda, splice, ble_eq', if_true, if_false, ite_true, ite_false, cond_true, cond_false, decide_true, decide_false, List.length_cons, List.length_nil, List.take_zero, List.take_succ_cons, List.nil_append, List.cons_append, List.append_nil, List.drop_succ_cons, List.drop_zero, List.drop_nil, List.getElem?_cons_succ, List.getElem?_cons_zero, Nat.reduceAdd, Nat.reduceLeDiff, Nat.reduceEqDiff, Nat.zero_add, Nat.add_zero, Nat.le_refl, Nat.zero_le, Nat.succ_ne_self, Nat.mul_one, Int.toNat_natCast, Option.some.injEq, Option.isNone_some, Option.isNone_none, V.int.injEq, V.str.injEq, V.bool.injEq, V.ptr.injEq, V.slc.injEq, V.map.injEq, V.agg.injEq, V.tup.injEq, List.cons.injEq, Prod.mk.injEq, onS, true_and, and_true, and_assoc, exists_and_left, exists_eq_left', forall_eq, heq_eq_eq, reduceCtorEq, Bool.not_true, Bool.not_false, eq_self, not_false_eq_true, Nat.left_eq_add, Nat.add_eq_left, Nat.add_left_cancel_iff, Nat.add_right_cancel_iff, Nat.reduceEqDiff, Nat.one_ne_zero, Hp.get_set_self, Hp.get_set_ne, Hp.get_alloc_self, Hp.get_alloc_ne, Hp.get_alloc_at, Hp.get_set_at, Hp.set_next, Hp.alloc_next, Option.some_ne_none, V.tup.injEq, Option.isSome_some, Option.isSome_none, exists_eq_left, exists_eq, Nat.mul_zero, e1], w1, k1, _, hen _ _ e2, _, hst _ _ Hp.get_set_self, _, Hp.st_of e5 (Nat.le_of_ble_eq_true rfl), ?_⟩
      have hmn : mget s.A ((fr + j) % 4294967296) = none := by
        cases hq : mget s.A ((fr + j) % 4294967296) with
        | none => rfl
        | some _ => rw [hq] at hh; cases hh
      rw [mput_none _ _ _ hmn] at hob
      subst hF
      refine hK _ _ ⟨true, { s with A := s.A ++ [((fr + j) % 4294967296, (b.toNat : Int))], rows := rows' }, N, i :: m :: G, rfl, ⟨m, a, f, ob, G, ?_, ?_, hob, (Own.rep _ _ _ _).loc _ _ _ (fun x hx => ?_) e4, rfl, d1, d2, d3⟩, ⟨si.nx, si.rd, si.gN, si.NS, si.rl, si.mo, fun x hx => ?_, ?_, si.en⟩, Nat.le_refl _, rfl, ⟨fun x hx hxF => ?_, fun x hx => .inl hx, by simp⟩, ((hw.set hml).set (by simp only [Hp.set_next]; omega)).set (by simp only [Hp.set_next]; omega), fun h => absurd h hjN⟩
      · rw [Hp.get_set_self]; rfl
      · rw [Hp.get_set_ne (Ne.symm d1), Hp.get_set_self]
      · have k1 : x ≠ i := fun e => d2 (e ▸ hx)
        have k2 : x ≠ m := fun e => d3 (e ▸ hx)
        rw [Hp.get_set_ne k1, Hp.get_set_ne k2, Hp.get_set_ne k2]
      · rcases List.mem_append.1 hx with hx | hx
        · obtain ⟨j', b', h1, h2⟩ := si.far x hx
          exact ⟨j', b', by omega, h2⟩
        · rw [List.mem_singleton] at hx; subst hx
          exact ⟨j, b, hj, hjm, rfl, hb, rfl⟩
      · show ((s.A ++ [((fr + j) % 4294967296, (b.toNat : Int))]).map Prod.fst).Nodup
        rw [List.map_append, List.nodup_append]
        refine ⟨si.nA, by simp, fun p hp q hq => ?_⟩
        simp only [List.map_cons, List.map_nil, List.mem_singleton] at hq
        subst hq
        exact fun e => (mget_mem s.A p).2 hp (e ▸ hmn)
      · simp only [List.mem_cons, not_or] at hxF
        rw [Hp.get_set_ne hxF.1, Hp.get_set_ne hxF.2.1, Hp.get_set_ne hxF.2.1]

theorem nx_get {S : List UInt8} {fr : Int} {most N g lo : Nat} {s : IS} {c : Int} (hS : S.length ≤ 4096) (hm : 1 ≤ most ∧ most ≤ 16384) (si : SI S fr most N g lo s) (hc : mget s.A s.nx = some c) : ∃ b, S[N]? = some b ∧ c = b.toNat ∧ N < g + most ∧ lo ≤ N := by
  obtain ⟨j, b, h1, h2, h3, h4, h5⟩ := si.far _ (mget_in hc)
  have hj := (List.getElem?_eq_some_iff.1 h4).1
  have hN := si.NS
  have : j = N := mod_inj (fr := fr) (by omega) (by omega) (by rw [← h3, si.nx])
  subst this
  exact ⟨b, h4, h5, h2, h1⟩

theorem jstep {S : List UInt8} {fr : Int} {most N g : Nat} {s : IS} {hh : Hp} {i : Nat} {F : List Nat} {c : Int} {K' : Hp → Prop} (hS : S.length ≤ 4096) (hm : 1 ≤ most ∧ most ≤ 16384) (hw : hh.wf) (r : InR i s hh F) (si : SI S fr most N g N s) (hc : mget s.A s.nx = some c)
    (hK : ∀ s' h' F', InR i s' h' F' → SI S fr most (N + 1) g (N + 1) s' → s'.fin = s.fin → Upd hh h' F F' → h'.wf → K' h') :
    ∃ (r2 : Option Nat), hh.ld i (2 : Nat) = some (V.map r2) ∧ ∃ (n4 : Int), hh.ld i (0 : Nat) = some (V.int IntKind.u32 n4) ∧ ∃ (h'2 : Hp), xdel T hh (73 : Nat) (V.map r2) (V.int IntKind.u32 n4) = some h'2 ∧ ∃ (a1 : Option (Nat × Nat)), ∃ (n5 : Nat), ∃ (f1 : Bool), h'2.ld i (1 : Nat) = some (V.slc a1 n5 f1) ∧ ∃ (n6 : Int), h'2.ld i (0 : Nat) = some (V.int IntKind.u32 n6) ∧ ∀ (h'3 : Hp), h'3 = h'2.alloc (O.row [V.int IntKind.u8 c] (1 : Nat) false) → V.int IntKind.u32 (IntKind.u32.wrap (n6 + (1 : Int))) = V.int IntKind.u32 (IntKind.u32.wrap (n6 + (1 : Int))) ∧ (∃ (n7 : Int), h'3.ld i (0 : Nat) = some (V.int IntKind.u32 n7) ∧ V.int IntKind.u32 n7 = V.int IntKind.u32 n6) ∧ V.ptr (some (i, (0 : Nat))) = V.ptr (some (i, (0 : Nat))) ∧ V.ptr (some (i, (0 : Nat))) = V.ptr (some (i, (0 : Nat))) ∧ V.ptr (some (i, (0 : Nat))) = V.ptr (some (i, (0 : Nat))) ∧ (∃ (a2 : Option (Nat × Nat)), ∃ (n8 : Nat), ∃ (f2 : Bool), h'3.ld i (1 : Nat) = some (V.slc a2 n8 f2) ∧ V.slc a2 n8 f2 = V.slc a1 n5 f1) ∧ V.ptr (some (i, (1 : Nat))) = V.ptr (some (i, (1 : Nat))) ∧ V.ptr (some (i, (0 : Nat))) = V.ptr (some (i, (0 : Nat))) ∧ V.ptr (some (i, (0 : Nat))) = V.ptr (some (i, (0 : Nat))) ∧ V.ptr (some (i, (0 : Nat))) = V.ptr (some (i, (0 : Nat))) ∧ V.ptr (some (i, (0 : Nat))) = V.ptr (some (i, (0 : Nat))) ∧ ∃ (p1 : Option (Nat × Nat)), ∃ (n9 : Nat), ∃ (f3 : Bool), ∃ (h'4 : Hp), xapp T h'3 (68 : Nat) (68 : Nat) (V.slc a1 n5 f1) (V.slc (some (h'2.next, (0 : Nat))) (1 : Nat) true) = some (V.slc p1 n9 f3, h'4) ∧ V.int IntKind.u32 (IntKind.u32.wrap (n6 + (1 : Int))) = V.int IntKind.u32 (IntKind.u32.wrap (n6 + (1 : Int))) ∧ (∃ (n10 : Int), h'4.ld i (0 : Nat) = some (V.int IntKind.u32 n10) ∧ V.int IntKind.u32 n10 = V.int IntKind.u32 n6) ∧ V.ptr (some (i, (0 : Nat))) = V.ptr (some (i, (0 : Nat))) ∧ V.ptr (some (i, (0 : Nat))) = V.ptr (some (i, (0 : Nat))) ∧ V.ptr (some (i, (0 : Nat))) = V.ptr (some (i, (0 : Nat))) ∧ V.ptr (some (i, (0 : Nat))) = V.ptr (some (i, (0 : Nat))) ∧ V.ptr (some (i, (0 : Nat))) = V.ptr (some (i, (0 : Nat))) ∧ ∃ (h'5 : Hp), h'4.st i (1 : Nat) [V.slc p1 n9 f3] = some h'5 ∧ V.int IntKind.u32 (IntKind.u32.wrap (n6 + (1 : Int))) = V.int IntKind.u32 (IntKind.u32.wrap (n6 + (1 : Int))) ∧ V.ptr (some (i, (0 : Nat))) = V.ptr (some (i, (0 : Nat))) ∧ ∃ (h'6 : Hp), h'5.st i (0 : Nat) [V.int IntKind.u32 (IntKind.u32.wrap (n6 + (1 : Int)))] = some h'6 ∧ K' h'6 := by
  obtain ⟨b, hb, hcb, hNm, _⟩ := nx_get hS hm si hc
  have hlen := si.len
  have hNS := si.NS
  obtain ⟨m, a, f, o, G, e1, e2, e3, e4, hF, d1, d2, d3⟩ := r
  have hil := hw.lt e1
  have hml := hw.lt e2
  have hGl : ∀ x ∈ G, x < hh.next := fun x hx => (Own.rep _ _ _ _).lt hw e4 hx
  obtain ⟨o', ho', hdel⟩ := e3.del mtF s.nx
  have w2 : (hh.set m o').wf := hw.set hml
  have i2 : (hh.set m o').get i = some (.row [.int .u32 s.nx, .slc a s.rd.length f, .map (some m), .int .i64 s.rows, .int .i64 s.most, .bool s.fin, .int .u32 s.en] 1 false) := by rw [Hp.get_set_ne d1]; exact e1
  have ow2 : Own 1 a s.rd.length (bRows s.rd) (hh.set m o') G := (Own.rep _ _ _ _).loc _ _ _ (fun x hx => Hp.get_set_ne fun e => d3 (e ▸ hx)) e4
  have hn2 : (hh.set m o').next = hh.next := rfl
  have m2 : (hh.set m o').get m = some o' := Hp.get_set_self
  refine ⟨some m, by simp (disch := (first | omega | (simp only [Hp.alloc_next, Hp.set_next] <;> omega) | (simp (disch := (first | omega | (simp only [Hp.alloc_next, Hp.set_next] <;> omega) | fail)) only [Hp.get_set_self, Hp.get_set_ne, Hp.get_alloc_self, Hp.get_alloc_ne, Hp.get_alloc_at, Hp.get_set_at, Hp.set_next, Hp.alloc_next, e1]; done) | fail)) only [Hp.st, Hp.ld, Hp.lda, splice, ble_eq', if_true, if_false, ite_true, ite_false, cond_true, cond_false, decide_true, decide_false, List.length_cons, List.length_nil, List.take_zero, List.take_succ_cons, List.nil_append, List.cons_append, List.append_nil, List.drop_succ_cons, List.drop_zero, List.drop_nil, List.getElem?_cons_succ, List.getElem?_cons_zero, Nat.reduceAdd, Nat.reduceLeDiff, Nat.reduceEqDiff, Nat.zero_add, Nat.add_zero, Nat.le_refl, Nat.zero_le, Nat.succ_ne_self, Nat.mul_one, Int.toNat_natCast, Option.some.injEq, Option.isNone_some, Option.isNone_none, V.int.injEq, V.str.injEq, V.bool.injEq, V.ptr.injEq, V.slc.injEq, V.map.injEq, V.agg.injEq, V.tup.injEq, List.cons.injEq, Prod.mk.injEq, onS, true_and, and_true, and_assoc, exists_and_left, exists_eq_left', forall_eq, heq_eq_eq, reduceCtorEq, Bool.not_true, Bool.not_false, eq_self, not_false_eq_true, Nat.left_eq_add, Nat.add_eq_left, Nat.add_left_cancel_iff, Nat.add_right_cancel_iff, Nat.reduceEqDiff, Nat.one_ne_zero, Hp.get_set_self, Hp.get_set_ne, Hp.get_alloc_self, Hp.get_alloc_ne, Hp.get_alloc_at, Hp.get_set_at, Hp.set_next, Hp.alloc_next, Option.some_ne_none, V.tup.injEq, Option.isSome_some, Option.isSome_none, exists_eq_left, exists_eq, Nat.mul_zero, e1], s.nx, by simp (disch := (first | omega | (simp only [Hp.alloc_next, Hp.set_next] <;> omega) | (simp (disch := (first | omega | (simp only [Hp.alloc_next, Hp.set_next] <;> omega) | fail)) only [Hp.get_set_self, Hp.get_set_ne, Hp.get_alloc_self, Hp.get_alloc_ne, Hp.get_alloc_at, Hp.get_set_at, Hp.set_next, Hp.alloc_next, e1]; done) | fail)) only [Hp.st, Hp.ld, Hp.lda, splice, ble_eq', if_true, if_false, ite_true, ite_false, cond_true, cond_false, decide_true, decide_false, List.length_cons, List.length_nil, List.take_zero, List.take_succ_cons, List.nil_append, List.cons_append, List.append_nil, List.drop_succ_cons, List.drop_zero, List.drop_nil, List.getElem?_cons_succ, List.getElem?_cons_zero, Nat.reduceAdd, Nat.reduceLeDiff, Nat.reduceEqDiff, Nat.zero_add, Nat.add_zero, Nat.le_refl, Nat.zero_le, Nat.succ_ne_self, Nat.mul_one, Int.toNat_natCast, Option.some.injEq, Option.isNone_some, Option.isNone_none, V.int.injEq, V.str.injEq, V.bool.injEq, V.ptr.injEq, V.slc.injEq, V.map.injEq, V.agg.injEq, V.tup.injEq, List.cons.injEq, Prod.mk.injEq, onS, true_and, and_true, and_assoc, exists_and_left, exists_eq_left', forall_eq, heq_eq_eq, reduceCtorEq, Bool.not_true, Bool.not_false, eq_self, not_false_eq_true, Nat.left_eq_add, Nat.add_eq_left, Nat.add_left_cancel_iff, Nat.add_right_cancel_iff, Nat.reduceEqDiff, Nat.one_ne_zero, Hp.get_set_self, Hp.get_set_ne, Hp.get_alloc_self, Hp.get_alloc_ne, Hp.get_alloc_at, Hp.get_set_at, Hp.set_next, Hp.alloc_next, Option.some_ne_none, V.tup.injEq, Option.isSome_some, Option.isSome_none, exists_eq_left, exists_eq, Nat.mul_zero, e1], _, hdel _ _ e2, a, s.rd.length, f, by simp (disch := (first | omega | (simp only [Hp.alloc_next, Hp.set_next] <;> omega) | (simp (disch := (first | omega | (simp only [Hp.alloc_next, Hp.set_next] <;> omega) | fail)) only [Hp.get_set_self, Hp.get_set_ne, Hp.get_alloc_self, Hp.get_alloc_ne, Hp.get_alloc_at, Hp.get_set_at, Hp.set_next, Hp.alloc_next, i2]; done) | fail)) only [Hp.st, Hp.ld, Hp.lda, splice, ble_eq', if_true, if_false, ite_true, ite_false, cond_true, cond_false, decide_true, decide_false, List.length_cons, List.length_nil, List.take_zero, List.take_succ_cons, List.nil_append, List.cons_append, List.append_nil, List.drop_succ_cons, List.drop_zero, List.drop_nil, List.getElem?_cons_succ, List.getElem?_cons_zero, Nat.reduceAdd, Nat.reduceLeDiff, Nat.reduceEqDiff, Nat.zero_add, Nat.add_zero, Nat.le_refl, Nat.zero_le, Nat.succ_ne_self, Nat.mul_one, Int.toNat_natCast, Option.some.injEq, Option.isNone_some, Option.isNone_none, V.int.injEq, V.str.injEq, V.bool.injEq, V.ptr.injEq, V.slc.injEq, V.map.injEq, V.agg.injEq, V.tup.injEq, List.cons.injEq, Prod.mk.injEq, onS, true_and, and_true, and_assoc, exists_and_left, exists_eq_left', forall_eq, heq_eq_eq, reduceCtorEq, Bool.not_true, Bool.not_false, eq_self, not_false_eq_true, Nat.left_eq_add, Nat.add_eq_left, Nat.add_left_cancel_iff, Nat.add_right_cancel_iff, Nat.reduceEqDiff, Nat.one_ne_zero, Hp.get_set_self, Hp.get_set_ne, Hp.get_alloc_self, Hp.get_alloc_ne, Hp.get_alloc_at, Hp.get_set_at, Hp.set_next, Hp.alloc_next, Option.some_ne_none, V.tup.injEq, Option.isSome_some, Option.isSome_none, exists_eq_left, exists_eq, Nat.mul_zero, i2], s.nx, by simp (disch := (first | omega | (simp only [Hp.alloc_next, Hp.set_next] <;> omega) | (simp (disch := (first | omega | (simp only [Hp.alloc_next, Hp.set_next] <;> omega) | fail)) only [Hp.get_set_self, Hp.get_set_ne, Hp.get_alloc_self, Hp.get_alloc_ne, Hp.get_alloc_at, Hp.get_set_at, Hp.set_next, Hp.alloc_next, i2]; done) | fail)) only [Hp.st, Hp.ld, Hp.lda, splice, ble_eq', if_true, if_false, ite_true, ite_false, cond_true, cond_false, decide_true, decide_false, List.length_cons, List.length_nil, List.take_zero, List.take_succ_cons, List.nil_append, List.cons_append, List.append_nil, List.drop_succ_cons, List.drop_zero, List.drop_nil, List.getElem?_cons_succ, List.getElem?_cons_zero, Nat.reduceAdd, Nat.reduceLeDiff, Nat.reduceEqDiff, Nat.zero_add, Nat.add_zero, Nat.le_refl, Nat.zero_le, Nat.succ_ne_self, Nat.mul_one, Int.toNat_natCast, Option.some.injEq, Option.isNone_some, Option.isNone_none, V.int.injEq, V.str.injEq, V.bool.injEq, V.ptr.injEq, V.slc.injEq, V.map.injEq, V.agg.injEq, V.tup.injEq, List.cons.injEq, Prod.mk.injEq, onS, true_and, and_true, and_assoc, exists_and_left, exists_eq_left', forall_eq, heq_eq_eq, reduceCtorEq, Bool.not_true, Bool.not_false, eq_self, not_false_eq_true, Nat.left_eq_add, Nat.add_eq_left, Nat.add_left_cancel_iff, Nat.add_right_cancel_iff, Nat.reduceEqDiff, Nat.one_ne_zero, Hp.get_set_self, Hp.get_set_ne, Hp.get_alloc_self, Hp.get_alloc_ne, Hp.get_alloc_at, Hp.get_set_at, Hp.set_next, Hp.alloc_next, Option.some_ne_none, V.tup.injEq, Option.isSome_some, Option.isSome_none, exists_eq_left, exists_eq, Nat.mul_zero, i2], ?_⟩
  have s2 : ∀ x, x ≠ m → (hh.set m o').get x = hh.get x := fun x hx => Hp.get_set_ne hx
  generalize hh.set m o' = h2 at *
  rintro h3 rfl
  subst hcb
  have q3 := Quiet.alloc w2 (.row [.int .u8 b.toNat] 1 false)
  have i3 : (h2.alloc (.row [.int .u8 b.toNat] 1 false)).get i = some (.row [.int .u32 s.nx, .slc a s.rd.length f, .map (some m), .int .i64 s.rows, .int .i64 s.most, .bool s.fin, .int .u32 s.en] 1 false) := by rw [q3.same _ (by omega)]; exact i2
  obtain ⟨h4, hx4, ho4, u4, w4⟩ := app_spec (b := b) (f := f) ow2 w2 (by omega)
  have n4 := u4.le
  have i4 : h4.get i = some (.row [.int .u32 s.nx, .slc a s.rd.length f, .map (some m), .int .i64 s.rows, .int .i64 s.most, .bool s.fin, .int .u32 s.en] 1 false) := by rw [u4.same _ (by omega) d2]; exact i2
  have m4 : h4.get m = some o' := by rw [u4.same _ (by omega) d3]; exact m2
  refine ⟨rfl, ⟨s.nx, by simp (disch := (first | omega | (simp only [Hp.alloc_next, Hp.set_next] <;> omega) | (simp (disch := (first | omega | (simp only [Hp.alloc_next, Hp.set_next] <;> omega) | fail)) only [Hp.get_set_self, Hp.get_set_ne, Hp.get_alloc_self, Hp.get_alloc_ne, Hp.get_alloc_at, Hp.get_set_at, Hp.set_next, Hp.alloc_next, i3]; done) | fail)) only [Hp.st, Hp.ld, Hp.lda, splice, ble_eq', if_true, if_false, ite_true, ite_false, cond_true, cond_false, decide_true, decide_false, List.length_cons, List.length_nil, List.take_zero, List.take_succ_cons, List.nil_append, List.cons_append, List.append_nil, List.drop_succ_cons, List.drop_zero, List.drop_nil, List.getElem?_cons_succ, List.getElem?_cons_zero, Nat.reduceAdd, Nat.reduceLeDiff, Nat.reduceEqDiff, Nat.zero_add, Nat.add_zero, Nat.le_refl, Nat.zero_le, Nat.succ_ne_self, Nat.mul_one, Int.toNat_natCast, Option.some.injEq, Option.isNone_some, Option.isNone_none, V.int.injEq, V.str.injEq, V.bool.injEq, V.ptr.injEq, V.slc.injEq, V.map.injEq, V.agg.injEq, V.tup.injEq, List.cons.injEq, Prod.mk.injEq, onS, true_and, and_true, and_assoc, exists_and_left, exists_eq_left', forall_eq, heq_eq_eq, reduceCtorEq, Bool.not_true, Bool.not_false, eq_self, not_false_eq_true, Nat.left_eq_add, Nat.add_eq_left, Nat.add_left_cancel_iff, Nat.add_right_cancel_iff, Nat.reduceEqDiff, Nat.one_ne_zero, Hp.get_set_self, Hp.get_set_ne, Hp.get_alloc_self, Hp.get_alloc_ne, Hp.get_alloc_at, Hp.get_set_at, Hp.set_next, Hp.alloc_next, Option.some_ne_none, V.tup.injEq, Option.isSome_some, Option.isSome_none, exists_eq_left, exists_eq, Nat.mul_zero, i3], rfl⟩, rfl, rfl, rfl, ⟨a, s.rd.length, f, by simp (disch := (first | omega | (simp only [Hp.alloc_next, Hp.set_next] <;> omega) | (simp (disch := (first | omega | (simp only [Hp.alloc_next, Hp.set_next] <;> omega) | fail)) only [Hp.get_set_self, Hp.get_set_ne, Hp.get_alloc_self, Hp.get_alloc_ne, Hp.get_alloc_at, Hp.get_set_at, Hp.set_next, Hp.alloc_next, i3]; done) | fail)) only [Hp.st, Hp.ld, Hp.lda, splice, ble_eq', if_true, if_false, ite_true, ite_false, cond_true, cond_false, decide_true, decide_false, List.length_cons, List.length_nil, List.take_zero, List.take_succ_cons, List.nil_append, List.cons_append, List.append_nil, List.drop_succ_cons, List.drop_zero, List.drop_nil, List.getElem?_cons_succ, List.getElem?_cons_zero, Nat.reduceAdd, Nat.reduceLeDiff, Nat.reduceEqDiff, Nat.zero_add, Nat.add_zero, Nat.le_refl, Nat.zero_le, Nat.succ_ne_self, Nat.mul_one, Int.toNat_natCast, Option.some.injEq, Option.isNone_some, Option.isNone_none, V.int.injEq, V.str.injEq, V.bool.injEq, V.ptr.injEq, V.slc.injEq, V.map.injEq, V.agg.injEq, V.tup.injEq, List.cons.injEq, Prod.mk.injEq, onS, true_and, and_true, and_assoc, exists_and_left, exists_eq_left', forall_eq, heq_eq_eq, reduceCtorEq, Bool.not_true, Bool.not_false, eq_self, not_false_eq_true, Nat.left_eq_add, Nat.add_eq_left, Nat.add_left_cancel_iff, Nat.add_right_cancel_iff, Nat.reduceEqDiff, Nat.one_ne_zero, Hp.get_set_self, Hp.get_set_ne, Hp.get_alloc_self, Hp.get_alloc_ne, Hp.get_alloc_at, Hp.get_set_at, Hp.set_next, Hp.alloc_next, Option.some_ne_none, V.tup.injEq, Option.isSome_some, Option.isSome_none, exists_eq_left, exists_eq, Nat.mul_zero, i3], rfl⟩, rfl, rfl, rfl, rfl, rfl, _, _, _, _, hx4, rfl, ⟨s.nx, by simp (disch := (first | omega | (simp only [Hp.alloc_next, Hp.set_next] <;> omega) | (simp (disch := (first | omega | (simp only [Hp.alloc_next, Hp.set_next] <;> omega) | fail)) only [Hp.get_set_self, Hp.get_set_ne, Hp.get_alloc_self, Hp.get_alloc_ne, Hp.get_alloc_at, Hp.get_set_at, Hp.set_next, Hp.alloc_next, i4]; done) | fail)) only [Hp.st, Hp.ld, Hp.lda, splice, ble_eq', if_true, if_false, ite_true, ite_false, cond_true, cond_false, decide_true, decide_false, List.length_cons, List.length_nil, List.take_zero, List.take_succ_cons, List.nil_append, List.cons_append, List.append_nil, List.drop_succ_cons, List.drop_zero, List.drop_nil, List.getElem?_cons_succ, List.getElem?_cons_zero, Nat.reduceAdd, Nat.reduceLeDiff, Nat.reduceEqDiff, Nat.zero_add, Nat.add_zero, Nat.le_refl, Nat.zero_le, Nat.succ_ne_self, Nat.mul_one, Int.toNat_natCast, Option.some.injEq, Option.isNone_some, Option.isNone_none, V.int.injEq, V.str.injEq, V.bool.injEq, V.ptr.injEq, V.slc.injEq, V.map.injEq, V.agg.injEq, V.tup.injEq, List.cons.injEq, Prod.mk.injEq, onS, true_and, and_true, and_assoc, exists_and_left, exists_eq_left', forall_eq, heq_eq_eq, reduceCtorEq, Bool.not_true, Bool.not_false, eq_self, not_false_eq_true, Nat.left_eq_add, Nat.add_eq_left, Nat.add_left_cancel_iff, Nat.add_right_cancel_iff, Nat.reduceEqDiff, Nat.one_ne_zero, Hp.get_set_self, Hp.get_set_ne, Hp.get_alloc_self, Hp.get_alloc_ne, Hp.get_alloc_at, Hp.get_set_at, Hp.set_next, Hp.alloc_next, Option.some_ne_none, V.tup.injEq, Option.isSome_some, Option.isSome_none, exists_eq_left, exists_eq, Nat.mul_zero, i4], rfl⟩, rfl, rfl, rfl, rfl, rfl, _, Hp.st_of i4 (Nat.le_of_ble_eq_true rfl), rfl, rfl, _, Hp.st_of Hp.get_set_self (Nat.le_of_ble_eq_true rfl), ?_⟩
  rw [u32w]
  subst hF
  have hfar : ∀ x ∈ mdel s.A s.nx, ∃ (j : Nat) (b : UInt8), N + 1 ≤ j ∧ j < g + most ∧ x.1 = (fr + j) % 4294967296 ∧ S[j]? = some b ∧ x.2 = b.toNat := fun x hx => by
    obtain ⟨j, b', h1, h2, h3, h4⟩ := si.far x ((mdel_sub _ _).subset hx)
    refine ⟨j, b', ?_, h2, h3, h4⟩
    have hne : x.1 ≠ s.nx := fun e => by
      have := (mget_mem (mdel s.A s.nx) x.1).2 (List.mem_map_of_mem hx)
      rw [e, mget_self s.A s.nx si.nA] at this
      exact this rfl
    have : j ≠ N := fun e => hne (by rw [h3, si.nx, e])
    omega
  have si' := si.push hb hNm hfar (si.nA.sublist ((mdel_sub _ _).map _)) s.rows
  refine hK (⟨(s.nx + 1) % 4294967296, s.rd ++ [b], mdel s.A s.nx, s.rows, s.most, s.fin, s.en⟩ : IS) _ (i :: m :: [h2.next + 1]) ⟨m, some (h2.next + 1, 0), false, o', [h2.next + 1], ?_, ?_, ho', ?_, rfl, d1, by simp; omega, by simp; omega⟩ si' rfl ⟨fun x hx hxF => ?_, fun x hx => ?_, ?_⟩ ((w4.set (by omega)).set (by simp only [Hp.set_next]; omega))
  · rw [Hp.get_set_self]
    have : (s.rd ++ [b]).length = s.rd.length + 1 := by simp
    show _ = some (O.row [.int .u32 ((s.nx + 1) % 4294967296), .slc (some (h2.next + 1, 0)) (s.rd ++ [b]).length false, .map (some m), .int .i64 s.rows, .int .i64 s.most, .bool s.fin, .int .u32 s.en] 1 false)
    rw [this]; rfl
  · rw [Hp.get_set_ne (Ne.symm d1), Hp.get_set_ne (Ne.symm d1)]; exact m4
  · have : (s.rd ++ [b]).length = s.rd.length + 1 := by simp
    show Own 1 _ (s.rd ++ [b]).length (bRows (s.rd ++ [b])) _ _
    rw [this]
    exact (Own.rep _ _ _ _).loc _ _ _ (fun x hx => by rw [List.mem_singleton] at hx; rw [Hp.get_set_ne (by omega), Hp.get_set_ne (by omega)]) ho4
  · simp only [List.mem_cons, not_or] at hxF
    rw [Hp.get_set_ne hxF.1, Hp.get_set_ne hxF.1, u4.same x (by omega) hxF.2.2, s2 x hxF.2.1]
  · simp only [List.mem_cons, List.not_mem_nil, or_false] at hx
    rcases hx with rfl | rfl | rfl
    · exact .inl (by simp)
    · exact .inl (by simp)
    · exact .inr (by omega)
  · simp only [Hp.set_next]; omega

/-- how many bytes are still to come -/
def left (S : List UInt8) (fr : Int) (i : Nat) (h : Hp) : Nat := match h.get i with
  | some (.row (.int _ nx :: _) _ _) => S.length - ((nx - fr) % 4294967296).toNat
  | _ => 0

theorem left_eq {S : List UInt8} {fr : Int} {most N g lo : Nat} {s : IS} {h : Hp} {i : Nat} {F : List Nat} (hS : S.length ≤ 4096) (r : InR i s h F) (si : SI S fr most N g lo s) : left S fr i h = S.length - N := by
  obtain ⟨m, a, f, o, G, e1, _⟩ := r
  have := si.NS
  simp only [left, e1, si.nx]
  omega

theorem joins_spec {S : List UInt8} {fr : Int} {most N g : Nat} {s : IS} {h : Hp} {i : Nat} {F : List Nat} (hS : S.length ≤ 4096) (hm : 1 ≤ most ∧ most ≤ 16384) (hw : h.wf) (r : InR i s h F) (si : SI S fr most N g N s) :
    XCalls Try.prog 44 [.ptr (some (i, 0))] h fun v h' => ∃ s' N' F', InR i s' h' F' ∧ SI S fr most N' g (N' + 1) s' ∧ N ≤ N' ∧ s'.fin = s.fin ∧ Upd h h' F F' ∧ h'.wf := by
  refine XCalls.cps fun K hK => ?_
  have look : ∀ {s : IS} {h : Hp} {F : List Nat}, InR i s h F → ∃ m, h.ld i 2 = some (.map (some m)) ∧ h.ld i 0 = some (.int .u32 s.nx) ∧ xlook T h 73 (.map (some m)) (.int .u32 s.nx) true = some (.tup [.int .u8 ((mget s.A s.nx).getD 0), .bool (mget s.A s.nx).isSome]) := fun r => by
    obtain ⟨m, a, f, o, G, e1, e2, e3, e4, hF, d1, d2, d3⟩ := r
    have hlk := e3.look2 mtF
    refine ⟨m, by simp (disch := (first | omega | (simp only [Hp.alloc_next, Hp.set_next] <;> omega) | (simp (disch := (first | omega | (simp only [Hp.alloc_next, Hp.set_next] <;> omega) | fail)) only [Hp.get_set_self, Hp.get_set_ne, Hp.get_alloc_self, Hp.get_alloc_ne, Hp.get_alloc_at, Hp.get_set_at, Hp.set_next, Hp.alloc_next, e1]; done) | fail)) only [Hp.st, Hp.ld, Hp.lda, splice, ble_eq', if_true, if_false, ite_true, ite_false, cond_true, cond_false, decide_true, decide_false, List.length_cons, List.length_nil, List.take_zero, List.take_succ_cons, List.nil_append, List.cons_append, List.append_nil, List.drop_succ_cons, List.drop_zero, List.drop_nil, List.getElem?_cons_succ, List.getElem?_cons_zero, Nat.reduceAdd, Nat.reduceLeDiff, Nat.reduceEqDiff, Nat.zero_add, Nat.add_zero, Nat.le_refl, Nat.zero_le, Nat.succ_ne_self, Nat.mul_one, Int.toNat_natCast, Option.some.injEq, Option.isNone_some, Option.isNone_none, V.int.injEq, V.str.injEq, V.bool.injEq, V.ptr.injEq, V.slc.injEq, V.map.injEq, V.agg.injEq, V.tup.injEq, List.cons.injEq, Prod.mk.injEq, onS, true_and, and_true, and_assoc, exists_and_left, exists_eq_left', forall_eq, heq_eq_eq, reduceCtorEq, Bool.not_true, Bool.not_false, eq_self, not_false_eq_true, Nat.left_eq_add, Nat.add_eq_left, Nat.add_left_cancel_iff, Nat.add_right_cancel_iff, Nat.reduceEqDiff, Nat.one_ne_zero, Hp.get_set_self, Hp.get_set_ne, Hp.get_alloc_self, Hp.get_alloc_ne, Hp.get_alloc_at, Hp.get_set_at, Hp.set_next, Hp.alloc_next, Option.some_ne_none, V.tup.injEq, Option.isSome_some, Option.isSome_none, exists_eq_left, exists_eq, Nat.mul_zero, e1], by simp (disch := (first | omega | (simp only [Hp.alloc_next, Hp.set_next] <;> omega) | (simp (disch := (first | omega | (simp only [Hp.alloc_next, Hp.set_next] <;> omega) | fail)) only [Hp.get_set_self, Hp.get_set_ne, Hp.get_alloc_self, Hp.get_alloc_ne, Hp.get_alloc_at, Hp.get_set_at, Hp.set_next, Hp.alloc_next, e1]; done) | fail)) only [Hp.st, Hp.ld, Hp.lda, splice, ble_eq', if_true, if_false, ite_true, ite_false, cond_true, cond_false, decide_true, decide_false, List.length_cons, List.length_nil, List.take_zero, List.take_succ_cons, List.nil_append, List.cons_append, List.append_nil, List.drop_succ_cons, List.drop_zero, List.drop_nil, List.getElem?_cons_succ, List.getElem?_cons_zero, Nat.reduceAdd, Nat.reduceLeDiff, Nat.reduceEqDiff, Nat.zero_add, Nat.add_zero, Nat.le_refl, Nat.zero_le, Nat.succ_ne_self, Nat.mul_one, Int.toNat_natCast, Option.some.injEq, Option.isNone_some, Option.isNone_none, V.int.injEq, V.str.injEq, V.bool.injEq, V.ptr.injEq, V.slc.injEq, V.map.injEq, V.agg.injEq, V.tup.injEq, List.cons.injEq, Prod.mk.injEq, onS, true_and, and_true, and_assoc, exists_and_left, exists_eq_left', forall_eq, heq_eq_eq, reduceCtorEq, Bool.not_true, Bool.not_false, eq_self, not_false_eq_true, Nat.left_eq_add, Nat.add_eq_left, Nat.add_left_cancel_iff, Nat.add_right_cancel_iff, Nat.reduceEqDiff, Nat.one_ne_zero, Hp.get_set_self, Hp.get_set_ne, Hp.get_alloc_self, Hp.get_alloc_ne, Hp.get_alloc_at, Hp.get_set_at, Hp.set_next, Hp.alloc_next, Option.some_ne_none, V.tup.injEq, Option.isSome_some, Option.isSome_none, exists_eq_left, exists_eq, Nat.mul_zero, e1], ?_⟩
    rw [hlk _ _ _ e2, lookV_getD]
  have rows : ∀ {s : IS} {h : Hp} {F : List Nat} {N : Nat}, h.wf → InR i s h F → SI S fr most N g N s → ∃ n3, h.ld i 3 = some (.int .i64 n3) ∧ ∃ h1, h.st i 3 [.int .i64 (IntKind.i64.wrap (n3 - 1))] = some h1 ∧ InR i { s with rows := IntKind.i64.wrap (n3 - 1) } h1 F ∧ SI S fr most N g N { s with rows := IntKind.i64.wrap (n3 - 1) } ∧ Upd h h1 F F ∧ h1.wf := fun {s h F N} hw r si => by
    obtain ⟨m, a, f, o, G, e1, e2, e3, e4, hF, d1, d2, d3⟩ := r
    refine ⟨s.rows, by simp (disch := (first | omega | (simp only [Hp.alloc_next, Hp.set_next] <;> omega) | (simp (disch := (first | omega | (simp only [Hp.alloc_next, Hp.set_next] <;> omega) | fail)) only [Hp.get_set_self, Hp.get_set_ne, Hp.get_alloc_self, Hp.get_alloc_ne, Hp.get_alloc_at, Hp.get_set_at, Hp.set_next, Hp.alloc_next, e1]; done) | fail)) only [Hp.st, Hp.ld, Hp.lda, splice, ble_eq', if_true, if_false, ite_true, ite_false, cond_true, cond_false, decide_true, decide_false, List.length_cons, List.length_nil, List.take_zero, List.take_succ_cons, List.nil_append, List.cons_append, List.append_nil, List.drop_succ_cons, List.drop_zero, List.drop_nil, List.getElem?_cons_succ, List.getElem?_cons_zero, Nat.reduceAdd, Nat.reduceLeDiff, Nat.reduceEqDiff, Nat.zero_add, Nat.add_zero, Nat.le_refl, Nat.zero_le, Nat.succ_ne_self, Nat.mul_one, Int.toNat_natCast, Option.some.injEq, Option.isNone_some, Option.isNone_none, V.int.injEq, V.str.injEq, V.bool.injEq, V.ptr.injEq, V.slc.injEq, V.map.injEq, V.agg.injEq, V.tup.injEq, List.cons.injEq, Prod.mk.injEq, onS, true_and, and_true, and_assoc, exists_and_left, exists_eq_left', forall_eq, heq_eq_eq, reduceCtorEq, Bool.not_true, Bool.not_false, eq_self, not_false_eq_true, Nat.left_eq_add, Nat.add_eq_left, Nat.add_left_cancel_iff, Nat.add_right_cancel_iff, Nat.reduceEqDiff, Nat.one_ne_zero, Hp.get_set_self, Hp.get_set_ne, Hp.get_alloc_self, Hp.get_alloc_ne, Hp.get_alloc_at, Hp.get_set_at, Hp.set_next, Hp.alloc_next, Option.some_ne_none, V.tup.injEq, Option.isSome_some, Option.isSome_none, exists_eq_left, exists_eq, Nat.mul_zero, e1], _, Hp.st_of e1 (Nat.le_of_ble_eq_true rfl), ⟨m, a, f, o, G, ?_, by rw [Hp.get_set_ne (Ne.symm d1)]; exact e2, e3, (Own.rep _ _ _ _).loc _ _ _ (fun x hx => Hp.get_set_ne fun e => d2 (e ▸ hx)) e4, hF, d1, d2, d3⟩, ⟨si.nx, si.rd, si.gN, si.NS, si.rl, si.mo, si.far, si.nA, si.en⟩, ⟨fun x hx hxF => ?_, fun x hx => .inl hx, by simp⟩, hw.set (hw.lt e1)⟩
    · rw [Hp.get_set_self]; rfl
    · rw [Hp.get_set_ne]; rintro rfl; exact hxF (by rw [hF]; simp)
  have stop : ∀ {s' : IS} {h' : Hp} {F' : List Nat} {N' : Nat}, InR i s' h' F' → SI S fr most N' g N' s' → N ≤ N' → s'.fin = s.fin → Upd h h' F F' → h'.wf → (mget s'.A s'.nx).isSome = false → K (.tup []) h' := fun {s' h' F' N'} r' si' hN hf u w hno => by
    refine hK _ _ ⟨s', N', F', r', ⟨si'.nx, si'.rd, si'.gN, si'.NS, si'.rl, si'.mo, fun x hx => ?_, si'.nA, si'.en⟩, hN, hf, u, w⟩
    obtain ⟨j, b, h1, h2, h3, h4⟩ := si'.far x hx
    refine ⟨j, b, ?_, h2, h3, h4⟩
    have : j ≠ N' := fun e => by
      have hh := (mget_mem s'.A x.1).2 (List.mem_map_of_mem hx)
      rw [h3, e, ← si'.nx] at hh
      cases hq : mget s'.A s'.nx with
      | none => exact hh hq
      | some _ => rw [hq] at hno; cases hno
    omega
  apply x44; unfold X44
  refine ⟨fun vs h' => match vs with
    | [.bool _] => ∃ s' N' F', InR i s' h' F' ∧ SI S fr most N' g N' s' ∧ N ≤ N' ∧ s'.fin = s.fin ∧ Upd h h' F F' ∧ h'.wf
    | _ => False, fun _ h' => left S fr i h', S.length + 1, ?_, ?_⟩
  · obtain ⟨m, l2, l0, hlk⟩ := look r
    refine ⟨some m, l2, s.nx, l0, _, _, hlk, ?_⟩
    cases hc : mget s.A s.nx with
    | none => exact stop r si (Nat.le_refl _) rfl (Upd.refl _ _) hw (by rw [hc]; rfl)
    | some c =>
      obtain ⟨n3, l3, h1, hst, r1, si1, u1, w1⟩ := rows hw r si
      refine ⟨n3, l3, h1, hst, ?_⟩
      refine jstep (K' := fun h6 => _) hS hm w1 r1 si1 hc fun s' h' F' r' si' hf u' w' => ?_
      exact ⟨rfl, ⟨s', N + 1, F', r', si', by omega, hf, u1.trans u', w'⟩, by show left S fr i h' < _; rw [left_eq hS r' si']; omega⟩
  rintro bs b h1 ⟨s1, N1, F1, r1, si1, hN1, hf1, u1, w1⟩
  obtain ⟨m, l2, l0, hlk⟩ := look r1
  refine ⟨some m, l2, s1.nx, l0, _, _, hlk, ?_⟩
  cases hc : mget s1.A s1.nx with
  | none => exact stop r1 si1 hN1 hf1 u1 w1 (by rw [hc]; rfl)
  | some c =>
    obtain ⟨b', hb', _⟩ := nx_get hS hm si1 hc
    have hlt := (List.getElem?_eq_some_iff.1 hb').1
    cases b with
    | true =>
      obtain ⟨n3, l3, h2, hst, r2, si2, u2, w2⟩ := rows w1 r1 si1
      refine ⟨n3, l3, h2, hst, ?_⟩
      refine jstep (K' := fun h6 => _) hS hm w2 r2 si2 hc fun s' h' F' r' si' hf u' w' => ?_
      exact ⟨rfl, ⟨s', N1 + 1, F', r', si'.weak (Nat.le_refl _), by omega, by rw [hf]; exact hf1, (u1.trans u2).trans u', w'⟩, by show left S fr i h' < left S fr i h1; rw [left_eq hS r' si', left_eq hS r1 si1]; omega⟩
    | false =>
      refine jstep (K' := fun h6 => _) hS hm w1 r1 si1 hc fun s' h' F' r' si' hf u' w' => ?_
      exact ⟨rfl, ⟨s', N1 + 1, F', r', si', by omega, by rw [hf]; exact hf1, u1.trans u', w'⟩, by show left S fr i h' < left S fr i h1; rw [left_eq hS r' si', left_eq hS r1 si1]; omega⟩

/-! ### Put and Fin -/

theorem i32w {v : Int} (h : 0 ≤ v ∧ v < 4294967296) : IntKind.i32.wrap v = if v < 2147483648 then v else v - 4294967296 := by
  simp [IntKind.wrap, IntKind.bits, IntKind.signed]
  split <;> split <;> omega

theorem put_spec {S : List UInt8} {fr : Int} {most N g : Nat} {s : IS} {h : Hp} {i : Nat} {F : List Nat} {j0 : Nat} {text : List UInt8} (hS : S.length ≤ 4096) (hm : 1 ≤ most ∧ most ≤ 16384) (hw : h.wf) (r : InR i s h F) (si : SI S fr most N g (N + 1) s)
    (ht : ∀ k b, text[k]? = some b → S[j0 + k]? = some b) (htl : j0 + text.length ≤ S.length) :
    XCalls Try.prog 28 [.ptr (some (i, 0)), .int .u32 ((fr + j0) % 4294967296), .str text] h fun v h' => ∃ (n : Nat) (s' : IS) (N' : Nat) (F' : List Nat), v = .int .i64 n ∧ InR i s' h' F' ∧ SI S fr most N' g (N' + 1) s' ∧ N ≤ N' ∧ s'.fin = s.fin ∧ Upd h h' F F' ∧ h'.wf ∧
      (j0 = N → 0 < text.length → N < g + most → s.fin = false → 0 < n ∧ N < N') := by
  have hlen := si.len
  have hgN := si.gN
  have hNS := si.NS
  have hrl := si.rl
  have hmo := si.mo
  refine XCalls.cps fun K hK => ?_
  have r0 := r
  obtain ⟨m, a, f, o, G, e1, e2, e3, e4, hF, d1, d2, d3⟩ := r
  apply x28; unfold X28
  refine ⟨some m, by simp (disch := (first | omega | (simp only [Hp.alloc_next, Hp.set_next] <;> omega) | (simp (disch := (first | omega | (simp only [Hp.alloc_next, Hp.set_next] <;> omega) | fail)) only [Hp.get_set_self, Hp.get_set_ne, Hp.get_alloc_self, Hp.get_alloc_ne, Hp.get_alloc_at, Hp.get_set_at, Hp.set_next, Hp.alloc_next, e1]; done) | fail)) only [Hp.st, Hp.ld, Hp.lda, splice, ble_eq', if_true, if_false, ite_true, ite_false, cond_true, cond_false, decide_true, decide_false, List.length_cons, List.length_nil, List.take_zero, List.take_succ_cons, List.nil_append, List.cons_append, List.append_nil, List.drop_succ_cons, List.drop_zero, List.drop_nil, List.getElem?_cons_succ, List.getElem?_cons_zero, Nat.reduceAdd, Nat.reduceLeDiff, Nat.reduceEqDiff, Nat.zero_add, Nat.add_zero, Nat.le_refl, Nat.zero_le, Nat.succ_ne_self, Nat.mul_one, Int.toNat_natCast, Option.some.injEq, Option.isNone_some, Option.isNone_none, V.int.injEq, V.str.injEq, V.bool.injEq, V.ptr.injEq, V.slc.injEq, V.map.injEq, V.agg.injEq, V.tup.injEq, List.cons.injEq, Prod.mk.injEq, onS, true_and, and_true, and_assoc, exists_and_left, exists_eq_left', forall_eq, heq_eq_eq, reduceCtorEq, Bool.not_true, Bool.not_false, eq_self, not_false_eq_true, Nat.left_eq_add, Nat.add_eq_left, Nat.add_left_cancel_iff, Nat.add_right_cancel_iff, Nat.reduceEqDiff, Nat.one_ne_zero, Hp.get_set_self, Hp.get_set_ne, Hp.get_alloc_self, Hp.get_alloc_ne, Hp.get_alloc_at, Hp.get_set_at, Hp.set_next, Hp.alloc_next, Option.some_ne_none, V.tup.injEq, Option.isSome_some, Option.isSome_none, exists_eq_left, exists_eq, Nat.mul_zero, e1], ?_⟩
  have c0 : ltI 16384 (↑text.length) = false := by rw [ltI_eq, decide_eq_false_iff_not]; omega
  rw [c0]
  simp only [Option.isNone_some, cond_false]
  refine ⟨s.nx, by simp (disch := (first | omega | (simp only [Hp.alloc_next, Hp.set_next] <;> omega) | (simp (disch := (first | omega | (simp only [Hp.alloc_next, Hp.set_next] <;> omega) | fail)) only [Hp.get_set_self, Hp.get_set_ne, Hp.get_alloc_self, Hp.get_alloc_ne, Hp.get_alloc_at, Hp.get_set_at, Hp.set_next, Hp.alloc_next, e1]; done) | fail)) only [Hp.st, Hp.ld, Hp.lda, splice, ble_eq', if_true, if_false, ite_true, ite_false, cond_true, cond_false, decide_true, decide_false, List.length_cons, List.length_nil, List.take_zero, List.take_succ_cons, List.nil_append, List.cons_append, List.append_nil, List.drop_succ_cons, List.drop_zero, List.drop_nil, List.getElem?_cons_succ, List.getElem?_cons_zero, Nat.reduceAdd, Nat.reduceLeDiff, Nat.reduceEqDiff, Nat.zero_add, Nat.add_zero, Nat.le_refl, Nat.zero_le, Nat.succ_ne_self, Nat.mul_one, Int.toNat_natCast, Option.some.injEq, Option.isNone_some, Option.isNone_none, V.int.injEq, V.str.injEq, V.bool.injEq, V.ptr.injEq, V.slc.injEq, V.map.injEq, V.agg.injEq, V.tup.injEq, List.cons.injEq, Prod.mk.injEq, onS, true_and, and_true, and_assoc, exists_and_left, exists_eq_left', forall_eq, heq_eq_eq, reduceCtorEq, Bool.not_true, Bool.not_false, eq_self, not_false_eq_true, Nat.left_eq_add, Nat.add_eq_left, Nat.add_left_cancel_iff, Nat.add_right_cancel_iff, Nat.reduceEqDiff, Nat.one_ne_zero, Hp.get_set_self, Hp.get_set_ne, Hp.get_alloc_self, Hp.get_alloc_ne, Hp.get_alloc_at, Hp.get_set_at, Hp.set_next, Hp.alloc_next, Option.some_ne_none, V.tup.injEq, Option.isSome_some, Option.isSome_none, exists_eq_left, exists_eq, Nat.mul_zero, e1], ?_⟩
  refine (window_spec r0 (by omega)).mono ?_
  rintro _ h1 ⟨rfl, rfl⟩
  refine ⟨_, rfl, ⟨s.nx, by simp (disch := (first | omega | (simp only [Hp.alloc_next, Hp.set_next] <;> omega) | (simp (disch := (first | omega | (simp only [Hp.alloc_next, Hp.set_next] <;> omega) | fail)) only [Hp.get_set_self, Hp.get_set_ne, Hp.get_alloc_self, Hp.get_alloc_ne, Hp.get_alloc_at, Hp.get_set_at, Hp.set_next, Hp.alloc_next, e1]; done) | fail)) only [Hp.st, Hp.ld, Hp.lda, splice, ble_eq', if_true, if_false, ite_true, ite_false, cond_true, cond_false, decide_true, decide_false, List.length_cons, List.length_nil, List.take_zero, List.take_succ_cons, List.nil_append, List.cons_append, List.append_nil, List.drop_succ_cons, List.drop_zero, List.drop_nil, List.getElem?_cons_succ, List.getElem?_cons_zero, Nat.reduceAdd, Nat.reduceLeDiff, Nat.reduceEqDiff, Nat.zero_add, Nat.add_zero, Nat.le_refl, Nat.zero_le, Nat.succ_ne_self, Nat.mul_one, Int.toNat_natCast, Option.some.injEq, Option.isNone_some, Option.isNone_none, V.int.injEq, V.str.injEq, V.bool.injEq, V.ptr.injEq, V.slc.injEq, V.map.injEq, V.agg.injEq, V.tup.injEq, List.cons.injEq, Prod.mk.injEq, onS, true_and, and_true, and_assoc, exists_and_left, exists_eq_left', forall_eq, heq_eq_eq, reduceCtorEq, Bool.not_true, Bool.not_false, eq_self, not_false_eq_true, Nat.left_eq_add, Nat.add_eq_left, Nat.add_left_cancel_iff, Nat.add_right_cancel_iff, Nat.reduceEqDiff, Nat.one_ne_zero, Hp.get_set_self, Hp.get_set_ne, Hp.get_alloc_self, Hp.get_alloc_ne, Hp.get_alloc_at, Hp.get_set_at, Hp.set_next, Hp.alloc_next, Option.some_ne_none, V.tup.injEq, Option.isSome_some, Option.isSome_none, exists_eq_left, exists_eq, Nat.mul_zero, e1], rfl⟩, by trivial, by trivial, by trivial, fun vs h' => match vs with
    | [.int _ n, .int _ k] => ∃ (c k' : Nat) (s' : IS) (N' : Nat) (F' : List Nat), n = c ∧ k = k' ∧ c ≤ k' ∧ k' ≤ text.length ∧ InR i s' h' F' ∧ SI S fr most N' g (N' + 1) s' ∧ N ≤ N' ∧ s'.fin = s.fin ∧ Upd h1 h' F F' ∧ h'.wf ∧ (k' = 0 → N' = N ∧ s' = s) ∧
        (j0 = N → 0 < k' → N < g + most → s.fin = false → 0 < c ∧ N < N')
    | _ => False, fun vs _ => match vs with
    | [_, .int _ k] => text.length - k.toNat
    | _ => 0, ⟨by trivial, 0, 0, s, N, F, rfl, rfl, Nat.le_refl _, Nat.zero_le _, r0, si, Nat.le_refl _, rfl, Upd.refl _ _, hw, fun _ => ⟨rfl, rfl⟩, fun _ h => absurd h (by omega)⟩, ?_⟩
  rintro bs n k h2 ⟨c, k', s2, N2, F2, rfl, rfl, hck, hkl, r2, si2, hN2, hf2, u2, w2, hz, hprog⟩
  cases hi : ltI (↑k') (↑text.length) with
  | false =>
    rw [ltI_eq, decide_eq_false_iff_not] at hi
    exact hK _ _ ⟨c, s2, N2, F2, rfl, r2, si2, hN2, hf2, u2, w2, fun h3 h4 h5 h6 => hprog h3 (by omega) h5 h6⟩
  | true =>
  rw [ltI_eq, decide_eq_true_eq] at hi
  have hk : k' < text.length := by omega
  have hwk : IntKind.i64.wrap ((k' : Int) + 1) = ((k' + 1 : Nat) : Int) := by rw [wr (by omega) (by omega)]; rfl
  have hx : IntKind.u32.wrap ((fr + j0) % 4294967296 + IntKind.u32.wrap ↑k') = (fr + (j0 + k' : Nat)) % 4294967296 := by
    rw [u32w, u32w]; push_cast; omega
  have hNS2 := si2.NS
  have hnx := si.nx
  rw [hx]
  have skip : ¬ (j0 = N ∧ k' = 0 ∧ N < g + most ∧ s.fin = false) → ∃ (c2 k2 : Nat) (s' : IS) (N' : Nat) (F' : List Nat), ((c : Int) = c2) ∧ (((k' + 1 : Nat) : Int) = k2) ∧ c2 ≤ k2 ∧ k2 ≤ text.length ∧ InR i s' h2 F' ∧ SI S fr most N' g (N' + 1) s' ∧ N ≤ N' ∧ s'.fin = s.fin ∧ Upd h1 h2 F F' ∧ h2.wf ∧ (k2 = 0 → N' = N ∧ s' = s) ∧
        (j0 = N → 0 < k2 → N < g + most → s.fin = false → 0 < c2 ∧ N < N') := fun hno =>
    ⟨c, k' + 1, s2, N2, F2, rfl, rfl, by omega, hk, r2, si2, hN2, hf2, u2, w2, fun h => by omega, fun a1 a2 a3 a4 => hprog a1 (by
      by_cases h0 : k' = 0
      · exact absurd ⟨a1, h0, a3, a4⟩ hno
      · omega) a3 a4⟩
  cases hwin : ltI 0 (IntKind.i32.wrap (IntKind.u32.wrap (IntKind.u32.wrap (IntKind.u32.wrap (s.most - ↑s.rd.length) + s.nx) - (fr + ↑(j0 + k')) % 4294967296))) with
  | false =>
    rw [hwk]
    refine ⟨by trivial, skip ?_, by simp only [Int.toNat_natCast]; omega⟩
    rintro ⟨a1, a2, a3, a4⟩
    rw [ltI_eq, decide_eq_false_iff_not] at hwin
    apply hwin
    have e : IntKind.u32.wrap (IntKind.u32.wrap (IntKind.u32.wrap (s.most - ↑s.rd.length) + s.nx) - (fr + ↑(j0 + k')) % 4294967296) = s.most - s.rd.length := by
      rw [u32w, u32w, u32w, hnx, a1, a2]; simp only [Nat.add_zero]; omega
    rw [e, i32w (by omega), if_pos (by omega)]
    omega
  | true =>
  obtain ⟨m2, a2, f2, o2, G2, p1, _⟩ := r2
  refine ⟨s2.nx, by simp (disch := (first | omega | (simp only [Hp.alloc_next, Hp.set_next] <;> omega) | (simp (disch := (first | omega | (simp only [Hp.alloc_next, Hp.set_next] <;> omega) | fail)) only [Hp.get_set_self, Hp.get_set_ne, Hp.get_alloc_self, Hp.get_alloc_ne, Hp.get_alloc_at, Hp.get_set_at, Hp.set_next, Hp.alloc_next, p1]; done) | fail)) only [Hp.st, Hp.ld, Hp.lda, splice, ble_eq', if_true, if_false, ite_true, ite_false, cond_true, cond_false, decide_true, decide_false, List.length_cons, List.length_nil, List.take_zero, List.take_succ_cons, List.nil_append, List.cons_append, List.append_nil, List.drop_succ_cons, List.drop_zero, List.drop_nil, List.getElem?_cons_succ, List.getElem?_cons_zero, Nat.reduceAdd, Nat.reduceLeDiff, Nat.reduceEqDiff, Nat.zero_add, Nat.add_zero, Nat.le_refl, Nat.zero_le, Nat.succ_ne_self, Nat.mul_one, Int.toNat_natCast, Option.some.injEq, Option.isNone_some, Option.isNone_none, V.int.injEq, V.str.injEq, V.bool.injEq, V.ptr.injEq, V.slc.injEq, V.map.injEq, V.agg.injEq, V.tup.injEq, List.cons.injEq, Prod.mk.injEq, onS, true_and, and_true, and_assoc, exists_and_left, exists_eq_left', forall_eq, heq_eq_eq, reduceCtorEq, Bool.not_true, Bool.not_false, eq_self, not_false_eq_true, Nat.left_eq_add, Nat.add_eq_left, Nat.add_left_cancel_iff, Nat.add_right_cancel_iff, Nat.reduceEqDiff, Nat.one_ne_zero, Hp.get_set_self, Hp.get_set_ne, Hp.get_alloc_self, Hp.get_alloc_ne, Hp.get_alloc_at, Hp.get_set_at, Hp.set_next, Hp.alloc_next, Option.some_ne_none, V.tup.injEq, Option.isSome_some, Option.isSome_none, exists_eq_left, exists_eq, Nat.mul_zero, p1], ?_⟩
  have r2 : InR i s2 h2 F2 := ⟨m2, a2, f2, o2, G2, p1, by assumption⟩
  have hdiff : IntKind.i32.wrap (IntKind.u32.wrap ((fr + ↑(j0 + k')) % 4294967296 - s2.nx)) = ((j0 + k' : Nat) : Int) - N2 := by
    rw [u32w, si2.nx, i32w (by omega)]
    split <;> omega
  rw [hdiff]
  cases hlt : ltI (((j0 + k' : Nat) : Int) - N2) 0 with
  | true =>
    rw [ltI_eq, decide_eq_true_eq] at hlt
    rw [hwk]
    refine ⟨by trivial, skip ?_, by simp only [Int.toNat_natCast]; omega⟩
    rintro ⟨b1, b2, b3, b4⟩
    have := (hz b2).1
    omega
  | false =>
  rw [ltI_eq, decide_eq_false_iff_not] at hlt
  obtain ⟨b, hb⟩ : ∃ b, text[k']? = some b := ⟨_, List.getElem?_eq_getElem hk⟩
  have hSb := ht k' b hb
  have tk : ((k' : Int)).toNat = k' := by omega
  refine ⟨by omega, b, by rw [tk]; exact hb, ?_⟩
  refine (takes_spec (j := j0 + k') hS hm w2 r2 si2 (by omega) hSb).mono ?_
  rintro _ h3 ⟨t, s3, N3, F3, rfl, r3, si3, hN3, hf3, u3, w3, hpr⟩
  refine ⟨t, rfl, ?_⟩
  have joins : ∀ c2 : Nat, c2 ≤ k' + 1 → (j0 = N → N < g + most → s.fin = false → 0 < c2 ∧ N < N3) → XCalls Try.prog 44 [.ptr (some (i, 0))] h3 fun v h4 => ∃ (k2 : Nat) (s' : IS) (N' : Nat) (F' : List Nat), (((k' + 1 : Nat) : Int) = k2) ∧ c2 ≤ k2 ∧ k2 ≤ text.length ∧ InR i s' h4 F' ∧ SI S fr most N' g (N' + 1) s' ∧ N ≤ N' ∧ s'.fin = s.fin ∧ Upd h1 h4 F F' ∧ h4.wf ∧ (k2 = 0 → N' = N ∧ s' = s) ∧
        (j0 = N → 0 < k2 → N < g + most → s.fin = false → 0 < c2 ∧ N < N') := fun c2 hc2 hp => by
    refine (joins_spec hS hm w3 r3 si3).mono ?_
    rintro _ h4 ⟨s4, N4, F4, r4, si4, hN4, hf4, u4, w4⟩
    exact ⟨k' + 1, s4, N4, F4, rfl, by omega, hk, r4, si4, by omega, by rw [hf4, hf3, hf2], (u2.trans u3).trans u4, w4, fun h => by omega, fun a1 a2 a3 a4 => by
      obtain ⟨q1, q2⟩ := hp a1 a3 a4
      exact ⟨q1, by omega⟩⟩
  have hwc : IntKind.i64.wrap ((c : Int) + 1) = ((c + 1 : Nat) : Int) := by rw [wr (by omega) (by omega)]; rfl
  cases t with
  | true =>
    refine (joins (c + 1) (by omega) fun a1 a3 a4 => ?_).mono ?_
    · refine ⟨by omega, ?_⟩
      by_cases h0 : k' = 0
      · obtain ⟨rfl, rfl⟩ := hz h0
        have := (hpr (by omega) a3 a4).2
        omega
      · have := (hprog a1 (by omega) a3 a4).2
        omega
    rintro _ h4 ⟨k2, s', N', F', hk2, rest⟩
    rw [hwc, hwk]
    exact ⟨by trivial, ⟨c + 1, k2, s', N', F', rfl, hk2, rest⟩, by simp only [Int.toNat_natCast]; omega⟩
  | false =>
    refine (joins c (by omega) fun a1 a3 a4 => ?_).mono ?_
    · by_cases h0 : k' = 0
      · obtain ⟨rfl, rfl⟩ := hz h0
        have := (hpr (by omega) a3 a4).1
        cases this
      · have := hprog a1 (by omega) a3 a4
        exact ⟨this.1, by omega⟩
    rintro _ h4 ⟨k2, s', N', F', hk2, rest⟩
    rw [hwk]
    exact ⟨by trivial, ⟨c, k2, s', N', F', rfl, hk2, rest⟩, by simp only [Int.toNat_natCast]; omega⟩

theorem fin_spec {S : List UInt8} {fr : Int} {most N g : Nat} {s : IS} {h : Hp} {i : Nat} {F : List Nat} (hS : S.length ≤ 4096) (hm : 1 ≤ most ∧ most ≤ 16384) (hw : h.wf) (r : InR i s h F) (si : SI S fr most N g (N + 1) s) :
    XCalls Try.prog 27 [.ptr (some (i, 0)), .int .u32 ((fr + S.length) % 4294967296)] h fun v h' => ∃ (b : Bool) (s' : IS), v = .bool b ∧ InR i s' h' F ∧ SI S fr most N g (N + 1) s' ∧ Upd h h' F F ∧ h'.wf ∧ (N = S.length → b = true ∧ s'.fin = true) := by
  have hlen := si.len
  have hgN := si.gN
  have hNS := si.NS
  have hrl := si.rl
  have hmo := si.mo
  have hnx := si.nx
  refine XCalls.cps fun K hK => ?_
  have r0 := r
  obtain ⟨m, a, f, o, G, e1, e2, e3, e4, hF, d1, d2, d3⟩ := r
  have hil := hw.lt e1
  have hml := hw.lt e2
  have hGl : ∀ x ∈ G, x < h.next := fun x hx => (Own.rep _ _ _ _).lt hw e4 hx
  have hA : N = S.length → s.A = [] := fun hN => by
    cases hq : s.A with
    | nil => rfl
    | cons x l =>
      obtain ⟨j, b, h1, h2, h3, h4, h5⟩ := si.far x (by rw [hq]; simp)
      have := (List.getElem?_eq_some_iff.1 h4).1
      omega
  apply x27; unfold X27
  refine ⟨some m, by simp (disch := (first | omega | (simp only [Hp.alloc_next, Hp.set_next] <;> omega) | (simp (disch := (first | omega | (simp only [Hp.alloc_next, Hp.set_next] <;> omega) | fail)) only [Hp.get_set_self, Hp.get_set_ne, Hp.get_alloc_self, Hp.get_alloc_ne, Hp.get_alloc_at, Hp.get_set_at, Hp.set_next, Hp.alloc_next, e1]; done) | fail)) only [Hp.st, Hp.ld, Hp.lda, splice, ble_eq', if_true, if_false, ite_true, ite_false, cond_true, cond_false, decide_true, decide_false, List.length_cons, List.length_nil, List.take_zero, List.take_succ_cons, List.nil_append, List.cons_append, List.append_nil, List.drop_succ_cons, List.drop_zero, List.drop_nil, List.getElem?_cons_succ, List.getElem?_cons_zero, Nat.reduceAdd, Nat.reduceLeDiff, Nat.reduceEqDiff, Nat.zero_add, Nat.add_zero, Nat.le_refl, Nat.zero_le, Nat.succ_ne_self, Nat.mul_one, Int.toNat_natCast, Option.some.injEq, Option.isNone_some, Option.isNone_none, V.int.injEq, V.str.injEq, V.bool.injEq, V.ptr.injEq, V.slc.injEq, V.map.injEq, V.agg.injEq, V.tup.injEq, List.cons.injEq, Prod.mk.injEq, onS, true_and, and_true, and_assoc, exists_and_left, exists_eq_left', forall_eq, heq_eq_eq, reduceCtorEq, Bool.not_true, Bool.not_false, eq_self, not_false_eq_true, Nat.left_eq_add, Nat.add_eq_left, Nat.add_left_cancel_iff, Nat.add_right_cancel_iff, Nat.reduceEqDiff, Nat.one_ne_zero, Hp.get_set_self, Hp.get_set_ne, Hp.get_alloc_self, Hp.get_alloc_ne, Hp.get_alloc_at, Hp.get_set_at, Hp.set_next, Hp.alloc_next, Option.some_ne_none, V.tup.injEq, Option.isSome_some, Option.isSome_none, exists_eq_left, exists_eq, Nat.mul_zero, e1], ?_⟩
  refine ⟨s.nx, by simp (disch := (first | omega | (simp only [Hp.alloc_next, Hp.set_next] <;> omega) | (simp (disch := (first | omega | (simp only [Hp.alloc_next, Hp.set_next] <;> omega) | fail)) only [Hp.get_set_self, Hp.get_set_ne, Hp.get_alloc_self, Hp.get_alloc_ne, Hp.get_alloc_at, Hp.get_set_at, Hp.set_next, Hp.alloc_next, e1]; done) | fail)) only [Hp.st, Hp.ld, Hp.lda, splice, ble_eq', if_true, if_false, ite_true, ite_false, cond_true, cond_false, decide_true, decide_false, List.length_cons, List.length_nil, List.take_zero, List.take_succ_cons, List.nil_append, List.cons_append, List.append_nil, List.drop_succ_cons, List.drop_zero, List.drop_nil, List.getElem?_cons_succ, List.getElem?_cons_zero, Nat.reduceAdd, Nat.reduceLeDiff, Nat.reduceEqDiff, Nat.zero_add, Nat.add_zero, Nat.le_refl, Nat.zero_le, Nat.succ_ne_self, Nat.mul_one, Int.toNat_natCast, Option.some.injEq, Option.isNone_some, Option.isNone_none, V.int.injEq, V.str.injEq, V.bool.injEq, V.ptr.injEq, V.slc.injEq, V.map.injEq, V.agg.injEq, V.tup.injEq, List.cons.injEq, Prod.mk.injEq, onS, true_and, and_true, and_assoc, exists_and_left, exists_eq_left', forall_eq, heq_eq_eq, reduceCtorEq, Bool.not_true, Bool.not_false, eq_self, not_false_eq_true, Nat.left_eq_add, Nat.add_eq_left, Nat.add_left_cancel_iff, Nat.add_right_cancel_iff, Nat.reduceEqDiff, Nat.one_ne_zero, Hp.get_set_self, Hp.get_set_ne, Hp.get_alloc_self, Hp.get_alloc_ne, Hp.get_alloc_at, Hp.get_set_at, Hp.set_next, Hp.alloc_next, Option.some_ne_none, V.tup.injEq, Option.isSome_some, Option.isSome_none, exists_eq_left, exists_eq, Nat.mul_zero, e1], fun vs h' => match vs with
    | [] => ∃ s', InR i s' h' F ∧ SI S fr most N g (N + 1) s' ∧ Upd h h' F F ∧ h'.wf ∧ (N = S.length → s'.fin = true)
    | _ => False, ?_, ?_⟩
  · refine ⟨s.fin, by simp (disch := (first | omega | (simp only [Hp.alloc_next, Hp.set_next] <;> omega) | (simp (disch := (first | omega | (simp only [Hp.alloc_next, Hp.set_next] <;> omega) | fail)) only [Hp.get_set_self, Hp.get_set_ne, Hp.get_alloc_self, Hp.get_alloc_ne, Hp.get_alloc_at, Hp.get_set_at, Hp.set_next, Hp.alloc_next, e1]; done) | fail)) only [Hp.st, Hp.ld, Hp.lda, splice, ble_eq', if_true, if_false, ite_true, ite_false, cond_true, cond_false, decide_true, decide_false, List.length_cons, List.length_nil, List.take_zero, List.take_succ_cons, List.nil_append, List.cons_append, List.append_nil, List.drop_succ_cons, List.drop_zero, List.drop_nil, List.getElem?_cons_succ, List.getElem?_cons_zero, Nat.reduceAdd, Nat.reduceLeDiff, Nat.reduceEqDiff, Nat.zero_add, Nat.add_zero, Nat.le_refl, Nat.zero_le, Nat.succ_ne_self, Nat.mul_one, Int.toNat_natCast, Option.some.injEq, Option.isNone_some, Option.isNone_none, V.int.injEq, V.str.injEq, V.bool.injEq, V.ptr.injEq, V.slc.injEq, V.map.injEq, V.agg.injEq, V.tup.injEq, List.cons.injEq, Prod.mk.injEq, onS, true_and, and_true, and_assoc, exists_and_left, exists_eq_left', forall_eq, heq_eq_eq, reduceCtorEq, Bool.not_true, Bool.not_false, eq_self, not_false_eq_true, Nat.left_eq_add, Nat.add_eq_left, Nat.add_left_cancel_iff, Nat.add_right_cancel_iff, Nat.reduceEqDiff, Nat.one_ne_zero, Hp.get_set_self, Hp.get_set_ne, Hp.get_alloc_self, Hp.get_alloc_ne, Hp.get_alloc_at, Hp.get_set_at, Hp.set_next, Hp.alloc_next, Option.some_ne_none, V.tup.injEq, Option.isSome_some, Option.isSome_none, exists_eq_left, exists_eq, Nat.mul_zero, e1], ?_⟩
    have keep : (N = S.length → s.fin = true) → ∃ s', InR i s' h F ∧ SI S fr most N g (N + 1) s' ∧ Upd h h F F ∧ h.wf ∧ (N = S.length → s'.fin = true) := fun hh => ⟨s, r0, si, Upd.refl _ _, hw, hh⟩
    cases hfin : s.fin with
    | true => exact ⟨rfl, keep fun _ => hfin⟩
    | false =>
      have hd : IntKind.i32.wrap (IntKind.u32.wrap ((fr + ↑S.length) % 4294967296 - s.nx)) = ((S.length - N : Nat) : Int) := by
        rw [u32w, hnx, i32w (by omega)]
        split <;> omega
      rw [hd]
      have c0 : ltI ((S.length - N : Nat) : Int) 0 = false := by rw [ltI_eq, decide_eq_false_iff_not]; omega
      rw [c0]
      refine (window_spec r0 (by omega)).mono ?_
      rintro _ h1 ⟨rfl, rfl⟩
      refine ⟨_, rfl, ?_⟩
      rw [wr (x := ((S.length - N : Nat) : Int)) (by omega) (by omega)]
      cases c1 : ltI (s.most - ↑s.rd.length) ((S.length - N : Nat) : Int) with
      | true =>
        rw [ltI_eq, decide_eq_true_eq] at c1
        exact ⟨rfl, keep fun h => by omega⟩
      | false =>
        obtain ⟨g2, hx2, it2, s2, n2, w2⟩ := e3.iter mtF e2 hw
        refine ⟨some m, by simp (disch := (first | omega | (simp only [Hp.alloc_next, Hp.set_next] <;> omega) | (simp (disch := (first | omega | (simp only [Hp.alloc_next, Hp.set_next] <;> omega) | fail)) only [Hp.get_set_self, Hp.get_set_ne, Hp.get_alloc_self, Hp.get_alloc_ne, Hp.get_alloc_at, Hp.get_set_at, Hp.set_next, Hp.alloc_next, e1]; done) | fail)) only [Hp.st, Hp.ld, Hp.lda, splice, ble_eq', if_true, if_false, ite_true, ite_false, cond_true, cond_false, decide_true, decide_false, List.length_cons, List.length_nil, List.take_zero, List.take_succ_cons, List.nil_append, List.cons_append, List.append_nil, List.drop_succ_cons, List.drop_zero, List.drop_nil, List.getElem?_cons_succ, List.getElem?_cons_zero, Nat.reduceAdd, Nat.reduceLeDiff, Nat.reduceEqDiff, Nat.zero_add, Nat.add_zero, Nat.le_refl, Nat.zero_le, Nat.succ_ne_self, Nat.mul_one, Int.toNat_natCast, Option.some.injEq, Option.isNone_some, Option.isNone_none, V.int.injEq, V.str.injEq, V.bool.injEq, V.ptr.injEq, V.slc.injEq, V.map.injEq, V.agg.injEq, V.tup.injEq, List.cons.injEq, Prod.mk.injEq, onS, true_and, and_true, and_assoc, exists_and_left, exists_eq_left', forall_eq, heq_eq_eq, reduceCtorEq, Bool.not_true, Bool.not_false, eq_self, not_false_eq_true, Nat.left_eq_add, Nat.add_eq_left, Nat.add_left_cancel_iff, Nat.add_right_cancel_iff, Nat.reduceEqDiff, Nat.one_ne_zero, Hp.get_set_self, Hp.get_set_ne, Hp.get_alloc_self, Hp.get_alloc_ne, Hp.get_alloc_at, Hp.get_set_at, Hp.set_next, Hp.alloc_next, Option.some_ne_none, V.tup.injEq, Option.isSome_some, Option.isSome_none, exists_eq_left, exists_eq, Nat.mul_zero, e1], _, hx2, fun vs h' => match vs with
          | [.bool b] => ∃ done, Itr kU bU s.A m h1.next done h' ∧ (∀ j, j < h1.next → h'.get j = h1.get j) ∧ h'.wf ∧ h1.next < h'.next ∧ (s.A = [] → b = false)
          | _ => False, fun _ h' => s.A.length - itN h1.next h', ⟨rfl, [], it2, fun j hj => s2 j (by omega), w2, by omega, fun _ => rfl⟩, ?_⟩
        rintro bs b g3 ⟨done, it3, s3, w3, n3, hb⟩
        obtain ⟨l, hl, hend, hforms, hstep⟩ := it3.next w3
        have q3 : Quiet h1 g3 := ⟨s3, by omega, w3⟩
        refine ⟨l, hl, fun hmem => ?_, hforms, ?_⟩
        · cases b with
          | true =>
            refine ⟨rfl, s, r0.quiet hw q3, si, q3.upd _, w3, fun hN => ?_⟩
            have := hb (hA hN); cases this
          | false =>
            have e1' : g3.get i = some (.row [.int .u32 s.nx, .slc a s.rd.length f, .map (some m), .int .i64 s.rows, .int .i64 s.most, .bool s.fin, .int .u32 s.en] 1 false) := by rw [s3 _ hil]; exact e1
            refine ⟨_, Hp.st_of e1' (Nat.le_of_ble_eq_true rfl), _, Hp.st_of Hp.get_set_self (Nat.le_of_ble_eq_true rfl), rfl, { s with fin := true, en := (fr + S.length) % 4294967296 }, ⟨m, a, f, o, G, ?_, ?_, e3, (Own.rep _ _ _ _).loc _ _ _ (fun x hx => ?_) e4, hF, d1, d2, d3⟩, ⟨si.nx, si.rd, si.gN, si.NS, si.rl, si.mo, si.far, si.nA, fun _ => rfl⟩, ⟨fun x hx hxF => ?_, fun x hx => .inl hx, by simp only [Hp.set_next]; omega⟩, (w3.set (by omega)).set (by simp only [Hp.set_next]; omega), fun _ => rfl⟩
            · rw [Hp.get_set_self]; rfl
            · rw [Hp.get_set_ne (Ne.symm d1), Hp.get_set_ne (Ne.symm d1), s3 _ hml]; exact e2
            · have k1 : x ≠ i := fun e => d2 (e ▸ hx)
              rw [Hp.get_set_ne k1, Hp.get_set_ne k1, s3 x (hGl x hx)]
            · have k1 : x ≠ i := by rintro rfl; exact hxF (by rw [hF]; simp)
              rw [Hp.get_set_ne k1, Hp.get_set_ne k1, s3 x hx]
        · intro x y g4 hmem
          obtain ⟨z, hz, rfl, rfl, hent, hs4, hn4, w4, _, hnx4⟩ := hstep x y g4 hmem
          obtain ⟨i5, lt5⟩ := hnx4 g4 rfl rfl
          have hne : s.A = [] → False := fun e => by rw [e] at hz; cases hz
          have go : ∀ b' : Bool, ∃ done, Itr kU bU s.A m h1.next done g4 ∧ (∀ j, j < h1.next → g4.get j = h1.get j) ∧ g4.wf ∧ h1.next < g4.next ∧ (s.A = [] → b' = false) := fun b' => ⟨_, i5, fun j hj => by rw [hs4 j (by omega), s3 j hj], w4, by omega, fun e => (hne e).elim⟩
          refine ⟨z.1, _, hent, ?_⟩
          cases b with
          | true => exact ⟨rfl, go _, lt5⟩
          | false => exact ⟨rfl, go _, lt5⟩
  rintro bs h2 ⟨s', r2, si2, u2, w2, hfin⟩
  have r2' := r2
  obtain ⟨m2, a2, f2, o2, G2, p1, _⟩ := r2'
  refine ⟨s'.fin, by simp (disch := (first | omega | (simp only [Hp.alloc_next, Hp.set_next] <;> omega) | (simp (disch := (first | omega | (simp only [Hp.alloc_next, Hp.set_next] <;> omega) | fail)) only [Hp.get_set_self, Hp.get_set_ne, Hp.get_alloc_self, Hp.get_alloc_ne, Hp.get_alloc_at, Hp.get_set_at, Hp.set_next, Hp.alloc_next, p1]; done) | fail)) only [Hp.st, Hp.ld, Hp.lda, splice, ble_eq', if_true, if_false, ite_true, ite_false, cond_true, cond_false, decide_true, decide_false, List.length_cons, List.length_nil, List.take_zero, List.take_succ_cons, List.nil_append, List.cons_append, List.append_nil, List.drop_succ_cons, List.drop_zero, List.drop_nil, List.getElem?_cons_succ, List.getElem?_cons_zero, Nat.reduceAdd, Nat.reduceLeDiff, Nat.reduceEqDiff, Nat.zero_add, Nat.add_zero, Nat.le_refl, Nat.zero_le, Nat.succ_ne_self, Nat.mul_one, Int.toNat_natCast, Option.some.injEq, Option.isNone_some, Option.isNone_none, V.int.injEq, V.str.injEq, V.bool.injEq, V.ptr.injEq, V.slc.injEq, V.map.injEq, V.agg.injEq, V.tup.injEq, List.cons.injEq, Prod.mk.injEq, onS, true_and, and_true, and_assoc, exists_and_left, exists_eq_left', forall_eq, heq_eq_eq, reduceCtorEq, Bool.not_true, Bool.not_false, eq_self, not_false_eq_true, Nat.left_eq_add, Nat.add_eq_left, Nat.add_left_cancel_iff, Nat.add_right_cancel_iff, Nat.reduceEqDiff, Nat.one_ne_zero, Hp.get_set_self, Hp.get_set_ne, Hp.get_alloc_self, Hp.get_alloc_ne, Hp.get_alloc_at, Hp.get_set_at, Hp.set_next, Hp.alloc_next, Option.some_ne_none, V.tup.injEq, Option.isSome_some, Option.isSome_none, exists_eq_left, exists_eq, Nat.mul_zero, p1], ?_⟩
  cases hf2 : s'.fin with
  | false => exact hK _ _ ⟨false, s', rfl, r2, si2, u2, w2, fun hN => by have := hfin hN; rw [hf2] at this; cases this⟩
  | true =>
    refine ⟨s'.en, by simp (disch := (first | omega | (simp only [Hp.alloc_next, Hp.set_next] <;> omega) | (simp (disch := (first | omega | (simp only [Hp.alloc_next, Hp.set_next] <;> omega) | fail)) only [Hp.get_set_self, Hp.get_set_ne, Hp.get_alloc_self, Hp.get_alloc_ne, Hp.get_alloc_at, Hp.get_set_at, Hp.set_next, Hp.alloc_next, p1]; done) | fail)) only [Hp.st, Hp.ld, Hp.lda, splice, ble_eq', if_true, if_false, ite_true, ite_false, cond_true, cond_false, decide_true, decide_false, List.length_cons, List.length_nil, List.take_zero, List.take_succ_cons, List.nil_append, List.cons_append, List.append_nil, List.drop_succ_cons, List.drop_zero, List.drop_nil, List.getElem?_cons_succ, List.getElem?_cons_zero, Nat.reduceAdd, Nat.reduceLeDiff, Nat.reduceEqDiff, Nat.zero_add, Nat.add_zero, Nat.le_refl, Nat.zero_le, Nat.succ_ne_self, Nat.mul_one, Int.toNat_natCast, Option.some.injEq, Option.isNone_some, Option.isNone_none, V.int.injEq, V.str.injEq, V.bool.injEq, V.ptr.injEq, V.slc.injEq, V.map.injEq, V.agg.injEq, V.tup.injEq, List.cons.injEq, Prod.mk.injEq, onS, true_and, and_true, and_assoc, exists_and_left, exists_eq_left', forall_eq, heq_eq_eq, reduceCtorEq, Bool.not_true, Bool.not_false, eq_self, not_false_eq_true, Nat.left_eq_add, Nat.add_eq_left, Nat.add_left_cancel_iff, Nat.add_right_cancel_iff, Nat.reduceEqDiff, Nat.one_ne_zero, Hp.get_set_self, Hp.get_set_ne, Hp.get_alloc_self, Hp.get_alloc_ne, Hp.get_alloc_at, Hp.get_set_at, Hp.set_next, Hp.alloc_next, Option.some_ne_none, V.tup.injEq, Option.isSome_some, Option.isSome_none, exists_eq_left, exists_eq, Nat.mul_zero, p1], s'.nx, by simp (disch := (first | omega | (simp only [Hp.alloc_next, Hp.set_next] <;> omega) | (simp (disch := (first | omega | (simp only [Hp.alloc_next, Hp.set_next] <;> omega) | fail)) only [Hp.get_set_self, Hp.get_set_ne, Hp.get_alloc_self, Hp.get_alloc_ne, Hp.get_alloc_at, Hp.get_set_at, Hp.set_next, Hp.alloc_next, p1]; done) | fail)) only [Hp.st, Hp.ld, Hp.lda, splice, ble_eq', if_true, if_false, ite_true, ite_false, cond_true, cond_false, decide_true, decide_false, List.length_cons, List.length_nil, List.take_zero, List.take_succ_cons, List.nil_append, List.cons_append, List.append_nil, List.drop_succ_cons, List.drop_zero, List.drop_nil, List.getElem?_cons_succ, List.getElem?_cons_zero, Nat.reduceAdd, Nat.reduceLeDiff, Nat.reduceEqDiff, Nat.zero_add, Nat.add_zero, Nat.le_refl, Nat.zero_le, Nat.succ_ne_self, Nat.mul_one, Int.toNat_natCast, Option.some.injEq, Option.isNone_some, Option.isNone_none, V.int.injEq, V.str.injEq, V.bool.injEq, V.ptr.injEq, V.slc.injEq, V.map.injEq, V.agg.injEq, V.tup.injEq, List.cons.injEq, Prod.mk.injEq, onS, true_and, and_true, and_assoc, exists_and_left, exists_eq_left', forall_eq, heq_eq_eq, reduceCtorEq, Bool.not_true, Bool.not_false, eq_self, not_false_eq_true, Nat.left_eq_add, Nat.add_eq_left, Nat.add_left_cancel_iff, Nat.add_right_cancel_iff, Nat.reduceEqDiff, Nat.one_ne_zero, Hp.get_set_self, Hp.get_set_ne, Hp.get_alloc_self, Hp.get_alloc_ne, Hp.get_alloc_at, Hp.get_set_at, Hp.set_next, Hp.alloc_next, Option.some_ne_none, V.tup.injEq, Option.isSome_some, Option.isSome_none, exists_eq_left, exists_eq, Nat.mul_zero, p1], hK _ _ ⟨_, s', rfl, r2, si2, u2, w2, fun hN => ⟨?_, hf2⟩⟩⟩
    rw [si2.en hf2, si2.nx, hN, beq_self_eq_true]

end Go.Vex.In
