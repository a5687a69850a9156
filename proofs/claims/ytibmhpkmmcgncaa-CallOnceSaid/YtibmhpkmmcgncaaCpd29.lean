/-
  Contracts of ports, fourth part: Lend, Give.
-/
import Derived.Test.YtibmhpkmmcgncaaVexDD
import Derived.Test.YtibmhpkmmcgncaaTab29
import Derived.Test.YtibmhpkmmcgncaaXp29
import Derived.Test.YtibmhpkmmcgncaaCpa29
import Derived.Test.YtibmhpkmmcgncaaCpb29
import Derived.Test.YtibmhpkmmcgncaaCpc29
set_option linter.unusedVariables false
set_option linter.unusedSimpArgs false
namespace Go.Vex.Ports
open Go.Proofs

/-- the i-th place that may be lent -/
def lendAt (b : Bd) (draw : Int) (i : Nat) : Bd := ⟨b.kind, b.ip, 32768 + (draw + i) % 28232, false⟩

/-- what Lend does -/
def LendR (L : List (Int × Bd)) (s : Int) (b : Bd) (draw code port : Int) (L' : List (Int × Bd)) : Prop :=
  (mayCode L s b false ≠ 0 ∧ code = mayCode L s b false ∧ port = 0 ∧ L' = L) ∨
  (mayCode L s b false = 0 ∧ (∃ i : Nat, i < 28232 ∧ (∀ j, j < i → freeB L (lendAt b draw j) = false) ∧ freeB L (lendAt b draw i) = true ∧ code = 0 ∧ port = (lendAt b draw i).port ∧ L' = L ++ [(s, lendAt b draw i)])) ∨
  (mayCode L s b false = 0 ∧ (∀ j : Nat, j < 28232 → freeB L (lendAt b draw j) = false) ∧ code = 220 ∧ port = 0 ∧ L' = L)

theorem u16w {x : Int} (h0 : 0 ≤ x) (h1 : x < 65536) : IntKind.u16.wrap x = x := wrap_of (by simp [IntKind.min, IntKind.max, IntKind.signed, IntKind.bits]; omega)

theorem lend_spec {h : Hp} {p : Nat} {L : List (Int × Bd)} {F : List Nat} {s draw : Int} {b : Bd} (hw : h.wf) (r : PortsR p L h F) (hd : 0 ≤ draw ∧ draw < 65536) :
    XCalls Try.prog 50 [.ptr (some (p, 0)), .int .u64 s, bV b, .int .u16 draw] h fun v h' => ∃ code port L', v = .tup [.int .u16 port, .int .i64 code] ∧ LendR L s b draw code port L' ∧ PortsR p L' h' F ∧ Upd h h' F F ∧ h'.wf := by
  have r0 := r
  obtain ⟨m, o, h1, h2, h3, rfl, h5⟩ := r
  have hpn := hw.lt h1
  have hmn := hw.lt h2
  refine XCalls.cps fun K hK => ?_
  apply x50; unfold X50
  rintro g1 rfl
  refine ⟨b.kind, b.ip, b.port, b.share, by simp (disch := (first | omega | (simp only [Hp.alloc_next, Hp.set_next] <;> omega) | (simp (disch := (first | omega | (simp only [Hp.alloc_next, Hp.set_next] <;> omega) | fail)) only [Hp.get_set_self, Hp.get_set_ne, Hp.get_alloc_self, Hp.get_alloc_ne, Hp.get_alloc_at, Hp.get_set_at, Hp.set_next, Hp.alloc_next]; done) | fail)) only [Hp.st, Hp.ld, Hp.lda, splice, ble_eq', if_true, if_false, ite_true, ite_false, cond_true, cond_false, decide_true, decide_false, List.length_cons, List.length_nil, List.take_zero, List.take_succ_cons, List.nil_append, List.cons_append, List.append_nil, List.drop_succ_cons, List.drop_zero, List.drop_nil, List.getElem?_cons_succ, List.getElem?_cons_zero, Nat.reduceAdd, Nat.reduceLeDiff, Nat.reduceEqDiff, Nat.zero_add, Nat.add_zero, Nat.le_refl, Nat.zero_le, Nat.succ_ne_self, Nat.mul_one, Int.toNat_natCast, Option.some.injEq, Option.isNone_some, Option.isNone_none, V.int.injEq, V.str.injEq, V.bool.injEq, V.ptr.injEq, V.slc.injEq, V.map.injEq, V.agg.injEq, V.tup.injEq, List.cons.injEq, Prod.mk.injEq, onS, true_and, and_true, and_assoc, exists_and_left, exists_eq_left', forall_eq, heq_eq_eq, reduceCtorEq, Bool.not_true, Bool.not_false, eq_self, not_false_eq_true, Nat.left_eq_add, Nat.add_eq_left, Nat.add_left_cancel_iff, Nat.add_right_cancel_iff, Nat.reduceEqDiff, Nat.one_ne_zero, Hp.get_set_self, Hp.get_set_ne, Hp.get_alloc_self, Hp.get_alloc_ne, Hp.get_alloc_at, Hp.get_set_at, Hp.set_next, Hp.alloc_next, Option.some_ne_none, V.tup.injEq, Option.isSome_some, Option.isSome_none, exists_eq_left, exists_eq, Nat.mul_zero], ?_⟩
  have q1 : Quiet h (h.alloc (.row [.int .u8 b.kind, .int .u32 b.ip, .int .u16 b.port, .bool b.share] 1 false)) := Quiet.alloc hw _
  refine (may_spec (b := b) hw.alloc (r0.quiet hw q1)).mono ?_
  rintro _ g2 ⟨rfl, q2⟩
  have b2 : g2.get h.next = some (.row [.int .u8 b.kind, .int .u32 b.ip, .int .u16 b.port, .bool b.share] 1 false) := by rw [q2.same _ (by simp (disch := (first | omega | (simp only [Hp.alloc_next, Hp.set_next] <;> omega) | (simp (disch := (first | omega | (simp only [Hp.alloc_next, Hp.set_next] <;> omega) | fail)) only [Hp.get_set_self, Hp.get_set_ne, Hp.get_alloc_self, Hp.get_alloc_ne, Hp.get_alloc_at, Hp.get_set_at, Hp.set_next, Hp.alloc_next]; done) | fail)) only [Hp.st, Hp.ld, Hp.lda, splice, ble_eq', if_true, if_false, ite_true, ite_false, cond_true, cond_false, decide_true, decide_false, List.length_cons, List.length_nil, List.take_zero, List.take_succ_cons, List.nil_append, List.cons_append, List.append_nil, List.drop_succ_cons, List.drop_zero, List.drop_nil, List.getElem?_cons_succ, List.getElem?_cons_zero, Nat.reduceAdd, Nat.reduceLeDiff, Nat.reduceEqDiff, Nat.zero_add, Nat.add_zero, Nat.le_refl, Nat.zero_le, Nat.succ_ne_self, Nat.mul_one, Int.toNat_natCast, Option.some.injEq, Option.isNone_some, Option.isNone_none, V.int.injEq, V.str.injEq, V.bool.injEq, V.ptr.injEq, V.slc.injEq, V.map.injEq, V.agg.injEq, V.tup.injEq, List.cons.injEq, Prod.mk.injEq, onS, true_and, and_true, and_assoc, exists_and_left, exists_eq_left', forall_eq, heq_eq_eq, reduceCtorEq, Bool.not_true, Bool.not_false, eq_self, not_false_eq_true, Nat.left_eq_add, Nat.add_eq_left, Nat.add_left_cancel_iff, Nat.add_right_cancel_iff, Nat.reduceEqDiff, Nat.one_ne_zero, Hp.get_set_self, Hp.get_set_ne, Hp.get_alloc_self, Hp.get_alloc_ne, Hp.get_alloc_at, Hp.get_set_at, Hp.set_next, Hp.alloc_next, Option.some_ne_none, V.tup.injEq, Option.isSome_some, Option.isSome_none, exists_eq_left, exists_eq, Nat.mul_zero]; omega)]; simp (disch := (first | omega | (simp only [Hp.alloc_next, Hp.set_next] <;> omega) | (simp (disch := (first | omega | (simp only [Hp.alloc_next, Hp.set_next] <;> omega) | fail)) only [Hp.get_set_self, Hp.get_set_ne, Hp.get_alloc_self, Hp.get_alloc_ne, Hp.get_alloc_at, Hp.get_set_at, Hp.set_next, Hp.alloc_next]; done) | fail)) only [Hp.st, Hp.ld, Hp.lda, splice, ble_eq', if_true, if_false, ite_true, ite_false, cond_true, cond_false, decide_true, decide_false, List.length_cons, List.length_nil, List.take_zero, List.take_succ_cons, List.nil_append, List.cons_append, List.append_nil, List.drop_succ_cons, List.drop_zero, List.drop_nil, List.getElem?_cons_succ, List.getElem?_cons_zero, Nat.reduceAdd, Nat.reduceLeDiff, Nat.reduceEqDiff, Nat.zero_add, Nat.add_zero, Nat.le_refl, Nat.zero_le, Nat.succ_ne_self, Nat.mul_one, Int.toNat_natCast, Option.some.injEq, Option.isNone_some, Option.isNone_none, V.int.injEq, V.str.injEq, V.bool.injEq, V.ptr.injEq, V.slc.injEq, V.map.injEq, V.agg.injEq, V.tup.injEq, List.cons.injEq, Prod.mk.injEq, onS, true_and, and_true, and_assoc, exists_and_left, exists_eq_left', forall_eq, heq_eq_eq, reduceCtorEq, Bool.not_true, Bool.not_false, eq_self, not_false_eq_true, Nat.left_eq_add, Nat.add_eq_left, Nat.add_left_cancel_iff, Nat.add_right_cancel_iff, Nat.reduceEqDiff, Nat.one_ne_zero, Hp.get_set_self, Hp.get_set_ne, Hp.get_alloc_self, Hp.get_alloc_ne, Hp.get_alloc_at, Hp.get_set_at, Hp.set_next, Hp.alloc_next, Option.some_ne_none, V.tup.injEq, Option.isSome_some, Option.isSome_none, exists_eq_left, exists_eq, Nat.mul_zero]
  have n2 : h.next + 1 ≤ g2.next := q2.le
  have q02 := q1.trans q2
  clear q1 q2
  refine ⟨_, rfl, ?_⟩
  cases hc : (mayCode L s b false != 0) with
  | true =>
    have hc' : mayCode L s b false ≠ 0 := by simpa using hc
    exact hK _ _ ⟨_, _, L, rfl, .inl ⟨hc', rfl, rfl, rfl⟩, r0.quiet hw q02, q02.upd _, q02.wf⟩
  | false =>
    have hc' : mayCode L s b false = 0 := by simpa using hc
    obtain ⟨hg, hlen⟩ := may_get hc'
    refine ⟨_, Hp.st_of b2 (Nat.le_of_ble_eq_true rfl), ?_⟩
    refine ⟨fun vs g => match vs with
      | [.int _ i] => ∃ k : Nat, i = k ∧ k ≤ 28232 ∧ (∀ j, j < k → freeB L (lendAt b draw j) = false) ∧ Quiet h g ∧ h.next < g.next ∧ ∃ pt, g.get h.next = some (.row [.int .u8 b.kind, .int .u32 b.ip, .int .u16 pt, .bool false] 1 false)
      | _ => False, fun vs _ => match vs with
      | [.int _ i] => 28232 - i.toNat
      | _ => 0, ⟨(by trivial), 0, rfl, by omega, fun j hj => by omega, ⟨fun j hj => by rw [← q02.same j hj]; simp (disch := (first | omega | (simp only [Hp.alloc_next, Hp.set_next] <;> omega) | (simp (disch := (first | omega | (simp only [Hp.alloc_next, Hp.set_next] <;> omega) | fail)) only [Hp.get_set_self, Hp.get_set_ne, Hp.get_alloc_self, Hp.get_alloc_ne, Hp.get_alloc_at, Hp.get_set_at, Hp.set_next, Hp.alloc_next]; done) | fail)) only [Hp.st, Hp.ld, Hp.lda, splice, ble_eq', if_true, if_false, ite_true, ite_false, cond_true, cond_false, decide_true, decide_false, List.length_cons, List.length_nil, List.take_zero, List.take_succ_cons, List.nil_append, List.cons_append, List.append_nil, List.drop_succ_cons, List.drop_zero, List.drop_nil, List.getElem?_cons_succ, List.getElem?_cons_zero, Nat.reduceAdd, Nat.reduceLeDiff, Nat.reduceEqDiff, Nat.zero_add, Nat.add_zero, Nat.le_refl, Nat.zero_le, Nat.succ_ne_self, Nat.mul_one, Int.toNat_natCast, Option.some.injEq, Option.isNone_some, Option.isNone_none, V.int.injEq, V.str.injEq, V.bool.injEq, V.ptr.injEq, V.slc.injEq, V.map.injEq, V.agg.injEq, V.tup.injEq, List.cons.injEq, Prod.mk.injEq, onS, true_and, and_true, and_assoc, exists_and_left, exists_eq_left', forall_eq, heq_eq_eq, reduceCtorEq, Bool.not_true, Bool.not_false, eq_self, not_false_eq_true, Nat.left_eq_add, Nat.add_eq_left, Nat.add_left_cancel_iff, Nat.add_right_cancel_iff, Nat.reduceEqDiff, Nat.one_ne_zero, Hp.get_set_self, Hp.get_set_ne, Hp.get_alloc_self, Hp.get_alloc_ne, Hp.get_alloc_at, Hp.get_set_at, Hp.set_next, Hp.alloc_next, Option.some_ne_none, V.tup.injEq, Option.isSome_some, Option.isSome_none, exists_eq_left, exists_eq, Nat.mul_zero], by simp (disch := (first | omega | (simp only [Hp.alloc_next, Hp.set_next] <;> omega) | (simp (disch := (first | omega | (simp only [Hp.alloc_next, Hp.set_next] <;> omega) | fail)) only [Hp.get_set_self, Hp.get_set_ne, Hp.get_alloc_self, Hp.get_alloc_ne, Hp.get_alloc_at, Hp.get_set_at, Hp.set_next, Hp.alloc_next]; done) | fail)) only [Hp.st, Hp.ld, Hp.lda, splice, ble_eq', if_true, if_false, ite_true, ite_false, cond_true, cond_false, decide_true, decide_false, List.length_cons, List.length_nil, List.take_zero, List.take_succ_cons, List.nil_append, List.cons_append, List.append_nil, List.drop_succ_cons, List.drop_zero, List.drop_nil, List.getElem?_cons_succ, List.getElem?_cons_zero, Nat.reduceAdd, Nat.reduceLeDiff, Nat.reduceEqDiff, Nat.zero_add, Nat.add_zero, Nat.le_refl, Nat.zero_le, Nat.succ_ne_self, Nat.mul_one, Int.toNat_natCast, Option.some.injEq, Option.isNone_some, Option.isNone_none, V.int.injEq, V.str.injEq, V.bool.injEq, V.ptr.injEq, V.slc.injEq, V.map.injEq, V.agg.injEq, V.tup.injEq, List.cons.injEq, Prod.mk.injEq, onS, true_and, and_true, and_assoc, exists_and_left, exists_eq_left', forall_eq, heq_eq_eq, reduceCtorEq, Bool.not_true, Bool.not_false, eq_self, not_false_eq_true, Nat.left_eq_add, Nat.add_eq_left, Nat.add_left_cancel_iff, Nat.add_right_cancel_iff, Nat.reduceEqDiff, Nat.one_ne_zero, Hp.get_set_self, Hp.get_set_ne, Hp.get_alloc_self, Hp.get_alloc_ne, Hp.get_alloc_at, Hp.get_set_at, Hp.set_next, Hp.alloc_next, Option.some_ne_none, V.tup.injEq, Option.isSome_some, Option.isSome_none, exists_eq_left, exists_eq, Nat.mul_zero]; omega, q02.wf.set (by omega)⟩, by simp (disch := (first | omega | (simp only [Hp.alloc_next, Hp.set_next] <;> omega) | (simp (disch := (first | omega | (simp only [Hp.alloc_next, Hp.set_next] <;> omega) | fail)) only [Hp.get_set_self, Hp.get_set_ne, Hp.get_alloc_self, Hp.get_alloc_ne, Hp.get_alloc_at, Hp.get_set_at, Hp.set_next, Hp.alloc_next]; done) | fail)) only [Hp.st, Hp.ld, Hp.lda, splice, ble_eq', if_true, if_false, ite_true, ite_false, cond_true, cond_false, decide_true, decide_false, List.length_cons, List.length_nil, List.take_zero, List.take_succ_cons, List.nil_append, List.cons_append, List.append_nil, List.drop_succ_cons, List.drop_zero, List.drop_nil, List.getElem?_cons_succ, List.getElem?_cons_zero, Nat.reduceAdd, Nat.reduceLeDiff, Nat.reduceEqDiff, Nat.zero_add, Nat.add_zero, Nat.le_refl, Nat.zero_le, Nat.succ_ne_self, Nat.mul_one, Int.toNat_natCast, Option.some.injEq, Option.isNone_some, Option.isNone_none, V.int.injEq, V.str.injEq, V.bool.injEq, V.ptr.injEq, V.slc.injEq, V.map.injEq, V.agg.injEq, V.tup.injEq, List.cons.injEq, Prod.mk.injEq, onS, true_and, and_true, and_assoc, exists_and_left, exists_eq_left', forall_eq, heq_eq_eq, reduceCtorEq, Bool.not_true, Bool.not_false, eq_self, not_false_eq_true, Nat.left_eq_add, Nat.add_eq_left, Nat.add_left_cancel_iff, Nat.add_right_cancel_iff, Nat.reduceEqDiff, Nat.one_ne_zero, Hp.get_set_self, Hp.get_set_ne, Hp.get_alloc_self, Hp.get_alloc_ne, Hp.get_alloc_at, Hp.get_set_at, Hp.set_next, Hp.alloc_next, Option.some_ne_none, V.tup.injEq, Option.isSome_some, Option.isSome_none, exists_eq_left, exists_eq, Nat.mul_zero]; omega, b.port, by simp (disch := (first | omega | (simp only [Hp.alloc_next, Hp.set_next] <;> omega) | (simp (disch := (first | omega | (simp only [Hp.alloc_next, Hp.set_next] <;> omega) | fail)) only [Hp.get_set_self, Hp.get_set_ne, Hp.get_alloc_self, Hp.get_alloc_ne, Hp.get_alloc_at, Hp.get_set_at, Hp.set_next, Hp.alloc_next]; done) | fail)) only [Hp.st, Hp.ld, Hp.lda, splice, ble_eq', if_true, if_false, ite_true, ite_false, cond_true, cond_false, decide_true, decide_false, List.length_cons, List.length_nil, List.take_zero, List.take_succ_cons, List.nil_append, List.cons_append, List.append_nil, List.drop_succ_cons, List.drop_zero, List.drop_nil, List.getElem?_cons_succ, List.getElem?_cons_zero, Nat.reduceAdd, Nat.reduceLeDiff, Nat.reduceEqDiff, Nat.zero_add, Nat.add_zero, Nat.le_refl, Nat.zero_le, Nat.succ_ne_self, Nat.mul_one, Int.toNat_natCast, Option.some.injEq, Option.isNone_some, Option.isNone_none, V.int.injEq, V.str.injEq, V.bool.injEq, V.ptr.injEq, V.slc.injEq, V.map.injEq, V.agg.injEq, V.tup.injEq, List.cons.injEq, Prod.mk.injEq, onS, true_and, and_true, and_assoc, exists_and_left, exists_eq_left', forall_eq, heq_eq_eq, reduceCtorEq, Bool.not_true, Bool.not_false, eq_self, not_false_eq_true, Nat.left_eq_add, Nat.add_eq_left, Nat.add_left_cancel_iff, Nat.add_right_cancel_iff, Nat.reduceEqDiff, Nat.one_ne_zero, Hp.get_set_self, Hp.get_set_ne, Hp.get_alloc_self, Hp.get_alloc_ne, Hp.get_alloc_at, Hp.get_set_at, Hp.set_next, Hp.alloc_next, Option.some_ne_none, V.tup.injEq, Option.isSome_some, Option.isSome_none, exists_eq_left, exists_eq, Nat.mul_zero]⟩, ?_⟩
    rintro bs i g ⟨k, rfl, hk, hall, qg, gn, pt, gb⟩
    cases hlt : ltI (↑k) 28232 with
    | false =>
      rw [ltI_eq, decide_eq_false_iff_not] at hlt
      obtain rfl : k = 28232 := by omega
      exact hK _ _ ⟨_, _, L, rfl, .inr (.inr ⟨hc', hall, rfl, rfl, rfl⟩), r0.quiet hw qg, qg.upd _, qg.wf⟩
    | true =>
      rw [ltI_eq, decide_eq_true_eq] at hlt
      have ew : IntKind.u16.wrap (IntKind.i64.wrap (32768 + (IntKind.i64.wrap (IntKind.i64.wrap draw + (k : Int))).tmod 28232)) = 32768 + (draw + k) % 28232 := by
        rw [wr (x := draw) (by omega) (by omega), wr (x := draw + k) (by omega) (by omega), Int.tmod_eq_emod_of_nonneg (by omega), wr (by omega) (by omega), u16w (by omega) (by omega)]
      rw [ew]
      refine ⟨by decide, _, Hp.st_of gb (Nat.le_of_ble_eq_true rfl), ?_⟩
      have hsp : g.set h.next (.row (splice [.int .u8 b.kind, .int .u32 b.ip, .int .u16 pt, .bool false] 2 [.int .u16 (32768 + (draw + ↑k) % 28232)]) 1 false) = g.set h.next (.row [.int .u8 b.kind, .int .u32 b.ip, .int .u16 (32768 + (draw + ↑k) % 28232), .bool false] 1 false) := rfl
      rw [hsp]
      have qs : Quiet h (g.set h.next (.row [.int .u8 b.kind, .int .u32 b.ip, .int .u16 (32768 + (draw + ↑k) % 28232), .bool false] 1 false)) := ⟨fun j hj => by rw [← qg.same j hj]; simp (disch := (first | omega | (simp only [Hp.alloc_next, Hp.set_next] <;> omega) | (simp (disch := (first | omega | (simp only [Hp.alloc_next, Hp.set_next] <;> omega) | fail)) only [Hp.get_set_self, Hp.get_set_ne, Hp.get_alloc_self, Hp.get_alloc_ne, Hp.get_alloc_at, Hp.get_set_at, Hp.set_next, Hp.alloc_next]; done) | fail)) only [Hp.st, Hp.ld, Hp.lda, splice, ble_eq', if_true, if_false, ite_true, ite_false, cond_true, cond_false, decide_true, decide_false, List.length_cons, List.length_nil, List.take_zero, List.take_succ_cons, List.nil_append, List.cons_append, List.append_nil, List.drop_succ_cons, List.drop_zero, List.drop_nil, List.getElem?_cons_succ, List.getElem?_cons_zero, Nat.reduceAdd, Nat.reduceLeDiff, Nat.reduceEqDiff, Nat.zero_add, Nat.add_zero, Nat.le_refl, Nat.zero_le, Nat.succ_ne_self, Nat.mul_one, Int.toNat_natCast, Option.some.injEq, Option.isNone_some, Option.isNone_none, V.int.injEq, V.str.injEq, V.bool.injEq, V.ptr.injEq, V.slc.injEq, V.map.injEq, V.agg.injEq, V.tup.injEq, List.cons.injEq, Prod.mk.injEq, onS, true_and, and_true, and_assoc, exists_and_left, exists_eq_left', forall_eq, heq_eq_eq, reduceCtorEq, Bool.not_true, Bool.not_false, eq_self, not_false_eq_true, Nat.left_eq_add, Nat.add_eq_left, Nat.add_left_cancel_iff, Nat.add_right_cancel_iff, Nat.reduceEqDiff, Nat.one_ne_zero, Hp.get_set_self, Hp.get_set_ne, Hp.get_alloc_self, Hp.get_alloc_ne, Hp.get_alloc_at, Hp.get_set_at, Hp.set_next, Hp.alloc_next, Option.some_ne_none, V.tup.injEq, Option.isSome_some, Option.isSome_none, exists_eq_left, exists_eq, Nat.mul_zero], by simp (disch := (first | omega | (simp only [Hp.alloc_next, Hp.set_next] <;> omega) | (simp (disch := (first | omega | (simp only [Hp.alloc_next, Hp.set_next] <;> omega) | fail)) only [Hp.get_set_self, Hp.get_set_ne, Hp.get_alloc_self, Hp.get_alloc_ne, Hp.get_alloc_at, Hp.get_set_at, Hp.set_next, Hp.alloc_next]; done) | fail)) only [Hp.st, Hp.ld, Hp.lda, splice, ble_eq', if_true, if_false, ite_true, ite_false, cond_true, cond_false, decide_true, decide_false, List.length_cons, List.length_nil, List.take_zero, List.take_succ_cons, List.nil_append, List.cons_append, List.append_nil, List.drop_succ_cons, List.drop_zero, List.drop_nil, List.getElem?_cons_succ, List.getElem?_cons_zero, Nat.reduceAdd, Nat.reduceLeDiff, Nat.reduceEqDiff, Nat.zero_add, Nat.add_zero, Nat.le_refl, Nat.zero_le, Nat.succ_ne_self, Nat.mul_one, Int.toNat_natCast, Option.some.injEq, Option.isNone_some, Option.isNone_none, V.int.injEq, V.str.injEq, V.bool.injEq, V.ptr.injEq, V.slc.injEq, V.map.injEq, V.agg.injEq, V.tup.injEq, List.cons.injEq, Prod.mk.injEq, onS, true_and, and_true, and_assoc, exists_and_left, exists_eq_left', forall_eq, heq_eq_eq, reduceCtorEq, Bool.not_true, Bool.not_false, eq_self, not_false_eq_true, Nat.left_eq_add, Nat.add_eq_left, Nat.add_left_cancel_iff, Nat.add_right_cancel_iff, Nat.reduceEqDiff, Nat.one_ne_zero, Hp.get_set_self, Hp.get_set_ne, Hp.get_alloc_self, Hp.get_alloc_ne, Hp.get_alloc_at, Hp.get_set_at, Hp.set_next, Hp.alloc_next, Option.some_ne_none, V.tup.injEq, Option.isSome_some, Option.isSome_none, exists_eq_left, exists_eq, Nat.mul_zero]; omega, qg.wf.set gn⟩
      refine ⟨b.kind, b.ip, 32768 + (draw + ↑k) % 28232, false, by simp (disch := (first | omega | (simp only [Hp.alloc_next, Hp.set_next] <;> omega) | (simp (disch := (first | omega | (simp only [Hp.alloc_next, Hp.set_next] <;> omega) | fail)) only [Hp.get_set_self, Hp.get_set_ne, Hp.get_alloc_self, Hp.get_alloc_ne, Hp.get_alloc_at, Hp.get_set_at, Hp.set_next, Hp.alloc_next]; done) | fail)) only [Hp.st, Hp.ld, Hp.lda, splice, ble_eq', if_true, if_false, ite_true, ite_false, cond_true, cond_false, decide_true, decide_false, List.length_cons, List.length_nil, List.take_zero, List.take_succ_cons, List.nil_append, List.cons_append, List.append_nil, List.drop_succ_cons, List.drop_zero, List.drop_nil, List.getElem?_cons_succ, List.getElem?_cons_zero, Nat.reduceAdd, Nat.reduceLeDiff, Nat.reduceEqDiff, Nat.zero_add, Nat.add_zero, Nat.le_refl, Nat.zero_le, Nat.succ_ne_self, Nat.mul_one, Int.toNat_natCast, Option.some.injEq, Option.isNone_some, Option.isNone_none, V.int.injEq, V.str.injEq, V.bool.injEq, V.ptr.injEq, V.slc.injEq, V.map.injEq, V.agg.injEq, V.tup.injEq, List.cons.injEq, Prod.mk.injEq, onS, true_and, and_true, and_assoc, exists_and_left, exists_eq_left', forall_eq, heq_eq_eq, reduceCtorEq, Bool.not_true, Bool.not_false, eq_self, not_false_eq_true, Nat.left_eq_add, Nat.add_eq_left, Nat.add_left_cancel_iff, Nat.add_right_cancel_iff, Nat.reduceEqDiff, Nat.one_ne_zero, Hp.get_set_self, Hp.get_set_ne, Hp.get_alloc_self, Hp.get_alloc_ne, Hp.get_alloc_at, Hp.get_set_at, Hp.set_next, Hp.alloc_next, Option.some_ne_none, V.tup.injEq, Option.isSome_some, Option.isSome_none, exists_eq_left, exists_eq, Nat.mul_zero], ?_⟩
      refine (free_spec (b := lendAt b draw k) qs.wf (r0.quiet hw qs)).mono ?_
      rintro _ g5 ⟨rfl, q5⟩
      refine ⟨_, rfl, ?_⟩
      have gb5 : g5.get h.next = some (.row [.int .u8 b.kind, .int .u32 b.ip, .int .u16 (32768 + (draw + ↑k) % 28232), .bool false] 1 false) := by rw [q5.same _ (by simp (disch := (first | omega | (simp only [Hp.alloc_next, Hp.set_next] <;> omega) | (simp (disch := (first | omega | (simp only [Hp.alloc_next, Hp.set_next] <;> omega) | fail)) only [Hp.get_set_self, Hp.get_set_ne, Hp.get_alloc_self, Hp.get_alloc_ne, Hp.get_alloc_at, Hp.get_set_at, Hp.set_next, Hp.alloc_next]; done) | fail)) only [Hp.st, Hp.ld, Hp.lda, splice, ble_eq', if_true, if_false, ite_true, ite_false, cond_true, cond_false, decide_true, decide_false, List.length_cons, List.length_nil, List.take_zero, List.take_succ_cons, List.nil_append, List.cons_append, List.append_nil, List.drop_succ_cons, List.drop_zero, List.drop_nil, List.getElem?_cons_succ, List.getElem?_cons_zero, Nat.reduceAdd, Nat.reduceLeDiff, Nat.reduceEqDiff, Nat.zero_add, Nat.add_zero, Nat.le_refl, Nat.zero_le, Nat.succ_ne_self, Nat.mul_one, Int.toNat_natCast, Option.some.injEq, Option.isNone_some, Option.isNone_none, V.int.injEq, V.str.injEq, V.bool.injEq, V.ptr.injEq, V.slc.injEq, V.map.injEq, V.agg.injEq, V.tup.injEq, List.cons.injEq, Prod.mk.injEq, onS, true_and, and_true, and_assoc, exists_and_left, exists_eq_left', forall_eq, heq_eq_eq, reduceCtorEq, Bool.not_true, Bool.not_false, eq_self, not_false_eq_true, Nat.left_eq_add, Nat.add_eq_left, Nat.add_left_cancel_iff, Nat.add_right_cancel_iff, Nat.reduceEqDiff, Nat.one_ne_zero, Hp.get_set_self, Hp.get_set_ne, Hp.get_alloc_self, Hp.get_alloc_ne, Hp.get_alloc_at, Hp.get_set_at, Hp.set_next, Hp.alloc_next, Option.some_ne_none, V.tup.injEq, Option.isSome_some, Option.isSome_none, exists_eq_left, exists_eq, Nat.mul_zero]; omega)]; simp (disch := (first | omega | (simp only [Hp.alloc_next, Hp.set_next] <;> omega) | (simp (disch := (first | omega | (simp only [Hp.alloc_next, Hp.set_next] <;> omega) | fail)) only [Hp.get_set_self, Hp.get_set_ne, Hp.get_alloc_self, Hp.get_alloc_ne, Hp.get_alloc_at, Hp.get_set_at, Hp.set_next, Hp.alloc_next]; done) | fail)) only [Hp.st, Hp.ld, Hp.lda, splice, ble_eq', if_true, if_false, ite_true, ite_false, cond_true, cond_false, decide_true, decide_false, List.length_cons, List.length_nil, List.take_zero, List.take_succ_cons, List.nil_append, List.cons_append, List.append_nil, List.drop_succ_cons, List.drop_zero, List.drop_nil, List.getElem?_cons_succ, List.getElem?_cons_zero, Nat.reduceAdd, Nat.reduceLeDiff, Nat.reduceEqDiff, Nat.zero_add, Nat.add_zero, Nat.le_refl, Nat.zero_le, Nat.succ_ne_self, Nat.mul_one, Int.toNat_natCast, Option.some.injEq, Option.isNone_some, Option.isNone_none, V.int.injEq, V.str.injEq, V.bool.injEq, V.ptr.injEq, V.slc.injEq, V.map.injEq, V.agg.injEq, V.tup.injEq, List.cons.injEq, Prod.mk.injEq, onS, true_and, and_true, and_assoc, exists_and_left, exists_eq_left', forall_eq, heq_eq_eq, reduceCtorEq, Bool.not_true, Bool.not_false, eq_self, not_false_eq_true, Nat.left_eq_add, Nat.add_eq_left, Nat.add_left_cancel_iff, Nat.add_right_cancel_iff, Nat.reduceEqDiff, Nat.one_ne_zero, Hp.get_set_self, Hp.get_set_ne, Hp.get_alloc_self, Hp.get_alloc_ne, Hp.get_alloc_at, Hp.get_set_at, Hp.set_next, Hp.alloc_next, Option.some_ne_none, V.tup.injEq, Option.isSome_some, Option.isSome_none, exists_eq_left, exists_eq, Nat.mul_zero]
      have q05 := qs.trans q5
      have n5 : h.next < g5.next := by have := q5.le; simp only [Hp.set_next] at this; omega
      cases hfr : freeB L (lendAt b draw k) with
      | true =>
        obtain ⟨o', ho', hput⟩ := h3.put mtP s (lendAt b draw k)
        have hput' : ∀ (h : Hp) (m : Nat), h.get m = some o → xput T h 112 (.map (some m)) (.int .u64 s) (.agg [.int .u8 b.kind, .int .u32 b.ip, .int .u16 (32768 + (draw + ↑k) % 28232), .bool false]) = some (h.set m o') := hput
        have hp5 : g5.get p = some (.row [.map (some m)] 1 false) := by rw [q05.same _ hpn]; exact h1
        have hm5 : g5.get m = some o := by rw [q05.same _ hmn]; exact h2
        simp (disch := (first | omega | (simp only [Hp.alloc_next, Hp.set_next] <;> omega) | (simp (disch := (first | omega | (simp only [Hp.alloc_next, Hp.set_next] <;> omega) | fail)) only [Hp.get_set_self, Hp.get_set_ne, Hp.get_alloc_self, Hp.get_alloc_ne, Hp.get_alloc_at, Hp.get_set_at, Hp.set_next, Hp.alloc_next, hp5, hm5, gb5, hput']; done) | fail)) only [Hp.st, Hp.ld, Hp.lda, splice, ble_eq', if_true, if_false, ite_true, ite_false, cond_true, cond_false, decide_true, decide_false, List.length_cons, List.length_nil, List.take_zero, List.take_succ_cons, List.nil_append, List.cons_append, List.append_nil, List.drop_succ_cons, List.drop_zero, List.drop_nil, List.getElem?_cons_succ, List.getElem?_cons_zero, Nat.reduceAdd, Nat.reduceLeDiff, Nat.reduceEqDiff, Nat.zero_add, Nat.add_zero, Nat.le_refl, Nat.zero_le, Nat.succ_ne_self, Nat.mul_one, Int.toNat_natCast, Option.some.injEq, Option.isNone_some, Option.isNone_none, V.int.injEq, V.str.injEq, V.bool.injEq, V.ptr.injEq, V.slc.injEq, V.map.injEq, V.agg.injEq, V.tup.injEq, List.cons.injEq, Prod.mk.injEq, onS, true_and, and_true, and_assoc, exists_and_left, exists_eq_left', forall_eq, heq_eq_eq, reduceCtorEq, Bool.not_true, Bool.not_false, eq_self, not_false_eq_true, Nat.left_eq_add, Nat.add_eq_left, Nat.add_left_cancel_iff, Nat.add_right_cancel_iff, Nat.reduceEqDiff, Nat.one_ne_zero, Hp.get_set_self, Hp.get_set_ne, Hp.get_alloc_self, Hp.get_alloc_ne, Hp.get_alloc_at, Hp.get_set_at, Hp.set_next, Hp.alloc_next, Option.some_ne_none, V.tup.injEq, Option.isSome_some, Option.isSome_none, exists_eq_left, exists_eq, Nat.mul_zero, hp5, hm5, gb5, hput']
        refine hK _ _ ⟨0, _, _, rfl, .inr (.inl ⟨hc', k, by omega, hall, hfr, rfl, rfl, rfl⟩), ?_, ⟨fun j hj hF => ?_, fun j hj => .inl hj, by simp (disch := (first | omega | (simp only [Hp.alloc_next, Hp.set_next] <;> omega) | (simp (disch := (first | omega | (simp only [Hp.alloc_next, Hp.set_next] <;> omega) | fail)) only [Hp.get_set_self, Hp.get_set_ne, Hp.get_alloc_self, Hp.get_alloc_ne, Hp.get_alloc_at, Hp.get_set_at, Hp.set_next, Hp.alloc_next]; done) | fail)) only [Hp.st, Hp.ld, Hp.lda, splice, ble_eq', if_true, if_false, ite_true, ite_false, cond_true, cond_false, decide_true, decide_false, List.length_cons, List.length_nil, List.take_zero, List.take_succ_cons, List.nil_append, List.cons_append, List.append_nil, List.drop_succ_cons, List.drop_zero, List.drop_nil, List.getElem?_cons_succ, List.getElem?_cons_zero, Nat.reduceAdd, Nat.reduceLeDiff, Nat.reduceEqDiff, Nat.zero_add, Nat.add_zero, Nat.le_refl, Nat.zero_le, Nat.succ_ne_self, Nat.mul_one, Int.toNat_natCast, Option.some.injEq, Option.isNone_some, Option.isNone_none, V.int.injEq, V.str.injEq, V.bool.injEq, V.ptr.injEq, V.slc.injEq, V.map.injEq, V.agg.injEq, V.tup.injEq, List.cons.injEq, Prod.mk.injEq, onS, true_and, and_true, and_assoc, exists_and_left, exists_eq_left', forall_eq, heq_eq_eq, reduceCtorEq, Bool.not_true, Bool.not_false, eq_self, not_false_eq_true, Nat.left_eq_add, Nat.add_eq_left, Nat.add_left_cancel_iff, Nat.add_right_cancel_iff, Nat.reduceEqDiff, Nat.one_ne_zero, Hp.get_set_self, Hp.get_set_ne, Hp.get_alloc_self, Hp.get_alloc_ne, Hp.get_alloc_at, Hp.get_set_at, Hp.set_next, Hp.alloc_next, Option.some_ne_none, V.tup.injEq, Option.isSome_some, Option.isSome_none, exists_eq_left, exists_eq, Nat.mul_zero]; omega⟩, q05.wf.set (by omega)⟩
        · rw [mput_end hg] at ho'
          exact ⟨m, o', by simp (disch := (first | omega | (simp only [Hp.alloc_next, Hp.set_next] <;> omega) | (simp (disch := (first | omega | (simp only [Hp.alloc_next, Hp.set_next] <;> omega) | fail)) only [Hp.get_set_self, Hp.get_set_ne, Hp.get_alloc_self, Hp.get_alloc_ne, Hp.get_alloc_at, Hp.get_set_at, Hp.set_next, Hp.alloc_next, hp5]; done) | fail)) only [Hp.st, Hp.ld, Hp.lda, splice, ble_eq', if_true, if_false, ite_true, ite_false, cond_true, cond_false, decide_true, decide_false, List.length_cons, List.length_nil, List.take_zero, List.take_succ_cons, List.nil_append, List.cons_append, List.append_nil, List.drop_succ_cons, List.drop_zero, List.drop_nil, List.getElem?_cons_succ, List.getElem?_cons_zero, Nat.reduceAdd, Nat.reduceLeDiff, Nat.reduceEqDiff, Nat.zero_add, Nat.add_zero, Nat.le_refl, Nat.zero_le, Nat.succ_ne_self, Nat.mul_one, Int.toNat_natCast, Option.some.injEq, Option.isNone_some, Option.isNone_none, V.int.injEq, V.str.injEq, V.bool.injEq, V.ptr.injEq, V.slc.injEq, V.map.injEq, V.agg.injEq, V.tup.injEq, List.cons.injEq, Prod.mk.injEq, onS, true_and, and_true, and_assoc, exists_and_left, exists_eq_left', forall_eq, heq_eq_eq, reduceCtorEq, Bool.not_true, Bool.not_false, eq_self, not_false_eq_true, Nat.left_eq_add, Nat.add_eq_left, Nat.add_left_cancel_iff, Nat.add_right_cancel_iff, Nat.reduceEqDiff, Nat.one_ne_zero, Hp.get_set_self, Hp.get_set_ne, Hp.get_alloc_self, Hp.get_alloc_ne, Hp.get_alloc_at, Hp.get_set_at, Hp.set_next, Hp.alloc_next, Option.some_ne_none, V.tup.injEq, Option.isSome_some, Option.isSome_none, exists_eq_left, exists_eq, Nat.mul_zero, hp5], by simp (disch := (first | omega | (simp only [Hp.alloc_next, Hp.set_next] <;> omega) | (simp (disch := (first | omega | (simp only [Hp.alloc_next, Hp.set_next] <;> omega) | fail)) only [Hp.get_set_self, Hp.get_set_ne, Hp.get_alloc_self, Hp.get_alloc_ne, Hp.get_alloc_at, Hp.get_set_at, Hp.set_next, Hp.alloc_next]; done) | fail)) only [Hp.st, Hp.ld, Hp.lda, splice, ble_eq', if_true, if_false, ite_true, ite_false, cond_true, cond_false, decide_true, decide_false, List.length_cons, List.length_nil, List.take_zero, List.take_succ_cons, List.nil_append, List.cons_append, List.append_nil, List.drop_succ_cons, List.drop_zero, List.drop_nil, List.getElem?_cons_succ, List.getElem?_cons_zero, Nat.reduceAdd, Nat.reduceLeDiff, Nat.reduceEqDiff, Nat.zero_add, Nat.add_zero, Nat.le_refl, Nat.zero_le, Nat.succ_ne_self, Nat.mul_one, Int.toNat_natCast, Option.some.injEq, Option.isNone_some, Option.isNone_none, V.int.injEq, V.str.injEq, V.bool.injEq, V.ptr.injEq, V.slc.injEq, V.map.injEq, V.agg.injEq, V.tup.injEq, List.cons.injEq, Prod.mk.injEq, onS, true_and, and_true, and_assoc, exists_and_left, exists_eq_left', forall_eq, heq_eq_eq, reduceCtorEq, Bool.not_true, Bool.not_false, eq_self, not_false_eq_true, Nat.left_eq_add, Nat.add_eq_left, Nat.add_left_cancel_iff, Nat.add_right_cancel_iff, Nat.reduceEqDiff, Nat.one_ne_zero, Hp.get_set_self, Hp.get_set_ne, Hp.get_alloc_self, Hp.get_alloc_ne, Hp.get_alloc_at, Hp.get_set_at, Hp.set_next, Hp.alloc_next, Option.some_ne_none, V.tup.injEq, Option.isSome_some, Option.isSome_none, exists_eq_left, exists_eq, Nat.mul_zero], ho', rfl, h5⟩
        · simp only [List.mem_cons, List.not_mem_nil, or_false, not_or] at hF
          have := hF.2
          rw [← q05.same j hj]
          simp (disch := (first | omega | (simp only [Hp.alloc_next, Hp.set_next] <;> omega) | (simp (disch := (first | omega | (simp only [Hp.alloc_next, Hp.set_next] <;> omega) | fail)) only [Hp.get_set_self, Hp.get_set_ne, Hp.get_alloc_self, Hp.get_alloc_ne, Hp.get_alloc_at, Hp.get_set_at, Hp.set_next, Hp.alloc_next]; done) | fail)) only [Hp.st, Hp.ld, Hp.lda, splice, ble_eq', if_true, if_false, ite_true, ite_false, cond_true, cond_false, decide_true, decide_false, List.length_cons, List.length_nil, List.take_zero, List.take_succ_cons, List.nil_append, List.cons_append, List.append_nil, List.drop_succ_cons, List.drop_zero, List.drop_nil, List.getElem?_cons_succ, List.getElem?_cons_zero, Nat.reduceAdd, Nat.reduceLeDiff, Nat.reduceEqDiff, Nat.zero_add, Nat.add_zero, Nat.le_refl, Nat.zero_le, Nat.succ_ne_self, Nat.mul_one, Int.toNat_natCast, Option.some.injEq, Option.isNone_some, Option.isNone_none, V.int.injEq, V.str.injEq, V.bool.injEq, V.ptr.injEq, V.slc.injEq, V.map.injEq, V.agg.injEq, V.tup.injEq, List.cons.injEq, Prod.mk.injEq, onS, true_and, and_true, and_assoc, exists_and_left, exists_eq_left', forall_eq, heq_eq_eq, reduceCtorEq, Bool.not_true, Bool.not_false, eq_self, not_false_eq_true, Nat.left_eq_add, Nat.add_eq_left, Nat.add_left_cancel_iff, Nat.add_right_cancel_iff, Nat.reduceEqDiff, Nat.one_ne_zero, Hp.get_set_self, Hp.get_set_ne, Hp.get_alloc_self, Hp.get_alloc_ne, Hp.get_alloc_at, Hp.get_set_at, Hp.set_next, Hp.alloc_next, Option.some_ne_none, V.tup.injEq, Option.isSome_some, Option.isSome_none, exists_eq_left, exists_eq, Nat.mul_zero]
      | false =>
        have hw1 : IntKind.i64.wrap ((k : Int) + 1) = ((k + 1 : Nat) : Int) := by rw [wr (by omega) (by omega)]; rfl
        refine ⟨rfl, ⟨k + 1, hw1, by omega, fun j hj => ?_, q05, n5, _, gb5⟩, ?_⟩
        · by_cases e : j = k
          · subst e; exact hfr
          · exact hall j (by omega)
        · simp only [hw1, Int.toNat_natCast]; omega

/-! ### Give -/

/-- a slice of numbers that can be read -/
def Rd (a : Option (Nat × Nat)) (n : Nat) (xs : List Int) (h : Hp) : Prop :=
  xs.length = n ∧ (0 < n → ∃ q o c e ro, a = some (q, o) ∧ h.get q = some (.row c e ro) ∧ ∀ k, k < n → c[o + k]? = (xs[k]?).map (V.int .u64))

theorem Rd.keep {a : Option (Nat × Nat)} {n : Nat} {xs : List Int} {h h' : Hp} (r : Rd a n xs h) (hs : ∀ q o, a = some (q, o) → h'.get q = h.get q) : Rd a n xs h' := by
  refine ⟨r.1, fun hn => ?_⟩
  obtain ⟨q, o, c, e, ro, rfl, hg, hc⟩ := r.2 hn
  exact ⟨q, o, c, e, ro, rfl, by rw [hs q o rfl]; exact hg, hc⟩

theorem Rd.ld {a : Option (Nat × Nat)} {n : Nat} {xs : List Int} {h : Hp} (r : Rd a n xs h) {k : Nat} (hk : k < n) : ∃ q o x, a = some (q, o) ∧ xs[k]? = some x ∧ h.ld q (o + k * 1) = some (.int .u64 x) := by
  obtain ⟨q, o, c, e, ro, rfl, hg, hc⟩ := r.2 (by omega)
  have hx : xs[k]? = some (xs[k]'(by have := r.1; omega)) := List.getElem?_eq_getElem _
  exact ⟨q, o, _, rfl, hx, by rw [Hp.ld_of hg, Nat.mul_one, hc k hk, hx]; rfl⟩

theorem contains_spec {h : Hp} {a : Option (Nat × Nat)} {n : Nat} {f : Bool} {xs : List Int} {v : Int} (r : Rd a n xs h) (hn : n ≤ 4611686018427387904) :
    XCalls Try.prog 71 [.slc a n f, .int .u64 v] h fun w h' => w = .bool (decide (v ∈ xs)) ∧ h' = h := by
  refine XCalls.cps fun K hK => ?_
  apply x71; unfold X71
  apply x82; unfold X82
  have hxl := r.1
  refine ⟨fun vs g => match vs with
    | [.int _ i] => ∃ k : Nat, i = k ∧ k ≤ n ∧ g = h ∧ v ∉ xs.take k
    | _ => False, fun vs _ => match vs with
    | [.int _ i] => n - i.toNat
    | _ => 0, ⟨(by trivial), 0, rfl, by omega, rfl, by simp⟩, ?_⟩
  rintro bs i g ⟨k, rfl, hk, rfl, hnot⟩
  cases hlt : ltI (↑k) (↑n) with
  | false =>
    rw [ltI_eq, decide_eq_false_iff_not] at hlt
    refine ⟨_, rfl, hK _ _ ⟨?_, rfl⟩⟩
    rw [List.take_of_length_le (by omega)] at hnot
    simp [hnot, ltI_eq]
  | true =>
    rw [ltI_eq, decide_eq_true_eq] at hlt
    obtain ⟨q, o, x, rfl, hx, hld⟩ := r.ld (k := k) (by omega)
    refine ⟨⟨by omega, hlt⟩, x, hld, ?_⟩
    cases he : (v == x) with
    | true =>
      have he : v = x := by simpa using he
      subst he
      refine ⟨_, rfl, hK _ _ ⟨?_, rfl⟩⟩
      have hm := List.mem_of_getElem? hx
      have : ltI (↑k) 0 = false := by rw [ltI_eq, decide_eq_false_iff_not]; omega
      simp [hm, this]
    | false =>
      have he : v ≠ x := by simpa using he
      have hw1 : IntKind.i64.wrap ((k : Int) + 1) = ((k + 1 : Nat) : Int) := by rw [wr (by omega) (by omega)]; rfl
      refine ⟨(by trivial), ⟨k + 1, hw1, by omega, rfl, ?_⟩, ?_⟩
      · rw [List.take_add_one, hx]
        simp [hnot, he]
      · show n - Int.toNat (IntKind.i64.wrap ((k : Int) + 1)) < n - Int.toNat (k : Int)
        rw [hw1]; simp only [Int.toNat_natCast]; omega

theorem give1_spec {h : Hp} {a : Option (Nat × Nat)} {n : Nat} {f : Bool} {xs : List Int} {s : Int} {b : Bd} {c : Nat} (hw : h.wf) (hc : h.get c = some (.row [.slc a n f] 1 false)) (r : Rd a n xs h) (hn : n ≤ 4611686018427387904) :
    XCalls Try.prog 70 [.int .u64 s, bV b, .ptr (some (c, 0))] h fun w h' => w = .bool (decide (s ∈ xs)) ∧ Quiet h h' := by
  apply x70; unfold X70
  rintro h1 rfl
  have hcn := hw.lt hc
  refine ⟨a, n, f, by simp (disch := (first | omega | (simp only [Hp.alloc_next, Hp.set_next] <;> omega) | (simp (disch := (first | omega | (simp only [Hp.alloc_next, Hp.set_next] <;> omega) | fail)) only [Hp.get_set_self, Hp.get_set_ne, Hp.get_alloc_self, Hp.get_alloc_ne, Hp.get_alloc_at, Hp.get_set_at, Hp.set_next, Hp.alloc_next, hc]; done) | fail)) only [Hp.st, Hp.ld, Hp.lda, splice, ble_eq', if_true, if_false, ite_true, ite_false, cond_true, cond_false, decide_true, decide_false, List.length_cons, List.length_nil, List.take_zero, List.take_succ_cons, List.nil_append, List.cons_append, List.append_nil, List.drop_succ_cons, List.drop_zero, List.drop_nil, List.getElem?_cons_succ, List.getElem?_cons_zero, Nat.reduceAdd, Nat.reduceLeDiff, Nat.reduceEqDiff, Nat.zero_add, Nat.add_zero, Nat.le_refl, Nat.zero_le, Nat.succ_ne_self, Nat.mul_one, Int.toNat_natCast, Option.some.injEq, Option.isNone_some, Option.isNone_none, V.int.injEq, V.str.injEq, V.bool.injEq, V.ptr.injEq, V.slc.injEq, V.map.injEq, V.agg.injEq, V.tup.injEq, List.cons.injEq, Prod.mk.injEq, onS, true_and, and_true, and_assoc, exists_and_left, exists_eq_left', forall_eq, heq_eq_eq, reduceCtorEq, Bool.not_true, Bool.not_false, eq_self, not_false_eq_true, Nat.left_eq_add, Nat.add_eq_left, Nat.add_left_cancel_iff, Nat.add_right_cancel_iff, Nat.reduceEqDiff, Nat.one_ne_zero, Hp.get_set_self, Hp.get_set_ne, Hp.get_alloc_self, Hp.get_alloc_ne, Hp.get_alloc_at, Hp.get_set_at, Hp.set_next, Hp.alloc_next, Option.some_ne_none, V.tup.injEq, Option.isSome_some, Option.isSome_none, exists_eq_left, exists_eq, Nat.mul_zero, hc], ?_⟩
  have r1 : Rd a n xs (h.alloc (.row [.int .u8 b.kind, .int .u32 b.ip, .int .u16 b.port, .bool b.share] 1 false)) := by
    by_cases h0 : 0 < n
    · obtain ⟨q, o, c', e, ro, rfl, hg, hcc⟩ := r.2 h0
      exact r.keep fun q' o' e => by cases e; exact Hp.get_alloc_ne (hw.ne hg)
    · exact ⟨r.1, fun h => absurd h h0⟩
  refine (contains_spec r1 hn).mono ?_
  rintro _ _ ⟨rfl, rfl⟩
  exact ⟨_, rfl, rfl, Quiet.alloc hw _⟩

/-- the places that are left -/
def without (L : List (Int × Bd)) (xs : List Int) : List (Int × Bd) := L.filter fun x => decide (x.1 ∉ xs)

theorem delf_spec {h : Hp} {m c : Nat} {o : O} {L : List (Int × Bd)} {a : Option (Nat × Nat)} {n : Nat} {f : Bool} {xs : List Int} (hw : h.wf) (hk : (L.map Prod.fst).Nodup) (hm : h.get m = some o) (ho : MO kI bV L o) (hc : h.get c = some (.row [.slc a n f] 1 false)) (r : Rd a n xs h) (hn : n ≤ 4611686018427387904) (hq : ∀ q o, a = some (q, o) → q ≠ m) :
    XCalls Try.prog 69 [.map (some m), .fn (.func 70) [] [.ptr (some (c, 0))]] h fun w h' => w = .tup [] ∧ (∃ o', h'.get m = some o' ∧ MO kI bV (without L xs) o') ∧ (∀ j, j ≠ m → j < h.next → h'.get j = h.get j) ∧ h.next ≤ h'.next ∧ h'.wf := by
  obtain ⟨ti, kt, et, ei, ht, hd, he, hz, KK⟩ := mtP.ex
  obtain ⟨g, cur, hx, hi, hcur, hsame, hnext, hwg⟩ := (ho.is hm).range hw ht hd
  have hml := hw.lt hm
  have hcl := hw.lt hc
  have hne : m ≠ h.next := by omega
  have hcm : c ≠ m := fun e => by subst e; obtain ⟨es, clk, rfl, _⟩ := ho; rw [hc] at hm; cases hm
  have hkc : (cur.map fun z => z.1.1).Nodup := by
    have : cur.map (fun z => z.1.1) = L.map Prod.fst := by rw [← hcur, List.map_map]; rfl
    rw [this]; exact hk
  refine XCalls.cps fun K hK => ?_
  apply x69; unfold X69
  refine ⟨g, hx, fun _ h1 => ∃ sn, MapIter kI bV (cur.filter fun z => !sn.contains z.2 || decide (z.1.1 ∉ xs)) m h.next sn h1 ∧ (∀ j, j ≠ m → j < h.next → h1.get j = h.get j) ∧ h1.wf ∧ h.next < h1.next,
    fun _ h1 => match h1.get h.next with
      | some (.miter _ _ sn _) => (rem cur sn).length
      | _ => 0, ⟨rfl, [], ?_, fun j _ hj => hsame j (by omega), hwg, by omega⟩, ?_⟩
  · have : (cur.filter fun z => !([] : List Nat).contains z.2 || decide (z.1.1 ∉ xs)) = cur := by simp
    rw [this]; exact hi
  rintro bs h1 ⟨sn, hi1, hs1, hw1, hn1⟩
  obtain ⟨l, hl, hend, hforms, hstep⟩ := hi1.next hne
  have hremeq : ∀ sn, rem (cur.filter fun z => !sn.contains z.2 || decide (z.1.1 ∉ xs)) sn = rem cur sn := fun sn => by
    unfold rem
    rw [List.filter_filter]
    congr 1
    funext z
    cases sn.contains z.2 <;> simp
  refine ⟨l, hl, fun hmm => ?_, hforms, ?_⟩
  · have h0 := hend hmm
    rw [hremeq] at h0
    obtain ⟨o', hg', ho'⟩ := hi1.mo
    refine hK _ _ ⟨rfl, ⟨o', hg', ?_⟩, hs1, by omega, hw1⟩
    have : (cur.filter fun z => !sn.contains z.2 || decide (z.1.1 ∉ xs)).map Prod.fst = without L xs := by
      have h1 : (cur.filter fun z => !sn.contains z.2 || decide (z.1.1 ∉ xs)) = cur.filter fun z => decide (z.1.1 ∉ xs) := by
        apply List.filter_congr
        intro z hz
        have := List.filter_eq_nil_iff.1 h0 z hz
        simp only [Bool.not_eq_true] at this
        rw [this, Bool.false_or]
      rw [h1]
      unfold without
      rw [← hcur, List.filter_map]
      rfl
    rw [← this]; exact ho'
  · intro a' b' h2 hm2
    obtain ⟨z, hz, rfl, rfl, hi2, hent, hs2, hn2⟩ := hstep a' b' h2 hm2
    rw [hremeq] at hz
    have hzc : z ∈ cur := (List.mem_filter.1 hz).1
    have hzn : sn.contains z.2 = false := by simpa using (List.mem_filter.1 hz).2
    have hcn : (cur.map Prod.snd).Nodup := by have := hi.nodup; exact this
    have hrs := rem_step hcn hz
    obtain ⟨clk1, _, _, e1⟩ := hi1.ex
    obtain ⟨clk2, em2, _, e2⟩ := hi2.ex
    have hw2 : h2.wf := fun q o' hq => by
      rw [hn2]
      by_cases e : q = h.next
      · omega
      · rw [hs2 q e] at hq; exact hw1 q o' hq
    refine ⟨z.1.1, z.1.2.kind, z.1.2.ip, z.1.2.port, z.1.2.share, hent, ?_⟩
    rintro h3 rfl
    refine ⟨_, Hp.st_of Hp.get_alloc_self (Nat.le_of_ble_eq_true rfl), z.1.2.kind, z.1.2.ip, z.1.2.port, z.1.2.share, by simp (disch := (first | omega | (simp only [Hp.alloc_next, Hp.set_next] <;> omega) | (simp (disch := (first | omega | (simp only [Hp.alloc_next, Hp.set_next] <;> omega) | fail)) only [Hp.get_set_self, Hp.get_set_ne, Hp.get_alloc_self, Hp.get_alloc_ne, Hp.get_alloc_at, Hp.get_set_at, Hp.set_next, Hp.alloc_next]; done) | fail)) only [Hp.st, Hp.ld, Hp.lda, splice, ble_eq', if_true, if_false, ite_true, ite_false, cond_true, cond_false, decide_true, decide_false, List.length_cons, List.length_nil, List.take_zero, List.take_succ_cons, List.nil_append, List.cons_append, List.append_nil, List.drop_succ_cons, List.drop_zero, List.drop_nil, List.getElem?_cons_succ, List.getElem?_cons_zero, Nat.reduceAdd, Nat.reduceLeDiff, Nat.reduceEqDiff, Nat.zero_add, Nat.add_zero, Nat.le_refl, Nat.zero_le, Nat.succ_ne_self, Nat.mul_one, Int.toNat_natCast, Option.some.injEq, Option.isNone_some, Option.isNone_none, V.int.injEq, V.str.injEq, V.bool.injEq, V.ptr.injEq, V.slc.injEq, V.map.injEq, V.agg.injEq, V.tup.injEq, List.cons.injEq, Prod.mk.injEq, onS, true_and, and_true, and_assoc, exists_and_left, exists_eq_left', forall_eq, heq_eq_eq, reduceCtorEq, Bool.not_true, Bool.not_false, eq_self, not_false_eq_true, Nat.left_eq_add, Nat.add_eq_left, Nat.add_left_cancel_iff, Nat.add_right_cancel_iff, Nat.reduceEqDiff, Nat.one_ne_zero, Hp.get_set_self, Hp.get_set_ne, Hp.get_alloc_self, Hp.get_alloc_ne, Hp.get_alloc_at, Hp.get_set_at, Hp.set_next, Hp.alloc_next, Option.some_ne_none, V.tup.injEq, Option.isSome_some, Option.isSome_none, exists_eq_left, exists_eq, Nat.mul_zero], ?_⟩
    obtain ⟨g4, hg4⟩ : ∃ g4, g4 = (h2.alloc (.row [.int .u8 0, .int .u32 0, .int .u16 0, .bool false] 1 false)).set h2.next (.row (splice [.int .u8 0, .int .u32 0, .int .u16 0, .bool false] 0 [.int .u8 z.1.2.kind, .int .u32 z.1.2.ip, .int .u16 z.1.2.port, .bool z.1.2.share]) 1 false) := ⟨_, rfl⟩
    have g4s : ∀ j, j < h2.next → g4.get j = h2.get j := fun j hj => by rw [hg4, Hp.get_set_ne (by omega), Hp.get_alloc_ne (by omega)]
    have g4n : g4.next = h2.next + 1 := by rw [hg4]; rfl
    have g4w : g4.wf := by rw [hg4]; exact hw2.alloc.set (Nat.lt_succ_self _)
    rw [← hg4]
    clear hg4
    have g4o : ∀ j, j ≠ m → j < h.next → g4.get j = h.get j := fun j hj hlt => by rw [g4s j (by omega), hs2 j (by omega), hs1 j hj hlt]
    have r4 : Rd a n xs g4 := by
      by_cases h0 : 0 < n
      · obtain ⟨q, o, c', e, ro, rfl, hg, hcc⟩ := r.2 h0
        exact r.keep fun q' o' e => by cases e; exact g4o q (hq q o rfl) (hw.lt hg)
      · exact ⟨r.1, fun h => absurd h h0⟩
    refine (give1_spec (b := z.1.2) g4w (by rw [g4o c hcm hcl]; exact hc) r4 hn).mono ?_
    rintro _ h5 ⟨rfl, q5⟩
    refine ⟨_, rfl, ?_⟩
    have i5 := hi2.keep (h' := h5) (by rw [q5.same _ (by omega), g4s _ (by omega)]) (by rw [q5.same _ (by omega), g4s _ (by omega)])
    have n5 : h.next < h5.next := by have := q5.le; omega
    have cnt : ∀ h6 : Hp, h6.get h.next = h2.get h.next → (match h6.get h.next with
        | some (.miter _ _ sn _) => (rem cur sn).length
        | _ => 0) < (match h1.get h.next with
        | some (.miter _ _ sn _) => (rem cur sn).length
        | _ => 0) := fun h6 e => by
      rw [e, e2, e1]
      have := hrs.length_eq
      simp only [List.length_cons] at this
      simp only; omega
    cases hin : decide (z.1.1 ∈ xs) with
    | true =>
      have hin : z.1.1 ∈ xs := by simpa using hin
      have hzf : z ∈ cur.filter fun z => !sn.contains z.2 || decide (z.1.1 ∉ xs) := List.mem_filter.2 ⟨hzc, by simp only [hzn, Bool.not_false, Bool.true_or]⟩
      obtain ⟨o', hdel, i6⟩ := i5.del KK ht hd hne (hkc.sublist (List.Sublist.map _ List.filter_sublist)) hzf
      refine ⟨_, hdel, rfl, ⟨sn ++ [z.2], ?_, fun j hj hlt => ?_, q5.wf.set (by omega), by simp [Hp.set_next]; omega⟩, cnt _ ?_⟩
      · have : (cur.filter fun y => !(sn ++ [z.2]).contains y.2 || decide (y.1.1 ∉ xs)) = (cur.filter fun y => !sn.contains y.2 || decide (y.1.1 ∉ xs)).filter fun y => !(y.2 == z.2) := by
          rw [List.filter_filter]
          apply List.filter_congr
          intro y hy
          by_cases e : y.2 = z.2
          · have : y = z := by
              have := inj_nodup hcn hy hzc e
              exact this
            subst this
            simp [hin]
          · simp [e]
        rw [this]; exact i6
      · rw [Hp.get_set_ne hj, q5.same _ (by omega)]; exact g4o j hj hlt
      · rw [Hp.get_set_ne (Ne.symm hne), q5.same _ (by omega), g4s _ (by omega)]
    | false =>
      have hin : z.1.1 ∉ xs := by simpa using hin
      refine ⟨rfl, ⟨sn ++ [z.2], ?_, fun j hj hlt => ?_, q5.wf, n5⟩, cnt _ ?_⟩
      · have : (cur.filter fun y => !(sn ++ [z.2]).contains y.2 || decide (y.1.1 ∉ xs)) = (cur.filter fun y => !sn.contains y.2 || decide (y.1.1 ∉ xs)) := by
          apply List.filter_congr
          intro y hy
          by_cases e : y.2 = z.2
          · have : y = z := inj_nodup hcn hy hzc e
            subst this
            simp [hin]
          · simp [e]
        rw [this]; exact i5
      · rw [q5.same _ (by omega)]; exact g4o j hj hlt
      · rw [q5.same _ (by omega), g4s _ (by omega)]

theorem give_spec {h : Hp} {p : Nat} {L : List (Int × Bd)} {F : List Nat} {a : Option (Nat × Nat)} {n : Nat} {f : Bool} {xs : List Int} (hw : h.wf) (r : PortsR p L h F) (hk : (L.map Prod.fst).Nodup) (hL : L.length < 4611686018427387904) (rd : Rd a n xs h) (hn : n ≤ 4611686018427387904) (hq : ∀ q o, a = some (q, o) → q ∉ F) :
    XCalls Try.prog 51 [.ptr (some (p, 0)), .slc a n f] h fun v h' => v = .int .i64 ((L.length : Int) - (without L xs).length) ∧ PortsR p (without L xs) h' F ∧ Upd h h' F F ∧ h'.wf := by
  obtain ⟨m, o, h1, h2, h3, rfl, h5⟩ := r
  have hpn := hw.lt h1
  have hmn := hw.lt h2
  apply x51; unfold X51
  rintro g1 rfl
  have hln := h3.len mtP
  have rd1 : Rd a n xs (h.alloc (.row [.slc a n f] 1 false)) := by
    by_cases h0 : 0 < n
    · obtain ⟨q, o, c', e, ro, rfl, hg, hcc⟩ := rd.2 h0
      exact rd.keep fun q' o' e => by cases e; exact Hp.get_alloc_ne (hw.ne hg)
    · exact ⟨rd.1, fun h => absurd h h0⟩
  refine ⟨some m, by simp (disch := (first | omega | (simp only [Hp.alloc_next, Hp.set_next] <;> omega) | (simp (disch := (first | omega | (simp only [Hp.alloc_next, Hp.set_next] <;> omega) | fail)) only [Hp.get_set_self, Hp.get_set_ne, Hp.get_alloc_self, Hp.get_alloc_ne, Hp.get_alloc_at, Hp.get_set_at, Hp.set_next, Hp.alloc_next, h1]; done) | fail)) only [Hp.st, Hp.ld, Hp.lda, splice, ble_eq', if_true, if_false, ite_true, ite_false, cond_true, cond_false, decide_true, decide_false, List.length_cons, List.length_nil, List.take_zero, List.take_succ_cons, List.nil_append, List.cons_append, List.append_nil, List.drop_succ_cons, List.drop_zero, List.drop_nil, List.getElem?_cons_succ, List.getElem?_cons_zero, Nat.reduceAdd, Nat.reduceLeDiff, Nat.reduceEqDiff, Nat.zero_add, Nat.add_zero, Nat.le_refl, Nat.zero_le, Nat.succ_ne_self, Nat.mul_one, Int.toNat_natCast, Option.some.injEq, Option.isNone_some, Option.isNone_none, V.int.injEq, V.str.injEq, V.bool.injEq, V.ptr.injEq, V.slc.injEq, V.map.injEq, V.agg.injEq, V.tup.injEq, List.cons.injEq, Prod.mk.injEq, onS, true_and, and_true, and_assoc, exists_and_left, exists_eq_left', forall_eq, heq_eq_eq, reduceCtorEq, Bool.not_true, Bool.not_false, eq_self, not_false_eq_true, Nat.left_eq_add, Nat.add_eq_left, Nat.add_left_cancel_iff, Nat.add_right_cancel_iff, Nat.reduceEqDiff, Nat.one_ne_zero, Hp.get_set_self, Hp.get_set_ne, Hp.get_alloc_self, Hp.get_alloc_ne, Hp.get_alloc_at, Hp.get_set_at, Hp.set_next, Hp.alloc_next, Option.some_ne_none, V.tup.injEq, Option.isSome_some, Option.isSome_none, exists_eq_left, exists_eq, Nat.mul_zero, h1], L.length, hln _ _ (by simp (disch := (first | omega | (simp only [Hp.alloc_next, Hp.set_next] <;> omega) | (simp (disch := (first | omega | (simp only [Hp.alloc_next, Hp.set_next] <;> omega) | fail)) only [Hp.get_set_self, Hp.get_set_ne, Hp.get_alloc_self, Hp.get_alloc_ne, Hp.get_alloc_at, Hp.get_set_at, Hp.set_next, Hp.alloc_next, h2]; done) | fail)) only [Hp.st, Hp.ld, Hp.lda, splice, ble_eq', if_true, if_false, ite_true, ite_false, cond_true, cond_false, decide_true, decide_false, List.length_cons, List.length_nil, List.take_zero, List.take_succ_cons, List.nil_append, List.cons_append, List.append_nil, List.drop_succ_cons, List.drop_zero, List.drop_nil, List.getElem?_cons_succ, List.getElem?_cons_zero, Nat.reduceAdd, Nat.reduceLeDiff, Nat.reduceEqDiff, Nat.zero_add, Nat.add_zero, Nat.le_refl, Nat.zero_le, Nat.succ_ne_self, Nat.mul_one, Int.toNat_natCast, Option.some.injEq, Option.isNone_some, Option.isNone_none, V.int.injEq, V.str.injEq, V.bool.injEq, V.ptr.injEq, V.slc.injEq, V.map.injEq, V.agg.injEq, V.tup.injEq, List.cons.injEq, Prod.mk.injEq, onS, true_and, and_true, and_assoc, exists_and_left, exists_eq_left', forall_eq, heq_eq_eq, reduceCtorEq, Bool.not_true, Bool.not_false, eq_self, not_false_eq_true, Nat.left_eq_add, Nat.add_eq_left, Nat.add_left_cancel_iff, Nat.add_right_cancel_iff, Nat.reduceEqDiff, Nat.one_ne_zero, Hp.get_set_self, Hp.get_set_ne, Hp.get_alloc_self, Hp.get_alloc_ne, Hp.get_alloc_at, Hp.get_set_at, Hp.set_next, Hp.alloc_next, Option.some_ne_none, V.tup.injEq, Option.isSome_some, Option.isSome_none, exists_eq_left, exists_eq, Nat.mul_zero, h2]), some m, by simp (disch := (first | omega | (simp only [Hp.alloc_next, Hp.set_next] <;> omega) | (simp (disch := (first | omega | (simp only [Hp.alloc_next, Hp.set_next] <;> omega) | fail)) only [Hp.get_set_self, Hp.get_set_ne, Hp.get_alloc_self, Hp.get_alloc_ne, Hp.get_alloc_at, Hp.get_set_at, Hp.set_next, Hp.alloc_next, h1]; done) | fail)) only [Hp.st, Hp.ld, Hp.lda, splice, ble_eq', if_true, if_false, ite_true, ite_false, cond_true, cond_false, decide_true, decide_false, List.length_cons, List.length_nil, List.take_zero, List.take_succ_cons, List.nil_append, List.cons_append, List.append_nil, List.drop_succ_cons, List.drop_zero, List.drop_nil, List.getElem?_cons_succ, List.getElem?_cons_zero, Nat.reduceAdd, Nat.reduceLeDiff, Nat.reduceEqDiff, Nat.zero_add, Nat.add_zero, Nat.le_refl, Nat.zero_le, Nat.succ_ne_self, Nat.mul_one, Int.toNat_natCast, Option.some.injEq, Option.isNone_some, Option.isNone_none, V.int.injEq, V.str.injEq, V.bool.injEq, V.ptr.injEq, V.slc.injEq, V.map.injEq, V.agg.injEq, V.tup.injEq, List.cons.injEq, Prod.mk.injEq, onS, true_and, and_true, and_assoc, exists_and_left, exists_eq_left', forall_eq, heq_eq_eq, reduceCtorEq, Bool.not_true, Bool.not_false, eq_self, not_false_eq_true, Nat.left_eq_add, Nat.add_eq_left, Nat.add_left_cancel_iff, Nat.add_right_cancel_iff, Nat.reduceEqDiff, Nat.one_ne_zero, Hp.get_set_self, Hp.get_set_ne, Hp.get_alloc_self, Hp.get_alloc_ne, Hp.get_alloc_at, Hp.get_set_at, Hp.set_next, Hp.alloc_next, Option.some_ne_none, V.tup.injEq, Option.isSome_some, Option.isSome_none, exists_eq_left, exists_eq, Nat.mul_zero, h1], ?_⟩
  refine (delf_spec hw.alloc hk (m := m) (o := o) (by simp (disch := (first | omega | (simp only [Hp.alloc_next, Hp.set_next] <;> omega) | (simp (disch := (first | omega | (simp only [Hp.alloc_next, Hp.set_next] <;> omega) | fail)) only [Hp.get_set_self, Hp.get_set_ne, Hp.get_alloc_self, Hp.get_alloc_ne, Hp.get_alloc_at, Hp.get_set_at, Hp.set_next, Hp.alloc_next, h2]; done) | fail)) only [Hp.st, Hp.ld, Hp.lda, splice, ble_eq', if_true, if_false, ite_true, ite_false, cond_true, cond_false, decide_true, decide_false, List.length_cons, List.length_nil, List.take_zero, List.take_succ_cons, List.nil_append, List.cons_append, List.append_nil, List.drop_succ_cons, List.drop_zero, List.drop_nil, List.getElem?_cons_succ, List.getElem?_cons_zero, Nat.reduceAdd, Nat.reduceLeDiff, Nat.reduceEqDiff, Nat.zero_add, Nat.add_zero, Nat.le_refl, Nat.zero_le, Nat.succ_ne_self, Nat.mul_one, Int.toNat_natCast, Option.some.injEq, Option.isNone_some, Option.isNone_none, V.int.injEq, V.str.injEq, V.bool.injEq, V.ptr.injEq, V.slc.injEq, V.map.injEq, V.agg.injEq, V.tup.injEq, List.cons.injEq, Prod.mk.injEq, onS, true_and, and_true, and_assoc, exists_and_left, exists_eq_left', forall_eq, heq_eq_eq, reduceCtorEq, Bool.not_true, Bool.not_false, eq_self, not_false_eq_true, Nat.left_eq_add, Nat.add_eq_left, Nat.add_left_cancel_iff, Nat.add_right_cancel_iff, Nat.reduceEqDiff, Nat.one_ne_zero, Hp.get_set_self, Hp.get_set_ne, Hp.get_alloc_self, Hp.get_alloc_ne, Hp.get_alloc_at, Hp.get_set_at, Hp.set_next, Hp.alloc_next, Option.some_ne_none, V.tup.injEq, Option.isSome_some, Option.isSome_none, exists_eq_left, exists_eq, Nat.mul_zero, h2]) h3 (c := h.next) (by simp (disch := (first | omega | (simp only [Hp.alloc_next, Hp.set_next] <;> omega) | (simp (disch := (first | omega | (simp only [Hp.alloc_next, Hp.set_next] <;> omega) | fail)) only [Hp.get_set_self, Hp.get_set_ne, Hp.get_alloc_self, Hp.get_alloc_ne, Hp.get_alloc_at, Hp.get_set_at, Hp.set_next, Hp.alloc_next]; done) | fail)) only [Hp.st, Hp.ld, Hp.lda, splice, ble_eq', if_true, if_false, ite_true, ite_false, cond_true, cond_false, decide_true, decide_false, List.length_cons, List.length_nil, List.take_zero, List.take_succ_cons, List.nil_append, List.cons_append, List.append_nil, List.drop_succ_cons, List.drop_zero, List.drop_nil, List.getElem?_cons_succ, List.getElem?_cons_zero, Nat.reduceAdd, Nat.reduceLeDiff, Nat.reduceEqDiff, Nat.zero_add, Nat.add_zero, Nat.le_refl, Nat.zero_le, Nat.succ_ne_self, Nat.mul_one, Int.toNat_natCast, Option.some.injEq, Option.isNone_some, Option.isNone_none, V.int.injEq, V.str.injEq, V.bool.injEq, V.ptr.injEq, V.slc.injEq, V.map.injEq, V.agg.injEq, V.tup.injEq, List.cons.injEq, Prod.mk.injEq, onS, true_and, and_true, and_assoc, exists_and_left, exists_eq_left', forall_eq, heq_eq_eq, reduceCtorEq, Bool.not_true, Bool.not_false, eq_self, not_false_eq_true, Nat.left_eq_add, Nat.add_eq_left, Nat.add_left_cancel_iff, Nat.add_right_cancel_iff, Nat.reduceEqDiff, Nat.one_ne_zero, Hp.get_set_self, Hp.get_set_ne, Hp.get_alloc_self, Hp.get_alloc_ne, Hp.get_alloc_at, Hp.get_set_at, Hp.set_next, Hp.alloc_next, Option.some_ne_none, V.tup.injEq, Option.isSome_some, Option.isSome_none, exists_eq_left, exists_eq, Nat.mul_zero]; rfl) rd1 hn (fun q o e => fun e2 => hq q o e (by simp [e2]))).mono ?_
  rintro _ g2 ⟨rfl, ⟨o', hg2, ho'⟩, hs2, hn2, hw2⟩
  have hp2 : g2.get p = some (.row [.map (some m)] 1 false) := by rw [hs2 p h5 (by simp (disch := (first | omega | (simp only [Hp.alloc_next, Hp.set_next] <;> omega) | (simp (disch := (first | omega | (simp only [Hp.alloc_next, Hp.set_next] <;> omega) | fail)) only [Hp.get_set_self, Hp.get_set_ne, Hp.get_alloc_self, Hp.get_alloc_ne, Hp.get_alloc_at, Hp.get_set_at, Hp.set_next, Hp.alloc_next]; done) | fail)) only [Hp.st, Hp.ld, Hp.lda, splice, ble_eq', if_true, if_false, ite_true, ite_false, cond_true, cond_false, decide_true, decide_false, List.length_cons, List.length_nil, List.take_zero, List.take_succ_cons, List.nil_append, List.cons_append, List.append_nil, List.drop_succ_cons, List.drop_zero, List.drop_nil, List.getElem?_cons_succ, List.getElem?_cons_zero, Nat.reduceAdd, Nat.reduceLeDiff, Nat.reduceEqDiff, Nat.zero_add, Nat.add_zero, Nat.le_refl, Nat.zero_le, Nat.succ_ne_self, Nat.mul_one, Int.toNat_natCast, Option.some.injEq, Option.isNone_some, Option.isNone_none, V.int.injEq, V.str.injEq, V.bool.injEq, V.ptr.injEq, V.slc.injEq, V.map.injEq, V.agg.injEq, V.tup.injEq, List.cons.injEq, Prod.mk.injEq, onS, true_and, and_true, and_assoc, exists_and_left, exists_eq_left', forall_eq, heq_eq_eq, reduceCtorEq, Bool.not_true, Bool.not_false, eq_self, not_false_eq_true, Nat.left_eq_add, Nat.add_eq_left, Nat.add_left_cancel_iff, Nat.add_right_cancel_iff, Nat.reduceEqDiff, Nat.one_ne_zero, Hp.get_set_self, Hp.get_set_ne, Hp.get_alloc_self, Hp.get_alloc_ne, Hp.get_alloc_at, Hp.get_set_at, Hp.set_next, Hp.alloc_next, Option.some_ne_none, V.tup.injEq, Option.isSome_some, Option.isSome_none, exists_eq_left, exists_eq, Nat.mul_zero]; omega)]; simp (disch := (first | omega | (simp only [Hp.alloc_next, Hp.set_next] <;> omega) | (simp (disch := (first | omega | (simp only [Hp.alloc_next, Hp.set_next] <;> omega) | fail)) only [Hp.get_set_self, Hp.get_set_ne, Hp.get_alloc_self, Hp.get_alloc_ne, Hp.get_alloc_at, Hp.get_set_at, Hp.set_next, Hp.alloc_next, h1]; done) | fail)) only [Hp.st, Hp.ld, Hp.lda, splice, ble_eq', if_true, if_false, ite_true, ite_false, cond_true, cond_false, decide_true, decide_false, List.length_cons, List.length_nil, List.take_zero, List.take_succ_cons, List.nil_append, List.cons_append, List.append_nil, List.drop_succ_cons, List.drop_zero, List.drop_nil, List.getElem?_cons_succ, List.getElem?_cons_zero, Nat.reduceAdd, Nat.reduceLeDiff, Nat.reduceEqDiff, Nat.zero_add, Nat.add_zero, Nat.le_refl, Nat.zero_le, Nat.succ_ne_self, Nat.mul_one, Int.toNat_natCast, Option.some.injEq, Option.isNone_some, Option.isNone_none, V.int.injEq, V.str.injEq, V.bool.injEq, V.ptr.injEq, V.slc.injEq, V.map.injEq, V.agg.injEq, V.tup.injEq, List.cons.injEq, Prod.mk.injEq, onS, true_and, and_true, and_assoc, exists_and_left, exists_eq_left', forall_eq, heq_eq_eq, reduceCtorEq, Bool.not_true, Bool.not_false, eq_self, not_false_eq_true, Nat.left_eq_add, Nat.add_eq_left, Nat.add_left_cancel_iff, Nat.add_right_cancel_iff, Nat.reduceEqDiff, Nat.one_ne_zero, Hp.get_set_self, Hp.get_set_ne, Hp.get_alloc_self, Hp.get_alloc_ne, Hp.get_alloc_at, Hp.get_set_at, Hp.set_next, Hp.alloc_next, Option.some_ne_none, V.tup.injEq, Option.isSome_some, Option.isSome_none, exists_eq_left, exists_eq, Nat.mul_zero, h1]
  refine ⟨some m, by rw [Hp.ld_of hp2]; rfl, (without L xs).length, ho'.len mtP _ _ hg2, ?_⟩
  have hle : (without L xs).length ≤ L.length := List.length_filter_le _ _
  rw [wr (by omega) (by omega)]
  refine ⟨rfl, ⟨m, o', hp2, hg2, ho', rfl, h5⟩, ⟨fun j hj hF => ?_, fun j hj => .inl hj, by simp only [Hp.alloc_next] at hn2; omega⟩, hw2⟩
  simp only [List.mem_cons, List.not_mem_nil, or_false, not_or] at hF
  rw [hs2 j hF.2 (by simp (disch := (first | omega | (simp only [Hp.alloc_next, Hp.set_next] <;> omega) | (simp (disch := (first | omega | (simp only [Hp.alloc_next, Hp.set_next] <;> omega) | fail)) only [Hp.get_set_self, Hp.get_set_ne, Hp.get_alloc_self, Hp.get_alloc_ne, Hp.get_alloc_at, Hp.get_set_at, Hp.set_next, Hp.alloc_next]; done) | fail)) only [Hp.st, Hp.ld, Hp.lda, splice, ble_eq', if_true, if_false, ite_true, ite_false, cond_true, cond_false, decide_true, decide_false, List.length_cons, List.length_nil, List.take_zero, List.take_succ_cons, List.nil_append, List.cons_append, List.append_nil, List.drop_succ_cons, List.drop_zero, List.drop_nil, List.getElem?_cons_succ, List.getElem?_cons_zero, Nat.reduceAdd, Nat.reduceLeDiff, Nat.reduceEqDiff, Nat.zero_add, Nat.add_zero, Nat.le_refl, Nat.zero_le, Nat.succ_ne_self, Nat.mul_one, Int.toNat_natCast, Option.some.injEq, Option.isNone_some, Option.isNone_none, V.int.injEq, V.str.injEq, V.bool.injEq, V.ptr.injEq, V.slc.injEq, V.map.injEq, V.agg.injEq, V.tup.injEq, List.cons.injEq, Prod.mk.injEq, onS, true_and, and_true, and_assoc, exists_and_left, exists_eq_left', forall_eq, heq_eq_eq, reduceCtorEq, Bool.not_true, Bool.not_false, eq_self, not_false_eq_true, Nat.left_eq_add, Nat.add_eq_left, Nat.add_left_cancel_iff, Nat.add_right_cancel_iff, Nat.reduceEqDiff, Nat.one_ne_zero, Hp.get_set_self, Hp.get_set_ne, Hp.get_alloc_self, Hp.get_alloc_ne, Hp.get_alloc_at, Hp.get_set_at, Hp.set_next, Hp.alloc_next, Option.some_ne_none, V.tup.injEq, Option.isSome_some, Option.isSome_none, exists_eq_left, exists_eq, Nat.mul_zero]; omega)]
  exact Hp.get_alloc_ne (by omega)
end Go.Vex.Ports
