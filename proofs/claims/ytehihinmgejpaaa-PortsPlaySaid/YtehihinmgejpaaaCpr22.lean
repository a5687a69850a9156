/-
  Contracts of the reference of ports.
-/
import Derived.Test.YtehihinmgejpaaaVexEE
import Derived.Test.YtehihinmgejpaaaTab22
import Derived.Test.YtehihinmgejpaaaXp22
import Derived.Test.YtehihinmgejpaaaXpq22
import Derived.Test.YtehihinmgejpaaaCpa22
import Derived.Test.YtehihinmgejpaaaCpb22
import Derived.Test.YtehihinmgejpaaaCpc22
import Derived.Test.YtehihinmgejpaaaCpd22
set_option linter.unusedVariables false
set_option linter.unusedSimpArgs false
namespace Go.Vex.Ports
open Go.Proofs

def iV (x : Int × Bd) : List V := [.int .u64 x.1, .int .u8 x.2.kind, .int .u32 x.2.ip, .int .u16 x.2.port, .bool x.2.share]

def RefP (r : Nat) (R : List (Int × Bd)) (h : Hp) (F : List Nat) : Prop :=
  ∃ a f G, h.get r = some (.row [.slc a R.length f] 1 false) ∧ Own 5 a R.length (R.map iV) h G ∧ F = r :: G ∧ r ∉ G

theorem RefP.rep (r : Nat) (R : List (Int × Bd)) : Rep (RefP r R) where
  loc := fun h h' F hs ⟨a, f, G, h1, h2, h3, h4⟩ => by
    subst h3
    exact ⟨a, f, G, by rw [hs r (by simp)]; exact h1, (Own.rep _ _ _ _).loc h h' G (fun j hj => hs j (by simp [hj])) h2, rfl, h4⟩
  dom := fun h F ⟨a, f, G, h1, h2, h3, h4⟩ j hj => by
    subst h3
    rcases List.mem_cons.1 hj with rfl | hj
    · exact ⟨_, h1, rfl⟩
    · exact (Own.rep _ _ _ _).dom h G h2 j hj

theorem RefP.quiet {p : Nat} {R : List (Int × Bd)} {h h' : Hp} {F : List Nat} (r : RefP p R h F) (hw : h.wf) (q : Quiet h h') : RefP p R h' F := (RefP.rep p R).stay hw r q.same

theorem RefP.hd {p : Nat} {R : List (Int × Bd)} {h : Hp} {F : List Nat} (r : RefP p R h F) : ∃ a f, h.get p = some (.row [.slc a R.length f] 1 false) ∧
    ∀ k x, R[k]? = some x → ∃ q o, a = some (q, o) ∧ h.ld q (o + k * 5 + 0) = some (.int .u64 x.1) ∧ h.lda q (o + k * 5 + 1) 4 = some (bV x.2) := by
  obtain ⟨a, f, G, h1, h2, h3, h4⟩ := r
  refine ⟨a, f, h1, fun k x hx => ?_⟩
  have hk := (List.getElem?_eq_some_iff.1 hx).1
  obtain ⟨q, o, row, rfl, hr, _, hld, _⟩ := h2.ld hk
  have hr' : (R.map iV)[k]? = some (iV x) := by rw [List.getElem?_map, hx]; rfl
  rw [hr'] at hr
  cases hr
  refine ⟨q, o, rfl, hld 0 (by omega), ?_⟩
  rw [h2.sub hr' rfl (by omega)]; rfl

/-! ### kind, Meet, Together, At -/

theorem kind_spec {h : Hp} {k : Int} : XCalls Try.prog 30 [.int .u8 k] h fun v h' => v = .bool (k == 1 || k == 2) ∧ h' = h := by
  apply x30; unfold X30
  cases k == 1 <;> exact ⟨rfl, rfl⟩

theorem meet_spec {h : Hp} {a b : Bd} (hw : h.wf) : XCalls Try.prog 33 [bV a, bV b] h fun v h' => v = .bool (meetB b a) ∧ Quiet h h' := by
  refine XCalls.cps fun K hK => ?_
  apply x33; unfold X33
  rintro g1 rfl g2 rfl
  have q2 : Quiet h ((h.alloc (.row [.int .u8 a.kind, .int .u32 a.ip, .int .u16 a.port, .bool a.share] 1 false)).alloc (.row [.int .u8 b.kind, .int .u32 b.ip, .int .u16 b.port, .bool b.share] 1 false)) := (Quiet.alloc hw _).trans (Quiet.alloc hw.alloc _)
  refine ⟨a.kind, by simp (disch := (first | omega | (simp only [Hp.alloc_next, Hp.set_next] <;> omega) | (simp (disch := (first | omega | (simp only [Hp.alloc_next, Hp.set_next] <;> omega) | fail)) only [Hp.get_set_self, Hp.get_set_ne, Hp.get_alloc_self, Hp.get_alloc_ne, Hp.get_alloc_at, Hp.get_set_at, Hp.set_next, Hp.alloc_next]; done) | fail)) only [Hp.st, Hp.ld, Hp.lda, splice, ble_eq', if_true, if_false, ite_true, ite_false, cond_true, cond_false, decide_true, decide_false, List.length_cons, List.length_nil, List.take_zero, List.take_succ_cons, List.nil_append, List.cons_append, List.append_nil, List.drop_succ_cons, List.drop_zero, List.drop_nil, List.getElem?_cons_succ, List.getElem?_cons_zero, Nat.reduceAdd, Nat.reduceLeDiff, Nat.reduceEqDiff, Nat.zero_add, Nat.add_zero, Nat.le_refl, Nat.zero_le, Nat.succ_ne_self, Nat.mul_one, Int.toNat_natCast, Option.some.injEq, Option.isNone_some, Option.isNone_none, V.int.injEq, V.str.injEq, V.bool.injEq, V.ptr.injEq, V.slc.injEq, V.map.injEq, V.agg.injEq, V.tup.injEq, List.cons.injEq, Prod.mk.injEq, onS, true_and, and_true, and_assoc, exists_and_left, exists_eq_left', forall_eq, heq_eq_eq, reduceCtorEq, Bool.not_true, Bool.not_false, eq_self, not_false_eq_true, Nat.left_eq_add, Nat.add_eq_left, Nat.add_left_cancel_iff, Nat.add_right_cancel_iff, Nat.reduceEqDiff, Nat.one_ne_zero, Hp.get_set_self, Hp.get_set_ne, Hp.get_alloc_self, Hp.get_alloc_ne, Hp.get_alloc_at, Hp.get_set_at, Hp.set_next, Hp.alloc_next, Option.some_ne_none, V.tup.injEq, Option.isSome_some, Option.isSome_none, exists_eq_left, exists_eq, Nat.mul_zero], b.kind, by simp (disch := (first | omega | (simp only [Hp.alloc_next, Hp.set_next] <;> omega) | (simp (disch := (first | omega | (simp only [Hp.alloc_next, Hp.set_next] <;> omega) | fail)) only [Hp.get_set_self, Hp.get_set_ne, Hp.get_alloc_self, Hp.get_alloc_ne, Hp.get_alloc_at, Hp.get_set_at, Hp.set_next, Hp.alloc_next]; done) | fail)) only [Hp.st, Hp.ld, Hp.lda, splice, ble_eq', if_true, if_false, ite_true, ite_false, cond_true, cond_false, decide_true, decide_false, List.length_cons, List.length_nil, List.take_zero, List.take_succ_cons, List.nil_append, List.cons_append, List.append_nil, List.drop_succ_cons, List.drop_zero, List.drop_nil, List.getElem?_cons_succ, List.getElem?_cons_zero, Nat.reduceAdd, Nat.reduceLeDiff, Nat.reduceEqDiff, Nat.zero_add, Nat.add_zero, Nat.le_refl, Nat.zero_le, Nat.succ_ne_self, Nat.mul_one, Int.toNat_natCast, Option.some.injEq, Option.isNone_some, Option.isNone_none, V.int.injEq, V.str.injEq, V.bool.injEq, V.ptr.injEq, V.slc.injEq, V.map.injEq, V.agg.injEq, V.tup.injEq, List.cons.injEq, Prod.mk.injEq, onS, true_and, and_true, and_assoc, exists_and_left, exists_eq_left', forall_eq, heq_eq_eq, reduceCtorEq, Bool.not_true, Bool.not_false, eq_self, not_false_eq_true, Nat.left_eq_add, Nat.add_eq_left, Nat.add_left_cancel_iff, Nat.add_right_cancel_iff, Nat.reduceEqDiff, Nat.one_ne_zero, Hp.get_set_self, Hp.get_set_ne, Hp.get_alloc_self, Hp.get_alloc_ne, Hp.get_alloc_at, Hp.get_set_at, Hp.set_next, Hp.alloc_next, Option.some_ne_none, V.tup.injEq, Option.isSome_some, Option.isSome_none, exists_eq_left, exists_eq, Nat.mul_zero], ?_⟩
  have fin : ∀ x, x = meetB b a → K (.bool x) _ := fun x e => hK _ _ ⟨by rw [e], q2⟩
  unfold meetB at fin
  cases c1 : a.kind == b.kind with
  | false => exact fin _ (by rw [c1]; rfl)
  | true =>
    refine ⟨a.port, by simp (disch := (first | omega | (simp only [Hp.alloc_next, Hp.set_next] <;> omega) | (simp (disch := (first | omega | (simp only [Hp.alloc_next, Hp.set_next] <;> omega) | fail)) only [Hp.get_set_self, Hp.get_set_ne, Hp.get_alloc_self, Hp.get_alloc_ne, Hp.get_alloc_at, Hp.get_set_at, Hp.set_next, Hp.alloc_next]; done) | fail)) only [Hp.st, Hp.ld, Hp.lda, splice, ble_eq', if_true, if_false, ite_true, ite_false, cond_true, cond_false, decide_true, decide_false, List.length_cons, List.length_nil, List.take_zero, List.take_succ_cons, List.nil_append, List.cons_append, List.append_nil, List.drop_succ_cons, List.drop_zero, List.drop_nil, List.getElem?_cons_succ, List.getElem?_cons_zero, Nat.reduceAdd, Nat.reduceLeDiff, Nat.reduceEqDiff, Nat.zero_add, Nat.add_zero, Nat.le_refl, Nat.zero_le, Nat.succ_ne_self, Nat.mul_one, Int.toNat_natCast, Option.some.injEq, Option.isNone_some, Option.isNone_none, V.int.injEq, V.str.injEq, V.bool.injEq, V.ptr.injEq, V.slc.injEq, V.map.injEq, V.agg.injEq, V.tup.injEq, List.cons.injEq, Prod.mk.injEq, onS, true_and, and_true, and_assoc, exists_and_left, exists_eq_left', forall_eq, heq_eq_eq, reduceCtorEq, Bool.not_true, Bool.not_false, eq_self, not_false_eq_true, Nat.left_eq_add, Nat.add_eq_left, Nat.add_left_cancel_iff, Nat.add_right_cancel_iff, Nat.reduceEqDiff, Nat.one_ne_zero, Hp.get_set_self, Hp.get_set_ne, Hp.get_alloc_self, Hp.get_alloc_ne, Hp.get_alloc_at, Hp.get_set_at, Hp.set_next, Hp.alloc_next, Option.some_ne_none, V.tup.injEq, Option.isSome_some, Option.isSome_none, exists_eq_left, exists_eq, Nat.mul_zero], b.port, by simp (disch := (first | omega | (simp only [Hp.alloc_next, Hp.set_next] <;> omega) | (simp (disch := (first | omega | (simp only [Hp.alloc_next, Hp.set_next] <;> omega) | fail)) only [Hp.get_set_self, Hp.get_set_ne, Hp.get_alloc_self, Hp.get_alloc_ne, Hp.get_alloc_at, Hp.get_set_at, Hp.set_next, Hp.alloc_next]; done) | fail)) only [Hp.st, Hp.ld, Hp.lda, splice, ble_eq', if_true, if_false, ite_true, ite_false, cond_true, cond_false, decide_true, decide_false, List.length_cons, List.length_nil, List.take_zero, List.take_succ_cons, List.nil_append, List.cons_append, List.append_nil, List.drop_succ_cons, List.drop_zero, List.drop_nil, List.getElem?_cons_succ, List.getElem?_cons_zero, Nat.reduceAdd, Nat.reduceLeDiff, Nat.reduceEqDiff, Nat.zero_add, Nat.add_zero, Nat.le_refl, Nat.zero_le, Nat.succ_ne_self, Nat.mul_one, Int.toNat_natCast, Option.some.injEq, Option.isNone_some, Option.isNone_none, V.int.injEq, V.str.injEq, V.bool.injEq, V.ptr.injEq, V.slc.injEq, V.map.injEq, V.agg.injEq, V.tup.injEq, List.cons.injEq, Prod.mk.injEq, onS, true_and, and_true, and_assoc, exists_and_left, exists_eq_left', forall_eq, heq_eq_eq, reduceCtorEq, Bool.not_true, Bool.not_false, eq_self, not_false_eq_true, Nat.left_eq_add, Nat.add_eq_left, Nat.add_left_cancel_iff, Nat.add_right_cancel_iff, Nat.reduceEqDiff, Nat.one_ne_zero, Hp.get_set_self, Hp.get_set_ne, Hp.get_alloc_self, Hp.get_alloc_ne, Hp.get_alloc_at, Hp.get_set_at, Hp.set_next, Hp.alloc_next, Option.some_ne_none, V.tup.injEq, Option.isSome_some, Option.isSome_none, exists_eq_left, exists_eq, Nat.mul_zero], ?_⟩
    cases c2 : a.port == b.port with
    | false => exact fin _ (by rw [c1, c2]; rfl)
    | true =>
      refine ⟨a.ip, by simp (disch := (first | omega | (simp only [Hp.alloc_next, Hp.set_next] <;> omega) | (simp (disch := (first | omega | (simp only [Hp.alloc_next, Hp.set_next] <;> omega) | fail)) only [Hp.get_set_self, Hp.get_set_ne, Hp.get_alloc_self, Hp.get_alloc_ne, Hp.get_alloc_at, Hp.get_set_at, Hp.set_next, Hp.alloc_next]; done) | fail)) only [Hp.st, Hp.ld, Hp.lda, splice, ble_eq', if_true, if_false, ite_true, ite_false, cond_true, cond_false, decide_true, decide_false, List.length_cons, List.length_nil, List.take_zero, List.take_succ_cons, List.nil_append, List.cons_append, List.append_nil, List.drop_succ_cons, List.drop_zero, List.drop_nil, List.getElem?_cons_succ, List.getElem?_cons_zero, Nat.reduceAdd, Nat.reduceLeDiff, Nat.reduceEqDiff, Nat.zero_add, Nat.add_zero, Nat.le_refl, Nat.zero_le, Nat.succ_ne_self, Nat.mul_one, Int.toNat_natCast, Option.some.injEq, Option.isNone_some, Option.isNone_none, V.int.injEq, V.str.injEq, V.bool.injEq, V.ptr.injEq, V.slc.injEq, V.map.injEq, V.agg.injEq, V.tup.injEq, List.cons.injEq, Prod.mk.injEq, onS, true_and, and_true, and_assoc, exists_and_left, exists_eq_left', forall_eq, heq_eq_eq, reduceCtorEq, Bool.not_true, Bool.not_false, eq_self, not_false_eq_true, Nat.left_eq_add, Nat.add_eq_left, Nat.add_left_cancel_iff, Nat.add_right_cancel_iff, Nat.reduceEqDiff, Nat.one_ne_zero, Hp.get_set_self, Hp.get_set_ne, Hp.get_alloc_self, Hp.get_alloc_ne, Hp.get_alloc_at, Hp.get_set_at, Hp.set_next, Hp.alloc_next, Option.some_ne_none, V.tup.injEq, Option.isSome_some, Option.isSome_none, exists_eq_left, exists_eq, Nat.mul_zero], b.ip, by simp (disch := (first | omega | (simp only [Hp.alloc_next, Hp.set_next] <;> omega) | (simp (disch := (first | omega | (simp only [Hp.alloc_next, Hp.set_next] <;> omega) | fail)) only [Hp.get_set_self, Hp.get_set_ne, Hp.get_alloc_self, Hp.get_alloc_ne, Hp.get_alloc_at, Hp.get_set_at, Hp.set_next, Hp.alloc_next]; done) | fail)) only [Hp.st, Hp.ld, Hp.lda, splice, ble_eq', if_true, if_false, ite_true, ite_false, cond_true, cond_false, decide_true, decide_false, List.length_cons, List.length_nil, List.take_zero, List.take_succ_cons, List.nil_append, List.cons_append, List.append_nil, List.drop_succ_cons, List.drop_zero, List.drop_nil, List.getElem?_cons_succ, List.getElem?_cons_zero, Nat.reduceAdd, Nat.reduceLeDiff, Nat.reduceEqDiff, Nat.zero_add, Nat.add_zero, Nat.le_refl, Nat.zero_le, Nat.succ_ne_self, Nat.mul_one, Int.toNat_natCast, Option.some.injEq, Option.isNone_some, Option.isNone_none, V.int.injEq, V.str.injEq, V.bool.injEq, V.ptr.injEq, V.slc.injEq, V.map.injEq, V.agg.injEq, V.tup.injEq, List.cons.injEq, Prod.mk.injEq, onS, true_and, and_true, and_assoc, exists_and_left, exists_eq_left', forall_eq, heq_eq_eq, reduceCtorEq, Bool.not_true, Bool.not_false, eq_self, not_false_eq_true, Nat.left_eq_add, Nat.add_eq_left, Nat.add_left_cancel_iff, Nat.add_right_cancel_iff, Nat.reduceEqDiff, Nat.one_ne_zero, Hp.get_set_self, Hp.get_set_ne, Hp.get_alloc_self, Hp.get_alloc_ne, Hp.get_alloc_at, Hp.get_set_at, Hp.set_next, Hp.alloc_next, Option.some_ne_none, V.tup.injEq, Option.isSome_some, Option.isSome_none, exists_eq_left, exists_eq, Nat.mul_zero], ?_⟩
      cases c3 : a.ip == b.ip with
      | true => exact fin _ (by rw [c1, c2, c3]; rfl)
      | false =>
        refine ⟨a.ip, by simp (disch := (first | omega | (simp only [Hp.alloc_next, Hp.set_next] <;> omega) | (simp (disch := (first | omega | (simp only [Hp.alloc_next, Hp.set_next] <;> omega) | fail)) only [Hp.get_set_self, Hp.get_set_ne, Hp.get_alloc_self, Hp.get_alloc_ne, Hp.get_alloc_at, Hp.get_set_at, Hp.set_next, Hp.alloc_next]; done) | fail)) only [Hp.st, Hp.ld, Hp.lda, splice, ble_eq', if_true, if_false, ite_true, ite_false, cond_true, cond_false, decide_true, decide_false, List.length_cons, List.length_nil, List.take_zero, List.take_succ_cons, List.nil_append, List.cons_append, List.append_nil, List.drop_succ_cons, List.drop_zero, List.drop_nil, List.getElem?_cons_succ, List.getElem?_cons_zero, Nat.reduceAdd, Nat.reduceLeDiff, Nat.reduceEqDiff, Nat.zero_add, Nat.add_zero, Nat.le_refl, Nat.zero_le, Nat.succ_ne_self, Nat.mul_one, Int.toNat_natCast, Option.some.injEq, Option.isNone_some, Option.isNone_none, V.int.injEq, V.str.injEq, V.bool.injEq, V.ptr.injEq, V.slc.injEq, V.map.injEq, V.agg.injEq, V.tup.injEq, List.cons.injEq, Prod.mk.injEq, onS, true_and, and_true, and_assoc, exists_and_left, exists_eq_left', forall_eq, heq_eq_eq, reduceCtorEq, Bool.not_true, Bool.not_false, eq_self, not_false_eq_true, Nat.left_eq_add, Nat.add_eq_left, Nat.add_left_cancel_iff, Nat.add_right_cancel_iff, Nat.reduceEqDiff, Nat.one_ne_zero, Hp.get_set_self, Hp.get_set_ne, Hp.get_alloc_self, Hp.get_alloc_ne, Hp.get_alloc_at, Hp.get_set_at, Hp.set_next, Hp.alloc_next, Option.some_ne_none, V.tup.injEq, Option.isSome_some, Option.isSome_none, exists_eq_left, exists_eq, Nat.mul_zero], ?_⟩
        cases c4 : a.ip == 0 with
        | true => exact fin _ (by rw [c1, c2, c3, c4]; rfl)
        | false =>
          refine ⟨b.ip, by simp (disch := (first | omega | (simp only [Hp.alloc_next, Hp.set_next] <;> omega) | (simp (disch := (first | omega | (simp only [Hp.alloc_next, Hp.set_next] <;> omega) | fail)) only [Hp.get_set_self, Hp.get_set_ne, Hp.get_alloc_self, Hp.get_alloc_ne, Hp.get_alloc_at, Hp.get_set_at, Hp.set_next, Hp.alloc_next]; done) | fail)) only [Hp.st, Hp.ld, Hp.lda, splice, ble_eq', if_true, if_false, ite_true, ite_false, cond_true, cond_false, decide_true, decide_false, List.length_cons, List.length_nil, List.take_zero, List.take_succ_cons, List.nil_append, List.cons_append, List.append_nil, List.drop_succ_cons, List.drop_zero, List.drop_nil, List.getElem?_cons_succ, List.getElem?_cons_zero, Nat.reduceAdd, Nat.reduceLeDiff, Nat.reduceEqDiff, Nat.zero_add, Nat.add_zero, Nat.le_refl, Nat.zero_le, Nat.succ_ne_self, Nat.mul_one, Int.toNat_natCast, Option.some.injEq, Option.isNone_some, Option.isNone_none, V.int.injEq, V.str.injEq, V.bool.injEq, V.ptr.injEq, V.slc.injEq, V.map.injEq, V.agg.injEq, V.tup.injEq, List.cons.injEq, Prod.mk.injEq, onS, true_and, and_true, and_assoc, exists_and_left, exists_eq_left', forall_eq, heq_eq_eq, reduceCtorEq, Bool.not_true, Bool.not_false, eq_self, not_false_eq_true, Nat.left_eq_add, Nat.add_eq_left, Nat.add_left_cancel_iff, Nat.add_right_cancel_iff, Nat.reduceEqDiff, Nat.one_ne_zero, Hp.get_set_self, Hp.get_set_ne, Hp.get_alloc_self, Hp.get_alloc_ne, Hp.get_alloc_at, Hp.get_set_at, Hp.set_next, Hp.alloc_next, Option.some_ne_none, V.tup.injEq, Option.isSome_some, Option.isSome_none, exists_eq_left, exists_eq, Nat.mul_zero], ?_⟩
          exact fin _ (by rw [c1, c2, c3, c4]; simp)

theorem together_spec {h : Hp} {a b : Bd} (hw : h.wf) : XCalls Try.prog 31 [bV a, bV b] h fun v h' => v = .bool (!clashB b a) ∧ Quiet h h' := by
  refine XCalls.cps fun K hK => ?_
  apply x31; unfold X31
  rintro g1 rfl g2 rfl
  have q2 : Quiet h ((h.alloc (.row [.int .u8 a.kind, .int .u32 a.ip, .int .u16 a.port, .bool a.share] 1 false)).alloc (.row [.int .u8 b.kind, .int .u32 b.ip, .int .u16 b.port, .bool b.share] 1 false)) := (Quiet.alloc hw _).trans (Quiet.alloc hw.alloc _)
  refine ⟨a.kind, a.ip, a.port, a.share, by simp (disch := (first | omega | (simp only [Hp.alloc_next, Hp.set_next] <;> omega) | (simp (disch := (first | omega | (simp only [Hp.alloc_next, Hp.set_next] <;> omega) | fail)) only [Hp.get_set_self, Hp.get_set_ne, Hp.get_alloc_self, Hp.get_alloc_ne, Hp.get_alloc_at, Hp.get_set_at, Hp.set_next, Hp.alloc_next]; done) | fail)) only [Hp.st, Hp.ld, Hp.lda, splice, ble_eq', if_true, if_false, ite_true, ite_false, cond_true, cond_false, decide_true, decide_false, List.length_cons, List.length_nil, List.take_zero, List.take_succ_cons, List.nil_append, List.cons_append, List.append_nil, List.drop_succ_cons, List.drop_zero, List.drop_nil, List.getElem?_cons_succ, List.getElem?_cons_zero, Nat.reduceAdd, Nat.reduceLeDiff, Nat.reduceEqDiff, Nat.zero_add, Nat.add_zero, Nat.le_refl, Nat.zero_le, Nat.succ_ne_self, Nat.mul_one, Int.toNat_natCast, Option.some.injEq, Option.isNone_some, Option.isNone_none, V.int.injEq, V.str.injEq, V.bool.injEq, V.ptr.injEq, V.slc.injEq, V.map.injEq, V.agg.injEq, V.tup.injEq, List.cons.injEq, Prod.mk.injEq, onS, true_and, and_true, and_assoc, exists_and_left, exists_eq_left', forall_eq, heq_eq_eq, reduceCtorEq, Bool.not_true, Bool.not_false, eq_self, not_false_eq_true, Nat.left_eq_add, Nat.add_eq_left, Nat.add_left_cancel_iff, Nat.add_right_cancel_iff, Nat.reduceEqDiff, Nat.one_ne_zero, Hp.get_set_self, Hp.get_set_ne, Hp.get_alloc_self, Hp.get_alloc_ne, Hp.get_alloc_at, Hp.get_set_at, Hp.set_next, Hp.alloc_next, Option.some_ne_none, V.tup.injEq, Option.isSome_some, Option.isSome_none, exists_eq_left, exists_eq, Nat.mul_zero], b.kind, b.ip, b.port, b.share, by simp (disch := (first | omega | (simp only [Hp.alloc_next, Hp.set_next] <;> omega) | (simp (disch := (first | omega | (simp only [Hp.alloc_next, Hp.set_next] <;> omega) | fail)) only [Hp.get_set_self, Hp.get_set_ne, Hp.get_alloc_self, Hp.get_alloc_ne, Hp.get_alloc_at, Hp.get_set_at, Hp.set_next, Hp.alloc_next]; done) | fail)) only [Hp.st, Hp.ld, Hp.lda, splice, ble_eq', if_true, if_false, ite_true, ite_false, cond_true, cond_false, decide_true, decide_false, List.length_cons, List.length_nil, List.take_zero, List.take_succ_cons, List.nil_append, List.cons_append, List.append_nil, List.drop_succ_cons, List.drop_zero, List.drop_nil, List.getElem?_cons_succ, List.getElem?_cons_zero, Nat.reduceAdd, Nat.reduceLeDiff, Nat.reduceEqDiff, Nat.zero_add, Nat.add_zero, Nat.le_refl, Nat.zero_le, Nat.succ_ne_self, Nat.mul_one, Int.toNat_natCast, Option.some.injEq, Option.isNone_some, Option.isNone_none, V.int.injEq, V.str.injEq, V.bool.injEq, V.ptr.injEq, V.slc.injEq, V.map.injEq, V.agg.injEq, V.tup.injEq, List.cons.injEq, Prod.mk.injEq, onS, true_and, and_true, and_assoc, exists_and_left, exists_eq_left', forall_eq, heq_eq_eq, reduceCtorEq, Bool.not_true, Bool.not_false, eq_self, not_false_eq_true, Nat.left_eq_add, Nat.add_eq_left, Nat.add_left_cancel_iff, Nat.add_right_cancel_iff, Nat.reduceEqDiff, Nat.one_ne_zero, Hp.get_set_self, Hp.get_set_ne, Hp.get_alloc_self, Hp.get_alloc_ne, Hp.get_alloc_at, Hp.get_set_at, Hp.set_next, Hp.alloc_next, Option.some_ne_none, V.tup.injEq, Option.isSome_some, Option.isSome_none, exists_eq_left, exists_eq, Nat.mul_zero], ?_⟩
  refine (meet_spec (a := a) (b := b) q2.wf).mono ?_
  rintro _ g3 ⟨rfl, q3⟩
  have ga : g3.get h.next = some (.row [.int .u8 a.kind, .int .u32 a.ip, .int .u16 a.port, .bool a.share] 1 false) := by rw [q3.same _ (by simp (disch := (first | omega | (simp only [Hp.alloc_next, Hp.set_next] <;> omega) | (simp (disch := (first | omega | (simp only [Hp.alloc_next, Hp.set_next] <;> omega) | fail)) only [Hp.get_set_self, Hp.get_set_ne, Hp.get_alloc_self, Hp.get_alloc_ne, Hp.get_alloc_at, Hp.get_set_at, Hp.set_next, Hp.alloc_next]; done) | fail)) only [Hp.st, Hp.ld, Hp.lda, splice, ble_eq', if_true, if_false, ite_true, ite_false, cond_true, cond_false, decide_true, decide_false, List.length_cons, List.length_nil, List.take_zero, List.take_succ_cons, List.nil_append, List.cons_append, List.append_nil, List.drop_succ_cons, List.drop_zero, List.drop_nil, List.getElem?_cons_succ, List.getElem?_cons_zero, Nat.reduceAdd, Nat.reduceLeDiff, Nat.reduceEqDiff, Nat.zero_add, Nat.add_zero, Nat.le_refl, Nat.zero_le, Nat.succ_ne_self, Nat.mul_one, Int.toNat_natCast, Option.some.injEq, Option.isNone_some, Option.isNone_none, V.int.injEq, V.str.injEq, V.bool.injEq, V.ptr.injEq, V.slc.injEq, V.map.injEq, V.agg.injEq, V.tup.injEq, List.cons.injEq, Prod.mk.injEq, onS, true_and, and_true, and_assoc, exists_and_left, exists_eq_left', forall_eq, heq_eq_eq, reduceCtorEq, Bool.not_true, Bool.not_false, eq_self, not_false_eq_true, Nat.left_eq_add, Nat.add_eq_left, Nat.add_left_cancel_iff, Nat.add_right_cancel_iff, Nat.reduceEqDiff, Nat.one_ne_zero, Hp.get_set_self, Hp.get_set_ne, Hp.get_alloc_self, Hp.get_alloc_ne, Hp.get_alloc_at, Hp.get_set_at, Hp.set_next, Hp.alloc_next, Option.some_ne_none, V.tup.injEq, Option.isSome_some, Option.isSome_none, exists_eq_left, exists_eq, Nat.mul_zero]; omega)]; simp (disch := (first | omega | (simp only [Hp.alloc_next, Hp.set_next] <;> omega) | (simp (disch := (first | omega | (simp only [Hp.alloc_next, Hp.set_next] <;> omega) | fail)) only [Hp.get_set_self, Hp.get_set_ne, Hp.get_alloc_self, Hp.get_alloc_ne, Hp.get_alloc_at, Hp.get_set_at, Hp.set_next, Hp.alloc_next]; done) | fail)) only [Hp.st, Hp.ld, Hp.lda, splice, ble_eq', if_true, if_false, ite_true, ite_false, cond_true, cond_false, decide_true, decide_false, List.length_cons, List.length_nil, List.take_zero, List.take_succ_cons, List.nil_append, List.cons_append, List.append_nil, List.drop_succ_cons, List.drop_zero, List.drop_nil, List.getElem?_cons_succ, List.getElem?_cons_zero, Nat.reduceAdd, Nat.reduceLeDiff, Nat.reduceEqDiff, Nat.zero_add, Nat.add_zero, Nat.le_refl, Nat.zero_le, Nat.succ_ne_self, Nat.mul_one, Int.toNat_natCast, Option.some.injEq, Option.isNone_some, Option.isNone_none, V.int.injEq, V.str.injEq, V.bool.injEq, V.ptr.injEq, V.slc.injEq, V.map.injEq, V.agg.injEq, V.tup.injEq, List.cons.injEq, Prod.mk.injEq, onS, true_and, and_true, and_assoc, exists_and_left, exists_eq_left', forall_eq, heq_eq_eq, reduceCtorEq, Bool.not_true, Bool.not_false, eq_self, not_false_eq_true, Nat.left_eq_add, Nat.add_eq_left, Nat.add_left_cancel_iff, Nat.add_right_cancel_iff, Nat.reduceEqDiff, Nat.one_ne_zero, Hp.get_set_self, Hp.get_set_ne, Hp.get_alloc_self, Hp.get_alloc_ne, Hp.get_alloc_at, Hp.get_set_at, Hp.set_next, Hp.alloc_next, Option.some_ne_none, V.tup.injEq, Option.isSome_some, Option.isSome_none, exists_eq_left, exists_eq, Nat.mul_zero]
  have gb : g3.get (h.next + 1) = some (.row [.int .u8 b.kind, .int .u32 b.ip, .int .u16 b.port, .bool b.share] 1 false) := by rw [q3.same _ (by simp (disch := (first | omega | (simp only [Hp.alloc_next, Hp.set_next] <;> omega) | (simp (disch := (first | omega | (simp only [Hp.alloc_next, Hp.set_next] <;> omega) | fail)) only [Hp.get_set_self, Hp.get_set_ne, Hp.get_alloc_self, Hp.get_alloc_ne, Hp.get_alloc_at, Hp.get_set_at, Hp.set_next, Hp.alloc_next]; done) | fail)) only [Hp.st, Hp.ld, Hp.lda, splice, ble_eq', if_true, if_false, ite_true, ite_false, cond_true, cond_false, decide_true, decide_false, List.length_cons, List.length_nil, List.take_zero, List.take_succ_cons, List.nil_append, List.cons_append, List.append_nil, List.drop_succ_cons, List.drop_zero, List.drop_nil, List.getElem?_cons_succ, List.getElem?_cons_zero, Nat.reduceAdd, Nat.reduceLeDiff, Nat.reduceEqDiff, Nat.zero_add, Nat.add_zero, Nat.le_refl, Nat.zero_le, Nat.succ_ne_self, Nat.mul_one, Int.toNat_natCast, Option.some.injEq, Option.isNone_some, Option.isNone_none, V.int.injEq, V.str.injEq, V.bool.injEq, V.ptr.injEq, V.slc.injEq, V.map.injEq, V.agg.injEq, V.tup.injEq, List.cons.injEq, Prod.mk.injEq, onS, true_and, and_true, and_assoc, exists_and_left, exists_eq_left', forall_eq, heq_eq_eq, reduceCtorEq, Bool.not_true, Bool.not_false, eq_self, not_false_eq_true, Nat.left_eq_add, Nat.add_eq_left, Nat.add_left_cancel_iff, Nat.add_right_cancel_iff, Nat.reduceEqDiff, Nat.one_ne_zero, Hp.get_set_self, Hp.get_set_ne, Hp.get_alloc_self, Hp.get_alloc_ne, Hp.get_alloc_at, Hp.get_set_at, Hp.set_next, Hp.alloc_next, Option.some_ne_none, V.tup.injEq, Option.isSome_some, Option.isSome_none, exists_eq_left, exists_eq, Nat.mul_zero]; omega)]; simp (disch := (first | omega | (simp only [Hp.alloc_next, Hp.set_next] <;> omega) | (simp (disch := (first | omega | (simp only [Hp.alloc_next, Hp.set_next] <;> omega) | fail)) only [Hp.get_set_self, Hp.get_set_ne, Hp.get_alloc_self, Hp.get_alloc_ne, Hp.get_alloc_at, Hp.get_set_at, Hp.set_next, Hp.alloc_next]; done) | fail)) only [Hp.st, Hp.ld, Hp.lda, splice, ble_eq', if_true, if_false, ite_true, ite_false, cond_true, cond_false, decide_true, decide_false, List.length_cons, List.length_nil, List.take_zero, List.take_succ_cons, List.nil_append, List.cons_append, List.append_nil, List.drop_succ_cons, List.drop_zero, List.drop_nil, List.getElem?_cons_succ, List.getElem?_cons_zero, Nat.reduceAdd, Nat.reduceLeDiff, Nat.reduceEqDiff, Nat.zero_add, Nat.add_zero, Nat.le_refl, Nat.zero_le, Nat.succ_ne_self, Nat.mul_one, Int.toNat_natCast, Option.some.injEq, Option.isNone_some, Option.isNone_none, V.int.injEq, V.str.injEq, V.bool.injEq, V.ptr.injEq, V.slc.injEq, V.map.injEq, V.agg.injEq, V.tup.injEq, List.cons.injEq, Prod.mk.injEq, onS, true_and, and_true, and_assoc, exists_and_left, exists_eq_left', forall_eq, heq_eq_eq, reduceCtorEq, Bool.not_true, Bool.not_false, eq_self, not_false_eq_true, Nat.left_eq_add, Nat.add_eq_left, Nat.add_left_cancel_iff, Nat.add_right_cancel_iff, Nat.reduceEqDiff, Nat.one_ne_zero, Hp.get_set_self, Hp.get_set_ne, Hp.get_alloc_self, Hp.get_alloc_ne, Hp.get_alloc_at, Hp.get_set_at, Hp.set_next, Hp.alloc_next, Option.some_ne_none, V.tup.injEq, Option.isSome_some, Option.isSome_none, exists_eq_left, exists_eq, Nat.mul_zero]
  have fin : ∀ x, x = !clashB b a → K (.bool x) g3 := fun x e => hK _ _ ⟨by rw [e], q2.trans q3⟩
  unfold clashB at fin
  refine ⟨_, rfl, ?_⟩
  cases c1 : meetB b a with
  | false => exact fin _ (by rw [c1]; rfl)
  | true =>
    refine ⟨a.share, by simp (disch := (first | omega | (simp only [Hp.alloc_next, Hp.set_next] <;> omega) | (simp (disch := (first | omega | (simp only [Hp.alloc_next, Hp.set_next] <;> omega) | fail)) only [Hp.get_set_self, Hp.get_set_ne, Hp.get_alloc_self, Hp.get_alloc_ne, Hp.get_alloc_at, Hp.get_set_at, Hp.set_next, Hp.alloc_next, ga]; done) | fail)) only [Hp.st, Hp.ld, Hp.lda, splice, ble_eq', if_true, if_false, ite_true, ite_false, cond_true, cond_false, decide_true, decide_false, List.length_cons, List.length_nil, List.take_zero, List.take_succ_cons, List.nil_append, List.cons_append, List.append_nil, List.drop_succ_cons, List.drop_zero, List.drop_nil, List.getElem?_cons_succ, List.getElem?_cons_zero, Nat.reduceAdd, Nat.reduceLeDiff, Nat.reduceEqDiff, Nat.zero_add, Nat.add_zero, Nat.le_refl, Nat.zero_le, Nat.succ_ne_self, Nat.mul_one, Int.toNat_natCast, Option.some.injEq, Option.isNone_some, Option.isNone_none, V.int.injEq, V.str.injEq, V.bool.injEq, V.ptr.injEq, V.slc.injEq, V.map.injEq, V.agg.injEq, V.tup.injEq, List.cons.injEq, Prod.mk.injEq, onS, true_and, and_true, and_assoc, exists_and_left, exists_eq_left', forall_eq, heq_eq_eq, reduceCtorEq, Bool.not_true, Bool.not_false, eq_self, not_false_eq_true, Nat.left_eq_add, Nat.add_eq_left, Nat.add_left_cancel_iff, Nat.add_right_cancel_iff, Nat.reduceEqDiff, Nat.one_ne_zero, Hp.get_set_self, Hp.get_set_ne, Hp.get_alloc_self, Hp.get_alloc_ne, Hp.get_alloc_at, Hp.get_set_at, Hp.set_next, Hp.alloc_next, Option.some_ne_none, V.tup.injEq, Option.isSome_some, Option.isSome_none, exists_eq_left, exists_eq, Nat.mul_zero, ga], ?_⟩
    cases c2 : a.share with
    | false => exact fin _ (by rw [c1, c2]; rfl)
    | true =>
      refine ⟨b.share, by simp (disch := (first | omega | (simp only [Hp.alloc_next, Hp.set_next] <;> omega) | (simp (disch := (first | omega | (simp only [Hp.alloc_next, Hp.set_next] <;> omega) | fail)) only [Hp.get_set_self, Hp.get_set_ne, Hp.get_alloc_self, Hp.get_alloc_ne, Hp.get_alloc_at, Hp.get_set_at, Hp.set_next, Hp.alloc_next, gb]; done) | fail)) only [Hp.st, Hp.ld, Hp.lda, splice, ble_eq', if_true, if_false, ite_true, ite_false, cond_true, cond_false, decide_true, decide_false, List.length_cons, List.length_nil, List.take_zero, List.take_succ_cons, List.nil_append, List.cons_append, List.append_nil, List.drop_succ_cons, List.drop_zero, List.drop_nil, List.getElem?_cons_succ, List.getElem?_cons_zero, Nat.reduceAdd, Nat.reduceLeDiff, Nat.reduceEqDiff, Nat.zero_add, Nat.add_zero, Nat.le_refl, Nat.zero_le, Nat.succ_ne_self, Nat.mul_one, Int.toNat_natCast, Option.some.injEq, Option.isNone_some, Option.isNone_none, V.int.injEq, V.str.injEq, V.bool.injEq, V.ptr.injEq, V.slc.injEq, V.map.injEq, V.agg.injEq, V.tup.injEq, List.cons.injEq, Prod.mk.injEq, onS, true_and, and_true, and_assoc, exists_and_left, exists_eq_left', forall_eq, heq_eq_eq, reduceCtorEq, Bool.not_true, Bool.not_false, eq_self, not_false_eq_true, Nat.left_eq_add, Nat.add_eq_left, Nat.add_left_cancel_iff, Nat.add_right_cancel_iff, Nat.reduceEqDiff, Nat.one_ne_zero, Hp.get_set_self, Hp.get_set_ne, Hp.get_alloc_self, Hp.get_alloc_ne, Hp.get_alloc_at, Hp.get_set_at, Hp.set_next, Hp.alloc_next, Option.some_ne_none, V.tup.injEq, Option.isSome_some, Option.isSome_none, exists_eq_left, exists_eq, Nat.mul_zero, gb], ?_⟩
      cases c3 : b.share with
      | false => exact fin _ (by rw [c1, c2, c3]; rfl)
      | true =>
        refine ⟨a.ip, by simp (disch := (first | omega | (simp only [Hp.alloc_next, Hp.set_next] <;> omega) | (simp (disch := (first | omega | (simp only [Hp.alloc_next, Hp.set_next] <;> omega) | fail)) only [Hp.get_set_self, Hp.get_set_ne, Hp.get_alloc_self, Hp.get_alloc_ne, Hp.get_alloc_at, Hp.get_set_at, Hp.set_next, Hp.alloc_next, ga]; done) | fail)) only [Hp.st, Hp.ld, Hp.lda, splice, ble_eq', if_true, if_false, ite_true, ite_false, cond_true, cond_false, decide_true, decide_false, List.length_cons, List.length_nil, List.take_zero, List.take_succ_cons, List.nil_append, List.cons_append, List.append_nil, List.drop_succ_cons, List.drop_zero, List.drop_nil, List.getElem?_cons_succ, List.getElem?_cons_zero, Nat.reduceAdd, Nat.reduceLeDiff, Nat.reduceEqDiff, Nat.zero_add, Nat.add_zero, Nat.le_refl, Nat.zero_le, Nat.succ_ne_self, Nat.mul_one, Int.toNat_natCast, Option.some.injEq, Option.isNone_some, Option.isNone_none, V.int.injEq, V.str.injEq, V.bool.injEq, V.ptr.injEq, V.slc.injEq, V.map.injEq, V.agg.injEq, V.tup.injEq, List.cons.injEq, Prod.mk.injEq, onS, true_and, and_true, and_assoc, exists_and_left, exists_eq_left', forall_eq, heq_eq_eq, reduceCtorEq, Bool.not_true, Bool.not_false, eq_self, not_false_eq_true, Nat.left_eq_add, Nat.add_eq_left, Nat.add_left_cancel_iff, Nat.add_right_cancel_iff, Nat.reduceEqDiff, Nat.one_ne_zero, Hp.get_set_self, Hp.get_set_ne, Hp.get_alloc_self, Hp.get_alloc_ne, Hp.get_alloc_at, Hp.get_set_at, Hp.set_next, Hp.alloc_next, Option.some_ne_none, V.tup.injEq, Option.isSome_some, Option.isSome_none, exists_eq_left, exists_eq, Nat.mul_zero, ga], b.ip, by simp (disch := (first | omega | (simp only [Hp.alloc_next, Hp.set_next] <;> omega) | (simp (disch := (first | omega | (simp only [Hp.alloc_next, Hp.set_next] <;> omega) | fail)) only [Hp.get_set_self, Hp.get_set_ne, Hp.get_alloc_self, Hp.get_alloc_ne, Hp.get_alloc_at, Hp.get_set_at, Hp.set_next, Hp.alloc_next, gb]; done) | fail)) only [Hp.st, Hp.ld, Hp.lda, splice, ble_eq', if_true, if_false, ite_true, ite_false, cond_true, cond_false, decide_true, decide_false, List.length_cons, List.length_nil, List.take_zero, List.take_succ_cons, List.nil_append, List.cons_append, List.append_nil, List.drop_succ_cons, List.drop_zero, List.drop_nil, List.getElem?_cons_succ, List.getElem?_cons_zero, Nat.reduceAdd, Nat.reduceLeDiff, Nat.reduceEqDiff, Nat.zero_add, Nat.add_zero, Nat.le_refl, Nat.zero_le, Nat.succ_ne_self, Nat.mul_one, Int.toNat_natCast, Option.some.injEq, Option.isNone_some, Option.isNone_none, V.int.injEq, V.str.injEq, V.bool.injEq, V.ptr.injEq, V.slc.injEq, V.map.injEq, V.agg.injEq, V.tup.injEq, List.cons.injEq, Prod.mk.injEq, onS, true_and, and_true, and_assoc, exists_and_left, exists_eq_left', forall_eq, heq_eq_eq, reduceCtorEq, Bool.not_true, Bool.not_false, eq_self, not_false_eq_true, Nat.left_eq_add, Nat.add_eq_left, Nat.add_left_cancel_iff, Nat.add_right_cancel_iff, Nat.reduceEqDiff, Nat.one_ne_zero, Hp.get_set_self, Hp.get_set_ne, Hp.get_alloc_self, Hp.get_alloc_ne, Hp.get_alloc_at, Hp.get_set_at, Hp.set_next, Hp.alloc_next, Option.some_ne_none, V.tup.injEq, Option.isSome_some, Option.isSome_none, exists_eq_left, exists_eq, Nat.mul_zero, gb], ?_⟩
        exact fin _ (by rw [c1, c2, c3]; simp [bne])

theorem wrap_succ {k n : Nat} (h : k < n) (hn : n ≤ 9223372036854775807) : IntKind.i64.wrap ((k : Int) + 1) = ((k + 1 : Nat) : Int) := by
  rw [wrap_of (by simp [IntKind.min, IntKind.max, IntKind.signed, IntKind.bits]; omega)]; rfl

theorem rat_spec {h : Hp} {p : Nat} {R : List (Int × Bd)} {F : List Nat} {s : Int} (r : RefP p R h F) (hn : R.length ≤ 1024) :
    XCalls Try.prog 13 [.ptr (some (p, 0)), .int .u64 s] h fun v h' => ∃ i, v = .int .i64 i ∧ h' = h ∧ ((i = -1 ∧ ∀ x ∈ R, x.1 ≠ s) ∨ ∃ (k : Nat) (b : Bd), i = k ∧ R[k]? = some (s, b)) := by
  obtain ⟨a, f, hg, hel⟩ := r.hd
  refine XCalls.cps fun K hK => ?_
  apply x13; unfold X13
  refine ⟨fun vs h' => match vs with
    | [.int _ i] => h' = h ∧ ∃ k : Nat, i = k ∧ k ≤ R.length ∧ ∀ j x, j < k → R[j]? = some x → x.1 ≠ s
    | _ => False, fun vs _ => match vs with
    | [.int _ i] => R.length - i.toNat
    | _ => 0, ⟨rfl, rfl, 0, rfl, by omega, fun j x hj => by omega⟩, ?_⟩
  rintro bs i h1 ⟨rfl, k, rfl, hk, hall⟩
  refine ⟨a, R.length, f, by simp (disch := (first | omega | (simp only [Hp.alloc_next, Hp.set_next] <;> omega) | (simp (disch := (first | omega | (simp only [Hp.alloc_next, Hp.set_next] <;> omega) | fail)) only [Hp.get_set_self, Hp.get_set_ne, Hp.get_alloc_self, Hp.get_alloc_ne, Hp.get_alloc_at, Hp.get_set_at, Hp.set_next, Hp.alloc_next, hg]; done) | fail)) only [Hp.st, Hp.ld, Hp.lda, splice, ble_eq', if_true, if_false, ite_true, ite_false, cond_true, cond_false, decide_true, decide_false, List.length_cons, List.length_nil, List.take_zero, List.take_succ_cons, List.nil_append, List.cons_append, List.append_nil, List.drop_succ_cons, List.drop_zero, List.drop_nil, List.getElem?_cons_succ, List.getElem?_cons_zero, Nat.reduceAdd, Nat.reduceLeDiff, Nat.reduceEqDiff, Nat.zero_add, Nat.add_zero, Nat.le_refl, Nat.zero_le, Nat.succ_ne_self, Nat.mul_one, Int.toNat_natCast, Option.some.injEq, Option.isNone_some, Option.isNone_none, V.int.injEq, V.str.injEq, V.bool.injEq, V.ptr.injEq, V.slc.injEq, V.map.injEq, V.agg.injEq, V.tup.injEq, List.cons.injEq, Prod.mk.injEq, onS, true_and, and_true, and_assoc, exists_and_left, exists_eq_left', forall_eq, heq_eq_eq, reduceCtorEq, Bool.not_true, Bool.not_false, eq_self, not_false_eq_true, Nat.left_eq_add, Nat.add_eq_left, Nat.add_left_cancel_iff, Nat.add_right_cancel_iff, Nat.reduceEqDiff, Nat.one_ne_zero, Hp.get_set_self, Hp.get_set_ne, Hp.get_alloc_self, Hp.get_alloc_ne, Hp.get_alloc_at, Hp.get_set_at, Hp.set_next, Hp.alloc_next, Option.some_ne_none, V.tup.injEq, Option.isSome_some, Option.isSome_none, exists_eq_left, exists_eq, Nat.mul_zero, hg], ?_⟩
  cases hi : ltI (↑k) (↑R.length) with
  | false =>
    rw [ltI_eq, decide_eq_false_iff_not] at hi
    refine hK _ _ ⟨_, rfl, rfl, .inl ⟨rfl, fun x hx => ?_⟩⟩
    obtain ⟨j, hj, e⟩ := List.getElem_of_mem hx
    exact hall j x (by omega) (by rw [List.getElem?_eq_getElem hj, e])
  | true =>
    rw [ltI_eq, decide_eq_true_eq] at hi
    have hk' : k < R.length := by omega
    obtain ⟨x, hx⟩ : ∃ x, R[k]? = some x := ⟨_, List.getElem?_eq_getElem hk'⟩
    obtain ⟨q, o, rfl, hl1, hl2⟩ := hel k x hx
    refine ⟨some (q, o), R.length, f, by simp (disch := (first | omega | (simp only [Hp.alloc_next, Hp.set_next] <;> omega) | (simp (disch := (first | omega | (simp only [Hp.alloc_next, Hp.set_next] <;> omega) | fail)) only [Hp.get_set_self, Hp.get_set_ne, Hp.get_alloc_self, Hp.get_alloc_ne, Hp.get_alloc_at, Hp.get_set_at, Hp.set_next, Hp.alloc_next, hg]; done) | fail)) only [Hp.st, Hp.ld, Hp.lda, splice, ble_eq', if_true, if_false, ite_true, ite_false, cond_true, cond_false, decide_true, decide_false, List.length_cons, List.length_nil, List.take_zero, List.take_succ_cons, List.nil_append, List.cons_append, List.append_nil, List.drop_succ_cons, List.drop_zero, List.drop_nil, List.getElem?_cons_succ, List.getElem?_cons_zero, Nat.reduceAdd, Nat.reduceLeDiff, Nat.reduceEqDiff, Nat.zero_add, Nat.add_zero, Nat.le_refl, Nat.zero_le, Nat.succ_ne_self, Nat.mul_one, Int.toNat_natCast, Option.some.injEq, Option.isNone_some, Option.isNone_none, V.int.injEq, V.str.injEq, V.bool.injEq, V.ptr.injEq, V.slc.injEq, V.map.injEq, V.agg.injEq, V.tup.injEq, List.cons.injEq, Prod.mk.injEq, onS, true_and, and_true, and_assoc, exists_and_left, exists_eq_left', forall_eq, heq_eq_eq, reduceCtorEq, Bool.not_true, Bool.not_false, eq_self, not_false_eq_true, Nat.left_eq_add, Nat.add_eq_left, Nat.add_left_cancel_iff, Nat.add_right_cancel_iff, Nat.reduceEqDiff, Nat.one_ne_zero, Hp.get_set_self, Hp.get_set_ne, Hp.get_alloc_self, Hp.get_alloc_ne, Hp.get_alloc_at, Hp.get_set_at, Hp.set_next, Hp.alloc_next, Option.some_ne_none, V.tup.injEq, Option.isSome_some, Option.isSome_none, exists_eq_left, exists_eq, Nat.mul_zero, hg], ⟨by omega, hi⟩, x.1, hl1, ?_⟩
    by_cases e : x.1 = s
    · have c : (x.1 == s) = true := by simp [e]
      rw [c]
      exact hK _ _ ⟨_, rfl, rfl, .inr ⟨k, x.2, rfl, by rw [hx, ← e]⟩⟩
    · have c : (x.1 == s) = false := by simp [e]
      rw [c, wrap_succ hk' (by omega)]
      exact ⟨rfl, ⟨rfl, k + 1, rfl, by omega, fun j y hj hy => by
        by_cases ej : j = k
        · subst ej; rw [hx] at hy; cases hy; exact e
        · exact hall j y (by omega) hy⟩, by simp only [Int.toNat_natCast]; omega⟩

/-! ### put, Give -/

def insK (R : List (Int × Bd)) (s : Int) (b : Bd) : List (Int × Bd) := R.takeWhile (fun x => decide (x.1 < s)) ++ (s, b) :: R.dropWhile (fun x => decide (x.1 < s))

theorem while_take {α : Type} {p : α → Bool} {l : List α} {k : Nat} (h1 : ∀ j x, j < k → l[j]? = some x → p x = true) (h2 : ∀ x, l[k]? = some x → p x = false) : l.takeWhile p = l.take k ∧ l.dropWhile p = l.drop k := by
  have ht : ∀ x ∈ l.take k, p x = true := fun x hx => by
    obtain ⟨j, hj, e⟩ := List.getElem_of_mem hx
    rw [List.length_take] at hj
    exact h1 j x (by omega) (by rw [← e, List.getElem_take, List.getElem?_eq_getElem])
  have hd : ∀ m, l.drop k = m → m.takeWhile p = [] ∧ m.dropWhile p = m := fun m hm => by
    cases m with
    | nil => exact ⟨rfl, rfl⟩
    | cons y m =>
      have hy : l[k]? = some y := by
        have : (l.drop k)[0]? = some y := by rw [hm]; rfl
        rw [List.getElem?_drop] at this; simpa using this
      have := h2 y hy
      simp [List.takeWhile_cons, List.dropWhile_cons, this]
  obtain ⟨h3, h4⟩ := hd _ rfl
  have e : l = l.take k ++ l.drop k := (List.take_append_drop k l).symm
  constructor
  · conv => lhs; rw [e]
    rw [List.takeWhile_append_of_pos ht, h3, List.append_nil]
  · conv => lhs; rw [e]
    rw [List.dropWhile_append_of_pos ht, h4]

theorem tI : ∃ ti, T 31 = some ti ∧ ti.d = .slc 45 := ⟨_, rfl, rfl⟩
theorem tIe : ∃ ei, T 45 = some ei ∧ ei.size = 5 ∧ ei.bytes ≤ 24 ∧ zok ei = true := ⟨_, rfl, rfl, by decide, rfl⟩

theorem map_rows (l : List (Int × Bd)) : ∀ r ∈ l.map iV, r.length = 5 := fun r hr => by
  obtain ⟨x, _, rfl⟩ := List.mem_map.1 hr; rfl

theorem RefP.turn {p : Nat} {R R' : List (Int × Bd)} {g g' : Hp} {F G : List Nat} {a : Option (Nat × Nat)} {f : Bool} (r : RefP p R g F) (hw : g.wf) (u : Upd g g' [] G) (w : g'.wf) (ho : Own 5 a R'.length (R'.map iV) g' G) :
    ∃ g'', g'.st p 0 [.slc a R'.length f] = some g'' ∧ RefP p R' g'' (p :: G) ∧ Upd g g'' F (p :: G) ∧ g''.wf := by
  obtain ⟨a0, f0, G0, h1, h2, rfl, h4⟩ := r
  have hp := hw.lt h1
  have hpl := u.le
  have hG : ∀ j ∈ G, g.next ≤ j := fun j hj => by
    rcases u.new j hj with h | h
    · cases h
    · exact h
  have hpG : p ∉ G := fun h => by have := hG p h; omega
  have hgp : g'.get p = some (.row [.slc a0 R.length f0] 1 false) := by rw [u.same p hp (by simp)]; exact h1
  refine ⟨_, Hp.st_of hgp (Nat.le_of_ble_eq_true rfl), ⟨a, f, G, Hp.get_set_self, (Own.rep _ _ _ _).loc _ _ _ (fun j hj => Hp.get_set_ne fun e => hpG (e ▸ hj)) ho, rfl, hpG⟩, ⟨fun j hj hF => ?_, fun j hj => ?_, hpl⟩, w.set (by omega)⟩
  · simp only [List.mem_cons, not_or] at hF
    rw [Hp.get_set_ne hF.1, u.same j hj (by simp)]
  · rcases List.mem_cons.1 hj with rfl | hj
    · exact .inl (by simp)
    · exact .inr (hG j hj)

theorem put_spec {h : Hp} {p : Nat} {R : List (Int × Bd)} {F : List Nat} {s : Int} {b : Bd} (hw : h.wf) (r : RefP p R h F) (hn : R.length ≤ 1024) :
    XCalls Try.prog 32 [.ptr (some (p, 0)), .agg [.int .u64 s, .int .u8 b.kind, .int .u32 b.ip, .int .u16 b.port, .bool b.share]] h fun v h' => v = .tup [] ∧ ∃ F', RefP p (insK R s b) h' F' ∧ Upd h h' F F' ∧ h'.wf := by
  refine XCalls.cps fun K hK => ?_
  apply x32; unfold X32
  rintro g1 rfl
  have q1 := Quiet.alloc hw (.row [.int .u64 s, .int .u8 b.kind, .int .u32 b.ip, .int .u16 b.port, .bool b.share] 1 false)
  have c1 : (h.alloc (.row [.int .u64 s, .int .u8 b.kind, .int .u32 b.ip, .int .u16 b.port, .bool b.share] 1 false)).get h.next = some (.row [.int .u64 s, .int .u8 b.kind, .int .u32 b.ip, .int .u16 b.port, .bool b.share] 1 false) := Hp.get_alloc_self
  have n1 : (h.alloc (.row [.int .u64 s, .int .u8 b.kind, .int .u32 b.ip, .int .u16 b.port, .bool b.share] 1 false)).next = h.next + 1 := rfl
  generalize h.alloc (.row [.int .u64 s, .int .u8 b.kind, .int .u32 b.ip, .int .u16 b.port, .bool b.share] 1 false) = g1 at *
  have r1 := r.quiet hw q1
  have hFl := fun j hj => (RefP.rep _ _).lt hw r (j := j) hj
  obtain ⟨a, f, hg, hel⟩ := r1.hd
  have hpl := q1.wf.lt hg
  refine ⟨fun vs h' => match vs with
    | [.int _ i] => h' = g1 ∧ ∃ k : Nat, i = k ∧ k ≤ R.length ∧ (∀ j x, j < k → R[j]? = some x → x.1 < s) ∧ ∀ x, R[k]? = some x → ¬ x.1 < s
    | _ => False, ?_, ?_⟩
  · refine ⟨fun vs h' => match vs with
      | [.int _ i] => h' = g1 ∧ ∃ k : Nat, i = k ∧ k ≤ R.length ∧ ∀ j x, j < k → R[j]? = some x → x.1 < s
      | _ => False, fun vs _ => match vs with
      | [.int _ i] => R.length - i.toNat
      | _ => 0, ⟨rfl, rfl, 0, rfl, by omega, fun j x hj => by omega⟩, ?_⟩
    rintro bs i h1 ⟨rfl, k, rfl, hk, hall⟩
    refine ⟨a, R.length, f, by simp (disch := (first | omega | (simp only [Hp.alloc_next, Hp.set_next] <;> omega) | (simp (disch := (first | omega | (simp only [Hp.alloc_next, Hp.set_next] <;> omega) | fail)) only [Hp.get_set_self, Hp.get_set_ne, Hp.get_alloc_self, Hp.get_alloc_ne, Hp.get_alloc_at, Hp.get_set_at, Hp.set_next, Hp.alloc_next, hg]; done) | fail)) only [Hp.st, Hp.ld, Hp.lda, splice, ble_eq', if_true, if_false, ite_true, ite_false, cond_true, cond_false, decide_true, decide_false, List.length_cons, List.length_nil, List.take_zero, List.take_succ_cons, List.nil_append, List.cons_append, List.append_nil, List.drop_succ_cons, List.drop_zero, List.drop_nil, List.getElem?_cons_succ, List.getElem?_cons_zero, Nat.reduceAdd, Nat.reduceLeDiff, Nat.reduceEqDiff, Nat.zero_add, Nat.add_zero, Nat.le_refl, Nat.zero_le, Nat.succ_ne_self, Nat.mul_one, Int.toNat_natCast, Option.some.injEq, Option.isNone_some, Option.isNone_none, V.int.injEq, V.str.injEq, V.bool.injEq, V.ptr.injEq, V.slc.injEq, V.map.injEq, V.agg.injEq, V.tup.injEq, List.cons.injEq, Prod.mk.injEq, onS, true_and, and_true, and_assoc, exists_and_left, exists_eq_left', forall_eq, heq_eq_eq, reduceCtorEq, Bool.not_true, Bool.not_false, eq_self, not_false_eq_true, Nat.left_eq_add, Nat.add_eq_left, Nat.add_left_cancel_iff, Nat.add_right_cancel_iff, Nat.reduceEqDiff, Nat.one_ne_zero, Hp.get_set_self, Hp.get_set_ne, Hp.get_alloc_self, Hp.get_alloc_ne, Hp.get_alloc_at, Hp.get_set_at, Hp.set_next, Hp.alloc_next, Option.some_ne_none, V.tup.injEq, Option.isSome_some, Option.isSome_none, exists_eq_left, exists_eq, Nat.mul_zero, hg], ?_⟩
    cases hi : ltI (↑k) (↑R.length) with
    | false =>
      rw [ltI_eq, decide_eq_false_iff_not] at hi
      exact ⟨rfl, rfl, k, rfl, hk, hall, fun x hx => by have := (List.getElem?_eq_some_iff.1 hx).1; omega⟩
    | true =>
      rw [ltI_eq, decide_eq_true_eq] at hi
      have hk' : k < R.length := by omega
      obtain ⟨x, hx⟩ : ∃ x, R[k]? = some x := ⟨_, List.getElem?_eq_getElem hk'⟩
      obtain ⟨q, o, rfl, hl1, hl2⟩ := hel k x hx
      refine ⟨some (q, o), R.length, f, by simp (disch := (first | omega | (simp only [Hp.alloc_next, Hp.set_next] <;> omega) | (simp (disch := (first | omega | (simp only [Hp.alloc_next, Hp.set_next] <;> omega) | fail)) only [Hp.get_set_self, Hp.get_set_ne, Hp.get_alloc_self, Hp.get_alloc_ne, Hp.get_alloc_at, Hp.get_set_at, Hp.set_next, Hp.alloc_next, hg]; done) | fail)) only [Hp.st, Hp.ld, Hp.lda, splice, ble_eq', if_true, if_false, ite_true, ite_false, cond_true, cond_false, decide_true, decide_false, List.length_cons, List.length_nil, List.take_zero, List.take_succ_cons, List.nil_append, List.cons_append, List.append_nil, List.drop_succ_cons, List.drop_zero, List.drop_nil, List.getElem?_cons_succ, List.getElem?_cons_zero, Nat.reduceAdd, Nat.reduceLeDiff, Nat.reduceEqDiff, Nat.zero_add, Nat.add_zero, Nat.le_refl, Nat.zero_le, Nat.succ_ne_self, Nat.mul_one, Int.toNat_natCast, Option.some.injEq, Option.isNone_some, Option.isNone_none, V.int.injEq, V.str.injEq, V.bool.injEq, V.ptr.injEq, V.slc.injEq, V.map.injEq, V.agg.injEq, V.tup.injEq, List.cons.injEq, Prod.mk.injEq, onS, true_and, and_true, and_assoc, exists_and_left, exists_eq_left', forall_eq, heq_eq_eq, reduceCtorEq, Bool.not_true, Bool.not_false, eq_self, not_false_eq_true, Nat.left_eq_add, Nat.add_eq_left, Nat.add_left_cancel_iff, Nat.add_right_cancel_iff, Nat.reduceEqDiff, Nat.one_ne_zero, Hp.get_set_self, Hp.get_set_ne, Hp.get_alloc_self, Hp.get_alloc_ne, Hp.get_alloc_at, Hp.get_set_at, Hp.set_next, Hp.alloc_next, Option.some_ne_none, V.tup.injEq, Option.isSome_some, Option.isSome_none, exists_eq_left, exists_eq, Nat.mul_zero, hg], ⟨by omega, hi⟩, x.1, hl1, s, by simp (disch := (first | omega | (simp only [Hp.alloc_next, Hp.set_next] <;> omega) | (simp (disch := (first | omega | (simp only [Hp.alloc_next, Hp.set_next] <;> omega) | fail)) only [Hp.get_set_self, Hp.get_set_ne, Hp.get_alloc_self, Hp.get_alloc_ne, Hp.get_alloc_at, Hp.get_set_at, Hp.set_next, Hp.alloc_next, c1]; done) | fail)) only [Hp.st, Hp.ld, Hp.lda, splice, ble_eq', if_true, if_false, ite_true, ite_false, cond_true, cond_false, decide_true, decide_false, List.length_cons, List.length_nil, List.take_zero, List.take_succ_cons, List.nil_append, List.cons_append, List.append_nil, List.drop_succ_cons, List.drop_zero, List.drop_nil, List.getElem?_cons_succ, List.getElem?_cons_zero, Nat.reduceAdd, Nat.reduceLeDiff, Nat.reduceEqDiff, Nat.zero_add, Nat.add_zero, Nat.le_refl, Nat.zero_le, Nat.succ_ne_self, Nat.mul_one, Int.toNat_natCast, Option.some.injEq, Option.isNone_some, Option.isNone_none, V.int.injEq, V.str.injEq, V.bool.injEq, V.ptr.injEq, V.slc.injEq, V.map.injEq, V.agg.injEq, V.tup.injEq, List.cons.injEq, Prod.mk.injEq, onS, true_and, and_true, and_assoc, exists_and_left, exists_eq_left', forall_eq, heq_eq_eq, reduceCtorEq, Bool.not_true, Bool.not_false, eq_self, not_false_eq_true, Nat.left_eq_add, Nat.add_eq_left, Nat.add_left_cancel_iff, Nat.add_right_cancel_iff, Nat.reduceEqDiff, Nat.one_ne_zero, Hp.get_set_self, Hp.get_set_ne, Hp.get_alloc_self, Hp.get_alloc_ne, Hp.get_alloc_at, Hp.get_set_at, Hp.set_next, Hp.alloc_next, Option.some_ne_none, V.tup.injEq, Option.isSome_some, Option.isSome_none, exists_eq_left, exists_eq, Nat.mul_zero, c1], ?_⟩
      cases c : ltI x.1 s with
      | true =>
        rw [ltI_eq, decide_eq_true_eq] at c
        rw [wrap_succ hk' (by omega)]
        exact ⟨rfl, ⟨rfl, k + 1, rfl, by omega, fun j y hj hy => by
          by_cases ej : j = k
          · subst ej; rw [hx] at hy; cases hy; exact c
          · exact hall j y (by omega) hy⟩, by simp only [Int.toNat_natCast]; omega⟩
      | false =>
        rw [ltI_eq, decide_eq_false_iff_not] at c
        exact ⟨rfl, rfl, k, rfl, hk, hall, fun y hy => by rw [hx] at hy; cases hy; exact c⟩
  rintro bs i g2 ⟨rfl, k, rfl, hk, hall, hno⟩
  obtain ⟨htw, hdw⟩ := while_take (p := fun x : Int × Bd => decide (x.1 < s)) (l := R) (k := k) (fun j x hj hx => decide_eq_true (hall j x hj hx)) (fun x hx => decide_eq_false (hno x hx))
  obtain ⟨ti, ht, hd⟩ := tI
  obtain ⟨ei, he, hs, hb, hz⟩ := tIe
  clear hg hel
  obtain ⟨a, f, G, hg, ho, rfl, hpG⟩ := r1
  have hud : ∀ k, ti.d ≠ .int k := fun k e => by rw [hd] at e; cases e
  refine ⟨a, R.length, f, by simp (disch := (first | omega | (simp only [Hp.alloc_next, Hp.set_next] <;> omega) | (simp (disch := (first | omega | (simp only [Hp.alloc_next, Hp.set_next] <;> omega) | fail)) only [Hp.get_set_self, Hp.get_set_ne, Hp.get_alloc_self, Hp.get_alloc_ne, Hp.get_alloc_at, Hp.get_set_at, Hp.set_next, Hp.alloc_next, hg]; done) | fail)) only [Hp.st, Hp.ld, Hp.lda, splice, ble_eq', if_true, if_false, ite_true, ite_false, cond_true, cond_false, decide_true, decide_false, List.length_cons, List.length_nil, List.take_zero, List.take_succ_cons, List.nil_append, List.cons_append, List.append_nil, List.drop_succ_cons, List.drop_zero, List.drop_nil, List.getElem?_cons_succ, List.getElem?_cons_zero, Nat.reduceAdd, Nat.reduceLeDiff, Nat.reduceEqDiff, Nat.zero_add, Nat.add_zero, Nat.le_refl, Nat.zero_le, Nat.succ_ne_self, Nat.mul_one, Int.toNat_natCast, Option.some.injEq, Option.isNone_some, Option.isNone_none, V.int.injEq, V.str.injEq, V.bool.injEq, V.ptr.injEq, V.slc.injEq, V.map.injEq, V.agg.injEq, V.tup.injEq, List.cons.injEq, Prod.mk.injEq, onS, true_and, and_true, and_assoc, exists_and_left, exists_eq_left', forall_eq, heq_eq_eq, reduceCtorEq, Bool.not_true, Bool.not_false, eq_self, not_false_eq_true, Nat.left_eq_add, Nat.add_eq_left, Nat.add_left_cancel_iff, Nat.add_right_cancel_iff, Nat.reduceEqDiff, Nat.one_ne_zero, Hp.get_set_self, Hp.get_set_ne, Hp.get_alloc_self, Hp.get_alloc_ne, Hp.get_alloc_at, Hp.get_set_at, Hp.set_next, Hp.alloc_next, Option.some_ne_none, V.tup.injEq, Option.isSome_some, Option.isSome_none, exists_eq_left, exists_eq, Nat.mul_zero, hg], ?_⟩
  obtain ⟨a4, f4, hx4, ho4⟩ := ho.ow.cut (f := f) (κ := .i64) (κ' := .i64) (lo := none) (hi := some k) (i := 0) (j := k) ht hd he hs rfl rfl (Nat.zero_le _) hk
  rw [Nat.sub_zero, List.drop_zero, ← List.map_take] at ho4
  rw [Nat.sub_zero] at hx4
  refine ⟨_, _, _, hx4, ?_⟩
  have hlt : (R.take k).length = k := by rw [List.length_take]; omega
  obtain ⟨a5, f5, G5, g3, hx5, ho5, u5, w5⟩ := (Own.nil 5 g2).apps (f := true) q1.wf ht hd ht hud he hs (by omega) hz (ho4.news f4) (map_rows _) (by rw [List.length_map, hlt]; have := Nat.mul_le_mul (show 0 + k ≤ 2048 by omega) hb; omega) (by rw [List.length_map]; omega)
  refine ⟨_, _, _, _, hx5, s, b.kind, b.ip, b.port, b.share, ?_, ?_⟩
  · have c3 := u5.same h.next (by omega) (by simp)
    rw [c1] at c3
    simp (disch := (first | omega | (simp only [Hp.alloc_next, Hp.set_next] <;> omega) | (simp (disch := (first | omega | (simp only [Hp.alloc_next, Hp.set_next] <;> omega) | fail)) only [Hp.get_set_self, Hp.get_set_ne, Hp.get_alloc_self, Hp.get_alloc_ne, Hp.get_alloc_at, Hp.get_set_at, Hp.set_next, Hp.alloc_next, c3]; done) | fail)) only [Hp.st, Hp.ld, Hp.lda, splice, ble_eq', if_true, if_false, ite_true, ite_false, cond_true, cond_false, decide_true, decide_false, List.length_cons, List.length_nil, List.take_zero, List.take_succ_cons, List.nil_append, List.cons_append, List.append_nil, List.drop_succ_cons, List.drop_zero, List.drop_nil, List.getElem?_cons_succ, List.getElem?_cons_zero, Nat.reduceAdd, Nat.reduceLeDiff, Nat.reduceEqDiff, Nat.zero_add, Nat.add_zero, Nat.le_refl, Nat.zero_le, Nat.succ_ne_self, Nat.mul_one, Int.toNat_natCast, Option.some.injEq, Option.isNone_some, Option.isNone_none, V.int.injEq, V.str.injEq, V.bool.injEq, V.ptr.injEq, V.slc.injEq, V.map.injEq, V.agg.injEq, V.tup.injEq, List.cons.injEq, Prod.mk.injEq, onS, true_and, and_true, and_assoc, exists_and_left, exists_eq_left', forall_eq, heq_eq_eq, reduceCtorEq, Bool.not_true, Bool.not_false, eq_self, not_false_eq_true, Nat.left_eq_add, Nat.add_eq_left, Nat.add_left_cancel_iff, Nat.add_right_cancel_iff, Nat.reduceEqDiff, Nat.one_ne_zero, Hp.get_set_self, Hp.get_set_ne, Hp.get_alloc_self, Hp.get_alloc_ne, Hp.get_alloc_at, Hp.get_set_at, Hp.set_next, Hp.alloc_next, Option.some_ne_none, V.tup.injEq, Option.isSome_some, Option.isSome_none, exists_eq_left, exists_eq, Nat.mul_zero, c3]
  rintro g4 rfl
  rw [List.nil_append, List.length_map, hlt, Nat.zero_add] at ho5
  have q4 := Quiet.alloc w5 (.row (iV (s, b)) 5 false)
  have c4 : (g3.alloc (.row (iV (s, b)) 5 false)).get g3.next = some (.row (iV (s, b)) 5 false) := Hp.get_alloc_self
  have ho5' := (Own.rep _ _ _ _).stay w5 ho5 q4.same
  rw [List.length_map, hlt, Nat.zero_add]
  show ∃ p2 n14 f6 h'4, xapp T (g3.alloc (.row (iV (s, b)) 5 false)) 31 31 _ _ = _ ∧ _
  obtain ⟨a6, f6, G6, g6, hx6, ho6, u6, w6⟩ := ho5'.apps (f := f5) q4.wf ht hd ht hud he hs (by omega) hz (news := [iV (s, b)]) (xnews_one c4 rfl) (by simp [iV]) (by have := Nat.mul_le_mul (show k + 1 ≤ 2048 by omega) hb; simp only [List.length_singleton]; omega) (by simp; omega)
  have U6 : Upd g2 g6 [] G6 := (u5.trans (q4.upd _)).trans u6
  have hgp6 : g6.get p = some (.row [.slc a R.length f] 1 false) := by rw [U6.same p hpl (by simp)]; exact hg
  refine ⟨_, _, _, _, hx6, a, R.length, f, by simp (disch := (first | omega | (simp only [Hp.alloc_next, Hp.set_next] <;> omega) | (simp (disch := (first | omega | (simp only [Hp.alloc_next, Hp.set_next] <;> omega) | fail)) only [Hp.get_set_self, Hp.get_set_ne, Hp.get_alloc_self, Hp.get_alloc_ne, Hp.get_alloc_at, Hp.get_set_at, Hp.set_next, Hp.alloc_next, hgp6]; done) | fail)) only [Hp.st, Hp.ld, Hp.lda, splice, ble_eq', if_true, if_false, ite_true, ite_false, cond_true, cond_false, decide_true, decide_false, List.length_cons, List.length_nil, List.take_zero, List.take_succ_cons, List.nil_append, List.cons_append, List.append_nil, List.drop_succ_cons, List.drop_zero, List.drop_nil, List.getElem?_cons_succ, List.getElem?_cons_zero, Nat.reduceAdd, Nat.reduceLeDiff, Nat.reduceEqDiff, Nat.zero_add, Nat.add_zero, Nat.le_refl, Nat.zero_le, Nat.succ_ne_self, Nat.mul_one, Int.toNat_natCast, Option.some.injEq, Option.isNone_some, Option.isNone_none, V.int.injEq, V.str.injEq, V.bool.injEq, V.ptr.injEq, V.slc.injEq, V.map.injEq, V.agg.injEq, V.tup.injEq, List.cons.injEq, Prod.mk.injEq, onS, true_and, and_true, and_assoc, exists_and_left, exists_eq_left', forall_eq, heq_eq_eq, reduceCtorEq, Bool.not_true, Bool.not_false, eq_self, not_false_eq_true, Nat.left_eq_add, Nat.add_eq_left, Nat.add_left_cancel_iff, Nat.add_right_cancel_iff, Nat.reduceEqDiff, Nat.one_ne_zero, Hp.get_set_self, Hp.get_set_ne, Hp.get_alloc_self, Hp.get_alloc_ne, Hp.get_alloc_at, Hp.get_set_at, Hp.set_next, Hp.alloc_next, Option.some_ne_none, V.tup.injEq, Option.isSome_some, Option.isSome_none, exists_eq_left, exists_eq, Nat.mul_zero, hgp6], ?_⟩
  have hoR := (Own.rep _ _ _ _).stay q1.wf ho fun j hj => U6.same j hj (by simp)
  obtain ⟨a7, f7, hx7, ho7⟩ := hoR.ow.cut (f := f) (κ := .i64) (κ' := .i64) (lo := some k) (hi := none) (i := k) (j := R.length) ht hd he hs rfl rfl hk (Nat.le_refl _)
  rw [List.take_of_length_le (by simp), ← List.map_drop] at ho7
  refine ⟨_, _, _, hx7, ?_⟩
  have hld : (R.drop k).length = R.length - k := by rw [List.length_drop]
  obtain ⟨a8, f8, G8, g8, hx8, ho8, u8, w8⟩ := ho6.apps (f := f6) w6 ht hd ht hud he hs (by omega) hz (ho7.news f7) (map_rows _) (by rw [List.length_map, hld, List.length_singleton]; have := Nat.mul_le_mul (show k + 1 + (R.length - k) ≤ 2048 by omega) hb; omega) (by rw [List.length_map, hld, List.length_singleton]; omega)
  have hR : insK R s b = R.take k ++ [(s, b)] ++ R.drop k := by unfold insK; rw [htw, hdw]; simp
  have hRl : (insK R s b).length = k + 1 + (R.length - k) := by rw [hR]; simp; omega
  rw [List.length_map, hld, List.length_singleton] at ho8 hx8
  have ho8' : Own 5 a8 (insK R s b).length ((insK R s b).map iV) g8 G8 := by
    rw [hRl, hR, List.map_append, List.map_append]; exact ho8
  refine ⟨_, _, _, _, hx8, ?_⟩
  obtain ⟨g9, hst, r9, u9, w9⟩ := RefP.turn (R' := insK R s b) (f := f8) ⟨a, f, G, hg, ho, rfl, hpG⟩ q1.wf (U6.trans u8) w8 ho8'
  rw [hRl] at hst
  refine ⟨_, hst, hK _ _ ⟨rfl, _, r9, (q1.upd _).trans u9, w9⟩⟩

theorem cut_without {R : List (Int × Bd)} {s : Int} {b : Bd} (hn : (R.map Prod.fst).Nodup) {k : Nat} (hk : R[k]? = some (s, b)) : R.take k ++ R.drop (k + 1) = without R [s] := by
  obtain ⟨hkl, e⟩ := List.getElem?_eq_some_iff.1 hk
  have hR : R = R.take k ++ (s, b) :: R.drop (k + 1) := by
    conv => lhs; rw [← List.take_append_drop k R, List.drop_eq_getElem_cons hkl, e]
  have hnk : ∀ x ∈ R.take k ++ R.drop (k + 1), x.1 ≠ s := by
    rw [hR, List.map_append, List.map_cons, List.nodup_append] at hn
    obtain ⟨_, h2, h3⟩ := hn
    rw [List.nodup_cons] at h2
    intro x hx
    rcases List.mem_append.1 hx with hx | hx
    · exact h3 _ (List.mem_map_of_mem hx) _ (by simp)
    · exact fun e => h2.1 (by rw [show (s, b).1 = x.1 from e.symm]; exact List.mem_map_of_mem hx)
  unfold without
  conv => rhs; rw [hR]
  rw [List.filter_append, List.filter_cons_of_neg (by simp)]
  rw [List.filter_eq_self.2 fun x hx => ?_, List.filter_eq_self.2 fun x hx => ?_]
  · simpa using hnk x (List.mem_append_right _ hx)
  · simpa using hnk x (List.mem_append_left _ hx)

theorem rgive_spec {h : Hp} {p : Nat} {R : List (Int × Bd)} {F : List Nat} {s : Int} (hw : h.wf) (r : RefP p R h F) (hn : R.length ≤ 1024) (hnd : (R.map Prod.fst).Nodup) :
    XCalls Try.prog 22 [.ptr (some (p, 0)), .int .u64 s] h fun v h' => v = .int .i64 ((R.length : Int) - (without R [s]).length) ∧ ∃ F', RefP p (without R [s]) h' F' ∧ Upd h h' F F' ∧ h'.wf := by
  refine XCalls.cps fun K hK => ?_
  apply x22; unfold X22
  refine (rat_spec r hn).mono ?_
  rintro _ _ ⟨i, rfl, rfl, hc⟩
  refine ⟨_, rfl, ?_⟩
  rcases hc with ⟨rfl, hno⟩ | ⟨k, b, rfl, hk⟩
  · have e : without R [s] = R := List.filter_eq_self.2 fun x hx => by simpa using hno x hx
    rw [e] at hK
    refine hK _ _ ⟨?_, F, r, Upd.refl _ _, hw⟩
    rw [Int.sub_self]
  · have hkl := (List.getElem?_eq_some_iff.1 hk).1
    have hRe := cut_without hnd hk
    have c : ltI (↑k) 0 = false := by rw [ltI_eq, decide_eq_false_iff_not]; omega
    rw [c]
    rename_i g2
    have r0 := r
    obtain ⟨a, f, G, hg, ho, rfl, hpG⟩ := r
    have hpl := hw.lt hg
    obtain ⟨ti, ht, hd⟩ := tI
    obtain ⟨ei, he, hs, hb, hz⟩ := tIe
    have hud : ∀ k, ti.d ≠ .int k := fun k e => by rw [hd] at e; cases e
    refine ⟨a, R.length, f, by simp (disch := (first | omega | (simp only [Hp.alloc_next, Hp.set_next] <;> omega) | (simp (disch := (first | omega | (simp only [Hp.alloc_next, Hp.set_next] <;> omega) | fail)) only [Hp.get_set_self, Hp.get_set_ne, Hp.get_alloc_self, Hp.get_alloc_ne, Hp.get_alloc_at, Hp.get_set_at, Hp.set_next, Hp.alloc_next, hg]; done) | fail)) only [Hp.st, Hp.ld, Hp.lda, splice, ble_eq', if_true, if_false, ite_true, ite_false, cond_true, cond_false, decide_true, decide_false, List.length_cons, List.length_nil, List.take_zero, List.take_succ_cons, List.nil_append, List.cons_append, List.append_nil, List.drop_succ_cons, List.drop_zero, List.drop_nil, List.getElem?_cons_succ, List.getElem?_cons_zero, Nat.reduceAdd, Nat.reduceLeDiff, Nat.reduceEqDiff, Nat.zero_add, Nat.add_zero, Nat.le_refl, Nat.zero_le, Nat.succ_ne_self, Nat.mul_one, Int.toNat_natCast, Option.some.injEq, Option.isNone_some, Option.isNone_none, V.int.injEq, V.str.injEq, V.bool.injEq, V.ptr.injEq, V.slc.injEq, V.map.injEq, V.agg.injEq, V.tup.injEq, List.cons.injEq, Prod.mk.injEq, onS, true_and, and_true, and_assoc, exists_and_left, exists_eq_left', forall_eq, heq_eq_eq, reduceCtorEq, Bool.not_true, Bool.not_false, eq_self, not_false_eq_true, Nat.left_eq_add, Nat.add_eq_left, Nat.add_left_cancel_iff, Nat.add_right_cancel_iff, Nat.reduceEqDiff, Nat.one_ne_zero, Hp.get_set_self, Hp.get_set_ne, Hp.get_alloc_self, Hp.get_alloc_ne, Hp.get_alloc_at, Hp.get_set_at, Hp.set_next, Hp.alloc_next, Option.some_ne_none, V.tup.injEq, Option.isSome_some, Option.isSome_none, exists_eq_left, exists_eq, Nat.mul_zero, hg], ?_⟩
    obtain ⟨a4, f4, hx4, ho4⟩ := ho.ow.cut (f := f) (κ := .i64) (κ' := .i64) (lo := none) (hi := some k) (i := 0) (j := k) ht hd he hs rfl rfl (Nat.zero_le _) (by omega)
    rw [Nat.sub_zero, List.drop_zero, ← List.map_take] at ho4
    rw [Nat.sub_zero] at hx4
    refine ⟨_, _, _, hx4, ?_⟩
    have hlt : (R.take k).length = k := by rw [List.length_take]; omega
    obtain ⟨a5, f5, G5, g3, hx5, ho5, u5, w5⟩ := (Own.nil 5 g2).apps (f := true) hw ht hd ht hud he hs (by omega) hz (ho4.news f4) (map_rows _) (by rw [List.length_map, hlt]; have := Nat.mul_le_mul (show 0 + k ≤ 2048 by omega) hb; omega) (by rw [List.length_map]; omega)
    have hgp6 : g3.get p = some (.row [.slc a R.length f] 1 false) := by rw [u5.same p hpl (by simp)]; exact hg
    refine ⟨_, _, _, _, hx5, a, R.length, f, by simp (disch := (first | omega | (simp only [Hp.alloc_next, Hp.set_next] <;> omega) | (simp (disch := (first | omega | (simp only [Hp.alloc_next, Hp.set_next] <;> omega) | fail)) only [Hp.get_set_self, Hp.get_set_ne, Hp.get_alloc_self, Hp.get_alloc_ne, Hp.get_alloc_at, Hp.get_set_at, Hp.set_next, Hp.alloc_next, hgp6]; done) | fail)) only [Hp.st, Hp.ld, Hp.lda, splice, ble_eq', if_true, if_false, ite_true, ite_false, cond_true, cond_false, decide_true, decide_false, List.length_cons, List.length_nil, List.take_zero, List.take_succ_cons, List.nil_append, List.cons_append, List.append_nil, List.drop_succ_cons, List.drop_zero, List.drop_nil, List.getElem?_cons_succ, List.getElem?_cons_zero, Nat.reduceAdd, Nat.reduceLeDiff, Nat.reduceEqDiff, Nat.zero_add, Nat.add_zero, Nat.le_refl, Nat.zero_le, Nat.succ_ne_self, Nat.mul_one, Int.toNat_natCast, Option.some.injEq, Option.isNone_some, Option.isNone_none, V.int.injEq, V.str.injEq, V.bool.injEq, V.ptr.injEq, V.slc.injEq, V.map.injEq, V.agg.injEq, V.tup.injEq, List.cons.injEq, Prod.mk.injEq, onS, true_and, and_true, and_assoc, exists_and_left, exists_eq_left', forall_eq, heq_eq_eq, reduceCtorEq, Bool.not_true, Bool.not_false, eq_self, not_false_eq_true, Nat.left_eq_add, Nat.add_eq_left, Nat.add_left_cancel_iff, Nat.add_right_cancel_iff, Nat.reduceEqDiff, Nat.one_ne_zero, Hp.get_set_self, Hp.get_set_ne, Hp.get_alloc_self, Hp.get_alloc_ne, Hp.get_alloc_at, Hp.get_set_at, Hp.set_next, Hp.alloc_next, Option.some_ne_none, V.tup.injEq, Option.isSome_some, Option.isSome_none, exists_eq_left, exists_eq, Nat.mul_zero, hgp6], ?_⟩
    rw [List.nil_append, List.length_map, hlt, Nat.zero_add] at ho5
    have hoR := (Own.rep _ _ _ _).stay hw ho fun j hj => u5.same j hj (by simp)
    obtain ⟨a7, f7, hx7, ho7⟩ := hoR.ow.cut (f := f) (κ := .i64) (κ' := .i64) (lo := some (k + 1)) (hi := none) (i := k + 1) (j := R.length) ht hd he hs rfl rfl hkl (Nat.le_refl _)
    rw [List.take_of_length_le (by simp), ← List.map_drop] at ho7
    rw [wrap_succ hkl (by omega)]
    refine ⟨_, _, _, hx7, ?_⟩
    have hld : (R.drop (k + 1)).length = R.length - (k + 1) := by rw [List.length_drop]
    obtain ⟨a8, f8, G8, g8, hx8, ho8, u8, w8⟩ := ho5.apps (f := f5) w5 ht hd ht hud he hs (by omega) hz (ho7.news f7) (map_rows _) (by rw [List.length_map, hld]; have := Nat.mul_le_mul (show k + (R.length - (k + 1)) ≤ 2048 by omega) hb; omega) (by rw [List.length_map, hld]; omega)
    have hRl : (without R [s]).length = k + (R.length - (k + 1)) := by rw [← hRe]; simp; omega
    rw [List.length_map, hld] at ho8 hx8
    rw [List.length_map, hlt, Nat.zero_add]
    have ho8' : Own 5 a8 (without R [s]).length ((without R [s]).map iV) g8 G8 := by
      rw [hRl, ← hRe, List.map_append]; exact ho8
    refine ⟨_, _, _, _, hx8, ?_⟩
    obtain ⟨g9, hst, r9, u9, w9⟩ := RefP.turn (R' := without R [s]) (f := f8) r0 hw (u5.trans u8) w8 ho8'
    rw [hRl] at hst
    refine ⟨_, hst, hK _ _ ⟨?_, _, r9, u9, w9⟩⟩
    rw [hRl]; congr 1; omega

end Go.Vex.Ports
