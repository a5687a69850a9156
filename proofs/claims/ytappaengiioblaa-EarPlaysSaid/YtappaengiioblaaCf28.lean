/-
  Contracts of the reference of Ear (layer 28).
-/
import Derived.Test.YtappaengiioblaaVexFF
import Derived.Test.YtappaengiioblaaTab28
import Derived.Test.YtappaengiioblaaXe28
import Derived.Test.YtappaengiioblaaXf28
import Derived.Test.YtappaengiioblaaCe28
import Derived.Test.YtappaengiioblaaXs28
import Derived.Test.YtappaengiioblaaXk28
import Derived.Test.YtappaengiioblaaCsa28
import Derived.Test.YtappaengiioblaaCsb28
import Derived.Test.YtappaengiioblaaCsc28
import Derived.Test.YtappaengiioblaaCsd28
import Derived.Test.YtappaengiioblaaCse28
set_option linter.unusedVariables false
set_option linter.unusedSimpArgs false
namespace Go.Vex.Ear
open Go.Proofs

structure Kd where
  p : Pr
  s : Int
  d : Int
deriving DecidableEq

def kL (k : Kd) : List V := [.int .u32 k.p.a, .int .u16 k.p.b, .int .u32 k.p.c, .int .u16 k.p.d, .int .u64 k.s, .int .i64 k.d]

def RefE (x : Nat) (bk : Int) (R : List Kd) (cnt : Int) (h : Hp) (F : List Nat) : Prop :=
  ∃ a f G, h.get x = some (.row [.int .i64 bk, .slc a R.length f, .int .i64 cnt] 1 false) ∧ Own 6 a R.length (R.map kL) h G ∧ F = x :: G ∧ x ∉ G

theorem RefE.rep (x : Nat) (bk : Int) (R : List Kd) (cnt : Int) : Rep (RefE x bk R cnt) where
  loc := fun h h' F hs ⟨a, f, G, h1, h2, h3, h4⟩ => by
    subst h3
    exact ⟨a, f, G, by rw [hs x (by simp)]; exact h1, (Own.rep _ _ _ _).loc h h' G (fun j hj => hs j (by simp [hj])) h2, rfl, h4⟩
  dom := fun h F ⟨a, f, G, h1, h2, h3, h4⟩ j hj => by
    subst h3
    rcases List.mem_cons.1 hj with rfl | hj
    · exact ⟨_, h1, rfl⟩
    · exact (Own.rep _ _ _ _).dom h G h2 j hj

theorem RefE.quiet {x : Nat} {bk cnt : Int} {R : List Kd} {h h' : Hp} {F : List Nat} (r : RefE x bk R cnt h F) (hw : h.wf) (q : Quiet h h') : RefE x bk R cnt h' F := (RefE.rep _ _ _ _).stay hw r q.same

theorem RefE.hd {x : Nat} {bk cnt : Int} {R : List Kd} {h : Hp} {F : List Nat} (r : RefE x bk R cnt h F) : ∃ a f, h.get x = some (.row [.int .i64 bk, .slc a R.length f, .int .i64 cnt] 1 false) ∧
    ∀ k y, R[k]? = some y → ∃ q o, a = some (q, o) ∧ h.ld q (o + k * 6 + 4) = some (.int .u64 y.s) ∧ h.ld q (o + k * 6 + 5) = some (.int .i64 y.d) ∧ h.lda q (o + k * 6 + 0) 4 = some (prV y.p) ∧ h.lda q (o + k * 6) 6 = some (.agg (kL y)) := by
  obtain ⟨a, f, G, h1, h2, h3, h4⟩ := r
  refine ⟨a, f, h1, fun k y hx => ?_⟩
  have hk := (List.getElem?_eq_some_iff.1 hx).1
  obtain ⟨q, o, row, rfl, hr, _, hld, hlda⟩ := h2.ld hk
  have hr' : (R.map kL)[k]? = some (kL y) := by rw [List.getElem?_map, hx]; rfl
  rw [hr'] at hr
  cases hr
  refine ⟨q, o, rfl, hld 4 (by omega), hld 5 (by omega), ?_, hlda⟩
  rw [h2.sub hr' rfl (by omega)]; rfl

theorem rat_spec {h : Hp} {x : Nat} {bk cnt : Int} {R : List Kd} {F : List Nat} {s : Int} (r : RefE x bk R cnt h F) (hn : R.length ≤ 500) :
    XCalls Try.prog 38 [.ptr (some (x, 0)), .int .u64 s] h fun v h' => ∃ i, v = .int .i64 i ∧ h' = h ∧ ((i = -1 ∧ ∀ y ∈ R, y.s ≠ s) ∨ ∃ (k : Nat) (y : Kd), i = k ∧ R[k]? = some y ∧ y.s = s) := by
  obtain ⟨a, f, hg, hel⟩ := r.hd
  refine XCalls.cps fun K hK => ?_
  apply x38; unfold X38
  refine ⟨fun vs h' => match vs with
    | [.int _ i] => h' = h ∧ ∃ k : Nat, i = k ∧ k ≤ R.length ∧ ∀ j y, j < k → R[j]? = some y → y.s ≠ s
    | _ => False, fun vs _ => match vs with
    | [.int _ i] => R.length - i.toNat
    | _ => 0, ⟨rfl, rfl, 0, rfl, by omega, fun j x hj => by omega⟩, ?_⟩
  rintro bs i h1 ⟨rfl, k, rfl, hk, hall⟩
  refine ⟨a, R.length, f, by simp (disch := (first | omega | (simp only [Hp.alloc_next, Hp.set_next] <;> omega) | (simp (disch := (first | omega | (simp only [Hp.alloc_next, Hp.set_next] <;> omega) | fail)) only [Hp.get_set_self, Hp.get_set_ne, Hp.get_alloc_self, Hp.get_alloc_ne, Hp.get_alloc_at, Hp.get_set_at, Hp.set_next, Hp.alloc_next, hg]; done) | fail)) only [Hp.st, Hp.ld, Hp.lda, splice, ble_eq', if_true, if_false, ite_true, ite_false, cond_true, cond_false, decide_true, decide_false, List.length_cons, List.length_nil, List.take_zero, List.take_succ_cons, List.nil_append, List.cons_append, List.append_nil, List.drop_succ_cons, List.drop_zero, List.drop_nil, List.getElem?_cons_succ, List.getElem?_cons_zero, Nat.reduceAdd, Nat.reduceLeDiff, Nat.reduceEqDiff, Nat.zero_add, Nat.add_zero, Nat.le_refl, Nat.zero_le, Nat.succ_ne_self, Nat.mul_one, Int.toNat_natCast, Option.some.injEq, Option.isNone_some, Option.isNone_none, V.int.injEq, V.str.injEq, V.bool.injEq, V.ptr.injEq, V.slc.injEq, V.map.injEq, V.agg.injEq, V.tup.injEq, List.cons.injEq, Prod.mk.injEq, onS, true_and, and_true, and_assoc, exists_and_left, exists_eq_left', forall_eq, heq_eq_eq, reduceCtorEq, Bool.not_true, Bool.not_false, eq_self, not_false_eq_true, Nat.left_eq_add, Nat.add_eq_left, Nat.add_left_cancel_iff, Nat.add_right_cancel_iff, Nat.reduceEqDiff, Nat.one_ne_zero, Hp.get_set_self, Hp.get_set_ne, Hp.get_alloc_self, Hp.get_alloc_ne, Hp.get_alloc_at, Hp.get_set_at, Hp.set_next, Hp.alloc_next, Option.some_ne_none, V.tup.injEq, Option.isSome_some, Option.isSome_none, exists_eq_left, exists_eq, Nat.mul_zero, hg], ?_⟩
  cases hi : ltI (↑k) (↑R.length) with
  | false =>
    rw [ltI_eq, decide_eq_false_iff_not] at hi
    refine hK _ _ ⟨_, rfl, rfl, .inl ⟨rfl, fun y hy => ?_⟩⟩
    obtain ⟨j, hj, e⟩ := List.getElem_of_mem hy
    exact hall j y (by omega) (by rw [List.getElem?_eq_getElem hj, e])
  | true =>
    rw [ltI_eq, decide_eq_true_eq] at hi
    have hk' : k < R.length := by omega
    obtain ⟨y, hy⟩ : ∃ y, R[k]? = some y := ⟨_, List.getElem?_eq_getElem hk'⟩
    obtain ⟨q, o, rfl, hl1, _⟩ := hel k y hy
    refine ⟨some (q, o), R.length, f, by simp (disch := (first | omega | (simp only [Hp.alloc_next, Hp.set_next] <;> omega) | (simp (disch := (first | omega | (simp only [Hp.alloc_next, Hp.set_next] <;> omega) | fail)) only [Hp.get_set_self, Hp.get_set_ne, Hp.get_alloc_self, Hp.get_alloc_ne, Hp.get_alloc_at, Hp.get_set_at, Hp.set_next, Hp.alloc_next, hg]; done) | fail)) only [Hp.st, Hp.ld, Hp.lda, splice, ble_eq', if_true, if_false, ite_true, ite_false, cond_true, cond_false, decide_true, decide_false, List.length_cons, List.length_nil, List.take_zero, List.take_succ_cons, List.nil_append, List.cons_append, List.append_nil, List.drop_succ_cons, List.drop_zero, List.drop_nil, List.getElem?_cons_succ, List.getElem?_cons_zero, Nat.reduceAdd, Nat.reduceLeDiff, Nat.reduceEqDiff, Nat.zero_add, Nat.add_zero, Nat.le_refl, Nat.zero_le, Nat.succ_ne_self, Nat.mul_one, Int.toNat_natCast, Option.some.injEq, Option.isNone_some, Option.isNone_none, V.int.injEq, V.str.injEq, V.bool.injEq, V.ptr.injEq, V.slc.injEq, V.map.injEq, V.agg.injEq, V.tup.injEq, List.cons.injEq, Prod.mk.injEq, onS, true_and, and_true, and_assoc, exists_and_left, exists_eq_left', forall_eq, heq_eq_eq, reduceCtorEq, Bool.not_true, Bool.not_false, eq_self, not_false_eq_true, Nat.left_eq_add, Nat.add_eq_left, Nat.add_left_cancel_iff, Nat.add_right_cancel_iff, Nat.reduceEqDiff, Nat.one_ne_zero, Hp.get_set_self, Hp.get_set_ne, Hp.get_alloc_self, Hp.get_alloc_ne, Hp.get_alloc_at, Hp.get_set_at, Hp.set_next, Hp.alloc_next, Option.some_ne_none, V.tup.injEq, Option.isSome_some, Option.isSome_none, exists_eq_left, exists_eq, Nat.mul_zero, hg], ⟨by omega, hi⟩, y.s, hl1, ?_⟩
    by_cases e : y.s = s
    · have c : (y.s == s) = true := by simp [e]
      rw [c]
      exact hK _ _ ⟨_, rfl, rfl, .inr ⟨k, y, rfl, hy, e⟩⟩
    · have c : (y.s == s) = false := by simp [e]
      rw [c, wrap_succ hk' (by omega)]
      exact ⟨rfl, ⟨rfl, k + 1, rfl, by omega, fun j z hj hz => by
        by_cases ej : j = k
        · subst ej; rw [hy] at hz; cases hz; exact e
        · exact hall j z (by omega) hz⟩, by simp only [Int.toNat_natCast]; omega⟩

theorem pr_beq (a b : Pr) : (a.a == b.a && (a.b == b.b && true) && (a.c == b.c && (a.d == b.d && true) && true)) = decide (a = b) := by
  obtain ⟨a1, a2, a3, a4⟩ := a
  obtain ⟨b1, b2, b3, b4⟩ := b
  rw [Bool.eq_iff_iff]
  simp [and_assoc]

theorem rpair_spec {h : Hp} {x : Nat} {bk cnt : Int} {R : List Kd} {F : List Nat} {p : Pr} (hw : h.wf) (r : RefE x bk R cnt h F) (hn : R.length ≤ 500) :
    XCalls Try.prog 37 [.ptr (some (x, 0)), prV p] h fun v h' => ∃ s, v = .int .u64 s ∧ Quiet h h' ∧ ((s = 0 ∧ ∀ y ∈ R, y.p ≠ p) ∨ ∃ y ∈ R, y.p = p ∧ y.s = s) := by
  refine XCalls.cps fun K hK => ?_
  apply x37; unfold X37
  rintro g1 rfl
  have q1 := Quiet.alloc hw (.row [.int .u32 p.a, .int .u16 p.b, .int .u32 p.c, .int .u16 p.d] 1 false)
  have z1 : (h.alloc (.row [.int .u32 p.a, .int .u16 p.b, .int .u32 p.c, .int .u16 p.d] 1 false)).get h.next = some (.row [.int .u32 p.a, .int .u16 p.b, .int .u32 p.c, .int .u16 p.d] 1 false) := Hp.get_alloc_self
  generalize h.alloc (.row [.int .u32 p.a, .int .u16 p.b, .int .u32 p.c, .int .u16 p.d] 1 false) = g1 at *
  obtain ⟨a, f, hg, hel⟩ := (r.quiet hw q1).hd
  refine ⟨fun vs h' => match vs with
    | [.int _ i] => h' = g1 ∧ ∃ k : Nat, i = k ∧ k ≤ R.length ∧ ∀ j y, j < k → R[j]? = some y → y.p ≠ p
    | _ => False, fun vs _ => match vs with
    | [.int _ i] => R.length - i.toNat
    | _ => 0, ⟨rfl, rfl, 0, rfl, by omega, fun j x hj => by omega⟩, ?_⟩
  rintro bs i h1 ⟨rfl, k, rfl, hk, hall⟩
  refine ⟨a, R.length, f, by simp (disch := (first | omega | (simp only [Hp.alloc_next, Hp.set_next] <;> omega) | (simp (disch := (first | omega | (simp only [Hp.alloc_next, Hp.set_next] <;> omega) | fail)) only [Hp.get_set_self, Hp.get_set_ne, Hp.get_alloc_self, Hp.get_alloc_ne, Hp.get_alloc_at, Hp.get_set_at, Hp.set_next, Hp.alloc_next, hg]; done) | fail)) only [Hp.st, Hp.ld, Hp.lda, splice, ble_eq', if_true, if_false, ite_true, ite_false, cond_true, cond_false, decide_true, decide_false, List.length_cons, List.length_nil, List.take_zero, List.take_succ_cons, List.nil_append, List.cons_append, List.append_nil, List.drop_succ_cons, List.drop_zero, List.drop_nil, List.getElem?_cons_succ, List.getElem?_cons_zero, Nat.reduceAdd, Nat.reduceLeDiff, Nat.reduceEqDiff, Nat.zero_add, Nat.add_zero, Nat.le_refl, Nat.zero_le, Nat.succ_ne_self, Nat.mul_one, Int.toNat_natCast, Option.some.injEq, Option.isNone_some, Option.isNone_none, V.int.injEq, V.str.injEq, V.bool.injEq, V.ptr.injEq, V.slc.injEq, V.map.injEq, V.agg.injEq, V.tup.injEq, List.cons.injEq, Prod.mk.injEq, onS, true_and, and_true, and_assoc, exists_and_left, exists_eq_left', forall_eq, heq_eq_eq, reduceCtorEq, Bool.not_true, Bool.not_false, eq_self, not_false_eq_true, Nat.left_eq_add, Nat.add_eq_left, Nat.add_left_cancel_iff, Nat.add_right_cancel_iff, Nat.reduceEqDiff, Nat.one_ne_zero, Hp.get_set_self, Hp.get_set_ne, Hp.get_alloc_self, Hp.get_alloc_ne, Hp.get_alloc_at, Hp.get_set_at, Hp.set_next, Hp.alloc_next, Option.some_ne_none, V.tup.injEq, Option.isSome_some, Option.isSome_none, exists_eq_left, exists_eq, Nat.mul_zero, hg], ?_⟩
  cases hi : ltI (↑k) (↑R.length) with
  | false =>
    rw [ltI_eq, decide_eq_false_iff_not] at hi
    refine hK _ _ ⟨_, rfl, q1, .inl ⟨rfl, fun y hy => ?_⟩⟩
    obtain ⟨j, hj, e⟩ := List.getElem_of_mem hy
    exact hall j y (by omega) (by rw [List.getElem?_eq_getElem hj, e])
  | true =>
    rw [ltI_eq, decide_eq_true_eq] at hi
    have hk' : k < R.length := by omega
    obtain ⟨y, hy⟩ : ∃ y, R[k]? = some y := ⟨_, List.getElem?_eq_getElem hk'⟩
    obtain ⟨q, o, rfl, hl1, _, hl3, _⟩ := hel k y hy
    refine ⟨some (q, o), R.length, f, by simp (disch := (first | omega | (simp only [Hp.alloc_next, Hp.set_next] <;> omega) | (simp (disch := (first | omega | (simp only [Hp.alloc_next, Hp.set_next] <;> omega) | fail)) only [Hp.get_set_self, Hp.get_set_ne, Hp.get_alloc_self, Hp.get_alloc_ne, Hp.get_alloc_at, Hp.get_set_at, Hp.set_next, Hp.alloc_next, hg]; done) | fail)) only [Hp.st, Hp.ld, Hp.lda, splice, ble_eq', if_true, if_false, ite_true, ite_false, cond_true, cond_false, decide_true, decide_false, List.length_cons, List.length_nil, List.take_zero, List.take_succ_cons, List.nil_append, List.cons_append, List.append_nil, List.drop_succ_cons, List.drop_zero, List.drop_nil, List.getElem?_cons_succ, List.getElem?_cons_zero, Nat.reduceAdd, Nat.reduceLeDiff, Nat.reduceEqDiff, Nat.zero_add, Nat.add_zero, Nat.le_refl, Nat.zero_le, Nat.succ_ne_self, Nat.mul_one, Int.toNat_natCast, Option.some.injEq, Option.isNone_some, Option.isNone_none, V.int.injEq, V.str.injEq, V.bool.injEq, V.ptr.injEq, V.slc.injEq, V.map.injEq, V.agg.injEq, V.tup.injEq, List.cons.injEq, Prod.mk.injEq, onS, true_and, and_true, and_assoc, exists_and_left, exists_eq_left', forall_eq, heq_eq_eq, reduceCtorEq, Bool.not_true, Bool.not_false, eq_self, not_false_eq_true, Nat.left_eq_add, Nat.add_eq_left, Nat.add_left_cancel_iff, Nat.add_right_cancel_iff, Nat.reduceEqDiff, Nat.one_ne_zero, Hp.get_set_self, Hp.get_set_ne, Hp.get_alloc_self, Hp.get_alloc_ne, Hp.get_alloc_at, Hp.get_set_at, Hp.set_next, Hp.alloc_next, Option.some_ne_none, V.tup.injEq, Option.isSome_some, Option.isSome_none, exists_eq_left, exists_eq, Nat.mul_zero, hg], ⟨by omega, hi⟩, y.p.a, y.p.b, y.p.c, y.p.d, hl3, p.a, p.b, p.c, p.d, by simp (disch := (first | omega | (simp only [Hp.alloc_next, Hp.set_next] <;> omega) | (simp (disch := (first | omega | (simp only [Hp.alloc_next, Hp.set_next] <;> omega) | fail)) only [Hp.get_set_self, Hp.get_set_ne, Hp.get_alloc_self, Hp.get_alloc_ne, Hp.get_alloc_at, Hp.get_set_at, Hp.set_next, Hp.alloc_next, z1]; done) | fail)) only [Hp.st, Hp.ld, Hp.lda, splice, ble_eq', if_true, if_false, ite_true, ite_false, cond_true, cond_false, decide_true, decide_false, List.length_cons, List.length_nil, List.take_zero, List.take_succ_cons, List.nil_append, List.cons_append, List.append_nil, List.drop_succ_cons, List.drop_zero, List.drop_nil, List.getElem?_cons_succ, List.getElem?_cons_zero, Nat.reduceAdd, Nat.reduceLeDiff, Nat.reduceEqDiff, Nat.zero_add, Nat.add_zero, Nat.le_refl, Nat.zero_le, Nat.succ_ne_self, Nat.mul_one, Int.toNat_natCast, Option.some.injEq, Option.isNone_some, Option.isNone_none, V.int.injEq, V.str.injEq, V.bool.injEq, V.ptr.injEq, V.slc.injEq, V.map.injEq, V.agg.injEq, V.tup.injEq, List.cons.injEq, Prod.mk.injEq, onS, true_and, and_true, and_assoc, exists_and_left, exists_eq_left', forall_eq, heq_eq_eq, reduceCtorEq, Bool.not_true, Bool.not_false, eq_self, not_false_eq_true, Nat.left_eq_add, Nat.add_eq_left, Nat.add_left_cancel_iff, Nat.add_right_cancel_iff, Nat.reduceEqDiff, Nat.one_ne_zero, Hp.get_set_self, Hp.get_set_ne, Hp.get_alloc_self, Hp.get_alloc_ne, Hp.get_alloc_at, Hp.get_set_at, Hp.set_next, Hp.alloc_next, Option.some_ne_none, V.tup.injEq, Option.isSome_some, Option.isSome_none, exists_eq_left, exists_eq, Nat.mul_zero, z1], ?_⟩
    rw [pr_beq]
    by_cases e : y.p = p
    · rw [decide_eq_true e]
      refine ⟨some (q, o), R.length, f, by simp (disch := (first | omega | (simp only [Hp.alloc_next, Hp.set_next] <;> omega) | (simp (disch := (first | omega | (simp only [Hp.alloc_next, Hp.set_next] <;> omega) | fail)) only [Hp.get_set_self, Hp.get_set_ne, Hp.get_alloc_self, Hp.get_alloc_ne, Hp.get_alloc_at, Hp.get_set_at, Hp.set_next, Hp.alloc_next, hg]; done) | fail)) only [Hp.st, Hp.ld, Hp.lda, splice, ble_eq', if_true, if_false, ite_true, ite_false, cond_true, cond_false, decide_true, decide_false, List.length_cons, List.length_nil, List.take_zero, List.take_succ_cons, List.nil_append, List.cons_append, List.append_nil, List.drop_succ_cons, List.drop_zero, List.drop_nil, List.getElem?_cons_succ, List.getElem?_cons_zero, Nat.reduceAdd, Nat.reduceLeDiff, Nat.reduceEqDiff, Nat.zero_add, Nat.add_zero, Nat.le_refl, Nat.zero_le, Nat.succ_ne_self, Nat.mul_one, Int.toNat_natCast, Option.some.injEq, Option.isNone_some, Option.isNone_none, V.int.injEq, V.str.injEq, V.bool.injEq, V.ptr.injEq, V.slc.injEq, V.map.injEq, V.agg.injEq, V.tup.injEq, List.cons.injEq, Prod.mk.injEq, onS, true_and, and_true, and_assoc, exists_and_left, exists_eq_left', forall_eq, heq_eq_eq, reduceCtorEq, Bool.not_true, Bool.not_false, eq_self, not_false_eq_true, Nat.left_eq_add, Nat.add_eq_left, Nat.add_left_cancel_iff, Nat.add_right_cancel_iff, Nat.reduceEqDiff, Nat.one_ne_zero, Hp.get_set_self, Hp.get_set_ne, Hp.get_alloc_self, Hp.get_alloc_ne, Hp.get_alloc_at, Hp.get_set_at, Hp.set_next, Hp.alloc_next, Option.some_ne_none, V.tup.injEq, Option.isSome_some, Option.isSome_none, exists_eq_left, exists_eq, Nat.mul_zero, hg], ⟨by omega, hi⟩, y.s, hl1, ?_⟩
      exact hK _ _ ⟨_, rfl, q1, .inr ⟨y, List.mem_of_getElem? hy, e, rfl⟩⟩
    · rw [decide_eq_false e, wrap_succ hk' (by omega)]
      exact ⟨rfl, ⟨rfl, k + 1, rfl, by omega, fun j z hj hz => by
        by_cases ej : j = k
        · subst ej; rw [hy] at hz; cases hz; exact e
        · exact hall j z (by omega) hz⟩, by simp only [Int.toNat_natCast]; omega⟩

def dn (R : List Kd) : List Kd := R.filter fun y => decide (0 < y.d)

theorem rlen_spec {h : Hp} {x : Nat} {bk cnt : Int} {R : List Kd} {F : List Nat} (r : RefE x bk R cnt h F) (hn : R.length ≤ 500) :
    XCalls Try.prog 35 [.ptr (some (x, 0))] h fun v h' => v = .tup [.int .i64 ((R.length : Int) - (dn R).length), .int .i64 (dn R).length] ∧ h' = h := by
  obtain ⟨a, f, hg, hel⟩ := r.hd
  refine XCalls.cps fun K hK => ?_
  apply x35; unfold X35
  refine ⟨fun vs h' => match vs with
    | [.int _ n, .int _ i] => h' = h ∧ ∃ k : Nat, i = k ∧ k ≤ R.length ∧ n = (dn (R.take k)).length
    | _ => False, fun vs _ => match vs with
    | [_, .int _ i] => R.length - i.toNat
    | _ => 0, ⟨rfl, rfl, 0, rfl, by omega, rfl⟩, ?_⟩
  rintro bs n i h1 ⟨rfl, k, rfl, hk, rfl⟩
  refine ⟨a, R.length, f, by simp (disch := (first | omega | (simp only [Hp.alloc_next, Hp.set_next] <;> omega) | (simp (disch := (first | omega | (simp only [Hp.alloc_next, Hp.set_next] <;> omega) | fail)) only [Hp.get_set_self, Hp.get_set_ne, Hp.get_alloc_self, Hp.get_alloc_ne, Hp.get_alloc_at, Hp.get_set_at, Hp.set_next, Hp.alloc_next, hg]; done) | fail)) only [Hp.st, Hp.ld, Hp.lda, splice, ble_eq', if_true, if_false, ite_true, ite_false, cond_true, cond_false, decide_true, decide_false, List.length_cons, List.length_nil, List.take_zero, List.take_succ_cons, List.nil_append, List.cons_append, List.append_nil, List.drop_succ_cons, List.drop_zero, List.drop_nil, List.getElem?_cons_succ, List.getElem?_cons_zero, Nat.reduceAdd, Nat.reduceLeDiff, Nat.reduceEqDiff, Nat.zero_add, Nat.add_zero, Nat.le_refl, Nat.zero_le, Nat.succ_ne_self, Nat.mul_one, Int.toNat_natCast, Option.some.injEq, Option.isNone_some, Option.isNone_none, V.int.injEq, V.str.injEq, V.bool.injEq, V.ptr.injEq, V.slc.injEq, V.map.injEq, V.agg.injEq, V.tup.injEq, List.cons.injEq, Prod.mk.injEq, onS, true_and, and_true, and_assoc, exists_and_left, exists_eq_left', forall_eq, heq_eq_eq, reduceCtorEq, Bool.not_true, Bool.not_false, eq_self, not_false_eq_true, Nat.left_eq_add, Nat.add_eq_left, Nat.add_left_cancel_iff, Nat.add_right_cancel_iff, Nat.reduceEqDiff, Nat.one_ne_zero, Hp.get_set_self, Hp.get_set_ne, Hp.get_alloc_self, Hp.get_alloc_ne, Hp.get_alloc_at, Hp.get_set_at, Hp.set_next, Hp.alloc_next, Option.some_ne_none, V.tup.injEq, Option.isSome_some, Option.isSome_none, exists_eq_left, exists_eq, Nat.mul_zero, hg], ?_⟩
  have hle : (dn (R.take k)).length ≤ R.length := Nat.le_trans (List.length_filter_le _ _) (by rw [List.length_take]; omega)
  cases hi : ltI (↑k) (↑R.length) with
  | false =>
    rw [ltI_eq, decide_eq_false_iff_not] at hi
    rw [List.take_of_length_le (by omega)] at hle ⊢
    refine ⟨a, R.length, f, by simp (disch := (first | omega | (simp only [Hp.alloc_next, Hp.set_next] <;> omega) | (simp (disch := (first | omega | (simp only [Hp.alloc_next, Hp.set_next] <;> omega) | fail)) only [Hp.get_set_self, Hp.get_set_ne, Hp.get_alloc_self, Hp.get_alloc_ne, Hp.get_alloc_at, Hp.get_set_at, Hp.set_next, Hp.alloc_next, hg]; done) | fail)) only [Hp.st, Hp.ld, Hp.lda, splice, ble_eq', if_true, if_false, ite_true, ite_false, cond_true, cond_false, decide_true, decide_false, List.length_cons, List.length_nil, List.take_zero, List.take_succ_cons, List.nil_append, List.cons_append, List.append_nil, List.drop_succ_cons, List.drop_zero, List.drop_nil, List.getElem?_cons_succ, List.getElem?_cons_zero, Nat.reduceAdd, Nat.reduceLeDiff, Nat.reduceEqDiff, Nat.zero_add, Nat.add_zero, Nat.le_refl, Nat.zero_le, Nat.succ_ne_self, Nat.mul_one, Int.toNat_natCast, Option.some.injEq, Option.isNone_some, Option.isNone_none, V.int.injEq, V.str.injEq, V.bool.injEq, V.ptr.injEq, V.slc.injEq, V.map.injEq, V.agg.injEq, V.tup.injEq, List.cons.injEq, Prod.mk.injEq, onS, true_and, and_true, and_assoc, exists_and_left, exists_eq_left', forall_eq, heq_eq_eq, reduceCtorEq, Bool.not_true, Bool.not_false, eq_self, not_false_eq_true, Nat.left_eq_add, Nat.add_eq_left, Nat.add_left_cancel_iff, Nat.add_right_cancel_iff, Nat.reduceEqDiff, Nat.one_ne_zero, Hp.get_set_self, Hp.get_set_ne, Hp.get_alloc_self, Hp.get_alloc_ne, Hp.get_alloc_at, Hp.get_set_at, Hp.set_next, Hp.alloc_next, Option.some_ne_none, V.tup.injEq, Option.isSome_some, Option.isSome_none, exists_eq_left, exists_eq, Nat.mul_zero, hg], ?_⟩
    rw [wr (by omega) (by omega)]
    exact hK _ _ ⟨rfl, rfl⟩
  | true =>
    rw [ltI_eq, decide_eq_true_eq] at hi
    have hk' : k < R.length := by omega
    have hy : R[k]? = some R[k] := List.getElem?_eq_getElem hk'
    obtain ⟨q, o, rfl, _, hl2, _⟩ := hel k _ hy
    refine ⟨some (q, o), R.length, f, by simp (disch := (first | omega | (simp only [Hp.alloc_next, Hp.set_next] <;> omega) | (simp (disch := (first | omega | (simp only [Hp.alloc_next, Hp.set_next] <;> omega) | fail)) only [Hp.get_set_self, Hp.get_set_ne, Hp.get_alloc_self, Hp.get_alloc_ne, Hp.get_alloc_at, Hp.get_set_at, Hp.set_next, Hp.alloc_next, hg]; done) | fail)) only [Hp.st, Hp.ld, Hp.lda, splice, ble_eq', if_true, if_false, ite_true, ite_false, cond_true, cond_false, decide_true, decide_false, List.length_cons, List.length_nil, List.take_zero, List.take_succ_cons, List.nil_append, List.cons_append, List.append_nil, List.drop_succ_cons, List.drop_zero, List.drop_nil, List.getElem?_cons_succ, List.getElem?_cons_zero, Nat.reduceAdd, Nat.reduceLeDiff, Nat.reduceEqDiff, Nat.zero_add, Nat.add_zero, Nat.le_refl, Nat.zero_le, Nat.succ_ne_self, Nat.mul_one, Int.toNat_natCast, Option.some.injEq, Option.isNone_some, Option.isNone_none, V.int.injEq, V.str.injEq, V.bool.injEq, V.ptr.injEq, V.slc.injEq, V.map.injEq, V.agg.injEq, V.tup.injEq, List.cons.injEq, Prod.mk.injEq, onS, true_and, and_true, and_assoc, exists_and_left, exists_eq_left', forall_eq, heq_eq_eq, reduceCtorEq, Bool.not_true, Bool.not_false, eq_self, not_false_eq_true, Nat.left_eq_add, Nat.add_eq_left, Nat.add_left_cancel_iff, Nat.add_right_cancel_iff, Nat.reduceEqDiff, Nat.one_ne_zero, Hp.get_set_self, Hp.get_set_ne, Hp.get_alloc_self, Hp.get_alloc_ne, Hp.get_alloc_at, Hp.get_set_at, Hp.set_next, Hp.alloc_next, Option.some_ne_none, V.tup.injEq, Option.isSome_some, Option.isSome_none, exists_eq_left, exists_eq, Nat.mul_zero, hg], ⟨by omega, hi⟩, R[k].d, hl2, ?_⟩
    have htk := List.take_succ_eq_append_getElem hk'
    cases c : ltI 0 R[k].d with
    | true =>
      rw [ltI_eq, decide_eq_true_eq] at c
      have e : dn (R.take (k + 1)) = dn (R.take k) ++ [R[k]] := by unfold dn; rw [htk, List.filter_append]; simp [c]
      have e2 : IntKind.i64.wrap (((dn (R.take k)).length : Int) + 1) = ((dn (R.take (k + 1))).length : Int) := by rw [wr (by omega) (by omega), e]; simp
      rw [wrap_succ hk' (by omega), e2]
      exact ⟨rfl, ⟨rfl, k + 1, rfl, by omega, rfl⟩, by simp only [Int.toNat_natCast]; omega⟩
    | false =>
      rw [ltI_eq, decide_eq_false_iff_not] at c
      have e : dn (R.take (k + 1)) = dn (R.take k) := by unfold dn; rw [htk, List.filter_append]; simp [c]
      rw [wrap_succ hk' (by omega)]
      exact ⟨rfl, ⟨rfl, k + 1, rfl, by omega, by rw [e]⟩, by simp only [Int.toNat_natCast]; omega⟩

theorem RefE.turn {x : Nat} {bk cnt : Int} {R R' : List Kd} {g g' : Hp} {F G : List Nat} {a : Option (Nat × Nat)} {f : Bool} (r : RefE x bk R cnt g F) (hw : g.wf) (u : Upd g g' [] G) (w : g'.wf) (ho : Own 6 a R'.length (R'.map kL) g' G) :
    ∃ g'', g'.st x 1 [.slc a R'.length f] = some g'' ∧ RefE x bk R' cnt g'' (x :: G) ∧ Upd g g'' F (x :: G) ∧ g''.wf := by
  obtain ⟨a0, f0, G0, h1, h2, rfl, h4⟩ := r
  have hp := hw.lt h1
  have hpl := u.le
  have hG : ∀ j ∈ G, g.next ≤ j := fun j hj => by
    rcases u.new j hj with h | h
    · cases h
    · exact h
  have hpG : x ∉ G := fun h => by have := hG x h; omega
  have hgp : g'.get x = some (.row [.int .i64 bk, .slc a0 R.length f0, .int .i64 cnt] 1 false) := by rw [u.same x hp (by simp)]; exact h1
  refine ⟨_, Hp.st_of hgp (Nat.le_of_ble_eq_true rfl), ⟨a, f, G, Hp.get_set_self, (Own.rep _ _ _ _).loc _ _ _ (fun j hj => Hp.get_set_ne fun e => hpG (e ▸ hj)) ho, rfl, hpG⟩, ⟨fun j hj hF => ?_, fun j hj => ?_, hpl⟩, w.set (by omega)⟩
  · simp only [List.mem_cons, not_or] at hF
    rw [Hp.get_set_ne hF.1, u.same j hj (by simp)]
  · rcases List.mem_cons.1 hj with rfl | hj
    · exact .inl (by simp)
    · exact .inr (hG j hj)

theorem tI : ∃ ti, T 77 = some ti ∧ ti.d = .slc 102 := ⟨_, rfl, rfl⟩
theorem tIe : ∃ ei, T 102 = some ei ∧ ei.size = 6 ∧ ei.bytes ≤ 40 ∧ zok ei = true := ⟨_, rfl, rfl, by decide, rfl⟩

theorem map_rows (l : List Kd) : ∀ r ∈ l.map kL, r.length = 6 := fun r hr => by
  obtain ⟨x, _, rfl⟩ := List.mem_map.1 hr; rfl

def wo (R : List Kd) (s : Int) : List Kd := R.filter fun y => decide (y.s ≠ s)

theorem cut_wo {R : List Kd} {s : Int} {y : Kd} (hn : (R.map Kd.s).Nodup) {k : Nat} (hk : R[k]? = some y) (hs : y.s = s) : R.take k ++ R.drop (k + 1) = wo R s := by
  obtain ⟨hkl, e⟩ := List.getElem?_eq_some_iff.1 hk
  have hR : R = R.take k ++ y :: R.drop (k + 1) := by
    conv => lhs; rw [← List.take_append_drop k R, List.drop_eq_getElem_cons hkl, e]
  have hnk : ∀ x ∈ R.take k ++ R.drop (k + 1), x.s ≠ s := by
    rw [hR, List.map_append, List.map_cons, List.nodup_append] at hn
    obtain ⟨_, h2, h3⟩ := hn
    rw [List.nodup_cons] at h2
    intro x hx
    rcases List.mem_append.1 hx with hx | hx
    · rw [← hs]; exact h3 _ (List.mem_map_of_mem hx) _ (by simp)
    · exact fun e => h2.1 (by rw [hs, ← e]; exact List.mem_map_of_mem hx)
  unfold wo
  conv => rhs; rw [hR]
  rw [List.filter_append, List.filter_cons_of_neg (by simp [hs])]
  rw [List.filter_eq_self.2 fun x hx => ?_, List.filter_eq_self.2 fun x hx => ?_]
  · simpa using hnk x (List.mem_append_right _ hx)
  · simpa using hnk x (List.mem_append_left _ hx)

theorem rgone_spec {h : Hp} {x : Nat} {bk cnt : Int} {R : List Kd} {F : List Nat} {s : Int} (hw : h.wf) (r : RefE x bk R cnt h F) (hn : R.length ≤ 500) (hnd : (R.map Kd.s).Nodup) :
    XCalls Try.prog 31 [.ptr (some (x, 0)), .int .u64 s] h fun v h' => (∃ b, v = .bool b ∧ ((b = false ∧ ∀ y ∈ R, y.s ≠ s) ∨ (b = true ∧ ∃ y ∈ R, y.s = s))) ∧ ∃ F', RefE x bk (wo R s) cnt h' F' ∧ Upd h h' F F' ∧ h'.wf := by
  refine XCalls.cps fun K hK => ?_
  apply x31; unfold X31
  refine (rat_spec r hn).mono ?_
  rintro _ g2 ⟨i, rfl, rfl, hc⟩
  refine ⟨_, rfl, ?_⟩
  rcases hc with ⟨rfl, hno⟩ | ⟨k, y, rfl, hk, hs'⟩
  · have e : wo R s = R := List.filter_eq_self.2 fun x hx => by simpa using hno x hx
    rw [e] at hK
    exact hK _ _ ⟨⟨_, rfl, .inl ⟨rfl, hno⟩⟩, F, r, Upd.refl _ _, hw⟩
  · have hkl := (List.getElem?_eq_some_iff.1 hk).1
    have hRe := cut_wo hnd hk hs'
    have c : ltI (↑k) 0 = false := by rw [ltI_eq, decide_eq_false_iff_not]; omega
    rw [c]
    have r0 := r
    obtain ⟨a, f, G, hg, ho, rfl, hpG⟩ := r
    have hpl := hw.lt hg
    obtain ⟨ti, ht, hd⟩ := tI
    obtain ⟨ei, he, hs, hb, hz⟩ := tIe
    have hud : ∀ k, ti.d ≠ .int k := fun k e => by rw [hd] at e; cases e
    refine ⟨a, R.length, f, by simp (disch := (first | omega | (simp only [Hp.alloc_next, Hp.set_next] <;> omega) | (simp (disch := (first | omega | (simp only [Hp.alloc_next, Hp.set_next] <;> omega) | fail)) only [Hp.get_set_self, Hp.get_set_ne, Hp.get_alloc_self, Hp.get_alloc_ne, Hp.get_alloc_at, Hp.get_set_at, Hp.set_next, Hp.alloc_next, hg]; done) | fail)) only [Hp.st, Hp.ld, Hp.lda, splice, ble_eq', if_true, if_false, ite_true, ite_false, cond_true, cond_false, decide_true, decide_false, List.length_cons, List.length_nil, List.take_zero, List.take_succ_cons, List.nil_append, List.cons_append, List.append_nil, List.drop_succ_cons, List.drop_zero, List.drop_nil, List.getElem?_cons_succ, List.getElem?_cons_zero, Nat.reduceAdd, Nat.reduceLeDiff, Nat.reduceEqDiff, Nat.zero_add, Nat.add_zero, Nat.le_refl, Nat.zero_le, Nat.succ_ne_self, Nat.mul_one, Int.toNat_natCast, Option.some.injEq, Option.isNone_some, Option.isNone_none, V.int.injEq, V.str.injEq, V.bool.injEq, V.ptr.injEq, V.slc.injEq, V.map.injEq, V.agg.injEq, V.tup.injEq, List.cons.injEq, Prod.mk.injEq, onS, true_and, and_true, and_assoc, exists_and_left, exists_eq_left', forall_eq, heq_eq_eq, reduceCtorEq, Bool.not_true, Bool.not_false, eq_self, not_false_eq_true, Nat.left_eq_add, Nat.add_eq_left, Nat.add_left_cancel_iff, Nat.add_right_cancel_iff, Nat.reduceEqDiff, Nat.one_ne_zero, Hp.get_set_self, Hp.get_set_ne, Hp.get_alloc_self, Hp.get_alloc_ne, Hp.get_alloc_at, Hp.get_set_at, Hp.set_next, Hp.alloc_next, Option.some_ne_none, V.tup.injEq, Option.isSome_some, Option.isSome_none, exists_eq_left, exists_eq, Nat.mul_zero, hg], ?_⟩
    obtain ⟨a4, f4, hx4, ho4⟩ := ho.ow.cut (f := f) (κ := .i64) (κ' := .i64) (lo := none) (hi := some k) (i := 0) (j := k) ht hd he hs rfl rfl (Nat.zero_le _) (by omega)
    rw [Nat.sub_zero, List.drop_zero, ← List.map_take] at ho4
    rw [Nat.sub_zero] at hx4
    refine ⟨_, _, _, hx4, ?_⟩
    have hlt : (R.take k).length = k := by rw [List.length_take]; omega
    obtain ⟨a5, f5, G5, g3, hx5, ho5, u5, w5⟩ := (Own.nil 6 g2).apps (f := true) hw ht hd ht hud he hs (by omega) hz (ho4.news f4) (map_rows _) (by rw [List.length_map, hlt]; have := Nat.mul_le_mul (show 0 + k ≤ 2048 by omega) hb; omega) (by rw [List.length_map]; omega)
    have hgp6 : g3.get x = some (.row [.int .i64 bk, .slc a R.length f, .int .i64 cnt] 1 false) := by rw [u5.same x hpl (by simp)]; exact hg
    refine ⟨_, _, _, _, hx5, a, R.length, f, by simp (disch := (first | omega | (simp only [Hp.alloc_next, Hp.set_next] <;> omega) | (simp (disch := (first | omega | (simp only [Hp.alloc_next, Hp.set_next] <;> omega) | fail)) only [Hp.get_set_self, Hp.get_set_ne, Hp.get_alloc_self, Hp.get_alloc_ne, Hp.get_alloc_at, Hp.get_set_at, Hp.set_next, Hp.alloc_next, hgp6]; done) | fail)) only [Hp.st, Hp.ld, Hp.lda, splice, ble_eq', if_true, if_false, ite_true, ite_false, cond_true, cond_false, decide_true, decide_false, List.length_cons, List.length_nil, List.take_zero, List.take_succ_cons, List.nil_append, List.cons_append, List.append_nil, List.drop_succ_cons, List.drop_zero, List.drop_nil, List.getElem?_cons_succ, List.getElem?_cons_zero, Nat.reduceAdd, Nat.reduceLeDiff, Nat.reduceEqDiff, Nat.zero_add, Nat.add_zero, Nat.le_refl, Nat.zero_le, Nat.succ_ne_self, Nat.mul_one, Int.toNat_natCast, Option.some.injEq, Option.isNone_some, Option.isNone_none, V.int.injEq, V.str.injEq, V.bool.injEq, V.ptr.injEq, V.slc.injEq, V.map.injEq, V.agg.injEq, V.tup.injEq, List.cons.injEq, Prod.mk.injEq, onS, true_and, and_true, and_assoc, exists_and_left, exists_eq_left', forall_eq, heq_eq_eq, reduceCtorEq, Bool.not_true, Bool.not_false, eq_self, not_false_eq_true, Nat.left_eq_add, Nat.add_eq_left, Nat.add_left_cancel_iff, Nat.add_right_cancel_iff, Nat.reduceEqDiff, Nat.one_ne_zero, Hp.get_set_self, Hp.get_set_ne, Hp.get_alloc_self, Hp.get_alloc_ne, Hp.get_alloc_at, Hp.get_set_at, Hp.set_next, Hp.alloc_next, Option.some_ne_none, V.tup.injEq, Option.isSome_some, Option.isSome_none, exists_eq_left, exists_eq, Nat.mul_zero, hgp6], ?_⟩
    rw [List.nil_append, List.length_map, hlt, Nat.zero_add] at ho5
    have hoR := (Own.rep _ _ _ _).stay hw ho fun j hj => u5.same j hj (by simp)
    obtain ⟨a7, f7, hx7, ho7⟩ := hoR.ow.cut (f := f) (κ := .i64) (κ' := .i64) (lo := some (k + 1)) (hi := none) (i := k + 1) (j := R.length) ht hd he hs rfl rfl hkl (Nat.le_refl _)
    rw [List.take_of_length_le (by simp), ← List.map_drop] at ho7
    rw [wrap_succ hkl (by omega)]
    refine ⟨_, _, _, hx7, ?_⟩
    have hld : (R.drop (k + 1)).length = R.length - (k + 1) := by rw [List.length_drop]
    obtain ⟨a8, f8, G8, g8, hx8, ho8, u8, w8⟩ := ho5.apps (f := f5) w5 ht hd ht hud he hs (by omega) hz (ho7.news f7) (map_rows _) (by rw [List.length_map, hld]; have := Nat.mul_le_mul (show k + (R.length - (k + 1)) ≤ 2048 by omega) hb; omega) (by rw [List.length_map, hld]; omega)
    have hRl : (wo R s).length = k + (R.length - (k + 1)) := by rw [← hRe]; simp; omega
    rw [List.length_map, hld] at ho8 hx8
    rw [List.length_map, hlt, Nat.zero_add]
    have ho8' : Own 6 a8 (wo R s).length ((wo R s).map kL) g8 G8 := by
      rw [hRl, ← hRe, List.map_append]; exact ho8
    refine ⟨_, _, _, _, hx8, ?_⟩
    obtain ⟨g9, hst, r9, u9, w9⟩ := RefE.turn (R' := wo R s) (f := f8) r0 hw (u5.trans u8) w8 ho8'
    rw [hRl] at hst
    exact ⟨_, hst, hK _ _ ⟨⟨_, rfl, .inr ⟨rfl, y, List.mem_of_getElem? hk, hs'⟩⟩, _, r9, u9, w9⟩⟩

/-! ### Done, Child, Accept -/

def rdoneCode (bk : Int) (R : List Kd) (o : Option Kd) : Int :=
  match o with
  | none => 5
  | some y => if 0 < y.d then 5 else if ((dn R).length : Int) < bk then 0 else 6

theorem rdone_spec {h : Hp} {x : Nat} {bk cnt : Int} {R : List Kd} {F : List Nat} {s : Int} (hw : h.wf) (r : RefE x bk R cnt h F) (hn : R.length ≤ 500) (hc : 0 ≤ cnt ∧ cnt ≤ 1000) :
    XCalls Try.prog 30 [.ptr (some (x, 0)), .int .u64 s] h fun v h' => ∃ c, v = .int .i64 c ∧ h'.wf ∧ Upd h h' F F ∧
      ((c = 5 ∧ (∀ y ∈ R, y.s ≠ s) ∧ RefE x bk R cnt h' F) ∨ ∃ (k : Nat) (y : Kd), R[k]? = some y ∧ y.s = s ∧ c = rdoneCode bk R (some y) ∧ (if c = 0 then RefE x bk (R.set k ⟨y.p, y.s, cnt + 1⟩) (cnt + 1) h' F else RefE x bk R cnt h' F)) := by
  refine XCalls.cps fun K hK => ?_
  apply x30; unfold X30
  refine (rat_spec r hn).mono ?_
  rintro _ g2 ⟨i, rfl, rfl, hcase⟩
  refine ⟨_, rfl, ?_⟩
  rcases hcase with ⟨rfl, hno⟩ | ⟨k, y, rfl, hk, hs⟩
  · exact hK _ _ ⟨5, rfl, hw, Upd.refl _ _, .inl ⟨rfl, hno, r⟩⟩
  have c : ltI (↑k) 0 = false := by rw [ltI_eq, decide_eq_false_iff_not]; omega
  rw [c]
  have hkl := (List.getElem?_eq_some_iff.1 hk).1
  obtain ⟨a, f, hg, hel⟩ := r.hd
  obtain ⟨q, o, rfl, hl1, hl2, hl3, hl4⟩ := hel k y hk
  refine ⟨some (q, o), R.length, f, by simp (disch := (first | omega | (simp only [Hp.alloc_next, Hp.set_next] <;> omega) | (simp (disch := (first | omega | (simp only [Hp.alloc_next, Hp.set_next] <;> omega) | fail)) only [Hp.get_set_self, Hp.get_set_ne, Hp.get_alloc_self, Hp.get_alloc_ne, Hp.get_alloc_at, Hp.get_set_at, Hp.set_next, Hp.alloc_next, hg]; done) | fail)) only [Hp.st, Hp.ld, Hp.lda, splice, ble_eq', if_true, if_false, ite_true, ite_false, cond_true, cond_false, decide_true, decide_false, List.length_cons, List.length_nil, List.take_zero, List.take_succ_cons, List.nil_append, List.cons_append, List.append_nil, List.drop_succ_cons, List.drop_zero, List.drop_nil, List.getElem?_cons_succ, List.getElem?_cons_zero, Nat.reduceAdd, Nat.reduceLeDiff, Nat.reduceEqDiff, Nat.zero_add, Nat.add_zero, Nat.le_refl, Nat.zero_le, Nat.succ_ne_self, Nat.mul_one, Int.toNat_natCast, Option.some.injEq, Option.isNone_some, Option.isNone_none, V.int.injEq, V.str.injEq, V.bool.injEq, V.ptr.injEq, V.slc.injEq, V.map.injEq, V.agg.injEq, V.tup.injEq, List.cons.injEq, Prod.mk.injEq, onS, true_and, and_true, and_assoc, exists_and_left, exists_eq_left', forall_eq, heq_eq_eq, reduceCtorEq, Bool.not_true, Bool.not_false, eq_self, not_false_eq_true, Nat.left_eq_add, Nat.add_eq_left, Nat.add_left_cancel_iff, Nat.add_right_cancel_iff, Nat.reduceEqDiff, Nat.one_ne_zero, Hp.get_set_self, Hp.get_set_ne, Hp.get_alloc_self, Hp.get_alloc_ne, Hp.get_alloc_at, Hp.get_set_at, Hp.set_next, Hp.alloc_next, Option.some_ne_none, V.tup.injEq, Option.isSome_some, Option.isSome_none, exists_eq_left, exists_eq, Nat.mul_zero, hg], ⟨by omega, by omega⟩, y.d, hl2, ?_⟩
  cases cd : ltI 0 y.d with
  | true =>
    rw [ltI_eq, decide_eq_true_eq] at cd
    have e : rdoneCode bk R (some y) = 5 := by unfold rdoneCode; simp only; rw [if_pos cd]
    exact hK _ _ ⟨5, rfl, hw, Upd.refl _ _, .inr ⟨k, y, hk, hs, e.symm, by rw [if_neg (by decide)]; exact r⟩⟩
  | false =>
    rw [ltI_eq, decide_eq_false_iff_not] at cd
    refine (rlen_spec r hn).mono ?_
    rintro _ g2 ⟨rfl, rfl⟩
    refine ⟨_, _, rfl, bk, by simp (disch := (first | omega | (simp only [Hp.alloc_next, Hp.set_next] <;> omega) | (simp (disch := (first | omega | (simp only [Hp.alloc_next, Hp.set_next] <;> omega) | fail)) only [Hp.get_set_self, Hp.get_set_ne, Hp.get_alloc_self, Hp.get_alloc_ne, Hp.get_alloc_at, Hp.get_set_at, Hp.set_next, Hp.alloc_next, hg]; done) | fail)) only [Hp.st, Hp.ld, Hp.lda, splice, ble_eq', if_true, if_false, ite_true, ite_false, cond_true, cond_false, decide_true, decide_false, List.length_cons, List.length_nil, List.take_zero, List.take_succ_cons, List.nil_append, List.cons_append, List.append_nil, List.drop_succ_cons, List.drop_zero, List.drop_nil, List.getElem?_cons_succ, List.getElem?_cons_zero, Nat.reduceAdd, Nat.reduceLeDiff, Nat.reduceEqDiff, Nat.zero_add, Nat.add_zero, Nat.le_refl, Nat.zero_le, Nat.succ_ne_self, Nat.mul_one, Int.toNat_natCast, Option.some.injEq, Option.isNone_some, Option.isNone_none, V.int.injEq, V.str.injEq, V.bool.injEq, V.ptr.injEq, V.slc.injEq, V.map.injEq, V.agg.injEq, V.tup.injEq, List.cons.injEq, Prod.mk.injEq, onS, true_and, and_true, and_assoc, exists_and_left, exists_eq_left', forall_eq, heq_eq_eq, reduceCtorEq, Bool.not_true, Bool.not_false, eq_self, not_false_eq_true, Nat.left_eq_add, Nat.add_eq_left, Nat.add_left_cancel_iff, Nat.add_right_cancel_iff, Nat.reduceEqDiff, Nat.one_ne_zero, Hp.get_set_self, Hp.get_set_ne, Hp.get_alloc_self, Hp.get_alloc_ne, Hp.get_alloc_at, Hp.get_set_at, Hp.set_next, Hp.alloc_next, Option.some_ne_none, V.tup.injEq, Option.isSome_some, Option.isSome_none, exists_eq_left, exists_eq, Nat.mul_zero, hg], ?_⟩
    cases cl : ltI ((dn R).length : Int) bk with
    | false =>
      rw [ltI_eq, decide_eq_false_iff_not] at cl
      have e : rdoneCode bk R (some y) = 6 := by unfold rdoneCode; simp only; rw [if_neg cd, if_neg cl]
      exact hK _ _ ⟨6, rfl, hw, Upd.refl _ _, .inr ⟨k, y, hk, hs, e.symm, by rw [if_neg (by decide)]; exact r⟩⟩
    | true =>
      rw [ltI_eq, decide_eq_true_eq] at cl
      have e : rdoneCode bk R (some y) = 0 := by unfold rdoneCode; simp only; rw [if_neg cd, if_pos cl]
      have hxl := hw.lt hg
      obtain ⟨a0, f0, G, h1, ho, rfl, hxG⟩ := r
      rw [hg] at h1
      cases h1
      have hG := fun j hj => (Own.rep _ _ _ _).lt hw ho (j := j) hj
      refine ⟨cnt, by simp (disch := (first | omega | (simp only [Hp.alloc_next, Hp.set_next] <;> omega) | (simp (disch := (first | omega | (simp only [Hp.alloc_next, Hp.set_next] <;> omega) | fail)) only [Hp.get_set_self, Hp.get_set_ne, Hp.get_alloc_self, Hp.get_alloc_ne, Hp.get_alloc_at, Hp.get_set_at, Hp.set_next, Hp.alloc_next, hg]; done) | fail)) only [Hp.st, Hp.ld, Hp.lda, splice, ble_eq', if_true, if_false, ite_true, ite_false, cond_true, cond_false, decide_true, decide_false, List.length_cons, List.length_nil, List.take_zero, List.take_succ_cons, List.nil_append, List.cons_append, List.append_nil, List.drop_succ_cons, List.drop_zero, List.drop_nil, List.getElem?_cons_succ, List.getElem?_cons_zero, Nat.reduceAdd, Nat.reduceLeDiff, Nat.reduceEqDiff, Nat.zero_add, Nat.add_zero, Nat.le_refl, Nat.zero_le, Nat.succ_ne_self, Nat.mul_one, Int.toNat_natCast, Option.some.injEq, Option.isNone_some, Option.isNone_none, V.int.injEq, V.str.injEq, V.bool.injEq, V.ptr.injEq, V.slc.injEq, V.map.injEq, V.agg.injEq, V.tup.injEq, List.cons.injEq, Prod.mk.injEq, onS, true_and, and_true, and_assoc, exists_and_left, exists_eq_left', forall_eq, heq_eq_eq, reduceCtorEq, Bool.not_true, Bool.not_false, eq_self, not_false_eq_true, Nat.left_eq_add, Nat.add_eq_left, Nat.add_left_cancel_iff, Nat.add_right_cancel_iff, Nat.reduceEqDiff, Nat.one_ne_zero, Hp.get_set_self, Hp.get_set_ne, Hp.get_alloc_self, Hp.get_alloc_ne, Hp.get_alloc_at, Hp.get_set_at, Hp.set_next, Hp.alloc_next, Option.some_ne_none, V.tup.injEq, Option.isSome_some, Option.isSome_none, exists_eq_left, exists_eq, Nat.mul_zero, hg], _, Hp.st_of hg (Nat.le_of_ble_eq_true rfl), ?_⟩
      rw [wr (x := cnt + 1) (by omega) (by omega)]
      obtain ⟨g3, hg3⟩ : ∃ g3, g3 = g2.set x (.row (splice [.int .i64 bk, .slc (some (q, o)) R.length f, .int .i64 cnt] 2 [.int .i64 (cnt + 1)]) 1 false) := ⟨_, rfl⟩
      rw [← hg3]
      have x3 : g3.get x = some (.row [.int .i64 bk, .slc (some (q, o)) R.length f, .int .i64 (cnt + 1)] 1 false) := by rw [hg3, Hp.get_set_self]; rfl
      have w3 : g3.wf := by rw [hg3]; exact hw.set hxl
      have n3 : g3.next = g2.next := by rw [hg3]; rfl
      have s3 : ∀ j, j ≠ x → g3.get j = g2.get j := fun j hj => by rw [hg3, Hp.get_set_ne hj]
      clear hg3
      have ho3 : Own 6 (some (q, o)) R.length (R.map kL) g3 G := (Own.rep _ _ _ _).loc _ _ _ (fun j hj => s3 j fun e => hxG (e ▸ hj)) ho
      have hrow : (R.map kL)[k]? = some (kL y) := by rw [List.getElem?_map, hk]; rfl
      obtain ⟨q1, o1, rr, e1, e2, _, _, hlda⟩ := ho3.ld hkl
      cases e1
      rw [hrow] at e2
      cases e2
      refine ⟨some (q, o), R.length, f, by simp (disch := (first | omega | (simp only [Hp.alloc_next, Hp.set_next] <;> omega) | (simp (disch := (first | omega | (simp only [Hp.alloc_next, Hp.set_next] <;> omega) | fail)) only [Hp.get_set_self, Hp.get_set_ne, Hp.get_alloc_self, Hp.get_alloc_ne, Hp.get_alloc_at, Hp.get_set_at, Hp.set_next, Hp.alloc_next, x3]; done) | fail)) only [Hp.st, Hp.ld, Hp.lda, splice, ble_eq', if_true, if_false, ite_true, ite_false, cond_true, cond_false, decide_true, decide_false, List.length_cons, List.length_nil, List.take_zero, List.take_succ_cons, List.nil_append, List.cons_append, List.append_nil, List.drop_succ_cons, List.drop_zero, List.drop_nil, List.getElem?_cons_succ, List.getElem?_cons_zero, Nat.reduceAdd, Nat.reduceLeDiff, Nat.reduceEqDiff, Nat.zero_add, Nat.add_zero, Nat.le_refl, Nat.zero_le, Nat.succ_ne_self, Nat.mul_one, Int.toNat_natCast, Option.some.injEq, Option.isNone_some, Option.isNone_none, V.int.injEq, V.str.injEq, V.bool.injEq, V.ptr.injEq, V.slc.injEq, V.map.injEq, V.agg.injEq, V.tup.injEq, List.cons.injEq, Prod.mk.injEq, onS, true_and, and_true, and_assoc, exists_and_left, exists_eq_left', forall_eq, heq_eq_eq, reduceCtorEq, Bool.not_true, Bool.not_false, eq_self, not_false_eq_true, Nat.left_eq_add, Nat.add_eq_left, Nat.add_left_cancel_iff, Nat.add_right_cancel_iff, Nat.reduceEqDiff, Nat.one_ne_zero, Hp.get_set_self, Hp.get_set_ne, Hp.get_alloc_self, Hp.get_alloc_ne, Hp.get_alloc_at, Hp.get_set_at, Hp.set_next, Hp.alloc_next, Option.some_ne_none, V.tup.injEq, Option.isSome_some, Option.isSome_none, exists_eq_left, exists_eq, Nat.mul_zero, x3], ⟨by omega, by omega⟩, y.p.a, y.p.b, y.p.c, y.p.d, y.s, y.d, hlda, ?_⟩
      rintro g4 rfl
      refine ⟨_, Hp.st_of Hp.get_alloc_self (Nat.le_of_ble_eq_true rfl), ?_⟩
      have l3 := w3.lt x3
      have x4 : ∀ z, ((g3.alloc (.row [.int .u32 0, .int .u16 0, .int .u32 0, .int .u16 0, .int .u64 0, .int .i64 0] 1 false)).set g3.next z).get x = some (.row [.int .i64 bk, .slc (some (q, o)) R.length f, .int .i64 (cnt + 1)] 1 false) := fun z => by rw [Hp.get_set_ne (by omega), Hp.get_alloc_ne (by omega)]; exact x3
      have hx4 := x4 (.row (splice [.int .u32 0, .int .u16 0, .int .u32 0, .int .u16 0, .int .u64 0, .int .i64 0] 0 [.int .u32 y.p.a, .int .u16 y.p.b, .int .u32 y.p.c, .int .u16 y.p.d, .int .u64 y.s, .int .i64 y.d]) 1 false)
      refine ⟨cnt + 1, by rw [Hp.ld_of hx4]; rfl, _, Hp.st_of Hp.get_set_self (Nat.le_of_ble_eq_true rfl), ?_⟩
      obtain ⟨g6, hg6⟩ : ∃ g6, g6 = ((g3.alloc (.row [.int .u32 0, .int .u16 0, .int .u32 0, .int .u16 0, .int .u64 0, .int .i64 0] 1 false)).set g3.next (.row (splice [.int .u32 0, .int .u16 0, .int .u32 0, .int .u16 0, .int .u64 0, .int .i64 0] 0 [.int .u32 y.p.a, .int .u16 y.p.b, .int .u32 y.p.c, .int .u16 y.p.d, .int .u64 y.s, .int .i64 y.d]) 1 false)).set g3.next (.row (splice (splice [.int .u32 0, .int .u16 0, .int .u32 0, .int .u16 0, .int .u64 0, .int .i64 0] 0 [.int .u32 y.p.a, .int .u16 y.p.b, .int .u32 y.p.c, .int .u16 y.p.d, .int .u64 y.s, .int .i64 y.d]) 5 [.int .i64 (cnt + 1)]) 1 false) := ⟨_, rfl⟩
      rw [← hg6]
      have c6 : g6.get g3.next = some (.row [.int .u32 y.p.a, .int .u16 y.p.b, .int .u32 y.p.c, .int .u16 y.p.d, .int .u64 y.s, .int .i64 (cnt + 1)] 1 false) := by rw [hg6, Hp.get_set_self]; rfl
      have q6 : Quiet g3 g6 := by rw [hg6]; exact ⟨fun j hj => by simp (disch := (first | omega | (simp only [Hp.alloc_next, Hp.set_next] <;> omega) | (simp (disch := (first | omega | (simp only [Hp.alloc_next, Hp.set_next] <;> omega) | fail)) only [Hp.get_set_self, Hp.get_set_ne, Hp.get_alloc_self, Hp.get_alloc_ne, Hp.get_alloc_at, Hp.get_set_at, Hp.set_next, Hp.alloc_next]; done) | fail)) only [Hp.st, Hp.ld, Hp.lda, splice, ble_eq', if_true, if_false, ite_true, ite_false, cond_true, cond_false, decide_true, decide_false, List.length_cons, List.length_nil, List.take_zero, List.take_succ_cons, List.nil_append, List.cons_append, List.append_nil, List.drop_succ_cons, List.drop_zero, List.drop_nil, List.getElem?_cons_succ, List.getElem?_cons_zero, Nat.reduceAdd, Nat.reduceLeDiff, Nat.reduceEqDiff, Nat.zero_add, Nat.add_zero, Nat.le_refl, Nat.zero_le, Nat.succ_ne_self, Nat.mul_one, Int.toNat_natCast, Option.some.injEq, Option.isNone_some, Option.isNone_none, V.int.injEq, V.str.injEq, V.bool.injEq, V.ptr.injEq, V.slc.injEq, V.map.injEq, V.agg.injEq, V.tup.injEq, List.cons.injEq, Prod.mk.injEq, onS, true_and, and_true, and_assoc, exists_and_left, exists_eq_left', forall_eq, heq_eq_eq, reduceCtorEq, Bool.not_true, Bool.not_false, eq_self, not_false_eq_true, Nat.left_eq_add, Nat.add_eq_left, Nat.add_left_cancel_iff, Nat.add_right_cancel_iff, Nat.reduceEqDiff, Nat.one_ne_zero, Hp.get_set_self, Hp.get_set_ne, Hp.get_alloc_self, Hp.get_alloc_ne, Hp.get_alloc_at, Hp.get_set_at, Hp.set_next, Hp.alloc_next, Option.some_ne_none, V.tup.injEq, Option.isSome_some, Option.isSome_none, exists_eq_left, exists_eq, Nat.mul_zero], by simp (disch := (first | omega | (simp only [Hp.alloc_next, Hp.set_next] <;> omega) | (simp (disch := (first | omega | (simp only [Hp.alloc_next, Hp.set_next] <;> omega) | fail)) only [Hp.get_set_self, Hp.get_set_ne, Hp.get_alloc_self, Hp.get_alloc_ne, Hp.get_alloc_at, Hp.get_set_at, Hp.set_next, Hp.alloc_next]; done) | fail)) only [Hp.st, Hp.ld, Hp.lda, splice, ble_eq', if_true, if_false, ite_true, ite_false, cond_true, cond_false, decide_true, decide_false, List.length_cons, List.length_nil, List.take_zero, List.take_succ_cons, List.nil_append, List.cons_append, List.append_nil, List.drop_succ_cons, List.drop_zero, List.drop_nil, List.getElem?_cons_succ, List.getElem?_cons_zero, Nat.reduceAdd, Nat.reduceLeDiff, Nat.reduceEqDiff, Nat.zero_add, Nat.add_zero, Nat.le_refl, Nat.zero_le, Nat.succ_ne_self, Nat.mul_one, Int.toNat_natCast, Option.some.injEq, Option.isNone_some, Option.isNone_none, V.int.injEq, V.str.injEq, V.bool.injEq, V.ptr.injEq, V.slc.injEq, V.map.injEq, V.agg.injEq, V.tup.injEq, List.cons.injEq, Prod.mk.injEq, onS, true_and, and_true, and_assoc, exists_and_left, exists_eq_left', forall_eq, heq_eq_eq, reduceCtorEq, Bool.not_true, Bool.not_false, eq_self, not_false_eq_true, Nat.left_eq_add, Nat.add_eq_left, Nat.add_left_cancel_iff, Nat.add_right_cancel_iff, Nat.reduceEqDiff, Nat.one_ne_zero, Hp.get_set_self, Hp.get_set_ne, Hp.get_alloc_self, Hp.get_alloc_ne, Hp.get_alloc_at, Hp.get_set_at, Hp.set_next, Hp.alloc_next, Option.some_ne_none, V.tup.injEq, Option.isSome_some, Option.isSome_none, exists_eq_left, exists_eq, Nat.mul_zero]; omega, (w3.alloc.set (Nat.lt_succ_self _)).set (by simp (disch := (first | omega | (simp only [Hp.alloc_next, Hp.set_next] <;> omega) | (simp (disch := (first | omega | (simp only [Hp.alloc_next, Hp.set_next] <;> omega) | fail)) only [Hp.get_set_self, Hp.get_set_ne, Hp.get_alloc_self, Hp.get_alloc_ne, Hp.get_alloc_at, Hp.get_set_at, Hp.set_next, Hp.alloc_next]; done) | fail)) only [Hp.st, Hp.ld, Hp.lda, splice, ble_eq', if_true, if_false, ite_true, ite_false, cond_true, cond_false, decide_true, decide_false, List.length_cons, List.length_nil, List.take_zero, List.take_succ_cons, List.nil_append, List.cons_append, List.append_nil, List.drop_succ_cons, List.drop_zero, List.drop_nil, List.getElem?_cons_succ, List.getElem?_cons_zero, Nat.reduceAdd, Nat.reduceLeDiff, Nat.reduceEqDiff, Nat.zero_add, Nat.add_zero, Nat.le_refl, Nat.zero_le, Nat.succ_ne_self, Nat.mul_one, Int.toNat_natCast, Option.some.injEq, Option.isNone_some, Option.isNone_none, V.int.injEq, V.str.injEq, V.bool.injEq, V.ptr.injEq, V.slc.injEq, V.map.injEq, V.agg.injEq, V.tup.injEq, List.cons.injEq, Prod.mk.injEq, onS, true_and, and_true, and_assoc, exists_and_left, exists_eq_left', forall_eq, heq_eq_eq, reduceCtorEq, Bool.not_true, Bool.not_false, eq_self, not_false_eq_true, Nat.left_eq_add, Nat.add_eq_left, Nat.add_left_cancel_iff, Nat.add_right_cancel_iff, Nat.reduceEqDiff, Nat.one_ne_zero, Hp.get_set_self, Hp.get_set_ne, Hp.get_alloc_self, Hp.get_alloc_ne, Hp.get_alloc_at, Hp.get_set_at, Hp.set_next, Hp.alloc_next, Option.some_ne_none, V.tup.injEq, Option.isSome_some, Option.isSome_none, exists_eq_left, exists_eq, Nat.mul_zero]; omega)⟩
      clear hg6 hx4 x4
      have x6 : g6.get x = some (.row [.int .i64 bk, .slc (some (q, o)) R.length f, .int .i64 (cnt + 1)] 1 false) := by rw [q6.same _ l3]; exact x3
      have ho6 := (Own.rep _ _ _ _).stay w3 ho3 q6.same
      obtain ⟨q7, o7, g7, e7, hst, ho7, s7, n7, w7⟩ := ho6.stN q6.wf (k := k) hkl (row := kL ⟨y.p, y.s, cnt + 1⟩) rfl
      cases e7
      refine ⟨some (q, o), R.length, f, by simp (disch := (first | omega | (simp only [Hp.alloc_next, Hp.set_next] <;> omega) | (simp (disch := (first | omega | (simp only [Hp.alloc_next, Hp.set_next] <;> omega) | fail)) only [Hp.get_set_self, Hp.get_set_ne, Hp.get_alloc_self, Hp.get_alloc_ne, Hp.get_alloc_at, Hp.get_set_at, Hp.set_next, Hp.alloc_next, x6]; done) | fail)) only [Hp.st, Hp.ld, Hp.lda, splice, ble_eq', if_true, if_false, ite_true, ite_false, cond_true, cond_false, decide_true, decide_false, List.length_cons, List.length_nil, List.take_zero, List.take_succ_cons, List.nil_append, List.cons_append, List.append_nil, List.drop_succ_cons, List.drop_zero, List.drop_nil, List.getElem?_cons_succ, List.getElem?_cons_zero, Nat.reduceAdd, Nat.reduceLeDiff, Nat.reduceEqDiff, Nat.zero_add, Nat.add_zero, Nat.le_refl, Nat.zero_le, Nat.succ_ne_self, Nat.mul_one, Int.toNat_natCast, Option.some.injEq, Option.isNone_some, Option.isNone_none, V.int.injEq, V.str.injEq, V.bool.injEq, V.ptr.injEq, V.slc.injEq, V.map.injEq, V.agg.injEq, V.tup.injEq, List.cons.injEq, Prod.mk.injEq, onS, true_and, and_true, and_assoc, exists_and_left, exists_eq_left', forall_eq, heq_eq_eq, reduceCtorEq, Bool.not_true, Bool.not_false, eq_self, not_false_eq_true, Nat.left_eq_add, Nat.add_eq_left, Nat.add_left_cancel_iff, Nat.add_right_cancel_iff, Nat.reduceEqDiff, Nat.one_ne_zero, Hp.get_set_self, Hp.get_set_ne, Hp.get_alloc_self, Hp.get_alloc_ne, Hp.get_alloc_at, Hp.get_set_at, Hp.set_next, Hp.alloc_next, Option.some_ne_none, V.tup.injEq, Option.isSome_some, Option.isSome_none, exists_eq_left, exists_eq, Nat.mul_zero, x6], y.p.a, y.p.b, y.p.c, y.p.d, y.s, cnt + 1, by simp (disch := (first | omega | (simp only [Hp.alloc_next, Hp.set_next] <;> omega) | (simp (disch := (first | omega | (simp only [Hp.alloc_next, Hp.set_next] <;> omega) | fail)) only [Hp.get_set_self, Hp.get_set_ne, Hp.get_alloc_self, Hp.get_alloc_ne, Hp.get_alloc_at, Hp.get_set_at, Hp.set_next, Hp.alloc_next, c6]; done) | fail)) only [Hp.st, Hp.ld, Hp.lda, splice, ble_eq', if_true, if_false, ite_true, ite_false, cond_true, cond_false, decide_true, decide_false, List.length_cons, List.length_nil, List.take_zero, List.take_succ_cons, List.nil_append, List.cons_append, List.append_nil, List.drop_succ_cons, List.drop_zero, List.drop_nil, List.getElem?_cons_succ, List.getElem?_cons_zero, Nat.reduceAdd, Nat.reduceLeDiff, Nat.reduceEqDiff, Nat.zero_add, Nat.add_zero, Nat.le_refl, Nat.zero_le, Nat.succ_ne_self, Nat.mul_one, Int.toNat_natCast, Option.some.injEq, Option.isNone_some, Option.isNone_none, V.int.injEq, V.str.injEq, V.bool.injEq, V.ptr.injEq, V.slc.injEq, V.map.injEq, V.agg.injEq, V.tup.injEq, List.cons.injEq, Prod.mk.injEq, onS, true_and, and_true, and_assoc, exists_and_left, exists_eq_left', forall_eq, heq_eq_eq, reduceCtorEq, Bool.not_true, Bool.not_false, eq_self, not_false_eq_true, Nat.left_eq_add, Nat.add_eq_left, Nat.add_left_cancel_iff, Nat.add_right_cancel_iff, Nat.reduceEqDiff, Nat.one_ne_zero, Hp.get_set_self, Hp.get_set_ne, Hp.get_alloc_self, Hp.get_alloc_ne, Hp.get_alloc_at, Hp.get_set_at, Hp.set_next, Hp.alloc_next, Option.some_ne_none, V.tup.injEq, Option.isSome_some, Option.isSome_none, exists_eq_left, exists_eq, Nat.mul_zero, c6], ⟨by omega, by omega⟩, g7, hst, hK _ _ ⟨0, rfl, w7, ⟨fun j hj hF => ?_, fun j hj => .inl hj, ?_⟩, .inr ⟨k, y, hk, hs, e.symm, ?_⟩⟩⟩
      · simp only [List.mem_cons, not_or] at hF
        rw [s7 j hF.2, q6.same j (by omega), s3 j hF.1]
      · have := q6.le; omega
      · rw [if_pos rfl]
        refine ⟨some (q, o), f, G, ?_, ?_, rfl, hxG⟩
        · rw [s7 x hxG, x6, List.length_set]
        · rw [List.length_set, List.map_set]; exact ho7

theorem rchild_spec {h : Hp} {x : Nat} {bk cnt s : Int} {p : Pr} {R : List Kd} {F : List Nat} (hw : h.wf) (r : RefE x bk R cnt h F) (hn : R.length ≤ 500) (hz : ∀ y ∈ R, y.s ≠ 0) :
    XCalls Try.prog 33 [.ptr (some (x, 0)), prV p, .int .u64 s] h fun v h' => ∃ c F', v = .int .i64 c ∧ h'.wf ∧ Upd h h' F F' ∧
      ((c = 2 ∧ s = 0) ∨ (s ≠ 0 ∧ ((c = 7 ∧ ((∃ y ∈ R, y.s = s) ∨ ∃ y ∈ R, y.p = p)) ∨ ((∀ y ∈ R, y.s ≠ s) ∧ (∀ y ∈ R, y.p ≠ p) ∧ c = if bk ≤ (R.length : Int) - (dn R).length ∨ bk ≤ (dn R).length then 6 else 0)))) ∧
      RefE x bk (if c = 0 then R ++ [⟨p, s, 0⟩] else R) cnt h' F' := by
  refine XCalls.cps fun K hK => ?_
  apply x33; unfold X33
  rintro g1 rfl
  have q1 := Quiet.alloc hw (.row [.int .u32 p.a, .int .u16 p.b, .int .u32 p.c, .int .u16 p.d] 1 false)
  have z1 : (h.alloc (.row [.int .u32 p.a, .int .u16 p.b, .int .u32 p.c, .int .u16 p.d] 1 false)).get h.next = some (.row [.int .u32 p.a, .int .u16 p.b, .int .u32 p.c, .int .u16 p.d] 1 false) := Hp.get_alloc_self
  generalize h.alloc (.row [.int .u32 p.a, .int .u16 p.b, .int .u32 p.c, .int .u16 p.d] 1 false) = g1 at *
  have l1 := q1.wf.lt z1
  have r1 := r.quiet hw q1
  by_cases hs : s = 0
  · have cc : (s == 0) = true := by simp [hs]
    rw [cc]
    exact hK _ _ ⟨2, F, rfl, q1.wf, q1.upd _, .inl ⟨rfl, hs⟩, by rw [if_neg (by decide)]; exact r1⟩
  have cc : (s == 0) = false := by simp [hs]
  rw [cc]
  refine (rat_spec r1 hn).mono ?_
  rintro _ g2 ⟨i, rfl, rfl, hcase⟩
  refine ⟨_, rfl, ?_⟩
  rcases hcase with ⟨rfl, hno⟩ | ⟨k, y, rfl, hk, hys⟩
  rotate_left
  · have c : ltI (↑k) 0 = false := by rw [ltI_eq, decide_eq_false_iff_not]; omega
    rw [c]
    exact hK _ _ ⟨7, F, rfl, q1.wf, q1.upd _, .inr ⟨hs, .inl ⟨rfl, .inl ⟨y, List.mem_of_getElem? hk, hys⟩⟩⟩, by rw [if_neg (by decide)]; exact r1⟩
  refine ⟨p.a, p.b, p.c, p.d, by simp (disch := (first | omega | (simp only [Hp.alloc_next, Hp.set_next] <;> omega) | (simp (disch := (first | omega | (simp only [Hp.alloc_next, Hp.set_next] <;> omega) | fail)) only [Hp.get_set_self, Hp.get_set_ne, Hp.get_alloc_self, Hp.get_alloc_ne, Hp.get_alloc_at, Hp.get_set_at, Hp.set_next, Hp.alloc_next, z1]; done) | fail)) only [Hp.st, Hp.ld, Hp.lda, splice, ble_eq', if_true, if_false, ite_true, ite_false, cond_true, cond_false, decide_true, decide_false, List.length_cons, List.length_nil, List.take_zero, List.take_succ_cons, List.nil_append, List.cons_append, List.append_nil, List.drop_succ_cons, List.drop_zero, List.drop_nil, List.getElem?_cons_succ, List.getElem?_cons_zero, Nat.reduceAdd, Nat.reduceLeDiff, Nat.reduceEqDiff, Nat.zero_add, Nat.add_zero, Nat.le_refl, Nat.zero_le, Nat.succ_ne_self, Nat.mul_one, Int.toNat_natCast, Option.some.injEq, Option.isNone_some, Option.isNone_none, V.int.injEq, V.str.injEq, V.bool.injEq, V.ptr.injEq, V.slc.injEq, V.map.injEq, V.agg.injEq, V.tup.injEq, List.cons.injEq, Prod.mk.injEq, onS, true_and, and_true, and_assoc, exists_and_left, exists_eq_left', forall_eq, heq_eq_eq, reduceCtorEq, Bool.not_true, Bool.not_false, eq_self, not_false_eq_true, Nat.left_eq_add, Nat.add_eq_left, Nat.add_left_cancel_iff, Nat.add_right_cancel_iff, Nat.reduceEqDiff, Nat.one_ne_zero, Hp.get_set_self, Hp.get_set_ne, Hp.get_alloc_self, Hp.get_alloc_ne, Hp.get_alloc_at, Hp.get_set_at, Hp.set_next, Hp.alloc_next, Option.some_ne_none, V.tup.injEq, Option.isSome_some, Option.isSome_none, exists_eq_left, exists_eq, Nat.mul_zero, z1], ?_⟩
  refine (rpair_spec (p := p) q1.wf r1 hn).mono ?_
  rintro _ g3 ⟨t, rfl, q3, ht⟩
  have q13 := q1.trans q3
  have r3 := r1.quiet q1.wf q3
  refine ⟨_, rfl, ?_⟩
  rcases ht with ⟨rfl, hnp⟩ | ⟨y, hy, hyp, rfl⟩
  rotate_left
  · have c : (y.s != 0) = true := by simp [hz y hy]
    rw [c]
    exact hK _ _ ⟨7, F, rfl, q3.wf, q13.upd _, .inr ⟨hs, .inl ⟨rfl, .inr ⟨y, hy, hyp⟩⟩⟩, by rw [if_neg (by decide)]; exact r3⟩
  simp only [bne_self_eq_false, cond_false]
  refine (rlen_spec r3 hn).mono ?_
  rintro _ g4 ⟨rfl, rfl⟩
  obtain ⟨a, f, hg, _⟩ := r3.hd
  have full : (bk ≤ (R.length : Int) - (dn R).length ∨ bk ≤ (dn R).length) → K (.int .i64 6) g4 := fun hf => hK _ _ ⟨6, F, rfl, q3.wf, q13.upd _, .inr ⟨hs, .inr ⟨hno, hnp, by rw [if_pos hf]⟩⟩, by rw [if_neg (by decide)]; exact r3⟩
  refine ⟨_, _, rfl, bk, by simp (disch := (first | omega | (simp only [Hp.alloc_next, Hp.set_next] <;> omega) | (simp (disch := (first | omega | (simp only [Hp.alloc_next, Hp.set_next] <;> omega) | fail)) only [Hp.get_set_self, Hp.get_set_ne, Hp.get_alloc_self, Hp.get_alloc_ne, Hp.get_alloc_at, Hp.get_set_at, Hp.set_next, Hp.alloc_next, hg]; done) | fail)) only [Hp.st, Hp.ld, Hp.lda, splice, ble_eq', if_true, if_false, ite_true, ite_false, cond_true, cond_false, decide_true, decide_false, List.length_cons, List.length_nil, List.take_zero, List.take_succ_cons, List.nil_append, List.cons_append, List.append_nil, List.drop_succ_cons, List.drop_zero, List.drop_nil, List.getElem?_cons_succ, List.getElem?_cons_zero, Nat.reduceAdd, Nat.reduceLeDiff, Nat.reduceEqDiff, Nat.zero_add, Nat.add_zero, Nat.le_refl, Nat.zero_le, Nat.succ_ne_self, Nat.mul_one, Int.toNat_natCast, Option.some.injEq, Option.isNone_some, Option.isNone_none, V.int.injEq, V.str.injEq, V.bool.injEq, V.ptr.injEq, V.slc.injEq, V.map.injEq, V.agg.injEq, V.tup.injEq, List.cons.injEq, Prod.mk.injEq, onS, true_and, and_true, and_assoc, exists_and_left, exists_eq_left', forall_eq, heq_eq_eq, reduceCtorEq, Bool.not_true, Bool.not_false, eq_self, not_false_eq_true, Nat.left_eq_add, Nat.add_eq_left, Nat.add_left_cancel_iff, Nat.add_right_cancel_iff, Nat.reduceEqDiff, Nat.one_ne_zero, Hp.get_set_self, Hp.get_set_ne, Hp.get_alloc_self, Hp.get_alloc_ne, Hp.get_alloc_at, Hp.get_set_at, Hp.set_next, Hp.alloc_next, Option.some_ne_none, V.tup.injEq, Option.isSome_some, Option.isSome_none, exists_eq_left, exists_eq, Nat.mul_zero, hg], ?_⟩
  cases k1 : ltI ((R.length : Int) - (dn R).length) bk with
  | false => rw [ltI_eq, decide_eq_false_iff_not] at k1; exact full (by omega)
  | true =>
  rw [ltI_eq, decide_eq_true_eq] at k1
  refine ⟨bk, by simp (disch := (first | omega | (simp only [Hp.alloc_next, Hp.set_next] <;> omega) | (simp (disch := (first | omega | (simp only [Hp.alloc_next, Hp.set_next] <;> omega) | fail)) only [Hp.get_set_self, Hp.get_set_ne, Hp.get_alloc_self, Hp.get_alloc_ne, Hp.get_alloc_at, Hp.get_set_at, Hp.set_next, Hp.alloc_next, hg]; done) | fail)) only [Hp.st, Hp.ld, Hp.lda, splice, ble_eq', if_true, if_false, ite_true, ite_false, cond_true, cond_false, decide_true, decide_false, List.length_cons, List.length_nil, List.take_zero, List.take_succ_cons, List.nil_append, List.cons_append, List.append_nil, List.drop_succ_cons, List.drop_zero, List.drop_nil, List.getElem?_cons_succ, List.getElem?_cons_zero, Nat.reduceAdd, Nat.reduceLeDiff, Nat.reduceEqDiff, Nat.zero_add, Nat.add_zero, Nat.le_refl, Nat.zero_le, Nat.succ_ne_self, Nat.mul_one, Int.toNat_natCast, Option.some.injEq, Option.isNone_some, Option.isNone_none, V.int.injEq, V.str.injEq, V.bool.injEq, V.ptr.injEq, V.slc.injEq, V.map.injEq, V.agg.injEq, V.tup.injEq, List.cons.injEq, Prod.mk.injEq, onS, true_and, and_true, and_assoc, exists_and_left, exists_eq_left', forall_eq, heq_eq_eq, reduceCtorEq, Bool.not_true, Bool.not_false, eq_self, not_false_eq_true, Nat.left_eq_add, Nat.add_eq_left, Nat.add_left_cancel_iff, Nat.add_right_cancel_iff, Nat.reduceEqDiff, Nat.one_ne_zero, Hp.get_set_self, Hp.get_set_ne, Hp.get_alloc_self, Hp.get_alloc_ne, Hp.get_alloc_at, Hp.get_set_at, Hp.set_next, Hp.alloc_next, Option.some_ne_none, V.tup.injEq, Option.isSome_some, Option.isSome_none, exists_eq_left, exists_eq, Nat.mul_zero, hg], ?_⟩
  cases k2 : ltI ((dn R).length : Int) bk with
  | false => rw [ltI_eq, decide_eq_false_iff_not] at k2; exact full (by omega)
  | true =>
  rw [ltI_eq, decide_eq_true_eq] at k2
  have z4 : g4.get h.next = some (.row [.int .u32 p.a, .int .u16 p.b, .int .u32 p.c, .int .u16 p.d] 1 false) := by rw [q3.same _ l1]; exact z1
  have hxl := q3.wf.lt hg
  have r3' := r3
  obtain ⟨a0, f0, G, h1, ho, rfl, hxG⟩ := r3'
  rw [hg] at h1
  cases h1
  have hG := fun j hj => (Own.rep _ _ _ _).lt q3.wf ho (j := j) hj
  refine ⟨a, R.length, f, by simp (disch := (first | omega | (simp only [Hp.alloc_next, Hp.set_next] <;> omega) | (simp (disch := (first | omega | (simp only [Hp.alloc_next, Hp.set_next] <;> omega) | fail)) only [Hp.get_set_self, Hp.get_set_ne, Hp.get_alloc_self, Hp.get_alloc_ne, Hp.get_alloc_at, Hp.get_set_at, Hp.set_next, Hp.alloc_next, hg]; done) | fail)) only [Hp.st, Hp.ld, Hp.lda, splice, ble_eq', if_true, if_false, ite_true, ite_false, cond_true, cond_false, decide_true, decide_false, List.length_cons, List.length_nil, List.take_zero, List.take_succ_cons, List.nil_append, List.cons_append, List.append_nil, List.drop_succ_cons, List.drop_zero, List.drop_nil, List.getElem?_cons_succ, List.getElem?_cons_zero, Nat.reduceAdd, Nat.reduceLeDiff, Nat.reduceEqDiff, Nat.zero_add, Nat.add_zero, Nat.le_refl, Nat.zero_le, Nat.succ_ne_self, Nat.mul_one, Int.toNat_natCast, Option.some.injEq, Option.isNone_some, Option.isNone_none, V.int.injEq, V.str.injEq, V.bool.injEq, V.ptr.injEq, V.slc.injEq, V.map.injEq, V.agg.injEq, V.tup.injEq, List.cons.injEq, Prod.mk.injEq, onS, true_and, and_true, and_assoc, exists_and_left, exists_eq_left', forall_eq, heq_eq_eq, reduceCtorEq, Bool.not_true, Bool.not_false, eq_self, not_false_eq_true, Nat.left_eq_add, Nat.add_eq_left, Nat.add_left_cancel_iff, Nat.add_right_cancel_iff, Nat.reduceEqDiff, Nat.one_ne_zero, Hp.get_set_self, Hp.get_set_ne, Hp.get_alloc_self, Hp.get_alloc_ne, Hp.get_alloc_at, Hp.get_set_at, Hp.set_next, Hp.alloc_next, Option.some_ne_none, V.tup.injEq, Option.isSome_some, Option.isSome_none, exists_eq_left, exists_eq, Nat.mul_zero, hg], p.a, p.b, p.c, p.d, by simp (disch := (first | omega | (simp only [Hp.alloc_next, Hp.set_next] <;> omega) | (simp (disch := (first | omega | (simp only [Hp.alloc_next, Hp.set_next] <;> omega) | fail)) only [Hp.get_set_self, Hp.get_set_ne, Hp.get_alloc_self, Hp.get_alloc_ne, Hp.get_alloc_at, Hp.get_set_at, Hp.set_next, Hp.alloc_next, z4]; done) | fail)) only [Hp.st, Hp.ld, Hp.lda, splice, ble_eq', if_true, if_false, ite_true, ite_false, cond_true, cond_false, decide_true, decide_false, List.length_cons, List.length_nil, List.take_zero, List.take_succ_cons, List.nil_append, List.cons_append, List.append_nil, List.drop_succ_cons, List.drop_zero, List.drop_nil, List.getElem?_cons_succ, List.getElem?_cons_zero, Nat.reduceAdd, Nat.reduceLeDiff, Nat.reduceEqDiff, Nat.zero_add, Nat.add_zero, Nat.le_refl, Nat.zero_le, Nat.succ_ne_self, Nat.mul_one, Int.toNat_natCast, Option.some.injEq, Option.isNone_some, Option.isNone_none, V.int.injEq, V.str.injEq, V.bool.injEq, V.ptr.injEq, V.slc.injEq, V.map.injEq, V.agg.injEq, V.tup.injEq, List.cons.injEq, Prod.mk.injEq, onS, true_and, and_true, and_assoc, exists_and_left, exists_eq_left', forall_eq, heq_eq_eq, reduceCtorEq, Bool.not_true, Bool.not_false, eq_self, not_false_eq_true, Nat.left_eq_add, Nat.add_eq_left, Nat.add_left_cancel_iff, Nat.add_right_cancel_iff, Nat.reduceEqDiff, Nat.one_ne_zero, Hp.get_set_self, Hp.get_set_ne, Hp.get_alloc_self, Hp.get_alloc_ne, Hp.get_alloc_at, Hp.get_set_at, Hp.set_next, Hp.alloc_next, Option.some_ne_none, V.tup.injEq, Option.isSome_some, Option.isSome_none, exists_eq_left, exists_eq, Nat.mul_zero, z4], ?_⟩
  rintro g5 rfl
  have q5 := Quiet.alloc q3.wf (.row (kL ⟨p, s, 0⟩) 6 false)
  have c5 : (g4.alloc (.row (kL ⟨p, s, 0⟩) 6 false)).get g4.next = some (.row (kL ⟨p, s, 0⟩) 6 false) := Hp.get_alloc_self
  have hg5 : (g4.alloc (.row (kL ⟨p, s, 0⟩) 6 false)).get x = some (.row [.int .i64 bk, .slc a R.length f, .int .i64 cnt] 1 false) := by rw [q5.same _ hxl]; exact hg
  obtain ⟨ti, ht, hd⟩ := tI
  obtain ⟨ei, he, hsz, hb, hzk⟩ := tIe
  have hud : ∀ k, ti.d ≠ .int k := fun k e => by rw [hd] at e; cases e
  have ho5 := (Own.rep _ _ _ _).stay q3.wf ho q5.same
  obtain ⟨g6, hx6, ho6, u6, w6⟩ := ho5.app (f := f) q5.wf ht hd ht hud he hsz (by omega) hzk (news := [kL ⟨p, s, 0⟩]) (xnews_one c5 rfl) (by simp [kL]) (by simp) (by have := Nat.mul_le_mul (show R.length + 1 ≤ 2048 by omega) hb; simp only [List.length_singleton]; omega) (by simp; omega)
  have hn5 : (g4.alloc (.row (kL ⟨p, s, 0⟩) 6 false)).next = g4.next + 1 := rfl
  have hg6 : g6.get x = some (.row [.int .i64 bk, .slc a R.length f, .int .i64 cnt] 1 false) := by rw [u6.same _ (by omega) hxG]; exact hg5
  refine ⟨⟨a, R.length, f, (Hp.ld_of hg5 (o := 1)).trans rfl, rfl⟩, by trivial, by trivial, by trivial, by trivial, _, _, _, _, hx6, by trivial, _, Hp.st_of hg6 (Nat.le_of_ble_eq_true rfl), ?_⟩
  have u46 := (q5.upd _).trans u6
  have hle := u46.le
  rw [hn5] at ho6 u46
  refine hK _ _ ⟨0, x :: [g4.next + 1], rfl, w6.set (by omega), ⟨fun j hj hF => ?_, fun j hj => ?_, by simp only [Hp.set_next]; have := q13.le; omega⟩, .inr ⟨hs, .inr ⟨hno, hnp, by rw [if_neg (by omega)]⟩⟩, ?_⟩
  · simp only [List.mem_cons, not_or] at hF
    have := q13.le
    rw [Hp.get_set_ne hF.1, u46.same j (by omega) hF.2, q13.same j hj]
  · have := q13.le
    rcases List.mem_cons.1 hj with rfl | hj
    · exact .inl (by simp)
    · rw [List.mem_singleton] at hj; exact .inr (by omega)
  · rw [if_pos rfl]
    have hlen : (R ++ [(⟨p, s, 0⟩ : Kd)]).length = R.length + 1 := by simp
    refine ⟨some (g4.next + 1, 0), false, [g4.next + 1], ?_, ?_, rfl, by simp; omega⟩
    · rw [Hp.get_set_self, hlen]; rfl
    · rw [hlen, List.map_append]
      exact (Own.rep _ _ _ _).loc _ _ _ (fun j hj => Hp.get_set_ne (by rw [List.mem_singleton] at hj; omega)) ho6

theorem raccept_spec {h : Hp} {x : Nat} {bk cnt : Int} {R : List Kd} {F : List Nat} (hw : h.wf) (r : RefE x bk R cnt h F) (hn : R.length ≤ 500) (hnd : (R.map Kd.s).Nodup) :
    XCalls Try.prog 32 [.ptr (some (x, 0))] h fun v h' => h'.wf ∧ ∃ F', Upd h h' F F' ∧ ((v = .tup [prV p0, .int .u64 0, .bool false] ∧ (∀ y ∈ R, ¬ 0 < y.d) ∧ RefE x bk R cnt h' F') ∨
      ∃ y ∈ R, 0 < y.d ∧ (∀ z ∈ R, 0 < z.d → y.d ≤ z.d) ∧ v = .tup [prV y.p, .int .u64 y.s, .bool true] ∧ RefE x bk (wo R y.s) cnt h' F') := by
  refine XCalls.cps fun K hK => ?_
  apply x32; unfold X32
  rintro g1 rfl
  have q1 := Quiet.alloc hw (.row [.int .u32 0, .int .u16 0, .int .u32 0, .int .u16 0] 1 false)
  have z1 : (h.alloc (.row [.int .u32 0, .int .u16 0, .int .u32 0, .int .u16 0] 1 false)).get h.next = some (.row [.int .u32 0, .int .u16 0, .int .u32 0, .int .u16 0] 1 false) := Hp.get_alloc_self
  generalize h.alloc (.row [.int .u32 0, .int .u16 0, .int .u32 0, .int .u16 0] 1 false) = g1 at *
  have l1 := q1.wf.lt z1
  have r1 := r.quiet hw q1
  have hFl := fun j hj => (RefE.rep _ _ _ _).lt hw r (j := j) hj
  obtain ⟨a, f, hg, hel⟩ := r1.hd
  refine ⟨fun vs h' => match vs with
    | [.int _ b, .int _ i] => h' = g1 ∧ ∃ k : Nat, i = k ∧ k ≤ R.length ∧ ((b = -1 ∧ ∀ y ∈ R.take k, ¬ 0 < y.d) ∨ ∃ (m : Nat) (y : Kd), b = m ∧ R[m]? = some y ∧ 0 < y.d ∧ ∀ z ∈ R.take k, 0 < z.d → y.d ≤ z.d)
    | _ => False, fun vs _ => match vs with
    | [_, .int _ i] => R.length - i.toNat
    | _ => 0, ⟨rfl, rfl, 0, rfl, by omega, .inl ⟨rfl, by simp⟩⟩, ?_⟩
  rintro bs b i h1 ⟨rfl, k, rfl, hk, hb⟩
  refine ⟨a, R.length, f, by simp (disch := (first | omega | (simp only [Hp.alloc_next, Hp.set_next] <;> omega) | (simp (disch := (first | omega | (simp only [Hp.alloc_next, Hp.set_next] <;> omega) | fail)) only [Hp.get_set_self, Hp.get_set_ne, Hp.get_alloc_self, Hp.get_alloc_ne, Hp.get_alloc_at, Hp.get_set_at, Hp.set_next, Hp.alloc_next, hg]; done) | fail)) only [Hp.st, Hp.ld, Hp.lda, splice, ble_eq', if_true, if_false, ite_true, ite_false, cond_true, cond_false, decide_true, decide_false, List.length_cons, List.length_nil, List.take_zero, List.take_succ_cons, List.nil_append, List.cons_append, List.append_nil, List.drop_succ_cons, List.drop_zero, List.drop_nil, List.getElem?_cons_succ, List.getElem?_cons_zero, Nat.reduceAdd, Nat.reduceLeDiff, Nat.reduceEqDiff, Nat.zero_add, Nat.add_zero, Nat.le_refl, Nat.zero_le, Nat.succ_ne_self, Nat.mul_one, Int.toNat_natCast, Option.some.injEq, Option.isNone_some, Option.isNone_none, V.int.injEq, V.str.injEq, V.bool.injEq, V.ptr.injEq, V.slc.injEq, V.map.injEq, V.agg.injEq, V.tup.injEq, List.cons.injEq, Prod.mk.injEq, onS, true_and, and_true, and_assoc, exists_and_left, exists_eq_left', forall_eq, heq_eq_eq, reduceCtorEq, Bool.not_true, Bool.not_false, eq_self, not_false_eq_true, Nat.left_eq_add, Nat.add_eq_left, Nat.add_left_cancel_iff, Nat.add_right_cancel_iff, Nat.reduceEqDiff, Nat.one_ne_zero, Hp.get_set_self, Hp.get_set_ne, Hp.get_alloc_self, Hp.get_alloc_ne, Hp.get_alloc_at, Hp.get_set_at, Hp.set_next, Hp.alloc_next, Option.some_ne_none, V.tup.injEq, Option.isSome_some, Option.isSome_none, exists_eq_left, exists_eq, Nat.mul_zero, hg], ?_⟩
  cases hi : ltI (↑k) (↑R.length) with
  | true =>
    rw [ltI_eq, decide_eq_true_eq] at hi
    have hk' : k < R.length := by omega
    have hy : R[k]? = some R[k] := List.getElem?_eq_getElem hk'
    obtain ⟨q, o, rfl, hl1, hl2, _⟩ := hel k _ hy
    have htk := List.take_succ_eq_append_getElem hk'
    refine ⟨some (q, o), R.length, f, by simp (disch := (first | omega | (simp only [Hp.alloc_next, Hp.set_next] <;> omega) | (simp (disch := (first | omega | (simp only [Hp.alloc_next, Hp.set_next] <;> omega) | fail)) only [Hp.get_set_self, Hp.get_set_ne, Hp.get_alloc_self, Hp.get_alloc_ne, Hp.get_alloc_at, Hp.get_set_at, Hp.set_next, Hp.alloc_next, hg]; done) | fail)) only [Hp.st, Hp.ld, Hp.lda, splice, ble_eq', if_true, if_false, ite_true, ite_false, cond_true, cond_false, decide_true, decide_false, List.length_cons, List.length_nil, List.take_zero, List.take_succ_cons, List.nil_append, List.cons_append, List.append_nil, List.drop_succ_cons, List.drop_zero, List.drop_nil, List.getElem?_cons_succ, List.getElem?_cons_zero, Nat.reduceAdd, Nat.reduceLeDiff, Nat.reduceEqDiff, Nat.zero_add, Nat.add_zero, Nat.le_refl, Nat.zero_le, Nat.succ_ne_self, Nat.mul_one, Int.toNat_natCast, Option.some.injEq, Option.isNone_some, Option.isNone_none, V.int.injEq, V.str.injEq, V.bool.injEq, V.ptr.injEq, V.slc.injEq, V.map.injEq, V.agg.injEq, V.tup.injEq, List.cons.injEq, Prod.mk.injEq, onS, true_and, and_true, and_assoc, exists_and_left, exists_eq_left', forall_eq, heq_eq_eq, reduceCtorEq, Bool.not_true, Bool.not_false, eq_self, not_false_eq_true, Nat.left_eq_add, Nat.add_eq_left, Nat.add_left_cancel_iff, Nat.add_right_cancel_iff, Nat.reduceEqDiff, Nat.one_ne_zero, Hp.get_set_self, Hp.get_set_ne, Hp.get_alloc_self, Hp.get_alloc_ne, Hp.get_alloc_at, Hp.get_set_at, Hp.set_next, Hp.alloc_next, Option.some_ne_none, V.tup.injEq, Option.isSome_some, Option.isSome_none, exists_eq_left, exists_eq, Nat.mul_zero, hg], ⟨by omega, hi⟩, R[k].d, hl2, ?_⟩
    rw [wrap_succ hk' (by omega)]
    cases cd : ltI 0 R[k].d with
    | false =>
      rw [ltI_eq, decide_eq_false_iff_not] at cd
      refine ⟨rfl, ⟨rfl, k + 1, rfl, by omega, ?_⟩, by simp only [Int.toNat_natCast]; omega⟩
      rw [htk]
      rcases hb with ⟨rfl, hall⟩ | ⟨m, y, rfl, h1, h2, h3⟩
      · exact .inl ⟨rfl, fun y hy => by
          rcases List.mem_append.1 hy with hy | hy
          · exact hall y hy
          · rw [List.mem_singleton] at hy; subst hy; exact cd⟩
      · exact .inr ⟨m, y, rfl, h1, h2, fun z hz hd => by
          rcases List.mem_append.1 hz with hz | hz
          · exact h3 z hz hd
          · rw [List.mem_singleton] at hz; subst hz; exact absurd hd cd⟩
    | true =>
      rw [ltI_eq, decide_eq_true_eq] at cd
      rcases hb with ⟨rfl, hall⟩ | ⟨m, y, rfl, h1, h2, h3⟩
      · have c : ltI (-1) 0 = true := by decide
        rw [c]
        refine ⟨rfl, ⟨rfl, k + 1, rfl, by omega, .inr ⟨k, _, rfl, hy, cd, fun z hz hd => ?_⟩⟩, by simp only [Int.toNat_natCast]; omega⟩
        rw [htk] at hz
        rcases List.mem_append.1 hz with hz | hz
        · exact absurd hd (hall z hz)
        · rw [List.mem_singleton] at hz; subst hz; exact Int.le_refl _
      · have c : ltI (↑m) 0 = false := by rw [ltI_eq, decide_eq_false_iff_not]; omega
        rw [c]
        have hml := (List.getElem?_eq_some_iff.1 h1).1
        obtain ⟨q', o', e', _, hm2, _⟩ := hel m _ h1
        cases e'
        refine ⟨some (q, o), R.length, f, by simp (disch := (first | omega | (simp only [Hp.alloc_next, Hp.set_next] <;> omega) | (simp (disch := (first | omega | (simp only [Hp.alloc_next, Hp.set_next] <;> omega) | fail)) only [Hp.get_set_self, Hp.get_set_ne, Hp.get_alloc_self, Hp.get_alloc_ne, Hp.get_alloc_at, Hp.get_set_at, Hp.set_next, Hp.alloc_next, hg]; done) | fail)) only [Hp.st, Hp.ld, Hp.lda, splice, ble_eq', if_true, if_false, ite_true, ite_false, cond_true, cond_false, decide_true, decide_false, List.length_cons, List.length_nil, List.take_zero, List.take_succ_cons, List.nil_append, List.cons_append, List.append_nil, List.drop_succ_cons, List.drop_zero, List.drop_nil, List.getElem?_cons_succ, List.getElem?_cons_zero, Nat.reduceAdd, Nat.reduceLeDiff, Nat.reduceEqDiff, Nat.zero_add, Nat.add_zero, Nat.le_refl, Nat.zero_le, Nat.succ_ne_self, Nat.mul_one, Int.toNat_natCast, Option.some.injEq, Option.isNone_some, Option.isNone_none, V.int.injEq, V.str.injEq, V.bool.injEq, V.ptr.injEq, V.slc.injEq, V.map.injEq, V.agg.injEq, V.tup.injEq, List.cons.injEq, Prod.mk.injEq, onS, true_and, and_true, and_assoc, exists_and_left, exists_eq_left', forall_eq, heq_eq_eq, reduceCtorEq, Bool.not_true, Bool.not_false, eq_self, not_false_eq_true, Nat.left_eq_add, Nat.add_eq_left, Nat.add_left_cancel_iff, Nat.add_right_cancel_iff, Nat.reduceEqDiff, Nat.one_ne_zero, Hp.get_set_self, Hp.get_set_ne, Hp.get_alloc_self, Hp.get_alloc_ne, Hp.get_alloc_at, Hp.get_set_at, Hp.set_next, Hp.alloc_next, Option.some_ne_none, V.tup.injEq, Option.isSome_some, Option.isSome_none, exists_eq_left, exists_eq, Nat.mul_zero, hg], ⟨by omega, hi⟩, R[k].d, hl2, some (q, o), R.length, f, by simp (disch := (first | omega | (simp only [Hp.alloc_next, Hp.set_next] <;> omega) | (simp (disch := (first | omega | (simp only [Hp.alloc_next, Hp.set_next] <;> omega) | fail)) only [Hp.get_set_self, Hp.get_set_ne, Hp.get_alloc_self, Hp.get_alloc_ne, Hp.get_alloc_at, Hp.get_set_at, Hp.set_next, Hp.alloc_next, hg]; done) | fail)) only [Hp.st, Hp.ld, Hp.lda, splice, ble_eq', if_true, if_false, ite_true, ite_false, cond_true, cond_false, decide_true, decide_false, List.length_cons, List.length_nil, List.take_zero, List.take_succ_cons, List.nil_append, List.cons_append, List.append_nil, List.drop_succ_cons, List.drop_zero, List.drop_nil, List.getElem?_cons_succ, List.getElem?_cons_zero, Nat.reduceAdd, Nat.reduceLeDiff, Nat.reduceEqDiff, Nat.zero_add, Nat.add_zero, Nat.le_refl, Nat.zero_le, Nat.succ_ne_self, Nat.mul_one, Int.toNat_natCast, Option.some.injEq, Option.isNone_some, Option.isNone_none, V.int.injEq, V.str.injEq, V.bool.injEq, V.ptr.injEq, V.slc.injEq, V.map.injEq, V.agg.injEq, V.tup.injEq, List.cons.injEq, Prod.mk.injEq, onS, true_and, and_true, and_assoc, exists_and_left, exists_eq_left', forall_eq, heq_eq_eq, reduceCtorEq, Bool.not_true, Bool.not_false, eq_self, not_false_eq_true, Nat.left_eq_add, Nat.add_eq_left, Nat.add_left_cancel_iff, Nat.add_right_cancel_iff, Nat.reduceEqDiff, Nat.one_ne_zero, Hp.get_set_self, Hp.get_set_ne, Hp.get_alloc_self, Hp.get_alloc_ne, Hp.get_alloc_at, Hp.get_set_at, Hp.set_next, Hp.alloc_next, Option.some_ne_none, V.tup.injEq, Option.isSome_some, Option.isSome_none, exists_eq_left, exists_eq, Nat.mul_zero, hg], ⟨by omega, by omega⟩, y.d, hm2, ?_⟩
        cases cm : ltI R[k].d y.d with
        | true =>
          rw [ltI_eq, decide_eq_true_eq] at cm
          refine ⟨rfl, ⟨rfl, k + 1, rfl, by omega, .inr ⟨k, _, rfl, hy, cd, fun z hz hd => ?_⟩⟩, by simp only [Int.toNat_natCast]; omega⟩
          rw [htk] at hz
          rcases List.mem_append.1 hz with hz | hz
          · have := h3 z hz hd; omega
          · rw [List.mem_singleton] at hz; subst hz; exact Int.le_refl _
        | false =>
          rw [ltI_eq, decide_eq_false_iff_not] at cm
          refine ⟨rfl, ⟨rfl, k + 1, rfl, by omega, .inr ⟨m, y, rfl, h1, h2, fun z hz hd => ?_⟩⟩, by simp only [Int.toNat_natCast]; omega⟩
          rw [htk] at hz
          rcases List.mem_append.1 hz with hz | hz
          · exact h3 z hz hd
          · rw [List.mem_singleton] at hz; subst hz; omega
  | false =>
    rw [ltI_eq, decide_eq_false_iff_not] at hi
    rw [List.take_of_length_le (by omega)] at hb
    rcases hb with ⟨rfl, hall⟩ | ⟨m, y, rfl, h1, h2, h3⟩
    · have c : ltI (-1) 0 = true := by decide
      rw [c]
      refine ⟨_, Hp.st_of z1 (Nat.le_of_ble_eq_true rfl), 0, 0, 0, 0, ?_, ?_⟩
      · rw [Hp.lda_of Hp.get_set_self (Nat.le_of_ble_eq_true rfl)]; rfl
      have q2 : ∀ z, Quiet h (h1.set h.next z) := fun z => ⟨fun j hj => by rw [Hp.get_set_ne (by omega), q1.same j hj], by simp only [Hp.set_next]; have := q1.le; omega, q1.wf.set (by omega)⟩
      exact hK _ _ ⟨(q2 _).wf, F, (q2 _).upd _, .inl ⟨rfl, hall, r.quiet hw (q2 _)⟩⟩
    · rename_i g1
      have c : ltI (↑m) 0 = false := by rw [ltI_eq, decide_eq_false_iff_not]; omega
      rw [c]
      have hml := (List.getElem?_eq_some_iff.1 h1).1
      obtain ⟨q, o, rfl, hl1, hl2, hl3, hl4⟩ := hel m _ h1
      refine ⟨some (q, o), R.length, f, by simp (disch := (first | omega | (simp only [Hp.alloc_next, Hp.set_next] <;> omega) | (simp (disch := (first | omega | (simp only [Hp.alloc_next, Hp.set_next] <;> omega) | fail)) only [Hp.get_set_self, Hp.get_set_ne, Hp.get_alloc_self, Hp.get_alloc_ne, Hp.get_alloc_at, Hp.get_set_at, Hp.set_next, Hp.alloc_next, hg]; done) | fail)) only [Hp.st, Hp.ld, Hp.lda, splice, ble_eq', if_true, if_false, ite_true, ite_false, cond_true, cond_false, decide_true, decide_false, List.length_cons, List.length_nil, List.take_zero, List.take_succ_cons, List.nil_append, List.cons_append, List.append_nil, List.drop_succ_cons, List.drop_zero, List.drop_nil, List.getElem?_cons_succ, List.getElem?_cons_zero, Nat.reduceAdd, Nat.reduceLeDiff, Nat.reduceEqDiff, Nat.zero_add, Nat.add_zero, Nat.le_refl, Nat.zero_le, Nat.succ_ne_self, Nat.mul_one, Int.toNat_natCast, Option.some.injEq, Option.isNone_some, Option.isNone_none, V.int.injEq, V.str.injEq, V.bool.injEq, V.ptr.injEq, V.slc.injEq, V.map.injEq, V.agg.injEq, V.tup.injEq, List.cons.injEq, Prod.mk.injEq, onS, true_and, and_true, and_assoc, exists_and_left, exists_eq_left', forall_eq, heq_eq_eq, reduceCtorEq, Bool.not_true, Bool.not_false, eq_self, not_false_eq_true, Nat.left_eq_add, Nat.add_eq_left, Nat.add_left_cancel_iff, Nat.add_right_cancel_iff, Nat.reduceEqDiff, Nat.one_ne_zero, Hp.get_set_self, Hp.get_set_ne, Hp.get_alloc_self, Hp.get_alloc_ne, Hp.get_alloc_at, Hp.get_set_at, Hp.set_next, Hp.alloc_next, Option.some_ne_none, V.tup.injEq, Option.isSome_some, Option.isSome_none, exists_eq_left, exists_eq, Nat.mul_zero, hg], ⟨by omega, by omega⟩, y.p.a, y.p.b, y.p.c, y.p.d, y.s, y.d, hl4, ?_⟩
      rintro g2 rfl
      refine ⟨_, Hp.st_of Hp.get_alloc_self (Nat.le_of_ble_eq_true rfl), ?_⟩
      obtain ⟨g3, hg3⟩ : ∃ g3, g3 = (g1.alloc (.row [.int .u32 0, .int .u16 0, .int .u32 0, .int .u16 0, .int .u64 0, .int .i64 0] 1 false)).set g1.next (.row (splice [.int .u32 0, .int .u16 0, .int .u32 0, .int .u16 0, .int .u64 0, .int .i64 0] 0 [.int .u32 y.p.a, .int .u16 y.p.b, .int .u32 y.p.c, .int .u16 y.p.d, .int .u64 y.s, .int .i64 y.d]) 1 false) := ⟨_, rfl⟩
      rw [← hg3]
      have c3 : g3.get g1.next = some (.row [.int .u32 y.p.a, .int .u16 y.p.b, .int .u32 y.p.c, .int .u16 y.p.d, .int .u64 y.s, .int .i64 y.d] 1 false) := by rw [hg3, Hp.get_set_self]; rfl
      have q3 : Quiet g1 g3 := by rw [hg3]; exact ⟨fun j hj => by simp (disch := (first | omega | (simp only [Hp.alloc_next, Hp.set_next] <;> omega) | (simp (disch := (first | omega | (simp only [Hp.alloc_next, Hp.set_next] <;> omega) | fail)) only [Hp.get_set_self, Hp.get_set_ne, Hp.get_alloc_self, Hp.get_alloc_ne, Hp.get_alloc_at, Hp.get_set_at, Hp.set_next, Hp.alloc_next]; done) | fail)) only [Hp.st, Hp.ld, Hp.lda, splice, ble_eq', if_true, if_false, ite_true, ite_false, cond_true, cond_false, decide_true, decide_false, List.length_cons, List.length_nil, List.take_zero, List.take_succ_cons, List.nil_append, List.cons_append, List.append_nil, List.drop_succ_cons, List.drop_zero, List.drop_nil, List.getElem?_cons_succ, List.getElem?_cons_zero, Nat.reduceAdd, Nat.reduceLeDiff, Nat.reduceEqDiff, Nat.zero_add, Nat.add_zero, Nat.le_refl, Nat.zero_le, Nat.succ_ne_self, Nat.mul_one, Int.toNat_natCast, Option.some.injEq, Option.isNone_some, Option.isNone_none, V.int.injEq, V.str.injEq, V.bool.injEq, V.ptr.injEq, V.slc.injEq, V.map.injEq, V.agg.injEq, V.tup.injEq, List.cons.injEq, Prod.mk.injEq, onS, true_and, and_true, and_assoc, exists_and_left, exists_eq_left', forall_eq, heq_eq_eq, reduceCtorEq, Bool.not_true, Bool.not_false, eq_self, not_false_eq_true, Nat.left_eq_add, Nat.add_eq_left, Nat.add_left_cancel_iff, Nat.add_right_cancel_iff, Nat.reduceEqDiff, Nat.one_ne_zero, Hp.get_set_self, Hp.get_set_ne, Hp.get_alloc_self, Hp.get_alloc_ne, Hp.get_alloc_at, Hp.get_set_at, Hp.set_next, Hp.alloc_next, Option.some_ne_none, V.tup.injEq, Option.isSome_some, Option.isSome_none, exists_eq_left, exists_eq, Nat.mul_zero], by simp (disch := (first | omega | (simp only [Hp.alloc_next, Hp.set_next] <;> omega) | (simp (disch := (first | omega | (simp only [Hp.alloc_next, Hp.set_next] <;> omega) | fail)) only [Hp.get_set_self, Hp.get_set_ne, Hp.get_alloc_self, Hp.get_alloc_ne, Hp.get_alloc_at, Hp.get_set_at, Hp.set_next, Hp.alloc_next]; done) | fail)) only [Hp.st, Hp.ld, Hp.lda, splice, ble_eq', if_true, if_false, ite_true, ite_false, cond_true, cond_false, decide_true, decide_false, List.length_cons, List.length_nil, List.take_zero, List.take_succ_cons, List.nil_append, List.cons_append, List.append_nil, List.drop_succ_cons, List.drop_zero, List.drop_nil, List.getElem?_cons_succ, List.getElem?_cons_zero, Nat.reduceAdd, Nat.reduceLeDiff, Nat.reduceEqDiff, Nat.zero_add, Nat.add_zero, Nat.le_refl, Nat.zero_le, Nat.succ_ne_self, Nat.mul_one, Int.toNat_natCast, Option.some.injEq, Option.isNone_some, Option.isNone_none, V.int.injEq, V.str.injEq, V.bool.injEq, V.ptr.injEq, V.slc.injEq, V.map.injEq, V.agg.injEq, V.tup.injEq, List.cons.injEq, Prod.mk.injEq, onS, true_and, and_true, and_assoc, exists_and_left, exists_eq_left', forall_eq, heq_eq_eq, reduceCtorEq, Bool.not_true, Bool.not_false, eq_self, not_false_eq_true, Nat.left_eq_add, Nat.add_eq_left, Nat.add_left_cancel_iff, Nat.add_right_cancel_iff, Nat.reduceEqDiff, Nat.one_ne_zero, Hp.get_set_self, Hp.get_set_ne, Hp.get_alloc_self, Hp.get_alloc_ne, Hp.get_alloc_at, Hp.get_set_at, Hp.set_next, Hp.alloc_next, Option.some_ne_none, V.tup.injEq, Option.isSome_some, Option.isSome_none, exists_eq_left, exists_eq, Nat.mul_zero]; omega, q1.wf.alloc.set (Nat.lt_succ_self _)⟩
      clear hg3
      have z3 : g3.get h.next = some (.row [.int .u32 0, .int .u16 0, .int .u32 0, .int .u16 0] 1 false) := by rw [q3.same _ l1]; exact z1
      have l3 := q3.wf.lt c3
      have hle1 := q1.le
      refine ⟨y.s, by simp (disch := (first | omega | (simp only [Hp.alloc_next, Hp.set_next] <;> omega) | (simp (disch := (first | omega | (simp only [Hp.alloc_next, Hp.set_next] <;> omega) | fail)) only [Hp.get_set_self, Hp.get_set_ne, Hp.get_alloc_self, Hp.get_alloc_ne, Hp.get_alloc_at, Hp.get_set_at, Hp.set_next, Hp.alloc_next, c3]; done) | fail)) only [Hp.st, Hp.ld, Hp.lda, splice, ble_eq', if_true, if_false, ite_true, ite_false, cond_true, cond_false, decide_true, decide_false, List.length_cons, List.length_nil, List.take_zero, List.take_succ_cons, List.nil_append, List.cons_append, List.append_nil, List.drop_succ_cons, List.drop_zero, List.drop_nil, List.getElem?_cons_succ, List.getElem?_cons_zero, Nat.reduceAdd, Nat.reduceLeDiff, Nat.reduceEqDiff, Nat.zero_add, Nat.add_zero, Nat.le_refl, Nat.zero_le, Nat.succ_ne_self, Nat.mul_one, Int.toNat_natCast, Option.some.injEq, Option.isNone_some, Option.isNone_none, V.int.injEq, V.str.injEq, V.bool.injEq, V.ptr.injEq, V.slc.injEq, V.map.injEq, V.agg.injEq, V.tup.injEq, List.cons.injEq, Prod.mk.injEq, onS, true_and, and_true, and_assoc, exists_and_left, exists_eq_left', forall_eq, heq_eq_eq, reduceCtorEq, Bool.not_true, Bool.not_false, eq_self, not_false_eq_true, Nat.left_eq_add, Nat.add_eq_left, Nat.add_left_cancel_iff, Nat.add_right_cancel_iff, Nat.reduceEqDiff, Nat.one_ne_zero, Hp.get_set_self, Hp.get_set_ne, Hp.get_alloc_self, Hp.get_alloc_ne, Hp.get_alloc_at, Hp.get_set_at, Hp.set_next, Hp.alloc_next, Option.some_ne_none, V.tup.injEq, Option.isSome_some, Option.isSome_none, exists_eq_left, exists_eq, Nat.mul_zero, c3], ?_⟩
      refine (rgone_spec q3.wf (r1.quiet q1.wf q3) hn hnd).mono ?_
      rintro _ g4 ⟨⟨b, rfl, _⟩, F', r4, u4, w4⟩
      have c4 : g4.get g1.next = some (.row [.int .u32 y.p.a, .int .u16 y.p.b, .int .u32 y.p.c, .int .u16 y.p.d, .int .u64 y.s, .int .i64 y.d] 1 false) := by rw [u4.same _ l3 (fun hj => by have := hFl _ hj; omega)]; exact c3
      have z4 : g4.get h.next = some (.row [.int .u32 0, .int .u16 0, .int .u32 0, .int .u16 0] 1 false) := by rw [u4.same _ (by omega) (fun hj => by have := hFl _ hj; omega)]; exact z3
      have l4 := w4.lt c4
      refine ⟨_, rfl, y.p.a, y.p.b, y.p.c, y.p.d, by simp (disch := (first | omega | (simp only [Hp.alloc_next, Hp.set_next] <;> omega) | (simp (disch := (first | omega | (simp only [Hp.alloc_next, Hp.set_next] <;> omega) | fail)) only [Hp.get_set_self, Hp.get_set_ne, Hp.get_alloc_self, Hp.get_alloc_ne, Hp.get_alloc_at, Hp.get_set_at, Hp.set_next, Hp.alloc_next, c4]; done) | fail)) only [Hp.st, Hp.ld, Hp.lda, splice, ble_eq', if_true, if_false, ite_true, ite_false, cond_true, cond_false, decide_true, decide_false, List.length_cons, List.length_nil, List.take_zero, List.take_succ_cons, List.nil_append, List.cons_append, List.append_nil, List.drop_succ_cons, List.drop_zero, List.drop_nil, List.getElem?_cons_succ, List.getElem?_cons_zero, Nat.reduceAdd, Nat.reduceLeDiff, Nat.reduceEqDiff, Nat.zero_add, Nat.add_zero, Nat.le_refl, Nat.zero_le, Nat.succ_ne_self, Nat.mul_one, Int.toNat_natCast, Option.some.injEq, Option.isNone_some, Option.isNone_none, V.int.injEq, V.str.injEq, V.bool.injEq, V.ptr.injEq, V.slc.injEq, V.map.injEq, V.agg.injEq, V.tup.injEq, List.cons.injEq, Prod.mk.injEq, onS, true_and, and_true, and_assoc, exists_and_left, exists_eq_left', forall_eq, heq_eq_eq, reduceCtorEq, Bool.not_true, Bool.not_false, eq_self, not_false_eq_true, Nat.left_eq_add, Nat.add_eq_left, Nat.add_left_cancel_iff, Nat.add_right_cancel_iff, Nat.reduceEqDiff, Nat.one_ne_zero, Hp.get_set_self, Hp.get_set_ne, Hp.get_alloc_self, Hp.get_alloc_ne, Hp.get_alloc_at, Hp.get_set_at, Hp.set_next, Hp.alloc_next, Option.some_ne_none, V.tup.injEq, Option.isSome_some, Option.isSome_none, exists_eq_left, exists_eq, Nat.mul_zero, c4], y.s, by simp (disch := (first | omega | (simp only [Hp.alloc_next, Hp.set_next] <;> omega) | (simp (disch := (first | omega | (simp only [Hp.alloc_next, Hp.set_next] <;> omega) | fail)) only [Hp.get_set_self, Hp.get_set_ne, Hp.get_alloc_self, Hp.get_alloc_ne, Hp.get_alloc_at, Hp.get_set_at, Hp.set_next, Hp.alloc_next, c4]; done) | fail)) only [Hp.st, Hp.ld, Hp.lda, splice, ble_eq', if_true, if_false, ite_true, ite_false, cond_true, cond_false, decide_true, decide_false, List.length_cons, List.length_nil, List.take_zero, List.take_succ_cons, List.nil_append, List.cons_append, List.append_nil, List.drop_succ_cons, List.drop_zero, List.drop_nil, List.getElem?_cons_succ, List.getElem?_cons_zero, Nat.reduceAdd, Nat.reduceLeDiff, Nat.reduceEqDiff, Nat.zero_add, Nat.add_zero, Nat.le_refl, Nat.zero_le, Nat.succ_ne_self, Nat.mul_one, Int.toNat_natCast, Option.some.injEq, Option.isNone_some, Option.isNone_none, V.int.injEq, V.str.injEq, V.bool.injEq, V.ptr.injEq, V.slc.injEq, V.map.injEq, V.agg.injEq, V.tup.injEq, List.cons.injEq, Prod.mk.injEq, onS, true_and, and_true, and_assoc, exists_and_left, exists_eq_left', forall_eq, heq_eq_eq, reduceCtorEq, Bool.not_true, Bool.not_false, eq_self, not_false_eq_true, Nat.left_eq_add, Nat.add_eq_left, Nat.add_left_cancel_iff, Nat.add_right_cancel_iff, Nat.reduceEqDiff, Nat.one_ne_zero, Hp.get_set_self, Hp.get_set_ne, Hp.get_alloc_self, Hp.get_alloc_ne, Hp.get_alloc_at, Hp.get_set_at, Hp.set_next, Hp.alloc_next, Option.some_ne_none, V.tup.injEq, Option.isSome_some, Option.isSome_none, exists_eq_left, exists_eq, Nat.mul_zero, c4], _, Hp.st_of z4 (Nat.le_of_ble_eq_true rfl), ?_⟩
      obtain ⟨g5, hg5⟩ : ∃ g5, g5 = g4.set h.next (.row (splice [.int .u32 0, .int .u16 0, .int .u32 0, .int .u16 0] 0 [.int .u32 y.p.a, .int .u16 y.p.b, .int .u32 y.p.c, .int .u16 y.p.d]) 1 false) := ⟨_, rfl⟩
      rw [← hg5]
      have z5 : g5.get h.next = some (.row [.int .u32 y.p.a, .int .u16 y.p.b, .int .u32 y.p.c, .int .u16 y.p.d] 1 false) := by rw [hg5, Hp.get_set_self]; rfl
      have c5 : g5.get g1.next = some (.row [.int .u32 y.p.a, .int .u16 y.p.b, .int .u32 y.p.c, .int .u16 y.p.d, .int .u64 y.s, .int .i64 y.d] 1 false) := by rw [hg5, Hp.get_set_ne (by omega)]; exact c4
      have u14 := ((q1.trans q3).upd F).trans u4
      have hF'n : h.next ∉ F' := fun hj => by
        rcases u4.new _ hj with hj | hj
        · have := hFl _ hj; omega
        · have := q3.le; omega
      have r5 : RefE x bk (wo R y.s) cnt g5 F' := (RefE.rep _ _ _ _).loc _ _ _ (fun j hj => by
        have k1 : j ≠ h.next := fun e => hF'n (e ▸ hj)
        rw [hg5, Hp.get_set_ne k1]) r4
      refine ⟨⟨y.s, by simp (disch := (first | omega | (simp only [Hp.alloc_next, Hp.set_next] <;> omega) | (simp (disch := (first | omega | (simp only [Hp.alloc_next, Hp.set_next] <;> omega) | fail)) only [Hp.get_set_self, Hp.get_set_ne, Hp.get_alloc_self, Hp.get_alloc_ne, Hp.get_alloc_at, Hp.get_set_at, Hp.set_next, Hp.alloc_next, c5]; done) | fail)) only [Hp.st, Hp.ld, Hp.lda, splice, ble_eq', if_true, if_false, ite_true, ite_false, cond_true, cond_false, decide_true, decide_false, List.length_cons, List.length_nil, List.take_zero, List.take_succ_cons, List.nil_append, List.cons_append, List.append_nil, List.drop_succ_cons, List.drop_zero, List.drop_nil, List.getElem?_cons_succ, List.getElem?_cons_zero, Nat.reduceAdd, Nat.reduceLeDiff, Nat.reduceEqDiff, Nat.zero_add, Nat.add_zero, Nat.le_refl, Nat.zero_le, Nat.succ_ne_self, Nat.mul_one, Int.toNat_natCast, Option.some.injEq, Option.isNone_some, Option.isNone_none, V.int.injEq, V.str.injEq, V.bool.injEq, V.ptr.injEq, V.slc.injEq, V.map.injEq, V.agg.injEq, V.tup.injEq, List.cons.injEq, Prod.mk.injEq, onS, true_and, and_true, and_assoc, exists_and_left, exists_eq_left', forall_eq, heq_eq_eq, reduceCtorEq, Bool.not_true, Bool.not_false, eq_self, not_false_eq_true, Nat.left_eq_add, Nat.add_eq_left, Nat.add_left_cancel_iff, Nat.add_right_cancel_iff, Nat.reduceEqDiff, Nat.one_ne_zero, Hp.get_set_self, Hp.get_set_ne, Hp.get_alloc_self, Hp.get_alloc_ne, Hp.get_alloc_at, Hp.get_set_at, Hp.set_next, Hp.alloc_next, Option.some_ne_none, V.tup.injEq, Option.isSome_some, Option.isSome_none, exists_eq_left, exists_eq, Nat.mul_zero, c5], rfl⟩, rfl, y.p.a, y.p.b, y.p.c, y.p.d, by simp (disch := (first | omega | (simp only [Hp.alloc_next, Hp.set_next] <;> omega) | (simp (disch := (first | omega | (simp only [Hp.alloc_next, Hp.set_next] <;> omega) | fail)) only [Hp.get_set_self, Hp.get_set_ne, Hp.get_alloc_self, Hp.get_alloc_ne, Hp.get_alloc_at, Hp.get_set_at, Hp.set_next, Hp.alloc_next, z5]; done) | fail)) only [Hp.st, Hp.ld, Hp.lda, splice, ble_eq', if_true, if_false, ite_true, ite_false, cond_true, cond_false, decide_true, decide_false, List.length_cons, List.length_nil, List.take_zero, List.take_succ_cons, List.nil_append, List.cons_append, List.append_nil, List.drop_succ_cons, List.drop_zero, List.drop_nil, List.getElem?_cons_succ, List.getElem?_cons_zero, Nat.reduceAdd, Nat.reduceLeDiff, Nat.reduceEqDiff, Nat.zero_add, Nat.add_zero, Nat.le_refl, Nat.zero_le, Nat.succ_ne_self, Nat.mul_one, Int.toNat_natCast, Option.some.injEq, Option.isNone_some, Option.isNone_none, V.int.injEq, V.str.injEq, V.bool.injEq, V.ptr.injEq, V.slc.injEq, V.map.injEq, V.agg.injEq, V.tup.injEq, List.cons.injEq, Prod.mk.injEq, onS, true_and, and_true, and_assoc, exists_and_left, exists_eq_left', forall_eq, heq_eq_eq, reduceCtorEq, Bool.not_true, Bool.not_false, eq_self, not_false_eq_true, Nat.left_eq_add, Nat.add_eq_left, Nat.add_left_cancel_iff, Nat.add_right_cancel_iff, Nat.reduceEqDiff, Nat.one_ne_zero, Hp.get_set_self, Hp.get_set_ne, Hp.get_alloc_self, Hp.get_alloc_ne, Hp.get_alloc_at, Hp.get_set_at, Hp.set_next, Hp.alloc_next, Option.some_ne_none, V.tup.injEq, Option.isSome_some, Option.isSome_none, exists_eq_left, exists_eq, Nat.mul_zero, z5], hK _ _ ⟨by rw [hg5]; exact w4.set (by omega), F', ⟨fun j hj hF => by rw [hg5, Hp.get_set_ne (by omega)]; exact u14.same j hj hF, u14.new, by rw [hg5]; exact u14.le⟩, .inr ⟨y, List.mem_of_getElem? h1, h2, h3, rfl, r5⟩⟩⟩

/-! ### Of, All, and no Ear -/

theorem of_spec {h : Hp} {r : Nat} {bk : Int} {p : Pr} {A : List (Int × Ch)} {Ps : List (Pr × Int)} {D : List Int} {F : List Nat} (hw : h.wf) (e : EarR r bk A Ps D h F) :
    XCalls Try.prog 34 [.ptr (some (r, 0)), prV p] h fun v h' => v = .tup [.int .u64 ((mget Ps p).getD 0), .bool (mget Ps p).isSome] ∧ Quiet h h' := by
  obtain ⟨m1, m2, a, f, o1, o2, G, e1, e2, e3, e4, e5, e6, hF, d1, d2, d3, d4, d5, d6⟩ := e
  refine XCalls.cps fun K hK => ?_
  apply x34; unfold X34
  have hr := hw.lt e1
  have hm2 := hw.lt e4
  have hlk2 := e5.look2 mtP p
  rw [lookV_getD] at hlk2
  rintro g1 rfl
  have q1 := Quiet.alloc hw (.row [.int .u32 p.a, .int .u16 p.b, .int .u32 p.c, .int .u16 p.d] 1 false)
  have z1 : (h.alloc (.row [.int .u32 p.a, .int .u16 p.b, .int .u32 p.c, .int .u16 p.d] 1 false)).get h.next = some (.row [.int .u32 p.a, .int .u16 p.b, .int .u32 p.c, .int .u16 p.d] 1 false) := Hp.get_alloc_self
  generalize h.alloc (.row [.int .u32 p.a, .int .u16 p.b, .int .u32 p.c, .int .u16 p.d] 1 false) = g1 at *
  have r1 : g1.get r = some (.row [.int .i64 bk, .map (some m1), .map (some m2), .slc a D.length f] 1 false) := by rw [q1.same _ hr]; exact e1
  have m21 : g1.get m2 = some o2 := by rw [q1.same _ hm2]; exact e4
  exact ⟨some m2, by simp (disch := (first | omega | (simp only [Hp.alloc_next, Hp.set_next] <;> omega) | (simp (disch := (first | omega | (simp only [Hp.alloc_next, Hp.set_next] <;> omega) | fail)) only [Hp.get_set_self, Hp.get_set_ne, Hp.get_alloc_self, Hp.get_alloc_ne, Hp.get_alloc_at, Hp.get_set_at, Hp.set_next, Hp.alloc_next, r1]; done) | fail)) only [Hp.st, Hp.ld, Hp.lda, splice, ble_eq', if_true, if_false, ite_true, ite_false, cond_true, cond_false, decide_true, decide_false, List.length_cons, List.length_nil, List.take_zero, List.take_succ_cons, List.nil_append, List.cons_append, List.append_nil, List.drop_succ_cons, List.drop_zero, List.drop_nil, List.getElem?_cons_succ, List.getElem?_cons_zero, Nat.reduceAdd, Nat.reduceLeDiff, Nat.reduceEqDiff, Nat.zero_add, Nat.add_zero, Nat.le_refl, Nat.zero_le, Nat.succ_ne_self, Nat.mul_one, Int.toNat_natCast, Option.some.injEq, Option.isNone_some, Option.isNone_none, V.int.injEq, V.str.injEq, V.bool.injEq, V.ptr.injEq, V.slc.injEq, V.map.injEq, V.agg.injEq, V.tup.injEq, List.cons.injEq, Prod.mk.injEq, onS, true_and, and_true, and_assoc, exists_and_left, exists_eq_left', forall_eq, heq_eq_eq, reduceCtorEq, Bool.not_true, Bool.not_false, eq_self, not_false_eq_true, Nat.left_eq_add, Nat.add_eq_left, Nat.add_left_cancel_iff, Nat.add_right_cancel_iff, Nat.reduceEqDiff, Nat.one_ne_zero, Hp.get_set_self, Hp.get_set_ne, Hp.get_alloc_self, Hp.get_alloc_ne, Hp.get_alloc_at, Hp.get_set_at, Hp.set_next, Hp.alloc_next, Option.some_ne_none, V.tup.injEq, Option.isSome_some, Option.isSome_none, exists_eq_left, exists_eq, Nat.mul_zero, r1], p.a, p.b, p.c, p.d, by simp (disch := (first | omega | (simp only [Hp.alloc_next, Hp.set_next] <;> omega) | (simp (disch := (first | omega | (simp only [Hp.alloc_next, Hp.set_next] <;> omega) | fail)) only [Hp.get_set_self, Hp.get_set_ne, Hp.get_alloc_self, Hp.get_alloc_ne, Hp.get_alloc_at, Hp.get_set_at, Hp.set_next, Hp.alloc_next, z1]; done) | fail)) only [Hp.st, Hp.ld, Hp.lda, splice, ble_eq', if_true, if_false, ite_true, ite_false, cond_true, cond_false, decide_true, decide_false, List.length_cons, List.length_nil, List.take_zero, List.take_succ_cons, List.nil_append, List.cons_append, List.append_nil, List.drop_succ_cons, List.drop_zero, List.drop_nil, List.getElem?_cons_succ, List.getElem?_cons_zero, Nat.reduceAdd, Nat.reduceLeDiff, Nat.reduceEqDiff, Nat.zero_add, Nat.add_zero, Nat.le_refl, Nat.zero_le, Nat.succ_ne_self, Nat.mul_one, Int.toNat_natCast, Option.some.injEq, Option.isNone_some, Option.isNone_none, V.int.injEq, V.str.injEq, V.bool.injEq, V.ptr.injEq, V.slc.injEq, V.map.injEq, V.agg.injEq, V.tup.injEq, List.cons.injEq, Prod.mk.injEq, onS, true_and, and_true, and_assoc, exists_and_left, exists_eq_left', forall_eq, heq_eq_eq, reduceCtorEq, Bool.not_true, Bool.not_false, eq_self, not_false_eq_true, Nat.left_eq_add, Nat.add_eq_left, Nat.add_left_cancel_iff, Nat.add_right_cancel_iff, Nat.reduceEqDiff, Nat.one_ne_zero, Hp.get_set_self, Hp.get_set_ne, Hp.get_alloc_self, Hp.get_alloc_ne, Hp.get_alloc_at, Hp.get_set_at, Hp.set_next, Hp.alloc_next, Option.some_ne_none, V.tup.injEq, Option.isSome_some, Option.isSome_none, exists_eq_left, exists_eq, Nat.mul_zero, z1], _, _, hlk2 _ _ m21, hK _ _ ⟨rfl, q1⟩⟩

theorem all_spec {h : Hp} {r : Nat} {bk : Int} {A : List (Int × Ch)} {Ps : List (Pr × Int)} {D : List Int} {F : List Nat} (hw : h.wf) (e : EarR r bk A Ps D h F) (hA : A.length ≤ 1000) :
    XCalls Try.prog 36 [.ptr (some (r, 0))] h fun v h' => ∃ (a : Option (Nat × Nat)) (f : Bool) (l : List Int) (G : List Nat), v = .slc a A.length f ∧ l.Perm (A.map Prod.fst) ∧ l.Pairwise (fun x y => x ≤ y) ∧ Own 1 a A.length (l.map fun s => [V.int .u64 s]) h' G ∧ Quiet h h' ∧ ∀ j ∈ G, h.next ≤ j := by
  obtain ⟨m1, m2, a, f, o1, o2, G, e1, e2, e3, e4, e5, e6, hF, d1, d2, d3, d4, d5, d6⟩ := e
  refine XCalls.cps fun K hK => ?_
  apply x36; unfold X36
  have hm1 := hw.lt e2
  refine ⟨some m1, by simp (disch := (first | omega | (simp only [Hp.alloc_next, Hp.set_next] <;> omega) | (simp (disch := (first | omega | (simp only [Hp.alloc_next, Hp.set_next] <;> omega) | fail)) only [Hp.get_set_self, Hp.get_set_ne, Hp.get_alloc_self, Hp.get_alloc_ne, Hp.get_alloc_at, Hp.get_set_at, Hp.set_next, Hp.alloc_next, e1]; done) | fail)) only [Hp.st, Hp.ld, Hp.lda, splice, ble_eq', if_true, if_false, ite_true, ite_false, cond_true, cond_false, decide_true, decide_false, List.length_cons, List.length_nil, List.take_zero, List.take_succ_cons, List.nil_append, List.cons_append, List.append_nil, List.drop_succ_cons, List.drop_zero, List.drop_nil, List.getElem?_cons_succ, List.getElem?_cons_zero, Nat.reduceAdd, Nat.reduceLeDiff, Nat.reduceEqDiff, Nat.zero_add, Nat.add_zero, Nat.le_refl, Nat.zero_le, Nat.succ_ne_self, Nat.mul_one, Int.toNat_natCast, Option.some.injEq, Option.isNone_some, Option.isNone_none, V.int.injEq, V.str.injEq, V.bool.injEq, V.ptr.injEq, V.slc.injEq, V.map.injEq, V.agg.injEq, V.tup.injEq, List.cons.injEq, Prod.mk.injEq, onS, true_and, and_true, and_assoc, exists_and_left, exists_eq_left', forall_eq, heq_eq_eq, reduceCtorEq, Bool.not_true, Bool.not_false, eq_self, not_false_eq_true, Nat.left_eq_add, Nat.add_eq_left, Nat.add_left_cancel_iff, Nat.add_right_cancel_iff, Nat.reduceEqDiff, Nat.one_ne_zero, Hp.get_set_self, Hp.get_set_ne, Hp.get_alloc_self, Hp.get_alloc_ne, Hp.get_alloc_at, Hp.get_set_at, Hp.set_next, Hp.alloc_next, Option.some_ne_none, V.tup.injEq, Option.isSome_some, Option.isSome_none, exists_eq_left, exists_eq, Nat.mul_zero, e1], ?_⟩
  refine (Sort.keys_spec (some m1)).mono ?_
  rintro _ g1 ⟨rfl, rfl⟩
  refine ⟨_, rfl, ?_⟩
  have q1 := Quiet.alloc hw (.row [.map (some m1)] 1 false)
  have m11 : (h.alloc (.row [.map (some m1)] 1 false)).get m1 = some o1 := by rw [q1.same _ hm1]; exact e2
  refine (Sort.sorted_spec (vV := chV) q1.wf Hp.get_alloc_self (e3.is m11) (by omega)).mono ?_
  rintro _ g2 ⟨a', f', l, G', rfl, hp, hr, ho, hs, hn, hw2, hG⟩
  refine ⟨_, _, _, rfl, hK _ _ ⟨a', f', l, G', rfl, hp, ?_, ho, q1.trans ⟨hs, hn, hw2⟩, fun j hj => by have := hG j hj; have := q1.le; omega⟩⟩
  refine hr.imp ?_
  intro x y hxy
  simp only [Sort.lt, ltI_eq, decide_eq_false_iff_not] at hxy
  omega

theorem new_err {h : Hp} {bk : Int} (hb : bk < 1 ∨ 128 < bk) : XCalls Try.prog 10 [.int .i64 bk] h fun v h' => v = .tup [.ptr none, .int .i64 2] ∧ h' = h := by
  apply x10; unfold X10
  cases c1 : ltI bk 1 with
  | true => exact ⟨rfl, rfl⟩
  | false =>
    rw [ltI_eq, decide_eq_false_iff_not] at c1
    have c2 : ltI 128 bk = true := by rw [ltI_eq, decide_eq_true_eq]; omega
    rw [c2]; exact ⟨rfl, rfl⟩

end Go.Vex.Ear
