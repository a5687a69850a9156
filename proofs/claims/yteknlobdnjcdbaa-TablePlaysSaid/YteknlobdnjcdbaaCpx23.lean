/-
  The document's Text, Hash and Shard (layer 23).
-/
import Derived.Test.YteknlobdnjcdbaaVexEE
import Derived.Test.YteknlobdnjcdbaaVexFF
import Derived.Test.YteknlobdnjcdbaaVexGG
import Derived.Test.YteknlobdnjcdbaaTab23
import Derived.Test.YteknlobdnjcdbaaXa23
import Derived.Test.YteknlobdnjcdbaaCa23
import Derived.Test.YteknlobdnjcdbaaCb23
import Derived.Test.YteknlobdnjcdbaaCc23
import Derived.Test.YteknlobdnjcdbaaXy23
import Derived.KernelRfl
set_option linter.unusedVariables false
set_option linter.unusedSimpArgs false
namespace Go.Vex.TRef
open Go.Proofs Go.Vex.Tbl

theorem text_cells (a b c d : Int) : [V.int .u8 (IntKind.u8.wrap (sh8 .u32 a 24)), .int .u8 (IntKind.u8.wrap (sh8 .u32 a 16)), .int .u8 (IntKind.u8.wrap (sh8 .u32 a 8)), .int .u8 (IntKind.u8.wrap a), .int .u8 (IntKind.u8.wrap (sh8 .u32 c 24)), .int .u8 (IntKind.u8.wrap (sh8 .u32 c 16)), .int .u8 (IntKind.u8.wrap (sh8 .u32 c 8)), .int .u8 (IntKind.u8.wrap c), .int .u8 (IntKind.u8.wrap (sh8 .u16 b 8)), .int .u8 (IntKind.u8.wrap b), .int .u8 (IntKind.u8.wrap (sh8 .u16 d 8)), .int .u8 (IntKind.u8.wrap d)] = byteV (textOf a b c d) := by
  have e : byteV (textOf a b c d) = byteV (ipB a) ++ byteV (ipB c) ++ byteV (ptB b) ++ byteV (ptB d) := by simp [byteV, textOf]
  rw [e, ← ipB_cells, ← ipB_cells, ← ptB_cells, ← ptB_cells]; rfl

theorem text37 {h : Hp} (p0 p1 p2 p3 : Int) : XCalls Try.prog 37 [.agg [.int .u32 p0, .int .u16 p1, .int .u32 p2, .int .u16 p3]] h fun v _ => v = .str (textOf p0 p1 p2 p3) := by
  refine XCalls.cps fun K hK => ?_
  apply x37; unfold X37
  rintro h1 rfl
  have g1 : (h.alloc (.row [.int .u32 p0, .int .u16 p1, .int .u32 p2, .int .u16 p3] 1 false)).get h.next = some (.row [.int .u32 p0, .int .u16 p1, .int .u32 p2, .int .u16 p3] 1 false) := Hp.get_alloc_self
  have n1 : (h.alloc (.row [.int .u32 p0, .int .u16 p1, .int .u32 p2, .int .u16 p3] 1 false)).next = h.next + 1 := Hp.alloc_next _ _
  generalize h.alloc (.row [.int .u32 p0, .int .u16 p1, .int .u32 p2, .int .u16 p3] 1 false) = h1 at *
  have fin : ∀ g z : Hp, z = g.alloc (.row [V.int .u8 (IntKind.u8.wrap (sh8 .u32 p0 24)), .int .u8 (IntKind.u8.wrap (sh8 .u32 p0 16)), .int .u8 (IntKind.u8.wrap (sh8 .u32 p0 8)), .int .u8 (IntKind.u8.wrap p0), .int .u8 (IntKind.u8.wrap (sh8 .u32 p2 24)), .int .u8 (IntKind.u8.wrap (sh8 .u32 p2 16)), .int .u8 (IntKind.u8.wrap (sh8 .u32 p2 8)), .int .u8 (IntKind.u8.wrap p2), .int .u8 (IntKind.u8.wrap (sh8 .u16 p1 8)), .int .u8 (IntKind.u8.wrap p1), .int .u8 (IntKind.u8.wrap (sh8 .u16 p3 8)), .int .u8 (IntKind.u8.wrap p3)] 1 false) → ∃ s1 : List UInt8, xconv T z 84 9 (.slc (some (g.next, 0)) 12 true) = some (.str s1) ∧ K (.str s1) z := by
    rintro g z rfl
    rw [text_cells]
    refine ⟨textOf p0 p1 p2 p3, own_conv (n := 12) (s := textOf p0 p1 p2 p3) (F := [g.next]) ⟨by simp [bRows, textOf, ipB, ptB], bRows_one _, rfl, [], rfl, ?_⟩, hK _ _ rfl⟩
    rw [Hp.get_alloc_self, List.nil_append, bRows_flat]
  have ends : ∀ (g : Hp) (x y : Nat), g.get x = some (.row [.int .u32 p0, .int .u16 p1] 1 false) → g.get y = some (.row [.int .u32 p2, .int .u16 p3] 1 false) → (g.ld x 0 = some (.int .u32 p0) ∧ g.ld x 1 = some (.int .u16 p1)) ∧ g.ld y 0 = some (.int .u32 p2) ∧ g.ld y 1 = some (.int .u16 p3) := fun g x y hx hy => ⟨⟨by simp (disch := (first | omega | (simp only [Hp.alloc_next, Hp.set_next] <;> omega) | (simp (disch := (first | omega | (simp only [Hp.alloc_next, Hp.set_next] <;> omega) | fail)) only [Hp.get_set_self, Hp.get_set_ne, Hp.get_alloc_self, Hp.get_alloc_ne, Hp.get_alloc_at, Hp.get_set_at, Hp.set_next, Hp.alloc_next, hx]; done) | fail)) only [Hp.st, Hp.ld, Hp.lda, splice, ble_eq', if_true, if_false, ite_true, ite_false, cond_true, cond_false, decide_true, decide_false, List.length_cons, List.length_nil, List.take_zero, List.take_succ_cons, List.nil_append, List.cons_append, List.append_nil, List.drop_succ_cons, List.drop_zero, List.drop_nil, List.getElem?_cons_succ, List.getElem?_cons_zero, Nat.reduceAdd, Nat.reduceLeDiff, Nat.reduceEqDiff, Nat.zero_add, Nat.add_zero, Nat.le_refl, Nat.zero_le, Nat.succ_ne_self, Nat.mul_one, Int.toNat_natCast, Option.some.injEq, Option.isNone_some, Option.isNone_none, V.int.injEq, V.str.injEq, V.bool.injEq, V.ptr.injEq, V.slc.injEq, V.map.injEq, V.agg.injEq, V.tup.injEq, List.cons.injEq, Prod.mk.injEq, onS, true_and, and_true, and_assoc, exists_and_left, exists_eq_left', forall_eq, heq_eq_eq, reduceCtorEq, Bool.not_true, Bool.not_false, eq_self, not_false_eq_true, Nat.left_eq_add, Nat.add_eq_left, Nat.add_left_cancel_iff, Nat.add_right_cancel_iff, Nat.reduceEqDiff, Nat.one_ne_zero, Hp.get_set_self, Hp.get_set_ne, Hp.get_alloc_self, Hp.get_alloc_ne, Hp.get_alloc_at, Hp.get_set_at, Hp.set_next, Hp.alloc_next, Option.some_ne_none, V.tup.injEq, Option.isSome_some, Option.isSome_none, exists_eq_left, exists_eq, Nat.mul_zero, hx], by simp (disch := (first | omega | (simp only [Hp.alloc_next, Hp.set_next] <;> omega) | (simp (disch := (first | omega | (simp only [Hp.alloc_next, Hp.set_next] <;> omega) | fail)) only [Hp.get_set_self, Hp.get_set_ne, Hp.get_alloc_self, Hp.get_alloc_ne, Hp.get_alloc_at, Hp.get_set_at, Hp.set_next, Hp.alloc_next, hx]; done) | fail)) only [Hp.st, Hp.ld, Hp.lda, splice, ble_eq', if_true, if_false, ite_true, ite_false, cond_true, cond_false, decide_true, decide_false, List.length_cons, List.length_nil, List.take_zero, List.take_succ_cons, List.nil_append, List.cons_append, List.append_nil, List.drop_succ_cons, List.drop_zero, List.drop_nil, List.getElem?_cons_succ, List.getElem?_cons_zero, Nat.reduceAdd, Nat.reduceLeDiff, Nat.reduceEqDiff, Nat.zero_add, Nat.add_zero, Nat.le_refl, Nat.zero_le, Nat.succ_ne_self, Nat.mul_one, Int.toNat_natCast, Option.some.injEq, Option.isNone_some, Option.isNone_none, V.int.injEq, V.str.injEq, V.bool.injEq, V.ptr.injEq, V.slc.injEq, V.map.injEq, V.agg.injEq, V.tup.injEq, List.cons.injEq, Prod.mk.injEq, onS, true_and, and_true, and_assoc, exists_and_left, exists_eq_left', forall_eq, heq_eq_eq, reduceCtorEq, Bool.not_true, Bool.not_false, eq_self, not_false_eq_true, Nat.left_eq_add, Nat.add_eq_left, Nat.add_left_cancel_iff, Nat.add_right_cancel_iff, Nat.reduceEqDiff, Nat.one_ne_zero, Hp.get_set_self, Hp.get_set_ne, Hp.get_alloc_self, Hp.get_alloc_ne, Hp.get_alloc_at, Hp.get_set_at, Hp.set_next, Hp.alloc_next, Option.some_ne_none, V.tup.injEq, Option.isSome_some, Option.isSome_none, exists_eq_left, exists_eq, Nat.mul_zero, hx]⟩, by simp (disch := (first | omega | (simp only [Hp.alloc_next, Hp.set_next] <;> omega) | (simp (disch := (first | omega | (simp only [Hp.alloc_next, Hp.set_next] <;> omega) | fail)) only [Hp.get_set_self, Hp.get_set_ne, Hp.get_alloc_self, Hp.get_alloc_ne, Hp.get_alloc_at, Hp.get_set_at, Hp.set_next, Hp.alloc_next, hy]; done) | fail)) only [Hp.st, Hp.ld, Hp.lda, splice, ble_eq', if_true, if_false, ite_true, ite_false, cond_true, cond_false, decide_true, decide_false, List.length_cons, List.length_nil, List.take_zero, List.take_succ_cons, List.nil_append, List.cons_append, List.append_nil, List.drop_succ_cons, List.drop_zero, List.drop_nil, List.getElem?_cons_succ, List.getElem?_cons_zero, Nat.reduceAdd, Nat.reduceLeDiff, Nat.reduceEqDiff, Nat.zero_add, Nat.add_zero, Nat.le_refl, Nat.zero_le, Nat.succ_ne_self, Nat.mul_one, Int.toNat_natCast, Option.some.injEq, Option.isNone_some, Option.isNone_none, V.int.injEq, V.str.injEq, V.bool.injEq, V.ptr.injEq, V.slc.injEq, V.map.injEq, V.agg.injEq, V.tup.injEq, List.cons.injEq, Prod.mk.injEq, onS, true_and, and_true, and_assoc, exists_and_left, exists_eq_left', forall_eq, heq_eq_eq, reduceCtorEq, Bool.not_true, Bool.not_false, eq_self, not_false_eq_true, Nat.left_eq_add, Nat.add_eq_left, Nat.add_left_cancel_iff, Nat.add_right_cancel_iff, Nat.reduceEqDiff, Nat.one_ne_zero, Hp.get_set_self, Hp.get_set_ne, Hp.get_alloc_self, Hp.get_alloc_ne, Hp.get_alloc_at, Hp.get_set_at, Hp.set_next, Hp.alloc_next, Option.some_ne_none, V.tup.injEq, Option.isSome_some, Option.isSome_none, exists_eq_left, exists_eq, Nat.mul_zero, hy], by simp (disch := (first | omega | (simp only [Hp.alloc_next, Hp.set_next] <;> omega) | (simp (disch := (first | omega | (simp only [Hp.alloc_next, Hp.set_next] <;> omega) | fail)) only [Hp.get_set_self, Hp.get_set_ne, Hp.get_alloc_self, Hp.get_alloc_ne, Hp.get_alloc_at, Hp.get_set_at, Hp.set_next, Hp.alloc_next, hy]; done) | fail)) only [Hp.st, Hp.ld, Hp.lda, splice, ble_eq', if_true, if_false, ite_true, ite_false, cond_true, cond_false, decide_true, decide_false, List.length_cons, List.length_nil, List.take_zero, List.take_succ_cons, List.nil_append, List.cons_append, List.append_nil, List.drop_succ_cons, List.drop_zero, List.drop_nil, List.getElem?_cons_succ, List.getElem?_cons_zero, Nat.reduceAdd, Nat.reduceLeDiff, Nat.reduceEqDiff, Nat.zero_add, Nat.add_zero, Nat.le_refl, Nat.zero_le, Nat.succ_ne_self, Nat.mul_one, Int.toNat_natCast, Option.some.injEq, Option.isNone_some, Option.isNone_none, V.int.injEq, V.str.injEq, V.bool.injEq, V.ptr.injEq, V.slc.injEq, V.map.injEq, V.agg.injEq, V.tup.injEq, List.cons.injEq, Prod.mk.injEq, onS, true_and, and_true, and_assoc, exists_and_left, exists_eq_left', forall_eq, heq_eq_eq, reduceCtorEq, Bool.not_true, Bool.not_false, eq_self, not_false_eq_true, Nat.left_eq_add, Nat.add_eq_left, Nat.add_left_cancel_iff, Nat.add_right_cancel_iff, Nat.reduceEqDiff, Nat.one_ne_zero, Hp.get_set_self, Hp.get_set_ne, Hp.get_alloc_self, Hp.get_alloc_ne, Hp.get_alloc_at, Hp.get_set_at, Hp.set_next, Hp.alloc_next, Option.some_ne_none, V.tup.injEq, Option.isSome_some, Option.isSome_none, exists_eq_left, exists_eq, Nat.mul_zero, hy]⟩
  refine ⟨p0, p1, by simp (disch := (first | omega | (simp only [Hp.alloc_next, Hp.set_next] <;> omega) | (simp (disch := (first | omega | (simp only [Hp.alloc_next, Hp.set_next] <;> omega) | fail)) only [Hp.get_set_self, Hp.get_set_ne, Hp.get_alloc_self, Hp.get_alloc_ne, Hp.get_alloc_at, Hp.get_set_at, Hp.set_next, Hp.alloc_next, g1]; done) | fail)) only [Hp.st, Hp.ld, Hp.lda, splice, ble_eq', if_true, if_false, ite_true, ite_false, cond_true, cond_false, decide_true, decide_false, List.length_cons, List.length_nil, List.take_zero, List.take_succ_cons, List.nil_append, List.cons_append, List.append_nil, List.drop_succ_cons, List.drop_zero, List.drop_nil, List.getElem?_cons_succ, List.getElem?_cons_zero, Nat.reduceAdd, Nat.reduceLeDiff, Nat.reduceEqDiff, Nat.zero_add, Nat.add_zero, Nat.le_refl, Nat.zero_le, Nat.succ_ne_self, Nat.mul_one, Int.toNat_natCast, Option.some.injEq, Option.isNone_some, Option.isNone_none, V.int.injEq, V.str.injEq, V.bool.injEq, V.ptr.injEq, V.slc.injEq, V.map.injEq, V.agg.injEq, V.tup.injEq, List.cons.injEq, Prod.mk.injEq, onS, true_and, and_true, and_assoc, exists_and_left, exists_eq_left', forall_eq, heq_eq_eq, reduceCtorEq, Bool.not_true, Bool.not_false, eq_self, not_false_eq_true, Nat.left_eq_add, Nat.add_eq_left, Nat.add_left_cancel_iff, Nat.add_right_cancel_iff, Nat.reduceEqDiff, Nat.one_ne_zero, Hp.get_set_self, Hp.get_set_ne, Hp.get_alloc_self, Hp.get_alloc_ne, Hp.get_alloc_at, Hp.get_set_at, Hp.set_next, Hp.alloc_next, Option.some_ne_none, V.tup.injEq, Option.isSome_some, Option.isSome_none, exists_eq_left, exists_eq, Nat.mul_zero, g1], p2, p3, by simp (disch := (first | omega | (simp only [Hp.alloc_next, Hp.set_next] <;> omega) | (simp (disch := (first | omega | (simp only [Hp.alloc_next, Hp.set_next] <;> omega) | fail)) only [Hp.get_set_self, Hp.get_set_ne, Hp.get_alloc_self, Hp.get_alloc_ne, Hp.get_alloc_at, Hp.get_set_at, Hp.set_next, Hp.alloc_next, g1]; done) | fail)) only [Hp.st, Hp.ld, Hp.lda, splice, ble_eq', if_true, if_false, ite_true, ite_false, cond_true, cond_false, decide_true, decide_false, List.length_cons, List.length_nil, List.take_zero, List.take_succ_cons, List.nil_append, List.cons_append, List.append_nil, List.drop_succ_cons, List.drop_zero, List.drop_nil, List.getElem?_cons_succ, List.getElem?_cons_zero, Nat.reduceAdd, Nat.reduceLeDiff, Nat.reduceEqDiff, Nat.zero_add, Nat.add_zero, Nat.le_refl, Nat.zero_le, Nat.succ_ne_self, Nat.mul_one, Int.toNat_natCast, Option.some.injEq, Option.isNone_some, Option.isNone_none, V.int.injEq, V.str.injEq, V.bool.injEq, V.ptr.injEq, V.slc.injEq, V.map.injEq, V.agg.injEq, V.tup.injEq, List.cons.injEq, Prod.mk.injEq, onS, true_and, and_true, and_assoc, exists_and_left, exists_eq_left', forall_eq, heq_eq_eq, reduceCtorEq, Bool.not_true, Bool.not_false, eq_self, not_false_eq_true, Nat.left_eq_add, Nat.add_eq_left, Nat.add_left_cancel_iff, Nat.add_right_cancel_iff, Nat.reduceEqDiff, Nat.one_ne_zero, Hp.get_set_self, Hp.get_set_ne, Hp.get_alloc_self, Hp.get_alloc_ne, Hp.get_alloc_at, Hp.get_set_at, Hp.set_next, Hp.alloc_next, Option.some_ne_none, V.tup.injEq, Option.isSome_some, Option.isSome_none, exists_eq_left, exists_eq, Nat.mul_zero, g1], ?_, ?_, trivial⟩
  · rintro h2 rfl
    have s2 : (h1.alloc (.row [.int .u32 0, .int .u16 0] 1 false)).get h.next = some (.row [.int .u32 p0, .int .u16 p1, .int .u32 p2, .int .u16 p3] 1 false) := by rw [Hp.get_alloc_ne (by omega)]; exact g1
    have c2 : (h1.alloc (.row [.int .u32 0, .int .u16 0] 1 false)).get h1.next = some (.row [.int .u32 0, .int .u16 0] 1 false) := Hp.get_alloc_self
    have n2 : (h1.alloc (.row [.int .u32 0, .int .u16 0] 1 false)).next = h1.next + 1 := Hp.alloc_next _ _
    generalize h1.alloc (.row [.int .u32 0, .int .u16 0] 1 false) = h2 at *
    refine ⟨⟨p2, p3, by simp (disch := (first | omega | (simp only [Hp.alloc_next, Hp.set_next] <;> omega) | (simp (disch := (first | omega | (simp only [Hp.alloc_next, Hp.set_next] <;> omega) | fail)) only [Hp.get_set_self, Hp.get_set_ne, Hp.get_alloc_self, Hp.get_alloc_ne, Hp.get_alloc_at, Hp.get_set_at, Hp.set_next, Hp.alloc_next, s2]; done) | fail)) only [Hp.st, Hp.ld, Hp.lda, splice, ble_eq', if_true, if_false, ite_true, ite_false, cond_true, cond_false, decide_true, decide_false, List.length_cons, List.length_nil, List.take_zero, List.take_succ_cons, List.nil_append, List.cons_append, List.append_nil, List.drop_succ_cons, List.drop_zero, List.drop_nil, List.getElem?_cons_succ, List.getElem?_cons_zero, Nat.reduceAdd, Nat.reduceLeDiff, Nat.reduceEqDiff, Nat.zero_add, Nat.add_zero, Nat.le_refl, Nat.zero_le, Nat.succ_ne_self, Nat.mul_one, Int.toNat_natCast, Option.some.injEq, Option.isNone_some, Option.isNone_none, V.int.injEq, V.str.injEq, V.bool.injEq, V.ptr.injEq, V.slc.injEq, V.map.injEq, V.agg.injEq, V.tup.injEq, List.cons.injEq, Prod.mk.injEq, onS, true_and, and_true, and_assoc, exists_and_left, exists_eq_left', forall_eq, heq_eq_eq, reduceCtorEq, Bool.not_true, Bool.not_false, eq_self, not_false_eq_true, Nat.left_eq_add, Nat.add_eq_left, Nat.add_left_cancel_iff, Nat.add_right_cancel_iff, Nat.reduceEqDiff, Nat.one_ne_zero, Hp.get_set_self, Hp.get_set_ne, Hp.get_alloc_self, Hp.get_alloc_ne, Hp.get_alloc_at, Hp.get_set_at, Hp.set_next, Hp.alloc_next, Option.some_ne_none, V.tup.injEq, Option.isSome_some, Option.isSome_none, exists_eq_left, exists_eq, Nat.mul_zero, s2], rfl⟩, rfl, ⟨p0, p1, by simp (disch := (first | omega | (simp only [Hp.alloc_next, Hp.set_next] <;> omega) | (simp (disch := (first | omega | (simp only [Hp.alloc_next, Hp.set_next] <;> omega) | fail)) only [Hp.get_set_self, Hp.get_set_ne, Hp.get_alloc_self, Hp.get_alloc_ne, Hp.get_alloc_at, Hp.get_set_at, Hp.set_next, Hp.alloc_next, s2]; done) | fail)) only [Hp.st, Hp.ld, Hp.lda, splice, ble_eq', if_true, if_false, ite_true, ite_false, cond_true, cond_false, decide_true, decide_false, List.length_cons, List.length_nil, List.take_zero, List.take_succ_cons, List.nil_append, List.cons_append, List.append_nil, List.drop_succ_cons, List.drop_zero, List.drop_nil, List.getElem?_cons_succ, List.getElem?_cons_zero, Nat.reduceAdd, Nat.reduceLeDiff, Nat.reduceEqDiff, Nat.zero_add, Nat.add_zero, Nat.le_refl, Nat.zero_le, Nat.succ_ne_self, Nat.mul_one, Int.toNat_natCast, Option.some.injEq, Option.isNone_some, Option.isNone_none, V.int.injEq, V.str.injEq, V.bool.injEq, V.ptr.injEq, V.slc.injEq, V.map.injEq, V.agg.injEq, V.tup.injEq, List.cons.injEq, Prod.mk.injEq, onS, true_and, and_true, and_assoc, exists_and_left, exists_eq_left', forall_eq, heq_eq_eq, reduceCtorEq, Bool.not_true, Bool.not_false, eq_self, not_false_eq_true, Nat.left_eq_add, Nat.add_eq_left, Nat.add_left_cancel_iff, Nat.add_right_cancel_iff, Nat.reduceEqDiff, Nat.one_ne_zero, Hp.get_set_self, Hp.get_set_ne, Hp.get_alloc_self, Hp.get_alloc_ne, Hp.get_alloc_at, Hp.get_set_at, Hp.set_next, Hp.alloc_next, Option.some_ne_none, V.tup.injEq, Option.isSome_some, Option.isSome_none, exists_eq_left, exists_eq, Nat.mul_zero, s2], rfl⟩, rfl, ?_⟩
    rintro h3 rfl
    have s3 : (h2.alloc (.row [.int .u32 0, .int .u16 0] 1 false)).get h.next = some (.row [.int .u32 p0, .int .u16 p1, .int .u32 p2, .int .u16 p3] 1 false) := by rw [Hp.get_alloc_ne (by omega)]; exact s2
    have c3 : (h2.alloc (.row [.int .u32 0, .int .u16 0] 1 false)).get h1.next = some (.row [.int .u32 0, .int .u16 0] 1 false) := by rw [Hp.get_alloc_ne (by omega)]; exact c2
    have d3 : (h2.alloc (.row [.int .u32 0, .int .u16 0] 1 false)).get h2.next = some (.row [.int .u32 0, .int .u16 0] 1 false) := Hp.get_alloc_self
    generalize h2.alloc (.row [.int .u32 0, .int .u16 0] 1 false) = h3 at *
    refine ⟨⟨p2, p3, by simp (disch := (first | omega | (simp only [Hp.alloc_next, Hp.set_next] <;> omega) | (simp (disch := (first | omega | (simp only [Hp.alloc_next, Hp.set_next] <;> omega) | fail)) only [Hp.get_set_self, Hp.get_set_ne, Hp.get_alloc_self, Hp.get_alloc_ne, Hp.get_alloc_at, Hp.get_set_at, Hp.set_next, Hp.alloc_next, s3]; done) | fail)) only [Hp.st, Hp.ld, Hp.lda, splice, ble_eq', if_true, if_false, ite_true, ite_false, cond_true, cond_false, decide_true, decide_false, List.length_cons, List.length_nil, List.take_zero, List.take_succ_cons, List.nil_append, List.cons_append, List.append_nil, List.drop_succ_cons, List.drop_zero, List.drop_nil, List.getElem?_cons_succ, List.getElem?_cons_zero, Nat.reduceAdd, Nat.reduceLeDiff, Nat.reduceEqDiff, Nat.zero_add, Nat.add_zero, Nat.le_refl, Nat.zero_le, Nat.succ_ne_self, Nat.mul_one, Int.toNat_natCast, Option.some.injEq, Option.isNone_some, Option.isNone_none, V.int.injEq, V.str.injEq, V.bool.injEq, V.ptr.injEq, V.slc.injEq, V.map.injEq, V.agg.injEq, V.tup.injEq, List.cons.injEq, Prod.mk.injEq, onS, true_and, and_true, and_assoc, exists_and_left, exists_eq_left', forall_eq, heq_eq_eq, reduceCtorEq, Bool.not_true, Bool.not_false, eq_self, not_false_eq_true, Nat.left_eq_add, Nat.add_eq_left, Nat.add_left_cancel_iff, Nat.add_right_cancel_iff, Nat.reduceEqDiff, Nat.one_ne_zero, Hp.get_set_self, Hp.get_set_ne, Hp.get_alloc_self, Hp.get_alloc_ne, Hp.get_alloc_at, Hp.get_set_at, Hp.set_next, Hp.alloc_next, Option.some_ne_none, V.tup.injEq, Option.isSome_some, Option.isSome_none, exists_eq_left, exists_eq, Nat.mul_zero, s3], rfl⟩, rfl, ⟨p0, p1, by simp (disch := (first | omega | (simp only [Hp.alloc_next, Hp.set_next] <;> omega) | (simp (disch := (first | omega | (simp only [Hp.alloc_next, Hp.set_next] <;> omega) | fail)) only [Hp.get_set_self, Hp.get_set_ne, Hp.get_alloc_self, Hp.get_alloc_ne, Hp.get_alloc_at, Hp.get_set_at, Hp.set_next, Hp.alloc_next, s3]; done) | fail)) only [Hp.st, Hp.ld, Hp.lda, splice, ble_eq', if_true, if_false, ite_true, ite_false, cond_true, cond_false, decide_true, decide_false, List.length_cons, List.length_nil, List.take_zero, List.take_succ_cons, List.nil_append, List.cons_append, List.append_nil, List.drop_succ_cons, List.drop_zero, List.drop_nil, List.getElem?_cons_succ, List.getElem?_cons_zero, Nat.reduceAdd, Nat.reduceLeDiff, Nat.reduceEqDiff, Nat.zero_add, Nat.add_zero, Nat.le_refl, Nat.zero_le, Nat.succ_ne_self, Nat.mul_one, Int.toNat_natCast, Option.some.injEq, Option.isNone_some, Option.isNone_none, V.int.injEq, V.str.injEq, V.bool.injEq, V.ptr.injEq, V.slc.injEq, V.map.injEq, V.agg.injEq, V.tup.injEq, List.cons.injEq, Prod.mk.injEq, onS, true_and, and_true, and_assoc, exists_and_left, exists_eq_left', forall_eq, heq_eq_eq, reduceCtorEq, Bool.not_true, Bool.not_false, eq_self, not_false_eq_true, Nat.left_eq_add, Nat.add_eq_left, Nat.add_left_cancel_iff, Nat.add_right_cancel_iff, Nat.reduceEqDiff, Nat.one_ne_zero, Hp.get_set_self, Hp.get_set_ne, Hp.get_alloc_self, Hp.get_alloc_ne, Hp.get_alloc_at, Hp.get_set_at, Hp.set_next, Hp.alloc_next, Option.some_ne_none, V.tup.injEq, Option.isSome_some, Option.isSome_none, exists_eq_left, exists_eq, Nat.mul_zero, s3], rfl⟩, rfl, _, Hp.st_of c3 (Nat.le_of_ble_eq_true rfl), ?_⟩
    obtain ⟨h4, e4⟩ : ∃ h4, h4 = h3.set h1.next (.row (splice [.int .u32 0, .int .u16 0] 0 [.int .u32 p0, .int .u16 p1]) 1 false) := ⟨_, rfl⟩
    have s4 : h4.get h.next = some (.row [.int .u32 p0, .int .u16 p1, .int .u32 p2, .int .u16 p3] 1 false) := by rw [e4, Hp.get_set_ne (by omega)]; exact s3
    have a4 : h4.get h1.next = some (.row [.int .u32 p0, .int .u16 p1] 1 false) := by rw [e4, Hp.get_set_self]; rfl
    have b4 : h4.get h2.next = some (.row [.int .u32 0, .int .u16 0] 1 false) := by rw [e4, Hp.get_set_ne (by omega)]; exact d3
    rw [← e4]
    clear e4
    refine ⟨⟨p2, p3, by simp (disch := (first | omega | (simp only [Hp.alloc_next, Hp.set_next] <;> omega) | (simp (disch := (first | omega | (simp only [Hp.alloc_next, Hp.set_next] <;> omega) | fail)) only [Hp.get_set_self, Hp.get_set_ne, Hp.get_alloc_self, Hp.get_alloc_ne, Hp.get_alloc_at, Hp.get_set_at, Hp.set_next, Hp.alloc_next, s4]; done) | fail)) only [Hp.st, Hp.ld, Hp.lda, splice, ble_eq', if_true, if_false, ite_true, ite_false, cond_true, cond_false, decide_true, decide_false, List.length_cons, List.length_nil, List.take_zero, List.take_succ_cons, List.nil_append, List.cons_append, List.append_nil, List.drop_succ_cons, List.drop_zero, List.drop_nil, List.getElem?_cons_succ, List.getElem?_cons_zero, Nat.reduceAdd, Nat.reduceLeDiff, Nat.reduceEqDiff, Nat.zero_add, Nat.add_zero, Nat.le_refl, Nat.zero_le, Nat.succ_ne_self, Nat.mul_one, Int.toNat_natCast, Option.some.injEq, Option.isNone_some, Option.isNone_none, V.int.injEq, V.str.injEq, V.bool.injEq, V.ptr.injEq, V.slc.injEq, V.map.injEq, V.agg.injEq, V.tup.injEq, List.cons.injEq, Prod.mk.injEq, onS, true_and, and_true, and_assoc, exists_and_left, exists_eq_left', forall_eq, heq_eq_eq, reduceCtorEq, Bool.not_true, Bool.not_false, eq_self, not_false_eq_true, Nat.left_eq_add, Nat.add_eq_left, Nat.add_left_cancel_iff, Nat.add_right_cancel_iff, Nat.reduceEqDiff, Nat.one_ne_zero, Hp.get_set_self, Hp.get_set_ne, Hp.get_alloc_self, Hp.get_alloc_ne, Hp.get_alloc_at, Hp.get_set_at, Hp.set_next, Hp.alloc_next, Option.some_ne_none, V.tup.injEq, Option.isSome_some, Option.isSome_none, exists_eq_left, exists_eq, Nat.mul_zero, s4], rfl⟩, rfl, _, Hp.st_of b4 (Nat.le_of_ble_eq_true rfl), ?_⟩
    obtain ⟨h5, e5⟩ : ∃ h5, h5 = h4.set h2.next (.row (splice [.int .u32 0, .int .u16 0] 0 [.int .u32 p2, .int .u16 p3]) 1 false) := ⟨_, rfl⟩
    have a5 : h5.get h1.next = some (.row [.int .u32 p0, .int .u16 p1] 1 false) := by rw [e5, Hp.get_set_ne (by omega)]; exact a4
    have b5 : h5.get h2.next = some (.row [.int .u32 p2, .int .u16 p3] 1 false) := by rw [e5, Hp.get_set_self]; rfl
    rw [← e5]
    clear e5
    obtain ⟨⟨l0, l1⟩, l2, l3⟩ := ends h5 _ _ a5 b5
    refine ⟨p0, l0, by decide, p0, l0, by decide, p0, l0, by decide, p0, l0, p2, l2, by decide, p2, l2, by decide, p2, l2, by decide, p2, l2, p1, l1, by decide, p1, l1, p3, l3, by decide, p3, l3, ?_⟩
    exact fin h5
  · rintro h2 rfl
    have s2 : (h1.alloc (.row [.int .u32 0, .int .u16 0] 1 false)).get h.next = some (.row [.int .u32 p0, .int .u16 p1, .int .u32 p2, .int .u16 p3] 1 false) := by rw [Hp.get_alloc_ne (by omega)]; exact g1
    have c2 : (h1.alloc (.row [.int .u32 0, .int .u16 0] 1 false)).get h1.next = some (.row [.int .u32 0, .int .u16 0] 1 false) := Hp.get_alloc_self
    have n2 : (h1.alloc (.row [.int .u32 0, .int .u16 0] 1 false)).next = h1.next + 1 := Hp.alloc_next _ _
    generalize h1.alloc (.row [.int .u32 0, .int .u16 0] 1 false) = h2 at *
    refine ⟨⟨p2, p3, by simp (disch := (first | omega | (simp only [Hp.alloc_next, Hp.set_next] <;> omega) | (simp (disch := (first | omega | (simp only [Hp.alloc_next, Hp.set_next] <;> omega) | fail)) only [Hp.get_set_self, Hp.get_set_ne, Hp.get_alloc_self, Hp.get_alloc_ne, Hp.get_alloc_at, Hp.get_set_at, Hp.set_next, Hp.alloc_next, s2]; done) | fail)) only [Hp.st, Hp.ld, Hp.lda, splice, ble_eq', if_true, if_false, ite_true, ite_false, cond_true, cond_false, decide_true, decide_false, List.length_cons, List.length_nil, List.take_zero, List.take_succ_cons, List.nil_append, List.cons_append, List.append_nil, List.drop_succ_cons, List.drop_zero, List.drop_nil, List.getElem?_cons_succ, List.getElem?_cons_zero, Nat.reduceAdd, Nat.reduceLeDiff, Nat.reduceEqDiff, Nat.zero_add, Nat.add_zero, Nat.le_refl, Nat.zero_le, Nat.succ_ne_self, Nat.mul_one, Int.toNat_natCast, Option.some.injEq, Option.isNone_some, Option.isNone_none, V.int.injEq, V.str.injEq, V.bool.injEq, V.ptr.injEq, V.slc.injEq, V.map.injEq, V.agg.injEq, V.tup.injEq, List.cons.injEq, Prod.mk.injEq, onS, true_and, and_true, and_assoc, exists_and_left, exists_eq_left', forall_eq, heq_eq_eq, reduceCtorEq, Bool.not_true, Bool.not_false, eq_self, not_false_eq_true, Nat.left_eq_add, Nat.add_eq_left, Nat.add_left_cancel_iff, Nat.add_right_cancel_iff, Nat.reduceEqDiff, Nat.one_ne_zero, Hp.get_set_self, Hp.get_set_ne, Hp.get_alloc_self, Hp.get_alloc_ne, Hp.get_alloc_at, Hp.get_set_at, Hp.set_next, Hp.alloc_next, Option.some_ne_none, V.tup.injEq, Option.isSome_some, Option.isSome_none, exists_eq_left, exists_eq, Nat.mul_zero, s2], rfl⟩, rfl, ⟨p0, p1, by simp (disch := (first | omega | (simp only [Hp.alloc_next, Hp.set_next] <;> omega) | (simp (disch := (first | omega | (simp only [Hp.alloc_next, Hp.set_next] <;> omega) | fail)) only [Hp.get_set_self, Hp.get_set_ne, Hp.get_alloc_self, Hp.get_alloc_ne, Hp.get_alloc_at, Hp.get_set_at, Hp.set_next, Hp.alloc_next, s2]; done) | fail)) only [Hp.st, Hp.ld, Hp.lda, splice, ble_eq', if_true, if_false, ite_true, ite_false, cond_true, cond_false, decide_true, decide_false, List.length_cons, List.length_nil, List.take_zero, List.take_succ_cons, List.nil_append, List.cons_append, List.append_nil, List.drop_succ_cons, List.drop_zero, List.drop_nil, List.getElem?_cons_succ, List.getElem?_cons_zero, Nat.reduceAdd, Nat.reduceLeDiff, Nat.reduceEqDiff, Nat.zero_add, Nat.add_zero, Nat.le_refl, Nat.zero_le, Nat.succ_ne_self, Nat.mul_one, Int.toNat_natCast, Option.some.injEq, Option.isNone_some, Option.isNone_none, V.int.injEq, V.str.injEq, V.bool.injEq, V.ptr.injEq, V.slc.injEq, V.map.injEq, V.agg.injEq, V.tup.injEq, List.cons.injEq, Prod.mk.injEq, onS, true_and, and_true, and_assoc, exists_and_left, exists_eq_left', forall_eq, heq_eq_eq, reduceCtorEq, Bool.not_true, Bool.not_false, eq_self, not_false_eq_true, Nat.left_eq_add, Nat.add_eq_left, Nat.add_left_cancel_iff, Nat.add_right_cancel_iff, Nat.reduceEqDiff, Nat.one_ne_zero, Hp.get_set_self, Hp.get_set_ne, Hp.get_alloc_self, Hp.get_alloc_ne, Hp.get_alloc_at, Hp.get_set_at, Hp.set_next, Hp.alloc_next, Option.some_ne_none, V.tup.injEq, Option.isSome_some, Option.isSome_none, exists_eq_left, exists_eq, Nat.mul_zero, s2], rfl⟩, rfl, ?_⟩
    rintro h3 rfl
    have s3 : (h2.alloc (.row [.int .u32 0, .int .u16 0] 1 false)).get h.next = some (.row [.int .u32 p0, .int .u16 p1, .int .u32 p2, .int .u16 p3] 1 false) := by rw [Hp.get_alloc_ne (by omega)]; exact s2
    have c3 : (h2.alloc (.row [.int .u32 0, .int .u16 0] 1 false)).get h1.next = some (.row [.int .u32 0, .int .u16 0] 1 false) := by rw [Hp.get_alloc_ne (by omega)]; exact c2
    have d3 : (h2.alloc (.row [.int .u32 0, .int .u16 0] 1 false)).get h2.next = some (.row [.int .u32 0, .int .u16 0] 1 false) := Hp.get_alloc_self
    generalize h2.alloc (.row [.int .u32 0, .int .u16 0] 1 false) = h3 at *
    refine ⟨⟨p2, p3, by simp (disch := (first | omega | (simp only [Hp.alloc_next, Hp.set_next] <;> omega) | (simp (disch := (first | omega | (simp only [Hp.alloc_next, Hp.set_next] <;> omega) | fail)) only [Hp.get_set_self, Hp.get_set_ne, Hp.get_alloc_self, Hp.get_alloc_ne, Hp.get_alloc_at, Hp.get_set_at, Hp.set_next, Hp.alloc_next, s3]; done) | fail)) only [Hp.st, Hp.ld, Hp.lda, splice, ble_eq', if_true, if_false, ite_true, ite_false, cond_true, cond_false, decide_true, decide_false, List.length_cons, List.length_nil, List.take_zero, List.take_succ_cons, List.nil_append, List.cons_append, List.append_nil, List.drop_succ_cons, List.drop_zero, List.drop_nil, List.getElem?_cons_succ, List.getElem?_cons_zero, Nat.reduceAdd, Nat.reduceLeDiff, Nat.reduceEqDiff, Nat.zero_add, Nat.add_zero, Nat.le_refl, Nat.zero_le, Nat.succ_ne_self, Nat.mul_one, Int.toNat_natCast, Option.some.injEq, Option.isNone_some, Option.isNone_none, V.int.injEq, V.str.injEq, V.bool.injEq, V.ptr.injEq, V.slc.injEq, V.map.injEq, V.agg.injEq, V.tup.injEq, List.cons.injEq, Prod.mk.injEq, onS, true_and, and_true, and_assoc, exists_and_left, exists_eq_left', forall_eq, heq_eq_eq, reduceCtorEq, Bool.not_true, Bool.not_false, eq_self, not_false_eq_true, Nat.left_eq_add, Nat.add_eq_left, Nat.add_left_cancel_iff, Nat.add_right_cancel_iff, Nat.reduceEqDiff, Nat.one_ne_zero, Hp.get_set_self, Hp.get_set_ne, Hp.get_alloc_self, Hp.get_alloc_ne, Hp.get_alloc_at, Hp.get_set_at, Hp.set_next, Hp.alloc_next, Option.some_ne_none, V.tup.injEq, Option.isSome_some, Option.isSome_none, exists_eq_left, exists_eq, Nat.mul_zero, s3], rfl⟩, rfl, ⟨p0, p1, by simp (disch := (first | omega | (simp only [Hp.alloc_next, Hp.set_next] <;> omega) | (simp (disch := (first | omega | (simp only [Hp.alloc_next, Hp.set_next] <;> omega) | fail)) only [Hp.get_set_self, Hp.get_set_ne, Hp.get_alloc_self, Hp.get_alloc_ne, Hp.get_alloc_at, Hp.get_set_at, Hp.set_next, Hp.alloc_next, s3]; done) | fail)) only [Hp.st, Hp.ld, Hp.lda, splice, ble_eq', if_true, if_false, ite_true, ite_false, cond_true, cond_false, decide_true, decide_false, List.length_cons, List.length_nil, List.take_zero, List.take_succ_cons, List.nil_append, List.cons_append, List.append_nil, List.drop_succ_cons, List.drop_zero, List.drop_nil, List.getElem?_cons_succ, List.getElem?_cons_zero, Nat.reduceAdd, Nat.reduceLeDiff, Nat.reduceEqDiff, Nat.zero_add, Nat.add_zero, Nat.le_refl, Nat.zero_le, Nat.succ_ne_self, Nat.mul_one, Int.toNat_natCast, Option.some.injEq, Option.isNone_some, Option.isNone_none, V.int.injEq, V.str.injEq, V.bool.injEq, V.ptr.injEq, V.slc.injEq, V.map.injEq, V.agg.injEq, V.tup.injEq, List.cons.injEq, Prod.mk.injEq, onS, true_and, and_true, and_assoc, exists_and_left, exists_eq_left', forall_eq, heq_eq_eq, reduceCtorEq, Bool.not_true, Bool.not_false, eq_self, not_false_eq_true, Nat.left_eq_add, Nat.add_eq_left, Nat.add_left_cancel_iff, Nat.add_right_cancel_iff, Nat.reduceEqDiff, Nat.one_ne_zero, Hp.get_set_self, Hp.get_set_ne, Hp.get_alloc_self, Hp.get_alloc_ne, Hp.get_alloc_at, Hp.get_set_at, Hp.set_next, Hp.alloc_next, Option.some_ne_none, V.tup.injEq, Option.isSome_some, Option.isSome_none, exists_eq_left, exists_eq, Nat.mul_zero, s3], rfl⟩, rfl, _, Hp.st_of d3 (Nat.le_of_ble_eq_true rfl), ?_⟩
    obtain ⟨h4, e4⟩ : ∃ h4, h4 = h3.set h2.next (.row (splice [.int .u32 0, .int .u16 0] 0 [.int .u32 p0, .int .u16 p1]) 1 false) := ⟨_, rfl⟩
    have s4 : h4.get h.next = some (.row [.int .u32 p0, .int .u16 p1, .int .u32 p2, .int .u16 p3] 1 false) := by rw [e4, Hp.get_set_ne (by omega)]; exact s3
    have a4 : h4.get h2.next = some (.row [.int .u32 p0, .int .u16 p1] 1 false) := by rw [e4, Hp.get_set_self]; rfl
    have b4 : h4.get h1.next = some (.row [.int .u32 0, .int .u16 0] 1 false) := by rw [e4, Hp.get_set_ne (by omega)]; exact c3
    rw [← e4]
    clear e4
    refine ⟨⟨p2, p3, by simp (disch := (first | omega | (simp only [Hp.alloc_next, Hp.set_next] <;> omega) | (simp (disch := (first | omega | (simp only [Hp.alloc_next, Hp.set_next] <;> omega) | fail)) only [Hp.get_set_self, Hp.get_set_ne, Hp.get_alloc_self, Hp.get_alloc_ne, Hp.get_alloc_at, Hp.get_set_at, Hp.set_next, Hp.alloc_next, s4]; done) | fail)) only [Hp.st, Hp.ld, Hp.lda, splice, ble_eq', if_true, if_false, ite_true, ite_false, cond_true, cond_false, decide_true, decide_false, List.length_cons, List.length_nil, List.take_zero, List.take_succ_cons, List.nil_append, List.cons_append, List.append_nil, List.drop_succ_cons, List.drop_zero, List.drop_nil, List.getElem?_cons_succ, List.getElem?_cons_zero, Nat.reduceAdd, Nat.reduceLeDiff, Nat.reduceEqDiff, Nat.zero_add, Nat.add_zero, Nat.le_refl, Nat.zero_le, Nat.succ_ne_self, Nat.mul_one, Int.toNat_natCast, Option.some.injEq, Option.isNone_some, Option.isNone_none, V.int.injEq, V.str.injEq, V.bool.injEq, V.ptr.injEq, V.slc.injEq, V.map.injEq, V.agg.injEq, V.tup.injEq, List.cons.injEq, Prod.mk.injEq, onS, true_and, and_true, and_assoc, exists_and_left, exists_eq_left', forall_eq, heq_eq_eq, reduceCtorEq, Bool.not_true, Bool.not_false, eq_self, not_false_eq_true, Nat.left_eq_add, Nat.add_eq_left, Nat.add_left_cancel_iff, Nat.add_right_cancel_iff, Nat.reduceEqDiff, Nat.one_ne_zero, Hp.get_set_self, Hp.get_set_ne, Hp.get_alloc_self, Hp.get_alloc_ne, Hp.get_alloc_at, Hp.get_set_at, Hp.set_next, Hp.alloc_next, Option.some_ne_none, V.tup.injEq, Option.isSome_some, Option.isSome_none, exists_eq_left, exists_eq, Nat.mul_zero, s4], rfl⟩, rfl, _, Hp.st_of b4 (Nat.le_of_ble_eq_true rfl), ?_⟩
    obtain ⟨h5, e5⟩ : ∃ h5, h5 = h4.set h1.next (.row (splice [.int .u32 0, .int .u16 0] 0 [.int .u32 p2, .int .u16 p3]) 1 false) := ⟨_, rfl⟩
    have a5 : h5.get h2.next = some (.row [.int .u32 p0, .int .u16 p1] 1 false) := by rw [e5, Hp.get_set_ne (by omega)]; exact a4
    have b5 : h5.get h1.next = some (.row [.int .u32 p2, .int .u16 p3] 1 false) := by rw [e5, Hp.get_set_self]; rfl
    rw [← e5]
    clear e5
    obtain ⟨⟨l0, l1⟩, l2, l3⟩ := ends h5 _ _ a5 b5
    refine ⟨p0, l0, by decide, p0, l0, by decide, p0, l0, by decide, p0, l0, p2, l2, by decide, p2, l2, by decide, p2, l2, by decide, p2, l2, p1, l1, by decide, p1, l1, p3, l3, by decide, p3, l3, ?_⟩
    exact fin h5

theorem text_aside37 {h : Hp} (p0 p1 p2 p3 : Int) : XCalls Try.prog 37 [.agg [.int .u32 p0, .int .u16 p1, .int .u32 p2, .int .u16 p3]] h fun v h' => v = .str (textOf p0 p1 p2 p3) ∧ h' = h :=
  XCalls.aside rfl (fun v hv => by subst hv; rfl) (text37 p0 p1 p2 p3)

/-! ### bits -/

def shR (k : Nat) : Nat := (IntKind.u64.wrap (IntKind.i64.wrap (7 - (k : Int).tmod 8))).toNat
def bitB (b : UInt8) (k : Nat) : Int := bits .and .u32 (IntKind.u32.wrap ((b.toNat : Int).fdiv (2 ^ min (shV k) IntKind.u8.bits))) 1

theorem sh_eq (k : Nat) : shR k = shV k ∧ shV k = 7 - k % 8 := by
  have h1 : (k : Int).tmod 8 = ((k % 8 : Nat) : Int) := by rw [Int.tmod_eq_emod_of_nonneg (by omega)]; omega
  have h2 : IntKind.i64.wrap (7 - ((k % 8 : Nat) : Int)) = 7 - ((k % 8 : Nat) : Int) := wr (by omega) (by omega)
  have h3 : IntKind.u64.wrap (7 - ((k % 8 : Nat) : Int)) = 7 - ((k % 8 : Nat) : Int) := by rw [wrap_of]; simp [IntKind.min, IntKind.max, IntKind.signed, IntKind.bits]; omega
  unfold shR shV
  rw [h1, h2, h3]
  exact ⟨rfl, by omega⟩

theorem bit_spec {h : Hp} (s : List UInt8) (i : Nat) {b : UInt8} (hb : s[i / 8]? = some b) (hi : i < 1000000) : XCalls Try.prog 48 [.str s, .int .i64 i] h fun v h' => v = .int .u32 (bitB b i) ∧ h' = h := by
  refine XCalls.cps fun K hK => ?_
  apply x48; unfold X48
  have h1 : (i : Int).tdiv 8 = ((i / 8 : Nat) : Int) := by rw [Int.tdiv_eq_ediv_of_nonneg (by omega)]; omega
  have h2 : IntKind.i64.wrap ((i / 8 : Nat) : Int) = ((i / 8 : Nat) : Int) := wr (by omega) (by omega)
  have h0 : 0 ≤ IntKind.u64.wrap (IntKind.i64.wrap (7 - (i : Int).tmod 8)) := by
    simp only [IntKind.wrap, IntKind.bits, IntKind.signed]
    exact Int.emod_nonneg _ (by decide)
  rw [h1, h2]
  refine ⟨by decide, by omega, b, by rw [Int.toNat_natCast]; exact hb, by decide, by omega, hK _ _ ⟨?_, rfl⟩⟩
  show V.int .u32 (bits .and .u32 (IntKind.u32.wrap ((b.toNat : Int).fdiv (2 ^ min (shR i) IntKind.u8.bits))) 1) = _
  rw [(sh_eq i).1]; rfl

/-- a bit is there just if the program's is -/
theorem bit_same (b : UInt8) (k : Nat) : (bitB b k == 0) = !(bitV b k == 1) := by
  have hall : ∀ (n : Fin 256) (j : Fin 8), (bits .and .u32 (IntKind.u32.wrap ((n.val : Int).fdiv (2 ^ min (7 - j.val) IntKind.u8.bits))) 1 == 0) = !(bits .and .u8 ((n.val : Int).fdiv (2 ^ min (7 - j.val) IntKind.u8.bits)) 1 == 1) := by decide +kernel
  unfold bitB bitV
  rw [(sh_eq k).2]
  exact hall ⟨b.toNat, b.toNat_lt⟩ ⟨k % 8, by omega⟩

/-- the window at place i, its first c bits -/
def winR (i : Nat) : Nat → Int
  | 0 => 0
  | c + 1 => bits .or .u32 (IntKind.u32.wrap (winR i c * 2 ^ min (Int.toNat 1) IntKind.u32.bits)) (bitB ((Tbl.keyOf[(i + c) / 8]?).getD 0) (i + c))

theorem win_same : ∀ i, i < 96 → winR i 32 = winI i := by
  have h : (List.range 96).all (fun i => winR i 32 == winI i) = true := by decide +kernel
  intro i hi
  have := List.all_eq_true.1 h i (List.mem_range.2 hi)
  simpa using this

theorem hash36 {h : Hp} {t : List UInt8} (ht : t.length = 12) : XCalls Try.prog 36 [.str Tbl.keyOf, .str t] h fun v h' => v = .int .u32 (hashI t 96) ∧ h' = h := by
  refine XCalls.cps fun K hK => ?_
  apply x36; unfold X36
  have e96 : IntKind.i64.wrap (8 * (t.length : Int)) = 96 := by rw [ht]; rfl
  refine ⟨fun vs g => match vs with
    | [.int _ x, .int _ i] => ∃ k : Nat, i = k ∧ k ≤ 96 ∧ x = hashI t k ∧ g = h
    | _ => False, fun vs _ => match vs with
    | [.int _ _, .int _ i] => 96 - i.toNat
    | _ => 0, ⟨rfl, 0, rfl, by omega, rfl, rfl⟩, ?_⟩
  rintro bs x i g ⟨k, rfl, hk, rfl, hg⟩
  rw [hg, e96]
  cases hi : ltI (↑k) 96 with
  | false =>
    rw [ltI_eq, decide_eq_false_iff_not] at hi
    obtain rfl : k = 96 := by omega
    exact hK _ _ ⟨rfl, rfl⟩
  | true =>
  rw [ltI_eq, decide_eq_true_eq] at hi
  obtain ⟨b, hb⟩ : ∃ b, t[k / 8]? = some b := ⟨_, List.getElem?_eq_getElem (by omega)⟩
  have hwk : IntKind.i64.wrap ((k : Int) + 1) = ((k + 1 : Nat) : Int) := by rw [wr (by omega) (by omega)]; rfl
  have ms : 96 - ((k + 1 : Nat) : Int).toNat < 96 - (k : Int).toNat := by omega
  have hh : hashI t (k + 1) = bif bitV ((t[k / 8]?).getD 0) k == 1 then xorI (hashI t k) (winI k) else hashI t k := rfl
  rw [hb] at hh
  refine (bit_spec t k hb (by omega)).mono ?_
  rintro _ _ ⟨rfl, rfl⟩
  rename_i h
  refine ⟨_, rfl, ?_⟩
  rw [bit_same b k, hwk]
  cases hc : bitV b k == 1 with
  | false =>
    simp only [Option.getD_some, hc, cond_false] at hh
    exact ⟨rfl, ⟨k + 1, rfl, by omega, hh.symm, rfl⟩, ms⟩
  | true =>
    simp only [Option.getD_some, hc, cond_true] at hh
    refine ⟨fun vs g => match vs with
      | [.int _ w, .int _ c] => ∃ c' : Nat, c = c' ∧ c' ≤ 32 ∧ w = winR k c' ∧ g = h
      | _ => False, fun vs _ => match vs with
      | [.int _ _, .int _ c] => 32 - c.toNat
      | _ => 0, ⟨rfl, 0, rfl, by omega, rfl, rfl⟩, ?_⟩
    rintro bs2 w c g2 ⟨c, rfl, hc32, rfl, hg2⟩
    rw [hg2]
    cases hci : ltI (↑c) 32 with
    | true =>
      rw [ltI_eq, decide_eq_true_eq] at hci
      have hwc : IntKind.i64.wrap ((k : Int) + c) = ((k + c : Nat) : Int) := by rw [wr (by omega) (by omega)]; push_cast; rfl
      have hwc1 : IntKind.i64.wrap ((c : Int) + 1) = ((c + 1 : Nat) : Int) := by rw [wr (by omega) (by omega)]; rfl
      have hkl : Tbl.keyOf.length = 40 := rfl
      obtain ⟨d, hd⟩ : ∃ d, Tbl.keyOf[(k + c) / 8]? = some d := ⟨_, List.getElem?_eq_getElem (by omega)⟩
      rw [hwc, hwc1]
      refine ⟨by decide, ?_⟩
      refine (bit_spec Tbl.keyOf (k + c) hd (by omega)).mono ?_
      rintro _ _ ⟨rfl, rfl⟩
      rename_i h
      refine ⟨_, rfl, rfl, ⟨c + 1, rfl, by omega, ?_, rfl⟩, by show 32 - ((c + 1 : Nat) : Int).toNat < 32 - (c : Int).toNat; omega⟩
      show _ = bits .or .u32 (IntKind.u32.wrap (winR k c * 2 ^ min (Int.toNat 1) IntKind.u32.bits)) (bitB ((Tbl.keyOf[(k + c) / 8]?).getD 0) (k + c))
      rw [hd]; rfl
    | false =>
      rw [ltI_eq, decide_eq_false_iff_not] at hci
      obtain rfl : c = 32 := by omega
      refine ⟨rfl, ⟨k + 1, rfl, by omega, ?_, rfl⟩, ms⟩
      rw [hh, win_same k (by omega)]; rfl

theorem shard26 {h : Hp} (hw : h.wf) (p : Pr) : XCalls Try.prog 26 [p.v] h fun v h' => v = .int .i64 (shard p) ∧ Quiet h h' := by
  refine XCalls.cps fun K hK => ?_
  apply x26; unfold X26
  rintro h1 rfl
  have q1 := Quiet.alloc hw (.row [.int .u32 p.a, .int .u16 p.b, .int .u32 p.c, .int .u16 p.d] 1 false)
  have g1 : (h.alloc (.row [.int .u32 p.a, .int .u16 p.b, .int .u32 p.c, .int .u16 p.d] 1 false)).get h.next = some (.row [.int .u32 p.a, .int .u16 p.b, .int .u32 p.c, .int .u16 p.d] 1 false) := Hp.get_alloc_self
  generalize h.alloc (.row [.int .u32 p.a, .int .u16 p.b, .int .u32 p.c, .int .u16 p.d] 1 false) = h1 at *
  have hl1 : h.next < h1.next := q1.wf _ _ g1
  refine ⟨fun vs g => match vs with
    | [.slc x m f, .int _ i] => ∃ (k : Nat) (G : List Nat), i = k ∧ k ≤ 20 ∧ m = 2 * k ∧ Own 1 x (2 * k) (bRows (Tbl.keyOf.take (2 * k))) g G ∧ Quiet h1 g ∧ ∀ j ∈ G, h1.next ≤ j
    | _ => False, fun vs _ => match vs with
    | [.slc _ _ _, .int _ i] => 20 - i.toNat
    | _ => 0, ⟨rfl, 0, [], rfl, by omega, rfl, Own.nil _ _, Quiet.refl q1.wf, by simp⟩, ?_⟩
  rintro bs x m f i g ⟨k, G, rfl, hk, rfl, o, q, hG⟩
  cases hi : ltI (↑k) 20 with
  | true =>
    rw [ltI_eq, decide_eq_true_eq] at hi
    have hwk : IntKind.i64.wrap ((k : Int) + 1) = ((k + 1 : Nat) : Int) := by rw [wr (by omega) (by omega)]; rfl
    have hle := q.le
    rintro h2 rfl
    obtain ⟨h3, hx, o3, s3, l3, w3⟩ := app84 (f := f) (t := [109, 90]) (m := 2) o q.wf (by omega) ⟨by decide, by decide⟩ (c := [.int .u8 109, .int .u8 90]) rfl rfl
    have hkey : Tbl.keyOf.take (2 * k) ++ [109, 90] = Tbl.keyOf.take (2 * (k + 1)) := by
      have : ∀ k : Fin 20, Tbl.keyOf.take (2 * k.val) ++ [109, 90] = Tbl.keyOf.take (2 * (k.val + 1)) := by decide +kernel
      exact this ⟨k, by omega⟩
    rw [hkey] at o3
    rw [hwk]
    have o3' : Own 1 (some (g.next + 1, 0)) (2 * (k + 1)) (bRows (Tbl.keyOf.take (2 * (k + 1)))) h3 [g.next + 1] := by
      have e : 2 * (k + 1) = 2 * k + 2 := by omega
      rw [e] at o3 ⊢; exact o3
    refine ⟨_, _, _, h3, hx, rfl, ⟨k + 1, [g.next + 1], rfl, by omega, by omega, o3', ⟨fun j hj => by rw [s3 j (by omega) (fun hh => by have := hG j hh; omega)]; exact q.same j hj, by omega, w3⟩, fun j hj => by rw [List.mem_singleton] at hj; omega⟩, by show 20 - ((k + 1 : Nat) : Int).toNat < 20 - (k : Int).toNat; omega⟩
  | false =>
    rw [ltI_eq, decide_eq_false_iff_not] at hi
    obtain rfl : k = 20 := by omega
    have ek : Tbl.keyOf.take (2 * 20) = Tbl.keyOf := rfl
    rw [ek] at o
    have hcv := own_conv (f := f) o
    have gg : g.get h.next = some (.row [.int .u32 p.a, .int .u16 p.b, .int .u32 p.c, .int .u16 p.d] 1 false) := by rw [q.same _ hl1]; exact g1
    refine ⟨Tbl.keyOf, hcv, p.a, p.b, p.c, p.d, by simp (disch := (first | omega | (simp only [Hp.alloc_next, Hp.set_next] <;> omega) | (simp (disch := (first | omega | (simp only [Hp.alloc_next, Hp.set_next] <;> omega) | fail)) only [Hp.get_set_self, Hp.get_set_ne, Hp.get_alloc_self, Hp.get_alloc_ne, Hp.get_alloc_at, Hp.get_set_at, Hp.set_next, Hp.alloc_next, gg]; done) | fail)) only [Hp.st, Hp.ld, Hp.lda, splice, ble_eq', if_true, if_false, ite_true, ite_false, cond_true, cond_false, decide_true, decide_false, List.length_cons, List.length_nil, List.take_zero, List.take_succ_cons, List.nil_append, List.cons_append, List.append_nil, List.drop_succ_cons, List.drop_zero, List.drop_nil, List.getElem?_cons_succ, List.getElem?_cons_zero, Nat.reduceAdd, Nat.reduceLeDiff, Nat.reduceEqDiff, Nat.zero_add, Nat.add_zero, Nat.le_refl, Nat.zero_le, Nat.succ_ne_self, Nat.mul_one, Int.toNat_natCast, Option.some.injEq, Option.isNone_some, Option.isNone_none, V.int.injEq, V.str.injEq, V.bool.injEq, V.ptr.injEq, V.slc.injEq, V.map.injEq, V.agg.injEq, V.tup.injEq, List.cons.injEq, Prod.mk.injEq, onS, true_and, and_true, and_assoc, exists_and_left, exists_eq_left', forall_eq, heq_eq_eq, reduceCtorEq, Bool.not_true, Bool.not_false, eq_self, not_false_eq_true, Nat.left_eq_add, Nat.add_eq_left, Nat.add_left_cancel_iff, Nat.add_right_cancel_iff, Nat.reduceEqDiff, Nat.one_ne_zero, Hp.get_set_self, Hp.get_set_ne, Hp.get_alloc_self, Hp.get_alloc_ne, Hp.get_alloc_at, Hp.get_set_at, Hp.set_next, Hp.alloc_next, Option.some_ne_none, V.tup.injEq, Option.isSome_some, Option.isSome_none, exists_eq_left, exists_eq, Nat.mul_zero, gg], ?_⟩
    refine (text_aside37 p.a p.b p.c p.d).mono ?_
    rintro _ _ ⟨rfl, rfl⟩
    rename_i g
    refine ⟨_, rfl, ⟨Tbl.keyOf, hcv, rfl⟩, rfl, ?_⟩
    refine (hash36 (by simp [textOf, ipB, ptB])).mono ?_
    rintro _ _ ⟨rfl, rfl⟩
    refine ⟨_, rfl, by decide, hK _ _ ⟨?_, q1.trans q⟩⟩
    have hr := hash_range (textOf p.a p.b p.c p.d) 96
    have e1 : (hashI (textOf p.a p.b p.c p.d) 96).tmod 8 = hashI (textOf p.a p.b p.c p.d) 96 % 8 := Int.tmod_eq_emod_of_nonneg hr.1
    rw [e1, wr (by omega) (by omega)]
    show V.int .i64 _ = V.int .i64 (((hashI (textOf p.a p.b p.c p.d) 96 % 8).toNat : Nat) : Int)
    congr 1; omega
end Go.Vex.TRef
