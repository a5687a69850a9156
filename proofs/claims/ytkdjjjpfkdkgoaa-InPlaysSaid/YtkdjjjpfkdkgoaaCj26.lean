/-
  Exact contracts of takes, joins and Put (layer 26).
-/
import Derived.Test.YtkdjjjpfkdkgoaaVexGG
import Derived.Test.YtkdjjjpfkdkgoaaTab26
import Derived.Test.YtkdjjjpfkdkgoaaXa26
import Derived.Test.YtkdjjjpfkdkgoaaCa26
import Derived.Test.YtkdjjjpfkdkgoaaXg26
import Derived.Test.YtkdjjjpfkdkgoaaCg26
import Derived.Test.YtkdjjjpfkdkgoaaCi26
set_option linter.unusedVariables false
set_option linter.unusedSimpArgs false
namespace Go.Vex.In
open Go.Proofs

theorem jstepG {s : IS} {hh : Hp} {i : Nat} {F : List Nat} {c : Int} {b : UInt8} {K' : Hp → Prop} (hcb : c = b.toNat) (hlen : s.rd.length ≤ 100000) (hw : hh.wf) (r : InR i s hh F)
    (hK : ∀ h' F', InR i ⟨(s.nx + 1) % 4294967296, s.rd ++ [b], mdel s.A s.nx, s.rows, s.most, s.fin, s.en⟩ h' F' → Upd hh h' F F' → h'.wf → K' h') :
    ∃ (r2 : Option Nat), hh.ld i (2 : Nat) = some (V.map r2) ∧ ∃ (n4 : Int), hh.ld i (0 : Nat) = some (V.int IntKind.u32 n4) ∧ ∃ (h'2 : Hp), xdel T hh (73 : Nat) (V.map r2) (V.int IntKind.u32 n4) = some h'2 ∧ ∃ (a1 : Option (Nat × Nat)), ∃ (n5 : Nat), ∃ (f1 : Bool), h'2.ld i (1 : Nat) = some (V.slc a1 n5 f1) ∧ ∃ (n6 : Int), h'2.ld i (0 : Nat) = some (V.int IntKind.u32 n6) ∧ ∀ (h'3 : Hp), h'3 = h'2.alloc (O.row [V.int IntKind.u8 c] (1 : Nat) false) → V.int IntKind.u32 (IntKind.u32.wrap (n6 + (1 : Int))) = V.int IntKind.u32 (IntKind.u32.wrap (n6 + (1 : Int))) ∧ (∃ (n7 : Int), h'3.ld i (0 : Nat) = some (V.int IntKind.u32 n7) ∧ V.int IntKind.u32 n7 = V.int IntKind.u32 n6) ∧ V.ptr (some (i, (0 : Nat))) = V.ptr (some (i, (0 : Nat))) ∧ V.ptr (some (i, (0 : Nat))) = V.ptr (some (i, (0 : Nat))) ∧ V.ptr (some (i, (0 : Nat))) = V.ptr (some (i, (0 : Nat))) ∧ (∃ (a2 : Option (Nat × Nat)), ∃ (n8 : Nat), ∃ (f2 : Bool), h'3.ld i (1 : Nat) = some (V.slc a2 n8 f2) ∧ V.slc a2 n8 f2 = V.slc a1 n5 f1) ∧ V.ptr (some (i, (1 : Nat))) = V.ptr (some (i, (1 : Nat))) ∧ V.ptr (some (i, (0 : Nat))) = V.ptr (some (i, (0 : Nat))) ∧ V.ptr (some (i, (0 : Nat))) = V.ptr (some (i, (0 : Nat))) ∧ V.ptr (some (i, (0 : Nat))) = V.ptr (some (i, (0 : Nat))) ∧ V.ptr (some (i, (0 : Nat))) = V.ptr (some (i, (0 : Nat))) ∧ ∃ (p1 : Option (Nat × Nat)), ∃ (n9 : Nat), ∃ (f3 : Bool), ∃ (h'4 : Hp), xapp T h'3 (68 : Nat) (68 : Nat) (V.slc a1 n5 f1) (V.slc (some (h'2.next, (0 : Nat))) (1 : Nat) true) = some (V.slc p1 n9 f3, h'4) ∧ V.int IntKind.u32 (IntKind.u32.wrap (n6 + (1 : Int))) = V.int IntKind.u32 (IntKind.u32.wrap (n6 + (1 : Int))) ∧ (∃ (n10 : Int), h'4.ld i (0 : Nat) = some (V.int IntKind.u32 n10) ∧ V.int IntKind.u32 n10 = V.int IntKind.u32 n6) ∧ V.ptr (some (i, (0 : Nat))) = V.ptr (some (i, (0 : Nat))) ∧ V.ptr (some (i, (0 : Nat))) = V.ptr (some (i, (0 : Nat))) ∧ V.ptr (some (i, (0 : Nat))) = V.ptr (some (i, (0 : Nat))) ∧ V.ptr (some (i, (0 : Nat))) = V.ptr (some (i, (0 : Nat))) ∧ V.ptr (some (i, (0 : Nat))) = V.ptr (some (i, (0 : Nat))) ∧ ∃ (h'5 : Hp), h'4.st i (1 : Nat) [V.slc p1 n9 f3] = some h'5 ∧ V.int IntKind.u32 (IntKind.u32.wrap (n6 + (1 : Int))) = V.int IntKind.u32 (IntKind.u32.wrap (n6 + (1 : Int))) ∧ V.ptr (some (i, (0 : Nat))) = V.ptr (some (i, (0 : Nat))) ∧ ∃ (h'6 : Hp), h'5.st i (0 : Nat) [V.int IntKind.u32 (IntKind.u32.wrap (n6 + (1 : Int)))] = some h'6 ∧ K' h'6 := by
  obtain ⟨m, a, f, o, G, e1, e2, e3, e4, hF, d1, d2, d3⟩ := r
  have hil := hw.lt e1
  have hml := hw.lt e2
  have hGl : ∀ x ∈ G, x < hh.next := fun x hx => (Own.rep _ _ _ _).lt hw e4 hx
  obtain ⟨o', ho', hdel⟩ := e3.del mtF s.nx
  have w2 : (hh.set m o').wf := hw.set hml
  have i2 : (hh.set m o').get i = some (.row [.int .u32 s.nx, .slc a s.rd.length f, .map (some m), .int .i64 s.rows, .int .i64 s.most, .bool s.fin, .int .u32 s.en] 1 false) := by rw [Hp.get_set_ne d1]; exact e1
  have ow2 : Own 1 a s.rd.length (bRows s.rd) (hh.set m o') G := (Own.rep _ _ _ _).loc _ _ _ (fun x hx => Hp.get_set_ne fun e => d3 (e ▸ hx)) e4
  have hn2 : (hh.set m o').next = hh.next := rfl
  have m2 : (hh.set m o').get m = some o' := Hp.get_set_self
  refine ⟨some m, by simp (disch := (first | omega | (simp only [Hp.alloc_next, Hp.set_next] <;> omega) | (simp (disch := (first | omega | (simp only [Hp.alloc_next, Hp.set_next] <;> omega) | fail)) only [Hp.get_set_self, Hp.get_set_ne, Hp.get_alloc_self, Hp.get_alloc_ne, Hp.get_alloc_at, Hp.get_set_at, Hp.set_next, Hp.alloc_next, e1]; done) | fail)) only [Hp.st, Hp.ld, Hp.lda, splice, ble_eq', if_true, if_false, ite_true, ite_false, cond_true, cond_false, decide_true, decide_false, List.length_cons, List.length_nil, List.take_zero, List.take_succ_cons, List.nil_append, List.cons_append, List.append_nil, List.drop_succ_cons, List.drop_zero, List.drop_nil, List.getElem?_cons_succ, List.getElem?_cons_zero, Nat.reduceAdd, Nat.reduceLeDiff, Nat.reduceEqDiff, Nat.zero_add, Nat.add_zero, Nat.le_refl, Nat.zero_le, Nat.succ_ne_self, Nat.mul_one, Int.toNat_natCast, Option.some.injEq, Option.isNone_some, Option.isNone_none, V.int.injEq, V.str.injEq, V.bool.injEq, V.ptr.injEq, V.slc.injEq, V.map.injEq, V.agg.injEq, V.tup.injEq, List.cons.injEq, Prod.mk.injEq, onS, true_and, and_true, and_assoc, exists_and_left, exists_eq_left', forall_eq, heq_eq_eq, reduceCtorEq, Bool.not_true, Bool.not_false, eq_self, not_false_eq_true, Nat.left_eq_add, Nat.add_eq_left, Nat.add_left_cancel_iff, Nat.add_right_cancel_iff, Nat.reduceEqDiff, Nat.one_ne_zero, Hp.get_set_self, Hp.get_set_ne, Hp.get_alloc_self, Hp.get_alloc_ne, Hp.get_alloc_at, Hp.get_set_at, Hp.set_next, Hp.alloc_next, Option.some_ne_none, V.tup.injEq, Option.isSome_some, Option.isSome_none, exists_eq_left, exists_eq, Nat.mul_zero, e1], s.nx, by simp (disch := (first | omega | (simp only [Hp.alloc_next, Hp.set_next] <;> omega) | (simp (disch := (first | omega | (simp only [Hp.alloc_next, Hp.set_next] <;> omega) | fail)) only [Hp.get_set_self, Hp.get_set_ne, Hp.get_alloc_self, Hp.get_alloc_ne, Hp.get_alloc_at, Hp.get_set_at, Hp.set_next, Hp.alloc_next, e1]; done) | fail)) only [Hp.st, Hp.ld, Hp.lda, splice, ble_eq', if_true, if_false, ite_true, ite_false, cond_true, cond_false, decide_true, decide_false, List.length_cons, List.length_nil, List.take_zero, List.take_succ_cons, List.nil_append, List.cons_append, List.append_nil, List.drop_succ_cons, List.drop_zero, List.drop_nil, List.getElem?_cons_succ, List.getElem?_cons_zero, Nat.reduceAdd, Nat.reduceLeDiff, Nat.reduceEqDiff, Nat.zero_add, Nat.add_zero, Nat.le_refl, Nat.zero_le, Nat.succ_ne_self, Nat.mul_one, Int.toNat_natCast, Option.some.injEq, Option.isNone_some, Option.isNone_none, V.int.injEq, V.str.injEq, V.bool.injEq, V.ptr.injEq, V.slc.injEq, V.map.injEq, V.agg.injEq, V.tup.injEq, List.cons.injEq, Prod.mk.injEq, onS, true_and, and_true, and_assoc, exists_and_left, exists_eq_left', forall_eq, heq_eq_eq, reduceCtorEq, Bool.not_true, Bool.not_false, eq_self, not_false_eq_true, Nat.left_eq_add, Nat.add_eq_left, Nat.add_left_cancel_iff, Nat.add_right_cancel_iff, Nat.reduceEqDiff, Nat.one_ne_zero, Hp.get_set_self, Hp.get_set_ne, Hp.get_alloc_self, Hp.get_alloc_ne, Hp.get_alloc_at, Hp.get_set_at, Hp.set_next, Hp.alloc_next, Option.some_ne_none, V.tup.injEq, Option.isSome_some, Option.isSome_none, exists_eq_left, exists_eq, Nat.mul_zero, e1], _, hdel _ _ e2, a, s.rd.length, f, by simp (disch := (first | omega | (simp only [Hp.alloc_next, Hp.set_next] <;> omega) | (simp (disch := (first | omega | (simp only [Hp.alloc_next, Hp.set_next] <;> omega) | fail)) only [Hp.get_set_self, Hp.get_set_ne, Hp.get_alloc_self, Hp.get_alloc_ne, Hp.get_alloc_at, Hp.get_set_at, Hp.set_next, Hp.alloc_next, i2]; done) | fail)) only [Hp.st, Hp.ld, Hp.lda, splice, ble_eq', if_true, if_false, ite_true, ite_false, cond_true, cond_false, decide_true, decide_false, List.length_cons, List.length_nil, List.take_zero, List.take_succ_cons, List.nil_append, List.cons_append, List.append_nil, List.drop_succ_cons, List.drop_zero, List.drop_nil, List.getElem?_cons_succ, List.getElem?_cons_zero, Nat.reduceAdd, Nat.reduceLeDiff, Nat.reduceEqDiff, Nat.zero_add, Nat.add_zero, Nat.le_refl, Nat.zero_le, Nat.succ_ne_self, Nat.mul_one, Int.toNat_natCast, Option.some.injEq, Option.isNone_some, Option.isNone_none, V.int.injEq, V.str.injEq, V.bool.injEq, V.ptr.injEq, V.slc.injEq, V.map.injEq, V.agg.injEq, V.tup.injEq, List.cons.injEq, Prod.mk.injEq, onS, true_and, and_true, and_assoc, exists_and_left, exists_eq_left', forall_eq, heq_eq_eq, reduceCtorEq, Bool.not_true, Bool.not_false, eq_self, not_false_eq_true, Nat.left_eq_add, Nat.add_eq_left, Nat.add_left_cancel_iff, Nat.add_right_cancel_iff, Nat.reduceEqDiff, Nat.one_ne_zero, Hp.get_set_self, Hp.get_set_ne, Hp.get_alloc_self, Hp.get_alloc_ne, Hp.get_alloc_at, Hp.get_set_at, Hp.set_next, Hp.alloc_next, Option.some_ne_none, V.tup.injEq, Option.isSome_some, Option.isSome_none, exists_eq_left, exists_eq, Nat.mul_zero, i2], s.nx, by simp (disch := (first | omega | (simp only [Hp.alloc_next, Hp.set_next] <;> omega) | (simp (disch := (first | omega | (simp only [Hp.alloc_next, Hp.set_next] <;> omega) | fail)) only [Hp.get_set_self, Hp.get_set_ne, Hp.get_alloc_self, Hp.get_alloc_ne, Hp.get_alloc_at, Hp.get_set_at, Hp.set_next, Hp.alloc_next, i2]; done) | fail)) only [Hp.st, Hp.ld, Hp.lda, splice, ble_eq', if_true, if_false, ite_true, ite_false, cond_true, cond_false, decide_true, decide_false, List.length_cons, List.length_nil, List.take_zero, List.take_succ_cons, List.nil_append, List.cons_append, List.append_nil, List.drop_succ_cons, List.drop_zero, List.drop_nil, List.getElem?_cons_succ, List.getElem?_cons_zero, Nat.reduceAdd, Nat.reduceLeDiff, Nat.reduceEqDiff, Nat.zero_add, Nat.add_zero, Nat.le_refl, Nat.zero_le, Nat.succ_ne_self, Nat.mul_one, Int.toNat_natCast, Option.some.injEq, Option.isNone_some, Option.isNone_none, V.int.injEq, V.str.injEq, V.bool.injEq, V.ptr.injEq, V.slc.injEq, V.map.injEq, V.agg.injEq, V.tup.injEq, List.cons.injEq, Prod.mk.injEq, onS, true_and, and_true, and_assoc, exists_and_left, exists_eq_left', forall_eq, heq_eq_eq, reduceCtorEq, Bool.not_true, Bool.not_false, eq_self, not_false_eq_true, Nat.left_eq_add, Nat.add_eq_left, Nat.add_left_cancel_iff, Nat.add_right_cancel_iff, Nat.reduceEqDiff, Nat.one_ne_zero, Hp.get_set_self, Hp.get_set_ne, Hp.get_alloc_self, Hp.get_alloc_ne, Hp.get_alloc_at, Hp.get_set_at, Hp.set_next, Hp.alloc_next, Option.some_ne_none, V.tup.injEq, Option.isSome_some, Option.isSome_none, exists_eq_left, exists_eq, Nat.mul_zero, i2], ?_⟩
  have s2 : ∀ x, x ≠ m → (hh.set m o').get x = hh.get x := fun x hx => Hp.get_set_ne hx
  generalize hh.set m o' = h2 at *
  rintro h3 rfl
  subst hcb
  have q3 := Quiet.alloc w2 (.row [.int .u8 b.toNat] 1 false)
  have i3 : (h2.alloc (.row [.int .u8 b.toNat] 1 false)).get i = some (.row [.int .u32 s.nx, .slc a s.rd.length f, .map (some m), .int .i64 s.rows, .int .i64 s.most, .bool s.fin, .int .u32 s.en] 1 false) := by rw [q3.same _ (by omega)]; exact i2
  obtain ⟨h4, hx4, ho4, u4, w4⟩ := app_spec (b := b) (f := f) ow2 w2 (by omega)
  have n4 := u4.le
  have i4 : h4.get i = some (.row [.int .u32 s.nx, .slc a s.rd.length f, .map (some m), .int .i64 s.rows, .int .i64 s.most, .bool s.fin, .int .u32 s.en] 1 false) := by rw [u4.same _ (by omega) d2]; exact i2
  have m4 : h4.get m = some o' := by rw [u4.same _ (by omega) d3]; exact m2
  refine ⟨rfl, ⟨s.nx, by simp (disch := (first | omega | (simp only [Hp.alloc_next, Hp.set_next] <;> omega) | (simp (disch := (first | omega | (simp only [Hp.alloc_next, Hp.set_next] <;> omega) | fail)) only [Hp.get_set_self, Hp.get_set_ne, Hp.get_alloc_self, Hp.get_alloc_ne, Hp.get_alloc_at, Hp.get_set_at, Hp.set_next, Hp.alloc_next, i3]; done) | fail)) only [Hp.st, Hp.ld, Hp.lda, splice, ble_eq', if_true, if_false, ite_true, ite_false, cond_true, cond_false, decide_true, decide_false, List.length_cons, List.length_nil, List.take_zero, List.take_succ_cons, List.nil_append, List.cons_append, List.append_nil, List.drop_succ_cons, List.drop_zero, List.drop_nil, List.getElem?_cons_succ, List.getElem?_cons_zero, Nat.reduceAdd, Nat.reduceLeDiff, Nat.reduceEqDiff, Nat.zero_add, Nat.add_zero, Nat.le_refl, Nat.zero_le, Nat.succ_ne_self, Nat.mul_one, Int.toNat_natCast, Option.some.injEq, Option.isNone_some, Option.isNone_none, V.int.injEq, V.str.injEq, V.bool.injEq, V.ptr.injEq, V.slc.injEq, V.map.injEq, V.agg.injEq, V.tup.injEq, List.cons.injEq, Prod.mk.injEq, onS, true_and, and_true, and_assoc, exists_and_left, exists_eq_left', forall_eq, heq_eq_eq, reduceCtorEq, Bool.not_true, Bool.not_false, eq_self, not_false_eq_true, Nat.left_eq_add, Nat.add_eq_left, Nat.add_left_cancel_iff, Nat.add_right_cancel_iff, Nat.reduceEqDiff, Nat.one_ne_zero, Hp.get_set_self, Hp.get_set_ne, Hp.get_alloc_self, Hp.get_alloc_ne, Hp.get_alloc_at, Hp.get_set_at, Hp.set_next, Hp.alloc_next, Option.some_ne_none, V.tup.injEq, Option.isSome_some, Option.isSome_none, exists_eq_left, exists_eq, Nat.mul_zero, i3], rfl⟩, rfl, rfl, rfl, ⟨a, s.rd.length, f, by simp (disch := (first | omega | (simp only [Hp.alloc_next, Hp.set_next] <;> omega) | (simp (disch := (first | omega | (simp only [Hp.alloc_next, Hp.set_next] <;> omega) | fail)) only [Hp.get_set_self, Hp.get_set_ne, Hp.get_alloc_self, Hp.get_alloc_ne, Hp.get_alloc_at, Hp.get_set_at, Hp.set_next, Hp.alloc_next, i3]; done) | fail)) only [Hp.st, Hp.ld, Hp.lda, splice, ble_eq', if_true, if_false, ite_true, ite_false, cond_true, cond_false, decide_true, decide_false, List.length_cons, List.length_nil, List.take_zero, List.take_succ_cons, List.nil_append, List.cons_append, List.append_nil, List.drop_succ_cons, List.drop_zero, List.drop_nil, List.getElem?_cons_succ, List.getElem?_cons_zero, Nat.reduceAdd, Nat.reduceLeDiff, Nat.reduceEqDiff, Nat.zero_add, Nat.add_zero, Nat.le_refl, Nat.zero_le, Nat.succ_ne_self, Nat.mul_one, Int.toNat_natCast, Option.some.injEq, Option.isNone_some, Option.isNone_none, V.int.injEq, V.str.injEq, V.bool.injEq, V.ptr.injEq, V.slc.injEq, V.map.injEq, V.agg.injEq, V.tup.injEq, List.cons.injEq, Prod.mk.injEq, onS, true_and, and_true, and_assoc, exists_and_left, exists_eq_left', forall_eq, heq_eq_eq, reduceCtorEq, Bool.not_true, Bool.not_false, eq_self, not_false_eq_true, Nat.left_eq_add, Nat.add_eq_left, Nat.add_left_cancel_iff, Nat.add_right_cancel_iff, Nat.reduceEqDiff, Nat.one_ne_zero, Hp.get_set_self, Hp.get_set_ne, Hp.get_alloc_self, Hp.get_alloc_ne, Hp.get_alloc_at, Hp.get_set_at, Hp.set_next, Hp.alloc_next, Option.some_ne_none, V.tup.injEq, Option.isSome_some, Option.isSome_none, exists_eq_left, exists_eq, Nat.mul_zero, i3], rfl⟩, rfl, rfl, rfl, rfl, rfl, _, _, _, _, hx4, rfl, ⟨s.nx, by simp (disch := (first | omega | (simp only [Hp.alloc_next, Hp.set_next] <;> omega) | (simp (disch := (first | omega | (simp only [Hp.alloc_next, Hp.set_next] <;> omega) | fail)) only [Hp.get_set_self, Hp.get_set_ne, Hp.get_alloc_self, Hp.get_alloc_ne, Hp.get_alloc_at, Hp.get_set_at, Hp.set_next, Hp.alloc_next, i4]; done) | fail)) only [Hp.st, Hp.ld, Hp.lda, splice, ble_eq', if_true, if_false, ite_true, ite_false, cond_true, cond_false, decide_true, decide_false, List.length_cons, List.length_nil, List.take_zero, List.take_succ_cons, List.nil_append, List.cons_append, List.append_nil, List.drop_succ_cons, List.drop_zero, List.drop_nil, List.getElem?_cons_succ, List.getElem?_cons_zero, Nat.reduceAdd, Nat.reduceLeDiff, Nat.reduceEqDiff, Nat.zero_add, Nat.add_zero, Nat.le_refl, Nat.zero_le, Nat.succ_ne_self, Nat.mul_one, Int.toNat_natCast, Option.some.injEq, Option.isNone_some, Option.isNone_none, V.int.injEq, V.str.injEq, V.bool.injEq, V.ptr.injEq, V.slc.injEq, V.map.injEq, V.agg.injEq, V.tup.injEq, List.cons.injEq, Prod.mk.injEq, onS, true_and, and_true, and_assoc, exists_and_left, exists_eq_left', forall_eq, heq_eq_eq, reduceCtorEq, Bool.not_true, Bool.not_false, eq_self, not_false_eq_true, Nat.left_eq_add, Nat.add_eq_left, Nat.add_left_cancel_iff, Nat.add_right_cancel_iff, Nat.reduceEqDiff, Nat.one_ne_zero, Hp.get_set_self, Hp.get_set_ne, Hp.get_alloc_self, Hp.get_alloc_ne, Hp.get_alloc_at, Hp.get_set_at, Hp.set_next, Hp.alloc_next, Option.some_ne_none, V.tup.injEq, Option.isSome_some, Option.isSome_none, exists_eq_left, exists_eq, Nat.mul_zero, i4], rfl⟩, rfl, rfl, rfl, rfl, rfl, _, Hp.st_of i4 (Nat.le_of_ble_eq_true rfl), rfl, rfl, _, Hp.st_of Hp.get_set_self (Nat.le_of_ble_eq_true rfl), ?_⟩
  rw [u32w]
  subst hF
  refine hK _ (i :: m :: [h2.next + 1]) ⟨m, some (h2.next + 1, 0), false, o', [h2.next + 1], ?_, ?_, ho', ?_, rfl, d1, by simp; omega, by simp; omega⟩ ⟨fun x hx hxF => ?_, fun x hx => ?_, ?_⟩ ((w4.set (by omega)).set (by simp only [Hp.set_next]; omega))
  · rw [Hp.get_set_self]
    have : (s.rd ++ [b]).length = s.rd.length + 1 := by simp
    show _ = some (O.row [.int .u32 ((s.nx + 1) % 4294967296), .slc (some (h2.next + 1, 0)) (s.rd ++ [b]).length false, .map (some m), .int .i64 s.rows, .int .i64 s.most, .bool s.fin, .int .u32 s.en] 1 false)
    rw [this]; rfl
  · rw [Hp.get_set_ne (Ne.symm d1), Hp.get_set_ne (Ne.symm d1)]; exact m4
  · have : (s.rd ++ [b]).length = s.rd.length + 1 := by simp
    show Own 1 _ (s.rd ++ [b]).length (bRows (s.rd ++ [b])) _ _
    rw [this]
    exact (Own.rep _ _ _ _).loc _ _ _ (fun x hx => by rw [List.mem_singleton] at hx; rw [Hp.get_set_ne (by omega), Hp.get_set_ne (by omega)]) ho4
  · simp only [List.mem_cons, not_or] at hxF
    rw [Hp.get_set_ne hxF.1, Hp.get_set_ne hxF.1, u4.same x (by omega) hxF.2.2, s2 x hxF.2.1]
  · simp only [List.mem_cons, List.not_mem_nil, or_false] at hx
    rcases hx with rfl | rfl | rfl
    · exact .inl (by simp)
    · exact .inl (by simp)
    · exact .inr (by omega)
  · simp only [Hp.set_next]; omega

section
variable {b : Int} {R : List UInt8} {n : Nat} {F : Nat → Int} {E : Int} {q : Nat} {s : IS} {h : Hp} {i : Nat} {FA : List Nat}

theorem FI.lt {rl k : Nat} (fi : FI n rl F E) (h : 0 ≤ F k) : k + rl < n := (fi.hi k h).1

theorem FI.neg {rl k : Nat} (fi : FI n rl F E) (h : n ≤ k + rl) : F k < 0 := by
  by_cases e : 0 ≤ F k
  · have := fi.lt e; omega
  · omega

theorem up_rows {rl p : Nat} {c : UInt8} (fi : FI n rl F E) (h0 : F p < 0) (hp : p + rl < n) : rn (up F p c.toNat) n + (if 0 ≤ F (p + 1) then 1 else 0) = rn F n + (if 0 < p ∧ F (p - 1) < 0 then 1 else 0) := by
  have h1 := rn_up (c := (c.toNat : Int)) h0 (u8_lt c).1 n
  have e1 : (p + 2 ≤ n ∧ 0 ≤ F (p + 1)) ↔ 0 ≤ F (p + 1) := ⟨fun h => h.2, fun h => ⟨by have := fi.lt h; omega, h⟩⟩
  have e2 : (p + 1 ≤ n ∧ 0 < p ∧ F (p - 1) < 0) ↔ (0 < p ∧ F (p - 1) < 0) := ⟨fun h => h.2, fun h => ⟨by omega, h⟩⟩
  simp only [e1, e2] at h1
  exact h1

theorem takes_ex (hn : n ≤ 400) (hw : h.wf) (r : InR i s h FA) (si : PI b R n F E q s) (fi : FI n R.length F E) (lo : ∀ k, k < q → 0 ≤ F k) (hq : F q < 0) (hrow : s.rows = rn F n) {p : Nat} (hp : q ≤ p) (hpw : p + R.length < n) (c : UInt8) :
    XCalls Try.prog 43 [.ptr (some (i, 0)), .int .u32 ((b + p) % 4294967296), .int .u8 c.toNat] h fun v h' => v = .bool (decide (okF n (n - R.length) E F p c.toNat)) ∧ ∃ s' q' FA', InR i s' h' FA' ∧ Upd h h' FA FA' ∧ h'.wf ∧ q ≤ q' ∧
      PI b R n (stp n (n - R.length) E p c.toNat (F, 0)).1 E q' s' ∧ (∀ k, k < q' → 0 ≤ (stp n (n - R.length) E p c.toNat (F, 0)).1 k) ∧ s'.rows = rn (stp n (n - R.length) E p c.toNat (F, 0)).1 n + (if 0 ≤ (stp n (n - R.length) E p c.toNat (F, 0)).1 q' then 1 else 0) := by
  have hlen := si.len
  have hmo := si.mo
  have hnx := si.nx
  have hrn := rn_le F n
  have hrn64 := fi.rns
  refine XCalls.cps fun K hK => ?_
  have r0 := r
  have hc := u8_lt c
  obtain ⟨m, a, f, o, G, e1, e2, e3, e4, hF, d1, d2, d3⟩ := r
  have hE : 0 ≤ E → (q : Int) ≤ E := fun h => by
    by_cases h0 : q = 0
    · omega
    · have := (fi.en h).2 (q - 1) (lo (q - 1) (by omega)); omega
  have hEn : 0 ≤ E → E ≤ 400 := fun h => by have := (fi.en h).1; omega
  have tp : ((p : Int)).toNat = p := by omega
  have hhas : ∀ k : Nat, q ≤ k → k < 65536 → (mget s.A ((b + k) % 4294967296)).isSome = decide (0 ≤ F k) := fun k h1 h2 => by
    rw [si.get k h1 h2]; by_cases e : 0 ≤ F k
    · rw [if_pos e, decide_eq_true e]; rfl
    · rw [if_neg e, decide_eq_false e]; rfl
  have stay : ¬ okF n (n - R.length) E F p c.toNat → K (.bool false) h := fun hno => by
    refine hK _ _ ⟨by rw [decide_eq_false hno], s, q, FA, r0, Upd.refl _ _, hw, Nat.le_refl _, ?_⟩
    rw [stp, if_neg hno]
    exact ⟨si, lo, by rw [if_neg (by show ¬ 0 ≤ F q; omega)]; simpa using hrow⟩
  apply x43; unfold X43
  have hd : IntKind.u32.wrap ((b + p) % 4294967296 - s.nx) = ((p - q : Nat) : Int) := by rw [u32w, hnx]; omega
  refine ⟨s.nx, by simp (disch := (first | omega | (simp only [Hp.alloc_next, Hp.set_next] <;> omega) | (simp (disch := (first | omega | (simp only [Hp.alloc_next, Hp.set_next] <;> omega) | fail)) only [Hp.get_set_self, Hp.get_set_ne, Hp.get_alloc_self, Hp.get_alloc_ne, Hp.get_alloc_at, Hp.get_set_at, Hp.set_next, Hp.alloc_next, e1]; done) | fail)) only [Hp.st, Hp.ld, Hp.lda, splice, ble_eq', if_true, if_false, ite_true, ite_false, cond_true, cond_false, decide_true, decide_false, List.length_cons, List.length_nil, List.take_zero, List.take_succ_cons, List.nil_append, List.cons_append, List.append_nil, List.drop_succ_cons, List.drop_zero, List.drop_nil, List.getElem?_cons_succ, List.getElem?_cons_zero, Nat.reduceAdd, Nat.reduceLeDiff, Nat.reduceEqDiff, Nat.zero_add, Nat.add_zero, Nat.le_refl, Nat.zero_le, Nat.succ_ne_self, Nat.mul_one, Int.toNat_natCast, Option.some.injEq, Option.isNone_some, Option.isNone_none, V.int.injEq, V.str.injEq, V.bool.injEq, V.ptr.injEq, V.slc.injEq, V.map.injEq, V.agg.injEq, V.tup.injEq, List.cons.injEq, Prod.mk.injEq, onS, true_and, and_true, and_assoc, exists_and_left, exists_eq_left', forall_eq, heq_eq_eq, reduceCtorEq, Bool.not_true, Bool.not_false, eq_self, not_false_eq_true, Nat.left_eq_add, Nat.add_eq_left, Nat.add_left_cancel_iff, Nat.add_right_cancel_iff, Nat.reduceEqDiff, Nat.one_ne_zero, Hp.get_set_self, Hp.get_set_ne, Hp.get_alloc_self, Hp.get_alloc_ne, Hp.get_alloc_at, Hp.get_set_at, Hp.set_next, Hp.alloc_next, Option.some_ne_none, V.tup.injEq, Option.isSome_some, Option.isSome_none, exists_eq_left, exists_eq, Nat.mul_zero, e1], fun vs h' => match vs with
    | [] => h' = h ∧ F p < 0 ∧ ¬(0 ≤ E ∧ E ≤ p)
    | _ => False, ?_, ?_⟩
  · refine (window_spec r0 (by omega)).mono ?_
    rintro _ h1 ⟨rfl, rfl⟩
    rw [hd]
    have hwin : IntKind.u32.wrap (s.most - s.rd.length) = s.most - s.rd.length := by rw [u32w]; omega
    refine ⟨_, rfl, rfl, ?_⟩
    rw [hwin]
    have c1 : ltI ((p - q : Nat) : Int) (s.most - s.rd.length) = true := by rw [ltI_eq, decide_eq_true_eq]; omega
    have c2 : ltI ((p - q : Nat) : Int) 2147483648 = true := by rw [ltI_eq, decide_eq_true_eq]; omega
    rw [c1, c2]
    refine ⟨s.fin, by simp (disch := (first | omega | (simp only [Hp.alloc_next, Hp.set_next] <;> omega) | (simp (disch := (first | omega | (simp only [Hp.alloc_next, Hp.set_next] <;> omega) | fail)) only [Hp.get_set_self, Hp.get_set_ne, Hp.get_alloc_self, Hp.get_alloc_ne, Hp.get_alloc_at, Hp.get_set_at, Hp.set_next, Hp.alloc_next, e1]; done) | fail)) only [Hp.st, Hp.ld, Hp.lda, splice, ble_eq', if_true, if_false, ite_true, ite_false, cond_true, cond_false, decide_true, decide_false, List.length_cons, List.length_nil, List.take_zero, List.take_succ_cons, List.nil_append, List.cons_append, List.append_nil, List.drop_succ_cons, List.drop_zero, List.drop_nil, List.getElem?_cons_succ, List.getElem?_cons_zero, Nat.reduceAdd, Nat.reduceLeDiff, Nat.reduceEqDiff, Nat.zero_add, Nat.add_zero, Nat.le_refl, Nat.zero_le, Nat.succ_ne_self, Nat.mul_one, Int.toNat_natCast, Option.some.injEq, Option.isNone_some, Option.isNone_none, V.int.injEq, V.str.injEq, V.bool.injEq, V.ptr.injEq, V.slc.injEq, V.map.injEq, V.agg.injEq, V.tup.injEq, List.cons.injEq, Prod.mk.injEq, onS, true_and, and_true, and_assoc, exists_and_left, exists_eq_left', forall_eq, heq_eq_eq, reduceCtorEq, Bool.not_true, Bool.not_false, eq_self, not_false_eq_true, Nat.left_eq_add, Nat.add_eq_left, Nat.add_left_cancel_iff, Nat.add_right_cancel_iff, Nat.reduceEqDiff, Nat.one_ne_zero, Hp.get_set_self, Hp.get_set_ne, Hp.get_alloc_self, Hp.get_alloc_ne, Hp.get_alloc_at, Hp.get_set_at, Hp.set_next, Hp.alloc_next, Option.some_ne_none, V.tup.injEq, Option.isSome_some, Option.isSome_none, exists_eq_left, exists_eq, Nat.mul_zero, e1], ?_⟩
    have hash : ∀ (Q : Prop), (F p < 0 → Q) → XCalls Try.prog 48 [.ptr (some (i, 0)), .int .u32 ((b + p) % 4294967296)] h1 fun v2 h2 => ∃ n6, v2 = .int .i64 n6 ∧ bif n6 == 1 then K (.bool false) h2 else (h2 = h1 ∧ Q) := fun Q hQ => by
      refine (has_spec r0 _).mono ?_
      rintro _ h2 ⟨rfl, rfl⟩
      rw [hhas p hp (by omega)]
      by_cases e : 0 ≤ F p
      · rw [decide_eq_true e]
        exact ⟨1, rfl, stay (by rintro ⟨_, _, _, h4, _⟩; rw [tp] at h4; omega)⟩
      · rw [decide_eq_false e]
        exact ⟨0, rfl, rfl, hQ (by omega)⟩
    cases hfin : s.fin with
    | true =>
      have hE0 : 0 ≤ E := by have := si.fin; rw [hfin] at this; exact of_decide_eq_true this.symm
      have hen := si.en hE0
      have := hE hE0
      have := hEn hE0
      have e4' : IntKind.u32.wrap (s.en - s.nx) = E - q := by rw [u32w, hen, hnx]; omega
      refine ⟨s.nx, by simp (disch := (first | omega | (simp only [Hp.alloc_next, Hp.set_next] <;> omega) | (simp (disch := (first | omega | (simp only [Hp.alloc_next, Hp.set_next] <;> omega) | fail)) only [Hp.get_set_self, Hp.get_set_ne, Hp.get_alloc_self, Hp.get_alloc_ne, Hp.get_alloc_at, Hp.get_set_at, Hp.set_next, Hp.alloc_next, e1]; done) | fail)) only [Hp.st, Hp.ld, Hp.lda, splice, ble_eq', if_true, if_false, ite_true, ite_false, cond_true, cond_false, decide_true, decide_false, List.length_cons, List.length_nil, List.take_zero, List.take_succ_cons, List.nil_append, List.cons_append, List.append_nil, List.drop_succ_cons, List.drop_zero, List.drop_nil, List.getElem?_cons_succ, List.getElem?_cons_zero, Nat.reduceAdd, Nat.reduceLeDiff, Nat.reduceEqDiff, Nat.zero_add, Nat.add_zero, Nat.le_refl, Nat.zero_le, Nat.succ_ne_self, Nat.mul_one, Int.toNat_natCast, Option.some.injEq, Option.isNone_some, Option.isNone_none, V.int.injEq, V.str.injEq, V.bool.injEq, V.ptr.injEq, V.slc.injEq, V.map.injEq, V.agg.injEq, V.tup.injEq, List.cons.injEq, Prod.mk.injEq, onS, true_and, and_true, and_assoc, exists_and_left, exists_eq_left', forall_eq, heq_eq_eq, reduceCtorEq, Bool.not_true, Bool.not_false, eq_self, not_false_eq_true, Nat.left_eq_add, Nat.add_eq_left, Nat.add_left_cancel_iff, Nat.add_right_cancel_iff, Nat.reduceEqDiff, Nat.one_ne_zero, Hp.get_set_self, Hp.get_set_ne, Hp.get_alloc_self, Hp.get_alloc_ne, Hp.get_alloc_at, Hp.get_set_at, Hp.set_next, Hp.alloc_next, Option.some_ne_none, V.tup.injEq, Option.isSome_some, Option.isSome_none, exists_eq_left, exists_eq, Nat.mul_zero, e1], s.en, by simp (disch := (first | omega | (simp only [Hp.alloc_next, Hp.set_next] <;> omega) | (simp (disch := (first | omega | (simp only [Hp.alloc_next, Hp.set_next] <;> omega) | fail)) only [Hp.get_set_self, Hp.get_set_ne, Hp.get_alloc_self, Hp.get_alloc_ne, Hp.get_alloc_at, Hp.get_set_at, Hp.set_next, Hp.alloc_next, e1]; done) | fail)) only [Hp.st, Hp.ld, Hp.lda, splice, ble_eq', if_true, if_false, ite_true, ite_false, cond_true, cond_false, decide_true, decide_false, List.length_cons, List.length_nil, List.take_zero, List.take_succ_cons, List.nil_append, List.cons_append, List.append_nil, List.drop_succ_cons, List.drop_zero, List.drop_nil, List.getElem?_cons_succ, List.getElem?_cons_zero, Nat.reduceAdd, Nat.reduceLeDiff, Nat.reduceEqDiff, Nat.zero_add, Nat.add_zero, Nat.le_refl, Nat.zero_le, Nat.succ_ne_self, Nat.mul_one, Int.toNat_natCast, Option.some.injEq, Option.isNone_some, Option.isNone_none, V.int.injEq, V.str.injEq, V.bool.injEq, V.ptr.injEq, V.slc.injEq, V.map.injEq, V.agg.injEq, V.tup.injEq, List.cons.injEq, Prod.mk.injEq, onS, true_and, and_true, and_assoc, exists_and_left, exists_eq_left', forall_eq, heq_eq_eq, reduceCtorEq, Bool.not_true, Bool.not_false, eq_self, not_false_eq_true, Nat.left_eq_add, Nat.add_eq_left, Nat.add_left_cancel_iff, Nat.add_right_cancel_iff, Nat.reduceEqDiff, Nat.one_ne_zero, Hp.get_set_self, Hp.get_set_ne, Hp.get_alloc_self, Hp.get_alloc_ne, Hp.get_alloc_at, Hp.get_set_at, Hp.set_next, Hp.alloc_next, Option.some_ne_none, V.tup.injEq, Option.isSome_some, Option.isSome_none, exists_eq_left, exists_eq, Nat.mul_zero, e1], s.nx, by simp (disch := (first | omega | (simp only [Hp.alloc_next, Hp.set_next] <;> omega) | (simp (disch := (first | omega | (simp only [Hp.alloc_next, Hp.set_next] <;> omega) | fail)) only [Hp.get_set_self, Hp.get_set_ne, Hp.get_alloc_self, Hp.get_alloc_ne, Hp.get_alloc_at, Hp.get_set_at, Hp.set_next, Hp.alloc_next, e1]; done) | fail)) only [Hp.st, Hp.ld, Hp.lda, splice, ble_eq', if_true, if_false, ite_true, ite_false, cond_true, cond_false, decide_true, decide_false, List.length_cons, List.length_nil, List.take_zero, List.take_succ_cons, List.nil_append, List.cons_append, List.append_nil, List.drop_succ_cons, List.drop_zero, List.drop_nil, List.getElem?_cons_succ, List.getElem?_cons_zero, Nat.reduceAdd, Nat.reduceLeDiff, Nat.reduceEqDiff, Nat.zero_add, Nat.add_zero, Nat.le_refl, Nat.zero_le, Nat.succ_ne_self, Nat.mul_one, Int.toNat_natCast, Option.some.injEq, Option.isNone_some, Option.isNone_none, V.int.injEq, V.str.injEq, V.bool.injEq, V.ptr.injEq, V.slc.injEq, V.map.injEq, V.agg.injEq, V.tup.injEq, List.cons.injEq, Prod.mk.injEq, onS, true_and, and_true, and_assoc, exists_and_left, exists_eq_left', forall_eq, heq_eq_eq, reduceCtorEq, Bool.not_true, Bool.not_false, eq_self, not_false_eq_true, Nat.left_eq_add, Nat.add_eq_left, Nat.add_left_cancel_iff, Nat.add_right_cancel_iff, Nat.reduceEqDiff, Nat.one_ne_zero, Hp.get_set_self, Hp.get_set_ne, Hp.get_alloc_self, Hp.get_alloc_ne, Hp.get_alloc_at, Hp.get_set_at, Hp.set_next, Hp.alloc_next, Option.some_ne_none, V.tup.injEq, Option.isSome_some, Option.isSome_none, exists_eq_left, exists_eq, Nat.mul_zero, e1], ?_⟩
      rw [hd, e4']
      cases c3 : ltI ((p - q : Nat) : Int) (E - q) with
      | false =>
        rw [ltI_eq, decide_eq_false_iff_not] at c3
        exact stay (by rintro ⟨_, _, h3, _⟩; omega)
      | true =>
        rw [ltI_eq, decide_eq_true_eq] at c3
        refine (hash (F p < 0 ∧ ¬(0 ≤ E ∧ E ≤ p)) fun hh => ⟨hh, by omega⟩).mono ?_
        rintro _ h2 ⟨n6, rfl, hh⟩
        refine ⟨n6, rfl, ?_⟩
        cases hn6 : n6 == 1 with
        | true => rw [hn6] at hh; exact hh
        | false => rw [hn6] at hh; exact ⟨rfl, hh.1, hh.2⟩
    | false =>
      have hE0 : ¬ 0 ≤ E := by have := si.fin; rw [hfin] at this; exact of_decide_eq_false this.symm
      refine (hash (F p < 0 ∧ ¬(0 ≤ E ∧ E ≤ p)) fun hh => ⟨hh, by omega⟩).mono ?_
      rintro _ h2 ⟨n6, rfl, hh⟩
      refine ⟨n6, rfl, ?_⟩
      cases hn6 : n6 == 1 with
      | true => rw [hn6] at hh; exact hh
      | false => rw [hn6] at hh; exact ⟨rfl, hh.1, hh.2⟩
  rintro bs h1 ⟨rfl, hFp, hEp⟩
  rw [hd]
  have hil := hw.lt e1
  have hml := hw.lt e2
  have hGl : ∀ x ∈ G, x < h1.next := fun x hx => (Own.rep _ _ _ _).lt hw e4 hx
  have hur := up_rows (c := c) fi hFp hpw
  have okI : rn (up F p c.toNat) n ≤ 64 → okF n (n - R.length) E F p c.toNat := fun h => ⟨by omega, by omega, hEp, by rw [tp]; exact hFp, by rw [tp]; exact h⟩
  have est : okF n (n - R.length) E F p c.toNat → (stp n (n - R.length) E p c.toNat (F, 0)).1 = up F p c.toNat := fun hok => by
    rw [stp, if_pos hok, tp]
  by_cases hjN : p = q
  · have cz : (((p - q : Nat) : Int) == 0) = true := by rw [beq_iff_eq]; omega
    rw [cz]
    have hz : ¬ (0 < p ∧ F (p - 1) < 0) := fun ⟨h1, h2⟩ => by have := lo (p - 1) (by omega); omega
    rw [if_neg hz] at hur
    have hok := okI (by split at hur <;> omega)
    refine ⟨a, s.rd.length, f, by simp (disch := (first | omega | (simp only [Hp.alloc_next, Hp.set_next] <;> omega) | (simp (disch := (first | omega | (simp only [Hp.alloc_next, Hp.set_next] <;> omega) | fail)) only [Hp.get_set_self, Hp.get_set_ne, Hp.get_alloc_self, Hp.get_alloc_ne, Hp.get_alloc_at, Hp.get_set_at, Hp.set_next, Hp.alloc_next, e1]; done) | fail)) only [Hp.st, Hp.ld, Hp.lda, splice, ble_eq', if_true, if_false, ite_true, ite_false, cond_true, cond_false, decide_true, decide_false, List.length_cons, List.length_nil, List.take_zero, List.take_succ_cons, List.nil_append, List.cons_append, List.append_nil, List.drop_succ_cons, List.drop_zero, List.drop_nil, List.getElem?_cons_succ, List.getElem?_cons_zero, Nat.reduceAdd, Nat.reduceLeDiff, Nat.reduceEqDiff, Nat.zero_add, Nat.add_zero, Nat.le_refl, Nat.zero_le, Nat.succ_ne_self, Nat.mul_one, Int.toNat_natCast, Option.some.injEq, Option.isNone_some, Option.isNone_none, V.int.injEq, V.str.injEq, V.bool.injEq, V.ptr.injEq, V.slc.injEq, V.map.injEq, V.agg.injEq, V.tup.injEq, List.cons.injEq, Prod.mk.injEq, onS, true_and, and_true, and_assoc, exists_and_left, exists_eq_left', forall_eq, heq_eq_eq, reduceCtorEq, Bool.not_true, Bool.not_false, eq_self, not_false_eq_true, Nat.left_eq_add, Nat.add_eq_left, Nat.add_left_cancel_iff, Nat.add_right_cancel_iff, Nat.reduceEqDiff, Nat.one_ne_zero, Hp.get_set_self, Hp.get_set_ne, Hp.get_alloc_self, Hp.get_alloc_ne, Hp.get_alloc_at, Hp.get_set_at, Hp.set_next, Hp.alloc_next, Option.some_ne_none, V.tup.injEq, Option.isSome_some, Option.isSome_none, exists_eq_left, exists_eq, Nat.mul_zero, e1], s.nx, by simp (disch := (first | omega | (simp only [Hp.alloc_next, Hp.set_next] <;> omega) | (simp (disch := (first | omega | (simp only [Hp.alloc_next, Hp.set_next] <;> omega) | fail)) only [Hp.get_set_self, Hp.get_set_ne, Hp.get_alloc_self, Hp.get_alloc_ne, Hp.get_alloc_at, Hp.get_set_at, Hp.set_next, Hp.alloc_next, e1]; done) | fail)) only [Hp.st, Hp.ld, Hp.lda, splice, ble_eq', if_true, if_false, ite_true, ite_false, cond_true, cond_false, decide_true, decide_false, List.length_cons, List.length_nil, List.take_zero, List.take_succ_cons, List.nil_append, List.cons_append, List.append_nil, List.drop_succ_cons, List.drop_zero, List.drop_nil, List.getElem?_cons_succ, List.getElem?_cons_zero, Nat.reduceAdd, Nat.reduceLeDiff, Nat.reduceEqDiff, Nat.zero_add, Nat.add_zero, Nat.le_refl, Nat.zero_le, Nat.succ_ne_self, Nat.mul_one, Int.toNat_natCast, Option.some.injEq, Option.isNone_some, Option.isNone_none, V.int.injEq, V.str.injEq, V.bool.injEq, V.ptr.injEq, V.slc.injEq, V.map.injEq, V.agg.injEq, V.tup.injEq, List.cons.injEq, Prod.mk.injEq, onS, true_and, and_true, and_assoc, exists_and_left, exists_eq_left', forall_eq, heq_eq_eq, reduceCtorEq, Bool.not_true, Bool.not_false, eq_self, not_false_eq_true, Nat.left_eq_add, Nat.add_eq_left, Nat.add_left_cancel_iff, Nat.add_right_cancel_iff, Nat.reduceEqDiff, Nat.one_ne_zero, Hp.get_set_self, Hp.get_set_ne, Hp.get_alloc_self, Hp.get_alloc_ne, Hp.get_alloc_at, Hp.get_set_at, Hp.set_next, Hp.alloc_next, Option.some_ne_none, V.tup.injEq, Option.isSome_some, Option.isSome_none, exists_eq_left, exists_eq, Nat.mul_zero, e1], ?_⟩
    rintro h2 rfl
    have q2 := Quiet.alloc hw (.row [.int .u8 c.toNat] 1 false)
    have e1' : (h1.alloc (.row [.int .u8 c.toNat] 1 false)).get i = some (.row [.int .u32 s.nx, .slc a s.rd.length f, .map (some m), .int .i64 s.rows, .int .i64 s.most, .bool s.fin, .int .u32 s.en] 1 false) := by rw [q2.same _ hil]; exact e1
    obtain ⟨h3, hx3, ho3, u3, w3⟩ := app_spec (b := c) (f := f) e4 hw (by omega)
    have e3' : h3.get i = some (.row [.int .u32 s.nx, .slc a s.rd.length f, .map (some m), .int .i64 s.rows, .int .i64 s.most, .bool s.fin, .int .u32 s.en] 1 false) := by rw [u3.same _ hil d2]; exact e1
    have m3 : h3.get m = some o := by rw [u3.same _ hml d3]; exact e2
    have n3 := u3.le
    refine ⟨rfl, ⟨s.nx, by simp (disch := (first | omega | (simp only [Hp.alloc_next, Hp.set_next] <;> omega) | (simp (disch := (first | omega | (simp only [Hp.alloc_next, Hp.set_next] <;> omega) | fail)) only [Hp.get_set_self, Hp.get_set_ne, Hp.get_alloc_self, Hp.get_alloc_ne, Hp.get_alloc_at, Hp.get_set_at, Hp.set_next, Hp.alloc_next, e1']; done) | fail)) only [Hp.st, Hp.ld, Hp.lda, splice, ble_eq', if_true, if_false, ite_true, ite_false, cond_true, cond_false, decide_true, decide_false, List.length_cons, List.length_nil, List.take_zero, List.take_succ_cons, List.nil_append, List.cons_append, List.append_nil, List.drop_succ_cons, List.drop_zero, List.drop_nil, List.getElem?_cons_succ, List.getElem?_cons_zero, Nat.reduceAdd, Nat.reduceLeDiff, Nat.reduceEqDiff, Nat.zero_add, Nat.add_zero, Nat.le_refl, Nat.zero_le, Nat.succ_ne_self, Nat.mul_one, Int.toNat_natCast, Option.some.injEq, Option.isNone_some, Option.isNone_none, V.int.injEq, V.str.injEq, V.bool.injEq, V.ptr.injEq, V.slc.injEq, V.map.injEq, V.agg.injEq, V.tup.injEq, List.cons.injEq, Prod.mk.injEq, onS, true_and, and_true, and_assoc, exists_and_left, exists_eq_left', forall_eq, heq_eq_eq, reduceCtorEq, Bool.not_true, Bool.not_false, eq_self, not_false_eq_true, Nat.left_eq_add, Nat.add_eq_left, Nat.add_left_cancel_iff, Nat.add_right_cancel_iff, Nat.reduceEqDiff, Nat.one_ne_zero, Hp.get_set_self, Hp.get_set_ne, Hp.get_alloc_self, Hp.get_alloc_ne, Hp.get_alloc_at, Hp.get_set_at, Hp.set_next, Hp.alloc_next, Option.some_ne_none, V.tup.injEq, Option.isSome_some, Option.isSome_none, exists_eq_left, exists_eq, Nat.mul_zero, e1'], rfl⟩, rfl, rfl, rfl, ⟨a, s.rd.length, f, by simp (disch := (first | omega | (simp only [Hp.alloc_next, Hp.set_next] <;> omega) | (simp (disch := (first | omega | (simp only [Hp.alloc_next, Hp.set_next] <;> omega) | fail)) only [Hp.get_set_self, Hp.get_set_ne, Hp.get_alloc_self, Hp.get_alloc_ne, Hp.get_alloc_at, Hp.get_set_at, Hp.set_next, Hp.alloc_next, e1']; done) | fail)) only [Hp.st, Hp.ld, Hp.lda, splice, ble_eq', if_true, if_false, ite_true, ite_false, cond_true, cond_false, decide_true, decide_false, List.length_cons, List.length_nil, List.take_zero, List.take_succ_cons, List.nil_append, List.cons_append, List.append_nil, List.drop_succ_cons, List.drop_zero, List.drop_nil, List.getElem?_cons_succ, List.getElem?_cons_zero, Nat.reduceAdd, Nat.reduceLeDiff, Nat.reduceEqDiff, Nat.zero_add, Nat.add_zero, Nat.le_refl, Nat.zero_le, Nat.succ_ne_self, Nat.mul_one, Int.toNat_natCast, Option.some.injEq, Option.isNone_some, Option.isNone_none, V.int.injEq, V.str.injEq, V.bool.injEq, V.ptr.injEq, V.slc.injEq, V.map.injEq, V.agg.injEq, V.tup.injEq, List.cons.injEq, Prod.mk.injEq, onS, true_and, and_true, and_assoc, exists_and_left, exists_eq_left', forall_eq, heq_eq_eq, reduceCtorEq, Bool.not_true, Bool.not_false, eq_self, not_false_eq_true, Nat.left_eq_add, Nat.add_eq_left, Nat.add_left_cancel_iff, Nat.add_right_cancel_iff, Nat.reduceEqDiff, Nat.one_ne_zero, Hp.get_set_self, Hp.get_set_ne, Hp.get_alloc_self, Hp.get_alloc_ne, Hp.get_alloc_at, Hp.get_set_at, Hp.set_next, Hp.alloc_next, Option.some_ne_none, V.tup.injEq, Option.isSome_some, Option.isSome_none, exists_eq_left, exists_eq, Nat.mul_zero, e1'], rfl⟩, rfl, rfl, rfl, rfl, rfl, _, _, _, _, hx3, rfl, ⟨s.nx, by simp (disch := (first | omega | (simp only [Hp.alloc_next, Hp.set_next] <;> omega) | (simp (disch := (first | omega | (simp only [Hp.alloc_next, Hp.set_next] <;> omega) | fail)) only [Hp.get_set_self, Hp.get_set_ne, Hp.get_alloc_self, Hp.get_alloc_ne, Hp.get_alloc_at, Hp.get_set_at, Hp.set_next, Hp.alloc_next, e3']; done) | fail)) only [Hp.st, Hp.ld, Hp.lda, splice, ble_eq', if_true, if_false, ite_true, ite_false, cond_true, cond_false, decide_true, decide_false, List.length_cons, List.length_nil, List.take_zero, List.take_succ_cons, List.nil_append, List.cons_append, List.append_nil, List.drop_succ_cons, List.drop_zero, List.drop_nil, List.getElem?_cons_succ, List.getElem?_cons_zero, Nat.reduceAdd, Nat.reduceLeDiff, Nat.reduceEqDiff, Nat.zero_add, Nat.add_zero, Nat.le_refl, Nat.zero_le, Nat.succ_ne_self, Nat.mul_one, Int.toNat_natCast, Option.some.injEq, Option.isNone_some, Option.isNone_none, V.int.injEq, V.str.injEq, V.bool.injEq, V.ptr.injEq, V.slc.injEq, V.map.injEq, V.agg.injEq, V.tup.injEq, List.cons.injEq, Prod.mk.injEq, onS, true_and, and_true, and_assoc, exists_and_left, exists_eq_left', forall_eq, heq_eq_eq, reduceCtorEq, Bool.not_true, Bool.not_false, eq_self, not_false_eq_true, Nat.left_eq_add, Nat.add_eq_left, Nat.add_left_cancel_iff, Nat.add_right_cancel_iff, Nat.reduceEqDiff, Nat.one_ne_zero, Hp.get_set_self, Hp.get_set_ne, Hp.get_alloc_self, Hp.get_alloc_ne, Hp.get_alloc_at, Hp.get_set_at, Hp.set_next, Hp.alloc_next, Option.some_ne_none, V.tup.injEq, Option.isSome_some, Option.isSome_none, exists_eq_left, exists_eq, Nat.mul_zero, e3'], rfl⟩, rfl, rfl, rfl, rfl, rfl, _, Hp.st_of e3' (Nat.le_of_ble_eq_true rfl), rfl, rfl, _, Hp.st_of Hp.get_set_self (Nat.le_of_ble_eq_true rfl), ?_⟩
    rw [u32w]
    subst hF
    have si' := si.push hq c
    refine hK _ _ ⟨by rw [decide_eq_true hok], (⟨(s.nx + 1) % 4294967296, s.rd ++ [c], s.A, s.rows, s.most, s.fin, s.en⟩ : IS), q + 1, i :: m :: [h1.next + 1], ⟨m, some (h1.next + 1, 0), false, o, [h1.next + 1], ?_, ?_, e3, ?_, rfl, d1, by simp; omega, by simp; omega⟩, ⟨fun x hx hxF => ?_, fun x hx => ?_, ?_⟩, (w3.set (by omega)).set (by simp only [Hp.set_next]; omega), by omega, ?_⟩
    · rw [Hp.get_set_self]
      have : (s.rd ++ [c]).length = s.rd.length + 1 := by simp
      show _ = some (O.row [.int .u32 ((s.nx + 1) % 4294967296), .slc (some (h1.next + 1, 0)) (s.rd ++ [c]).length false, .map (some m), .int .i64 s.rows, .int .i64 s.most, .bool s.fin, .int .u32 s.en] 1 false)
      rw [this]; rfl
    · rw [Hp.get_set_ne (Ne.symm d1), Hp.get_set_ne (Ne.symm d1)]; exact m3
    · have : (s.rd ++ [c]).length = s.rd.length + 1 := by simp
      show Own 1 _ (s.rd ++ [c]).length (bRows (s.rd ++ [c])) _ _
      rw [this]
      exact (Own.rep _ _ _ _).loc _ _ _ (fun x hx => by rw [List.mem_singleton] at hx; rw [Hp.get_set_ne (by omega), Hp.get_set_ne (by omega)]) ho3
    · simp only [List.mem_cons, not_or] at hxF
      rw [Hp.get_set_ne hxF.1, Hp.get_set_ne hxF.1, u3.same x hx hxF.2.2]
    · simp only [List.mem_cons, List.not_mem_nil, or_false] at hx
      rcases hx with rfl | rfl | rfl
      · exact .inl (by simp)
      · exact .inl (by simp)
      · exact .inr (by omega)
    · simp only [Hp.set_next]; omega
    · rw [est hok]
      subst hjN
      refine ⟨si', fun k hk => ?_, ?_⟩
      · by_cases e : k = p
        · subst e; rw [up_self]; omega
        · rw [up_ne e]; exact lo k (by omega)
      · have e : up F p c.toNat (p + 1) = F (p + 1) := up_ne (by omega)
        show s.rows = _
        rw [e, hrow]
        by_cases f2 : 0 ≤ F (p + 1)
        · rw [if_pos f2] at hur ⊢; omega
        · rw [if_neg f2] at hur ⊢; omega
  · have cz : (((p - q : Nat) : Int) == 0) = false := by rw [beq_eq_false_iff_ne]; omega
    rw [cz]
    have hup : IntKind.u32.wrap ((b + p) % 4294967296 - 1) = (b + (p - 1 : Nat)) % 4294967296 := by rw [u32w]; omega
    have hdn : IntKind.u32.wrap ((b + p) % 4294967296 + 1) = (b + (p + 1 : Nat)) % 4294967296 := by rw [u32w]; push_cast; omega
    rw [hup, hdn]
    refine ⟨s.rows, by simp (disch := (first | omega | (simp only [Hp.alloc_next, Hp.set_next] <;> omega) | (simp (disch := (first | omega | (simp only [Hp.alloc_next, Hp.set_next] <;> omega) | fail)) only [Hp.get_set_self, Hp.get_set_ne, Hp.get_alloc_self, Hp.get_alloc_ne, Hp.get_alloc_at, Hp.get_set_at, Hp.set_next, Hp.alloc_next, e1]; done) | fail)) only [Hp.st, Hp.ld, Hp.lda, splice, ble_eq', if_true, if_false, ite_true, ite_false, cond_true, cond_false, decide_true, decide_false, List.length_cons, List.length_nil, List.take_zero, List.take_succ_cons, List.nil_append, List.cons_append, List.append_nil, List.drop_succ_cons, List.drop_zero, List.drop_nil, List.getElem?_cons_succ, List.getElem?_cons_zero, Nat.reduceAdd, Nat.reduceLeDiff, Nat.reduceEqDiff, Nat.zero_add, Nat.add_zero, Nat.le_refl, Nat.zero_le, Nat.succ_ne_self, Nat.mul_one, Int.toNat_natCast, Option.some.injEq, Option.isNone_some, Option.isNone_none, V.int.injEq, V.str.injEq, V.bool.injEq, V.ptr.injEq, V.slc.injEq, V.map.injEq, V.agg.injEq, V.tup.injEq, List.cons.injEq, Prod.mk.injEq, onS, true_and, and_true, and_assoc, exists_and_left, exists_eq_left', forall_eq, heq_eq_eq, reduceCtorEq, Bool.not_true, Bool.not_false, eq_self, not_false_eq_true, Nat.left_eq_add, Nat.add_eq_left, Nat.add_left_cancel_iff, Nat.add_right_cancel_iff, Nat.reduceEqDiff, Nat.one_ne_zero, Hp.get_set_self, Hp.get_set_ne, Hp.get_alloc_self, Hp.get_alloc_ne, Hp.get_alloc_at, Hp.get_set_at, Hp.set_next, Hp.alloc_next, Option.some_ne_none, V.tup.injEq, Option.isSome_some, Option.isSome_none, exists_eq_left, exists_eq, Nat.mul_zero, e1], ?_⟩
    refine (has_spec r0 _).mono ?_
    rintro _ h2 ⟨rfl, rfl⟩
    refine ⟨_, rfl, rfl, rfl, rfl, rfl, ⟨s.rows, by simp (disch := (first | omega | (simp only [Hp.alloc_next, Hp.set_next] <;> omega) | (simp (disch := (first | omega | (simp only [Hp.alloc_next, Hp.set_next] <;> omega) | fail)) only [Hp.get_set_self, Hp.get_set_ne, Hp.get_alloc_self, Hp.get_alloc_ne, Hp.get_alloc_at, Hp.get_set_at, Hp.set_next, Hp.alloc_next, e1]; done) | fail)) only [Hp.st, Hp.ld, Hp.lda, splice, ble_eq', if_true, if_false, ite_true, ite_false, cond_true, cond_false, decide_true, decide_false, List.length_cons, List.length_nil, List.take_zero, List.take_succ_cons, List.nil_append, List.cons_append, List.append_nil, List.drop_succ_cons, List.drop_zero, List.drop_nil, List.getElem?_cons_succ, List.getElem?_cons_zero, Nat.reduceAdd, Nat.reduceLeDiff, Nat.reduceEqDiff, Nat.zero_add, Nat.add_zero, Nat.le_refl, Nat.zero_le, Nat.succ_ne_self, Nat.mul_one, Int.toNat_natCast, Option.some.injEq, Option.isNone_some, Option.isNone_none, V.int.injEq, V.str.injEq, V.bool.injEq, V.ptr.injEq, V.slc.injEq, V.map.injEq, V.agg.injEq, V.tup.injEq, List.cons.injEq, Prod.mk.injEq, onS, true_and, and_true, and_assoc, exists_and_left, exists_eq_left', forall_eq, heq_eq_eq, reduceCtorEq, Bool.not_true, Bool.not_false, eq_self, not_false_eq_true, Nat.left_eq_add, Nat.add_eq_left, Nat.add_left_cancel_iff, Nat.add_right_cancel_iff, Nat.reduceEqDiff, Nat.one_ne_zero, Hp.get_set_self, Hp.get_set_ne, Hp.get_alloc_self, Hp.get_alloc_ne, Hp.get_alloc_at, Hp.get_set_at, Hp.set_next, Hp.alloc_next, Option.some_ne_none, V.tup.injEq, Option.isSome_some, Option.isSome_none, exists_eq_left, exists_eq, Nat.mul_zero, e1], rfl⟩, rfl, rfl, rfl, ?_⟩
    refine (has_spec r0 _).mono ?_
    rintro _ h3 ⟨rfl, rfl⟩
    refine ⟨_, rfl, rfl, rfl, ⟨s.rows, by simp (disch := (first | omega | (simp only [Hp.alloc_next, Hp.set_next] <;> omega) | (simp (disch := (first | omega | (simp only [Hp.alloc_next, Hp.set_next] <;> omega) | fail)) only [Hp.get_set_self, Hp.get_set_ne, Hp.get_alloc_self, Hp.get_alloc_ne, Hp.get_alloc_at, Hp.get_set_at, Hp.set_next, Hp.alloc_next, e1]; done) | fail)) only [Hp.st, Hp.ld, Hp.lda, splice, ble_eq', if_true, if_false, ite_true, ite_false, cond_true, cond_false, decide_true, decide_false, List.length_cons, List.length_nil, List.take_zero, List.take_succ_cons, List.nil_append, List.cons_append, List.append_nil, List.drop_succ_cons, List.drop_zero, List.drop_nil, List.getElem?_cons_succ, List.getElem?_cons_zero, Nat.reduceAdd, Nat.reduceLeDiff, Nat.reduceEqDiff, Nat.zero_add, Nat.add_zero, Nat.le_refl, Nat.zero_le, Nat.succ_ne_self, Nat.mul_one, Int.toNat_natCast, Option.some.injEq, Option.isNone_some, Option.isNone_none, V.int.injEq, V.str.injEq, V.bool.injEq, V.ptr.injEq, V.slc.injEq, V.map.injEq, V.agg.injEq, V.tup.injEq, List.cons.injEq, Prod.mk.injEq, onS, true_and, and_true, and_assoc, exists_and_left, exists_eq_left', forall_eq, heq_eq_eq, reduceCtorEq, Bool.not_true, Bool.not_false, eq_self, not_false_eq_true, Nat.left_eq_add, Nat.add_eq_left, Nat.add_left_cancel_iff, Nat.add_right_cancel_iff, Nat.reduceEqDiff, Nat.one_ne_zero, Hp.get_set_self, Hp.get_set_ne, Hp.get_alloc_self, Hp.get_alloc_ne, Hp.get_alloc_at, Hp.get_set_at, Hp.set_next, Hp.alloc_next, Option.some_ne_none, V.tup.injEq, Option.isSome_some, Option.isSome_none, exists_eq_left, exists_eq, Nat.mul_zero, e1], rfl⟩, rfl, rfl, rfl, ?_⟩
    rw [hhas (p - 1) (by omega) (by omega), hhas (p + 1) (by omega) (by omega)]
    have hrw : IntKind.i64.wrap (IntKind.i64.wrap (IntKind.i64.wrap (s.rows + 1) - (if decide (0 ≤ F (p - 1)) = true then 1 else 0)) - (if decide (0 ≤ F (p + 1)) = true then 1 else 0)) = (rn (up F p c.toNat) n : Int) := by
      simp only [decide_eq_true_eq]
      rw [hrow]
      by_cases f1 : 0 ≤ F (p - 1)
      · rw [if_neg (show ¬(0 < p ∧ F (p - 1) < 0) by omega)] at hur
        rw [if_pos f1]
        by_cases f2 : 0 ≤ F (p + 1)
        · rw [if_pos f2] at hur ⊢
          rw [wr (x := (rn F n : Int) + 1) (by omega) (by omega), wr (x := (rn F n : Int) + 1 - 1) (by omega) (by omega), wr (by omega) (by omega)]; omega
        · rw [if_neg f2] at hur ⊢
          rw [wr (x := (rn F n : Int) + 1) (by omega) (by omega), wr (x := (rn F n : Int) + 1 - 1) (by omega) (by omega), wr (by omega) (by omega)]; omega
      · rw [if_pos (show 0 < p ∧ F (p - 1) < 0 by omega)] at hur
        rw [if_neg f1]
        by_cases f2 : 0 ≤ F (p + 1)
        · rw [if_pos f2] at hur ⊢
          rw [wr (x := (rn F n : Int) + 1) (by omega) (by omega), wr (x := (rn F n : Int) + 1 - 0) (by omega) (by omega), wr (by omega) (by omega)]; omega
        · rw [if_neg f2] at hur ⊢
          rw [wr (x := (rn F n : Int) + 1) (by omega) (by omega), wr (x := (rn F n : Int) + 1 - 0) (by omega) (by omega), wr (by omega) (by omega)]; omega
    rw [hrw]
    cases c5 : ltI 64 ((rn (up F p c.toNat) n : Nat) : Int) with
    | true =>
      rw [ltI_eq, decide_eq_true_eq] at c5
      exact stay (by rintro ⟨_, _, _, _, h5⟩; rw [tp] at h5; omega)
    | false =>
      rw [ltI_eq, decide_eq_false_iff_not] at c5
      have hok := okI (by omega)
      obtain ⟨oa, ob, w1, k1, hob, hen, hst⟩ := e3.entry (z := (0 : Int)) mtF ((b + p) % 4294967296) (c.toNat : Int)
      have e5 : ((h3.set m oa).set m ob).get i = some (.row [.int .u32 s.nx, .slc a s.rd.length f, .map (some m), .int .i64 s.rows, .int .i64 s.most, .bool s.fin, .int .u32 s.en] 1 false) := by rw [Hp.get_set_ne d1, Hp.get_set_ne d1]; exact e1
      refine ⟨some m, by simp (disch := (first | omega | (simp only [Hp.alloc_next, Hp.set_next] <;> omega) | (simp (disch := (first | omega | (simp only [Hp.alloc_next, Hp.set_next] <;> omega) | fail)) only [Hp.get_set_self, Hp.get_set_ne, Hp.get_alloc_self, Hp.get_alloc_ne, Hp.get_alloc_at, Hp.get_set_at, Hp.set_next, Hp.alloc_next, e1]; done) | fail)) only [Hp.st, Hp.ld, Hp.lda, splice, ble_eq', if_true, if_false, ite_true, ite_false, cond_true, cond_false, decide_true, decide_false, List.length_cons, List.length_nil, List.take_zero, List.take_succ_cons, List.nil_append, List.cons_append, List.append_nil, List.drop_succ_cons, List.drop_zero, List.drop_nil, List.getElem?_cons_succ, List.getElem?_cons_zero, Nat.reduceAdd, Nat.reduceLeDiff, Nat.reduceEqDiff, Nat.zero_add, Nat.add_zero, Nat.le_refl, Nat.zero_le, Nat.succ_ne_self, Nat.mul_one, Int.toNat_natCast, Option.some.injEq, Option.isNone_some, Option.isNone_none, V.int.injEq, V.str.injEq, V.bool.injEq, V.ptr.injEq, V.slc.injEq, V.map.injEq, V.agg.injEq, V.tup.injEq, List.cons.injEq, Prod.mk.injEq, onS, true_and, and_true, and_assoc, exists_and_left, exists_eq_left', forall_eq, heq_eq_eq, reduceCtorEq, Bool.not_true, Bool.not_false, eq_self, not_false_eq_true, Nat.left_eq_add, Nat.add_eq_left, Nat.add_left_cancel_iff, Nat.add_right_cancel_iff, Nat.reduceEqDiff, Nat.one_ne_zero, Hp.get_set_self, Hp.get_set_ne, Hp.get_alloc_self, Hp.get_alloc_ne, Hp.get_alloc_at, Hp.get_set_at, Hp.set_next, Hp.alloc_next, Option.some_ne_none, V.tup.injEq, Option.isSome_some, Option.isSome_none, exists_eq_left, exists_eq, Nat.mul_zero, e1], w1, k1, _, hen _ _ e2, _, hst _ _ Hp.get_set_self, _, Hp.st_of e5 (Nat.le_of_ble_eq_true rfl), ?_⟩
      have hmn : mget s.A ((b + p) % 4294967296) = none := by rw [si.get p hp (by omega), if_neg (by omega)]
      rw [mput_none _ _ _ hmn] at hob
      subst hF
      have si' := si.put (p := p) (by omega) (by omega) hFp (fun k hk => by have := fi.lt hk; omega) c (rn (up F p c.toNat) n)
      refine hK _ _ ⟨by rw [decide_eq_true hok], { s with A := s.A ++ [((b + p) % 4294967296, (c.toNat : Int))], rows := (rn (up F p c.toNat) n : Int) }, q, i :: m :: G, ⟨m, a, f, ob, G, ?_, ?_, hob, (Own.rep _ _ _ _).loc _ _ _ (fun x hx => ?_) e4, rfl, d1, d2, d3⟩, ⟨fun x hx hxF => ?_, fun x hx => .inl hx, by simp⟩, ((hw.set hml).set (by simp only [Hp.set_next]; omega)).set (by simp only [Hp.set_next]; omega), Nat.le_refl _, ?_⟩
      · rw [Hp.get_set_self]; rfl
      · rw [Hp.get_set_ne (Ne.symm d1), Hp.get_set_self]
      · have k1 : x ≠ i := fun e => d2 (e ▸ hx)
        have k2 : x ≠ m := fun e => d3 (e ▸ hx)
        rw [Hp.get_set_ne k1, Hp.get_set_ne k2, Hp.get_set_ne k2]
      · simp only [List.mem_cons, not_or] at hxF
        rw [Hp.get_set_ne hxF.1, Hp.get_set_ne hxF.2.1, Hp.get_set_ne hxF.2.1]
      · rw [est hok]
        refine ⟨si', fun k hk => ?_, ?_⟩
        · rw [up_ne (by omega)]; exact lo k hk
        · have e : up F p c.toNat q = F q := up_ne (by omega)
          rw [e, if_neg (by omega)]; simp

/-- how many bytes are still to come -/
def leftn (n : Nat) (b : Int) (i : Nat) (h : Hp) : Nat := match h.get i with
  | some (.row (.int _ nx :: _) _ _) => n - ((nx - b) % 4294967296).toNat
  | _ => 0

theorem leftn_eq (hq : q < 65536) (r : InR i s h FA) (si : PI b R n F E q s) : leftn n b i h = n - q := by
  obtain ⟨m, a, f, o, G, e1, _⟩ := r
  simp only [leftn, e1, si.nx]
  omega

theorem joins_ex (hn : n ≤ 400) (hw : h.wf) (r : InR i s h FA) (si : PI b R n F E q s) (fi : FI n R.length F E) (lo : ∀ k, k < q → 0 ≤ F k) (hrow : s.rows = rn F n + (if 0 ≤ F q then 1 else 0)) :
    XCalls Try.prog 44 [.ptr (some (i, 0))] h fun v h' => ∃ s' q' FA', InR i s' h' FA' ∧ Upd h h' FA FA' ∧ h'.wf ∧ q ≤ q' ∧ PI b R n F E q' s' ∧ (∀ k, k < q' → 0 ≤ F k) ∧ F q' < 0 ∧ s'.rows = rn F n := by
  refine XCalls.cps fun K hK => ?_
  have hrn := rn_le F n
  have qle : ∀ {q : Nat}, (∀ k, k < q → 0 ≤ F k) → q + R.length ≤ n := fun {q} lo => by
    by_cases h0 : q = 0
    · have := fi.rle; omega
    · have := fi.lt (lo (q - 1) (by omega)); omega
  have look : ∀ {s : IS} {h : Hp} {FA : List Nat} {q : Nat}, InR i s h FA → PI b R n F E q s → q < 65536 → ∃ m, h.ld i 2 = some (.map (some m)) ∧ h.ld i 0 = some (.int .u32 s.nx) ∧ xlook T h 73 (.map (some m)) (.int .u32 s.nx) true = some (.tup [.int .u8 (if 0 ≤ F q then F q else 0), .bool (decide (0 ≤ F q))]) := fun {s h FA q} r si hq => by
    have hg := si.get q (Nat.le_refl _) hq
    rw [← si.nx] at hg
    obtain ⟨m, a, f, o, G, e1, e2, e3, e4, hF, d1, d2, d3⟩ := r
    have hlk := e3.look2 mtF
    refine ⟨m, by simp (disch := (first | omega | (simp only [Hp.alloc_next, Hp.set_next] <;> omega) | (simp (disch := (first | omega | (simp only [Hp.alloc_next, Hp.set_next] <;> omega) | fail)) only [Hp.get_set_self, Hp.get_set_ne, Hp.get_alloc_self, Hp.get_alloc_ne, Hp.get_alloc_at, Hp.get_set_at, Hp.set_next, Hp.alloc_next, e1]; done) | fail)) only [Hp.st, Hp.ld, Hp.lda, splice, ble_eq', if_true, if_false, ite_true, ite_false, cond_true, cond_false, decide_true, decide_false, List.length_cons, List.length_nil, List.take_zero, List.take_succ_cons, List.nil_append, List.cons_append, List.append_nil, List.drop_succ_cons, List.drop_zero, List.drop_nil, List.getElem?_cons_succ, List.getElem?_cons_zero, Nat.reduceAdd, Nat.reduceLeDiff, Nat.reduceEqDiff, Nat.zero_add, Nat.add_zero, Nat.le_refl, Nat.zero_le, Nat.succ_ne_self, Nat.mul_one, Int.toNat_natCast, Option.some.injEq, Option.isNone_some, Option.isNone_none, V.int.injEq, V.str.injEq, V.bool.injEq, V.ptr.injEq, V.slc.injEq, V.map.injEq, V.agg.injEq, V.tup.injEq, List.cons.injEq, Prod.mk.injEq, onS, true_and, and_true, and_assoc, exists_and_left, exists_eq_left', forall_eq, heq_eq_eq, reduceCtorEq, Bool.not_true, Bool.not_false, eq_self, not_false_eq_true, Nat.left_eq_add, Nat.add_eq_left, Nat.add_left_cancel_iff, Nat.add_right_cancel_iff, Nat.reduceEqDiff, Nat.one_ne_zero, Hp.get_set_self, Hp.get_set_ne, Hp.get_alloc_self, Hp.get_alloc_ne, Hp.get_alloc_at, Hp.get_set_at, Hp.set_next, Hp.alloc_next, Option.some_ne_none, V.tup.injEq, Option.isSome_some, Option.isSome_none, exists_eq_left, exists_eq, Nat.mul_zero, e1], by simp (disch := (first | omega | (simp only [Hp.alloc_next, Hp.set_next] <;> omega) | (simp (disch := (first | omega | (simp only [Hp.alloc_next, Hp.set_next] <;> omega) | fail)) only [Hp.get_set_self, Hp.get_set_ne, Hp.get_alloc_self, Hp.get_alloc_ne, Hp.get_alloc_at, Hp.get_set_at, Hp.set_next, Hp.alloc_next, e1]; done) | fail)) only [Hp.st, Hp.ld, Hp.lda, splice, ble_eq', if_true, if_false, ite_true, ite_false, cond_true, cond_false, decide_true, decide_false, List.length_cons, List.length_nil, List.take_zero, List.take_succ_cons, List.nil_append, List.cons_append, List.append_nil, List.drop_succ_cons, List.drop_zero, List.drop_nil, List.getElem?_cons_succ, List.getElem?_cons_zero, Nat.reduceAdd, Nat.reduceLeDiff, Nat.reduceEqDiff, Nat.zero_add, Nat.add_zero, Nat.le_refl, Nat.zero_le, Nat.succ_ne_self, Nat.mul_one, Int.toNat_natCast, Option.some.injEq, Option.isNone_some, Option.isNone_none, V.int.injEq, V.str.injEq, V.bool.injEq, V.ptr.injEq, V.slc.injEq, V.map.injEq, V.agg.injEq, V.tup.injEq, List.cons.injEq, Prod.mk.injEq, onS, true_and, and_true, and_assoc, exists_and_left, exists_eq_left', forall_eq, heq_eq_eq, reduceCtorEq, Bool.not_true, Bool.not_false, eq_self, not_false_eq_true, Nat.left_eq_add, Nat.add_eq_left, Nat.add_left_cancel_iff, Nat.add_right_cancel_iff, Nat.reduceEqDiff, Nat.one_ne_zero, Hp.get_set_self, Hp.get_set_ne, Hp.get_alloc_self, Hp.get_alloc_ne, Hp.get_alloc_at, Hp.get_set_at, Hp.set_next, Hp.alloc_next, Option.some_ne_none, V.tup.injEq, Option.isSome_some, Option.isSome_none, exists_eq_left, exists_eq, Nat.mul_zero, e1], ?_⟩
    rw [hlk _ _ _ e2, lookV_getD, hg]
    by_cases e : 0 ≤ F q
    · rw [if_pos e, if_pos e, decide_eq_true e]; rfl
    · rw [if_neg e, if_neg e, decide_eq_false e]; rfl
  have go : ∀ {s : IS} {h h0 : Hp} {FA F0 : List Nat} {q : Nat} {K' : Hp → Prop}, 0 ≤ F q → (∀ k, k < q → 0 ≤ F k) → h.wf → InR i s h FA → PI b R n F E q s → s.rows = rn F n → Upd h0 h F0 FA → (∀ s' h' FA', InR i s' h' FA' → PI b R n F E (q + 1) s' → s'.rows = rn F n → Upd h0 h' F0 FA' → h'.wf → K' h') → _ := fun {s h h0 FA F0 q K'} hFq lo hw r si hr u hK =>
    jstepG (K' := K') (c := if 0 ≤ F q then F q else 0) (b := UInt8.ofNat (F q).toNat) (by
      rw [if_pos hFq, UInt8.toNat_ofNat']; have := (fi.hi q hFq).2; omega) (by have := si.len; have := qle lo; omega) hw r fun h' FA' r' u' w' => hK _ h' FA' r' (si.pop hFq (fun k hk => by have := fi.lt hk; omega) s.rows) hr (u.trans u') w'
  apply x44; unfold X44
  refine ⟨fun vs h' => match vs with
    | [.bool _] => ∃ s' q' FA', InR i s' h' FA' ∧ PI b R n F E q' s' ∧ (∀ k, k < q' → 0 ≤ F k) ∧ s'.rows = rn F n ∧ q ≤ q' ∧ Upd h h' FA FA' ∧ h'.wf ∧ vs = [.bool false]
    | _ => False, fun _ h' => leftn n b i h', n + 1, ?_, ?_⟩
  · have hq := qle lo
    obtain ⟨m, l2, l0, hlk⟩ := look r si (by omega)
    refine ⟨some m, l2, s.nx, l0, _, _, hlk, ?_⟩
    by_cases hc : 0 ≤ F q
    · rw [decide_eq_true hc]
      rw [if_pos hc] at hrow
      have r0 := r
      obtain ⟨m, a, f, o, G, e1, e2, e3, e4, hF, d1, d2, d3⟩ := r
      have hwr : IntKind.i64.wrap (s.rows - 1) = (rn F n : Int) := by rw [hrow, wr (by omega) (by omega)]; omega
      refine ⟨s.rows, by simp (disch := (first | omega | (simp only [Hp.alloc_next, Hp.set_next] <;> omega) | (simp (disch := (first | omega | (simp only [Hp.alloc_next, Hp.set_next] <;> omega) | fail)) only [Hp.get_set_self, Hp.get_set_ne, Hp.get_alloc_self, Hp.get_alloc_ne, Hp.get_alloc_at, Hp.get_set_at, Hp.set_next, Hp.alloc_next, e1]; done) | fail)) only [Hp.st, Hp.ld, Hp.lda, splice, ble_eq', if_true, if_false, ite_true, ite_false, cond_true, cond_false, decide_true, decide_false, List.length_cons, List.length_nil, List.take_zero, List.take_succ_cons, List.nil_append, List.cons_append, List.append_nil, List.drop_succ_cons, List.drop_zero, List.drop_nil, List.getElem?_cons_succ, List.getElem?_cons_zero, Nat.reduceAdd, Nat.reduceLeDiff, Nat.reduceEqDiff, Nat.zero_add, Nat.add_zero, Nat.le_refl, Nat.zero_le, Nat.succ_ne_self, Nat.mul_one, Int.toNat_natCast, Option.some.injEq, Option.isNone_some, Option.isNone_none, V.int.injEq, V.str.injEq, V.bool.injEq, V.ptr.injEq, V.slc.injEq, V.map.injEq, V.agg.injEq, V.tup.injEq, List.cons.injEq, Prod.mk.injEq, onS, true_and, and_true, and_assoc, exists_and_left, exists_eq_left', forall_eq, heq_eq_eq, reduceCtorEq, Bool.not_true, Bool.not_false, eq_self, not_false_eq_true, Nat.left_eq_add, Nat.add_eq_left, Nat.add_left_cancel_iff, Nat.add_right_cancel_iff, Nat.reduceEqDiff, Nat.one_ne_zero, Hp.get_set_self, Hp.get_set_ne, Hp.get_alloc_self, Hp.get_alloc_ne, Hp.get_alloc_at, Hp.get_set_at, Hp.set_next, Hp.alloc_next, Option.some_ne_none, V.tup.injEq, Option.isSome_some, Option.isSome_none, exists_eq_left, exists_eq, Nat.mul_zero, e1], _, Hp.st_of e1 (Nat.le_of_ble_eq_true rfl), ?_⟩
      rw [hwr]
      have r1 : InR i { s with rows := (rn F n : Int) } (h.set i (.row (splice [.int .u32 s.nx, .slc a s.rd.length f, .map (some m), .int .i64 s.rows, .int .i64 s.most, .bool s.fin, .int .u32 s.en] 3 [.int .i64 (rn F n : Int)]) 1 false)) FA := ⟨m, a, f, o, G, by rw [Hp.get_set_self]; rfl, by rw [Hp.get_set_ne (Ne.symm d1)]; exact e2, e3, (Own.rep _ _ _ _).loc _ _ _ (fun x hx => Hp.get_set_ne fun e => d2 (e ▸ hx)) e4, hF, d1, d2, d3⟩
      have u1 : Upd h (h.set i (.row (splice [.int .u32 s.nx, .slc a s.rd.length f, .map (some m), .int .i64 s.rows, .int .i64 s.most, .bool s.fin, .int .u32 s.en] 3 [.int .i64 (rn F n : Int)]) 1 false)) FA FA := ⟨fun x hx hxF => by rw [Hp.get_set_ne]; rintro rfl; exact hxF (by rw [hF]; simp), fun x hx => .inl hx, by simp⟩
      refine go (K' := fun h6 => _) hc lo (hw.set (hw.lt e1)) r1 ⟨si.nx, si.rd, si.mo, si.get, si.far, si.nA, si.fin, si.en⟩ rfl u1 fun s' h' FA' r' si' hr' u' w' => ?_
      exact ⟨rfl, ⟨s', q + 1, FA', r', si', fun k hk => by
        by_cases e : k = q
        · subst e; exact hc
        · exact lo k (by omega), hr', by omega, u', w', rfl⟩, by show leftn n b i h' < _; rw [leftn_eq (by omega) r' si']; omega⟩
    · rw [decide_eq_false hc]
      rw [if_neg hc] at hrow
      exact hK _ _ ⟨s, q, FA, r, Upd.refl _ _, hw, Nat.le_refl _, si, lo, by omega, by simpa using hrow⟩
  rintro bs b1 h1 ⟨s1, q1, F1, r1, si1, lo1, hr1, hq1, u1, w1, hb1⟩
  have hq := qle lo1
  obtain ⟨m, l2, l0, hlk⟩ := look r1 si1 (by omega)
  refine ⟨some m, l2, s1.nx, l0, _, _, hlk, ?_⟩
  by_cases hc : 0 ≤ F q1
  · rw [decide_eq_true hc]
    have : b1 = false := by simpa using hb1
    subst this
    refine go (K' := fun h6 => _) hc lo1 w1 r1 si1 hr1 u1 fun s' h' FA' r' si' hr' u' w' => ?_
    exact ⟨rfl, ⟨s', q1 + 1, FA', r', si', fun k hk => by
      by_cases e : k = q1
      · subst e; exact hc
      · exact lo1 k (by omega), hr', by omega, u', w', rfl⟩, by
        show leftn n b i h' < leftn n b i h1
        have := fi.lt hc
        rw [leftn_eq (by omega) r' si', leftn_eq (by omega) r1 si1]; omega⟩
  · rw [decide_eq_false hc]
    exact hK _ _ ⟨s1, q1, F1, r1, u1, w1, hq1, si1, lo1, by omega, hr1⟩
end

end Go.Vex.In
