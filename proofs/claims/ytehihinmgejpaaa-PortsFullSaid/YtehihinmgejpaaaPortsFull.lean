/-
  PortsFull of layer 22: however many places, whatever place, the law returns true and leaves the input as it was. No condition.
-/
import Derived.Test.YtehihinmgejpaaaVexDD
import Derived.Test.YtehihinmgejpaaaTab22
import Derived.Test.YtehihinmgejpaaaXp22
import Derived.Test.YtehihinmgejpaaaXpn22
import Derived.Test.YtehihinmgejpaaaXlf22
import Derived.Test.YtehihinmgejpaaaCpa22
import Derived.Test.YtehihinmgejpaaaCpb22
import Derived.Test.YtehihinmgejpaaaCpc22
import Derived.Test.YtehihinmgejpaaaCpd22
import Derived.Test.YtehihinmgejpaaaCpl22
import Derived.Test.YtehihinmgejpaaaRows
import Derived.WalkKit
import Derived.ProofKit
import Derived.OpenShut
import Derived.KernelRfl
set_option linter.unusedVariables false
set_option linter.unusedSimpArgs false
namespace Go.Vex.PortsFull
open Go.Proofs Go.Vex.Ports

def tb (k : Nat) : Bd := ⟨2, (k : Int) + 1, 80, false⟩
def fullL (n : Nat) : List (Int × Bd) := (List.range n).map fun k : Nat => ((k : Int) + 1, tb k)

theorem fullL_succ (n : Nat) : fullL (n + 1) = fullL n ++ [((n : Int) + 1, tb n)] := by simp [fullL, List.range_succ]
theorem fullL_len (n : Nat) : (fullL n).length = n := by simp [fullL]

theorem fullL_get {n k : Nat} (h : n ≤ k) : mget (fullL n) ((k : Int) + 1) = none := by
  unfold mget
  rw [Option.map_eq_none_iff, List.find?_eq_none]
  intro x hx
  obtain ⟨j, hj, rfl⟩ := List.mem_map.1 hx
  have := List.mem_range.1 hj
  simp; omega

theorem full_code (k : Nat) : bindCode (fullL (min k 1024)) ((k : Int) + 1) (tb k) = if k < 1024 then 0 else 6 := by
  have h1 : mayCode (fullL (min k 1024)) ((k : Int) + 1) (tb k) true = if k < 1024 then 0 else 6 := by
    unfold mayCode
    rw [if_neg (by simp [tb]), if_neg (by rw [fullL_get (Nat.min_le_left _ _)]; simp), fullL_len]
    by_cases h : k < 1024
    · rw [if_pos h, if_neg (by omega)]
    · rw [if_neg h, if_pos (by omega)]
  unfold bindCode
  rw [h1]
  by_cases h : k < 1024
  · have : ((fullL (min k 1024)).any fun x => clashB (tb k) x.2) = false := by
      apply List.any_eq_false.2
      intro x hx
      obtain ⟨j, hj, rfl⟩ := List.mem_map.1 hx
      have := List.mem_range.1 hj
      simp only [clashB, meetB, tb]
      have e1 : ((j : Int) + 1 == (k : Int) + 1) = false := by simp; omega
      have e2 : ((j : Int) + 1 == 0) = false := by simp; omega
      have e3 : ((k : Int) + 1 == 0) = false := by simp; omega
      simp [e1, e2, e3]
    rw [this]; simp [h]
  · simp [h]

theorem u32w {x : Int} (h0 : 0 ≤ x) (h1 : x < 4294967296) : IntKind.u32.wrap x = x := wrap_of (by simp [IntKind.min, IntKind.max, IntKind.signed, IntKind.bits]; omega)
theorem u64w {x : Int} (h0 : 0 ≤ x) (h1 : x < 18446744073709551616) : IntKind.u64.wrap x = x := wrap_of (by simp [IntKind.min, IntKind.max, IntKind.signed, IntKind.bits]; omega)

theorem law_calls (many : Int) (w0 : (Lit.int .u16 many).wf = true) (c0 : Int) (v0 : IntKind.u8.min ≤ c0 ∧ c0 ≤ IntKind.u8.max) (c1 : Int) (v1 : IntKind.u32.min ≤ c1 ∧ c1 ≤ IntKind.u32.max) (c2 : Int) (v2 : IntKind.u16.min ≤ c2 ∧ c2 ≤ IntKind.u16.max) (c3 : Bool) {h : Hp} :
    XCalls Try.prog 6 [.int .u16 many, .agg [.int .u8 c0, .int .u32 c1, .int .u16 c2, .bool c3]] h fun v _ => v = .bool true := by
  refine XCalls.ofWf fun hw => ?_
  refine XCalls.cps fun K hK => ?_
  have KT : ∀ h', K (.bool true) h' := fun h' => hK _ _ rfl
  have hb := lit_bnd w0
  simp [IntKind.min, IntKind.max, IntKind.signed, IntKind.bits] at hb
  obtain ⟨N, hN, hN2⟩ : ∃ N : Nat, (IntKind.i64.wrap many).tmod 1034 = N ∧ N < 1034 := ⟨(many % 1034).toNat, by rw [wr (by omega) (by omega), Int.tmod_eq_emod_of_nonneg (by omega)]; omega, by omega⟩
  apply x6; unfold X6
  rw [hN]
  rintro g1 rfl
  have q1 : Quiet h (h.alloc (.row [.int .u8 c0, .int .u32 c1, .int .u16 c2, .bool c3] 1 false)) := Quiet.alloc hw _
  refine (new_spec hw.alloc).mono ?_
  rintro _ g2 ⟨rfl, r2, q2⟩
  simp only [Hp.alloc_next, Nat.add_assoc, Nat.reduceAdd] at r2 ⊢
  have b2 : g2.get h.next = some (.row [.int .u8 c0, .int .u32 c1, .int .u16 c2, .bool c3] 1 false) := by rw [q2.same _ (by simp (disch := (first | omega | (simp only [Hp.alloc_next, Hp.set_next] <;> omega) | (simp (disch := (first | omega | (simp only [Hp.alloc_next, Hp.set_next] <;> omega) | fail)) only [Hp.get_set_self, Hp.get_set_ne, Hp.get_alloc_self, Hp.get_alloc_ne, Hp.get_alloc_at, Hp.get_set_at, Hp.set_next, Hp.alloc_next]; done) | fail)) only [Hp.st, Hp.ld, Hp.lda, splice, ble_eq', if_true, if_false, ite_true, ite_false, cond_true, cond_false, decide_true, decide_false, List.length_cons, List.length_nil, List.take_zero, List.take_succ_cons, List.nil_append, List.cons_append, List.append_nil, List.drop_succ_cons, List.drop_zero, List.drop_nil, List.getElem?_cons_succ, List.getElem?_cons_zero, Nat.reduceAdd, Nat.reduceLeDiff, Nat.reduceEqDiff, Nat.zero_add, Nat.add_zero, Nat.le_refl, Nat.zero_le, Nat.succ_ne_self, Nat.mul_one, Int.toNat_natCast, Option.some.injEq, Option.isNone_some, Option.isNone_none, V.int.injEq, V.str.injEq, V.bool.injEq, V.ptr.injEq, V.slc.injEq, V.map.injEq, V.agg.injEq, V.tup.injEq, List.cons.injEq, Prod.mk.injEq, onS, true_and, and_true, and_assoc, exists_and_left, exists_eq_left', forall_eq, heq_eq_eq, reduceCtorEq, Bool.not_true, Bool.not_false, eq_self, not_false_eq_true, Nat.left_eq_add, Nat.add_eq_left, Nat.add_left_cancel_iff, Nat.add_right_cancel_iff, Nat.reduceEqDiff, Nat.one_ne_zero, Hp.get_set_self, Hp.get_set_ne, Hp.get_alloc_self, Hp.get_alloc_ne, Hp.get_alloc_at, Hp.get_set_at, Hp.set_next, Hp.alloc_next, Option.some_ne_none, V.tup.injEq, Option.isSome_some, Option.isSome_none, exists_eq_left, exists_eq, Nat.mul_zero]; omega)]; simp (disch := (first | omega | (simp only [Hp.alloc_next, Hp.set_next] <;> omega) | (simp (disch := (first | omega | (simp only [Hp.alloc_next, Hp.set_next] <;> omega) | fail)) only [Hp.get_set_self, Hp.get_set_ne, Hp.get_alloc_self, Hp.get_alloc_ne, Hp.get_alloc_at, Hp.get_set_at, Hp.set_next, Hp.alloc_next]; done) | fail)) only [Hp.st, Hp.ld, Hp.lda, splice, ble_eq', if_true, if_false, ite_true, ite_false, cond_true, cond_false, decide_true, decide_false, List.length_cons, List.length_nil, List.take_zero, List.take_succ_cons, List.nil_append, List.cons_append, List.append_nil, List.drop_succ_cons, List.drop_zero, List.drop_nil, List.getElem?_cons_succ, List.getElem?_cons_zero, Nat.reduceAdd, Nat.reduceLeDiff, Nat.reduceEqDiff, Nat.zero_add, Nat.add_zero, Nat.le_refl, Nat.zero_le, Nat.succ_ne_self, Nat.mul_one, Int.toNat_natCast, Option.some.injEq, Option.isNone_some, Option.isNone_none, V.int.injEq, V.str.injEq, V.bool.injEq, V.ptr.injEq, V.slc.injEq, V.map.injEq, V.agg.injEq, V.tup.injEq, List.cons.injEq, Prod.mk.injEq, onS, true_and, and_true, and_assoc, exists_and_left, exists_eq_left', forall_eq, heq_eq_eq, reduceCtorEq, Bool.not_true, Bool.not_false, eq_self, not_false_eq_true, Nat.left_eq_add, Nat.add_eq_left, Nat.add_left_cancel_iff, Nat.add_right_cancel_iff, Nat.reduceEqDiff, Nat.one_ne_zero, Hp.get_set_self, Hp.get_set_ne, Hp.get_alloc_self, Hp.get_alloc_ne, Hp.get_alloc_at, Hp.get_set_at, Hp.set_next, Hp.alloc_next, Option.some_ne_none, V.tup.injEq, Option.isSome_some, Option.isSome_none, exists_eq_left, exists_eq, Nat.mul_zero]
  have r2lt := (PortsR.rep _ _).lt q2.wf r2 (j := h.next + 2) (by simp)
  refine ⟨_, rfl, by decide, fun vs g => match vs with
    | [.int _ i] => ∃ k : Nat, i = k ∧ k ≤ N ∧ PortsR (h.next + 2) (fullL (min k 1024)) g [h.next + 2, h.next + 1] ∧ g.get h.next = some (.row [.int .u8 c0, .int .u32 c1, .int .u16 c2, .bool c3] 1 false) ∧ g.wf
    | _ => False, fun vs _ => match vs with
    | [.int _ i] => N - i.toNat
    | _ => 0, ⟨(by trivial), 0, rfl, by omega, by simpa [fullL] using r2, b2, q2.wf⟩, ?_⟩
  rintro bs i g ⟨k, rfl, hk, r, gb, gw⟩
  have hbn := gw.lt gb
  cases hlt : ltI (↑k) (↑N) with
  | true =>
    rw [ltI_eq, decide_eq_true_eq] at hlt
    rw [u32w (x := (k : Int)) (by omega) (by omega), u32w (x := (k : Int) + 1) (by omega) (by omega), u64w (x := (k : Int)) (by omega) (by omega), u64w (x := (k : Int) + 1) (by omega) (by omega)]
    refine (tcp_spec gw).mono ?_
    rintro _ g3 ⟨rfl, q3⟩
    refine ⟨_, _, _, _, rfl, ?_⟩
    refine (bind_spec (b := tb k) q3.wf (r.quiet gw q3)).mono ?_
    rintro _ g4 ⟨rfl, r4, u4, w4⟩
    rw [full_code] at r4 ⊢
    have gb4 : g4.get h.next = some (.row [.int .u8 c0, .int .u32 c1, .int .u16 c2, .bool c3] 1 false) := by
      rw [u4.same _ (by have := q3.le; omega) (by simp), q3.same _ hbn]; exact gb
    have hw1 : IntKind.i64.wrap ((k : Int) + 1) = ((k + 1 : Nat) : Int) := by rw [wr (by omega) (by omega)]; rfl
    refine ⟨_, rfl, ?_⟩
    by_cases hk2 : k < 1024
    · have e1 : ltI (↑k) 1024 = true := by rw [ltI_eq, decide_eq_true_eq]; omega
      rw [if_pos hk2, if_pos rfl] at r4
      rw [if_pos hk2, e1]
      refine ⟨(by trivial), ⟨k + 1, hw1, by omega, ?_, gb4, w4⟩, by simp only [hw1, Int.toNat_natCast]; omega⟩
      rw [Nat.min_eq_left (show k ≤ 1024 by omega)] at r4
      rw [Nat.min_eq_left (show k + 1 ≤ 1024 by omega), fullL_succ]
      exact r4
    · have e1 : ltI (↑k) 1024 = false := by rw [ltI_eq, decide_eq_false_iff_not]; omega
      rw [if_neg hk2, if_neg (by decide)] at r4
      rw [if_neg hk2, e1]
      refine ⟨(by trivial), ⟨k + 1, hw1, by omega, ?_, gb4, w4⟩, by simp only [hw1, Int.toNat_natCast]; omega⟩
      rw [Nat.min_eq_right (show 1024 ≤ k by omega)] at r4
      rw [Nat.min_eq_right (show 1024 ≤ k + 1 by omega)]
      exact r4
  | false =>
    rw [ltI_eq, decide_eq_false_iff_not] at hlt
    obtain rfl : k = N := by omega
    refine (len_spec r).mono ?_
    rintro _ _ ⟨rfl, rfl⟩
    refine ⟨_, rfl, ?_⟩
    rw [fullL_len]
    have e1 : (((min k 1024 : Nat) : Int) != bif ltI 1024 (↑k) then 1024 else (k : Int)) = false := by
      cases hc : ltI 1024 (↑k) with
      | true => rw [ltI_eq, decide_eq_true_eq] at hc; simp; omega
      | false => rw [ltI_eq, decide_eq_false_iff_not] at hc; simp; omega
    rw [e1]
    refine ⟨c0, c1, c2, c3, by simp (disch := (first | omega | (simp only [Hp.alloc_next, Hp.set_next] <;> omega) | (simp (disch := (first | omega | (simp only [Hp.alloc_next, Hp.set_next] <;> omega) | fail)) only [Hp.get_set_self, Hp.get_set_ne, Hp.get_alloc_self, Hp.get_alloc_ne, Hp.get_alloc_at, Hp.get_set_at, Hp.set_next, Hp.alloc_next, gb]; done) | fail)) only [Hp.st, Hp.ld, Hp.lda, splice, ble_eq', if_true, if_false, ite_true, ite_false, cond_true, cond_false, decide_true, decide_false, List.length_cons, List.length_nil, List.take_zero, List.take_succ_cons, List.nil_append, List.cons_append, List.append_nil, List.drop_succ_cons, List.drop_zero, List.drop_nil, List.getElem?_cons_succ, List.getElem?_cons_zero, Nat.reduceAdd, Nat.reduceLeDiff, Nat.reduceEqDiff, Nat.zero_add, Nat.add_zero, Nat.le_refl, Nat.zero_le, Nat.succ_ne_self, Nat.mul_one, Int.toNat_natCast, Option.some.injEq, Option.isNone_some, Option.isNone_none, V.int.injEq, V.str.injEq, V.bool.injEq, V.ptr.injEq, V.slc.injEq, V.map.injEq, V.agg.injEq, V.tup.injEq, List.cons.injEq, Prod.mk.injEq, onS, true_and, and_true, and_assoc, exists_and_left, exists_eq_left', forall_eq, heq_eq_eq, reduceCtorEq, Bool.not_true, Bool.not_false, eq_self, not_false_eq_true, Nat.left_eq_add, Nat.add_eq_left, Nat.add_left_cancel_iff, Nat.add_right_cancel_iff, Nat.reduceEqDiff, Nat.one_ne_zero, Hp.get_set_self, Hp.get_set_ne, Hp.get_alloc_self, Hp.get_alloc_ne, Hp.get_alloc_at, Hp.get_set_at, Hp.set_next, Hp.alloc_next, Option.some_ne_none, V.tup.injEq, Option.isSome_some, Option.isSome_none, exists_eq_left, exists_eq, Nat.mul_zero, gb], ?_⟩
    refine (lendN (b := ⟨c0, c1, c2, c3⟩) gw).mono ?_
    rintro _ g6 ⟨rfl, q6⟩
    refine ⟨_, _, rfl, ?_⟩
    refine (ofN q6.wf).mono ?_
    rintro _ g7 ⟨rfl, q7⟩
    have q67 := q6.trans q7
    have gb7 : g7.get h.next = some (.row [.int .u8 c0, .int .u32 c1, .int .u16 c2, .bool c3] 1 false) := by rw [q67.same _ hbn]; exact gb
    have hbn7 := q67.wf.lt gb7
    refine ⟨_, _, _, _, _, rfl, ?_⟩
    rintro g8 rfl
    refine ⟨_, Hp.st_of Hp.get_alloc_self (Nat.le_of_ble_eq_true rfl), c0, c1, c2, c3, by simp (disch := (first | omega | (simp only [Hp.alloc_next, Hp.set_next] <;> omega) | (simp (disch := (first | omega | (simp only [Hp.alloc_next, Hp.set_next] <;> omega) | fail)) only [Hp.get_set_self, Hp.get_set_ne, Hp.get_alloc_self, Hp.get_alloc_ne, Hp.get_alloc_at, Hp.get_set_at, Hp.set_next, Hp.alloc_next, gb7]; done) | fail)) only [Hp.st, Hp.ld, Hp.lda, splice, ble_eq', if_true, if_false, ite_true, ite_false, cond_true, cond_false, decide_true, decide_false, List.length_cons, List.length_nil, List.take_zero, List.take_succ_cons, List.nil_append, List.cons_append, List.append_nil, List.drop_succ_cons, List.drop_zero, List.drop_nil, List.getElem?_cons_succ, List.getElem?_cons_zero, Nat.reduceAdd, Nat.reduceLeDiff, Nat.reduceEqDiff, Nat.zero_add, Nat.add_zero, Nat.le_refl, Nat.zero_le, Nat.succ_ne_self, Nat.mul_one, Int.toNat_natCast, Option.some.injEq, Option.isNone_some, Option.isNone_none, V.int.injEq, V.str.injEq, V.bool.injEq, V.ptr.injEq, V.slc.injEq, V.map.injEq, V.agg.injEq, V.tup.injEq, List.cons.injEq, Prod.mk.injEq, onS, true_and, and_true, and_assoc, exists_and_left, exists_eq_left', forall_eq, heq_eq_eq, reduceCtorEq, Bool.not_true, Bool.not_false, eq_self, not_false_eq_true, Nat.left_eq_add, Nat.add_eq_left, Nat.add_left_cancel_iff, Nat.add_right_cancel_iff, Nat.reduceEqDiff, Nat.one_ne_zero, Hp.get_set_self, Hp.get_set_ne, Hp.get_alloc_self, Hp.get_alloc_ne, Hp.get_alloc_at, Hp.get_set_at, Hp.set_next, Hp.alloc_next, Option.some_ne_none, V.tup.injEq, Option.isSome_some, Option.isSome_none, exists_eq_left, exists_eq, Nat.mul_zero, gb7], ?_⟩
    have w9 : ((g7.alloc (.row [.int .u8 0, .int .u32 0, .int .u16 0, .bool false] 1 false)).set g7.next (.row (splice [.int .u8 0, .int .u32 0, .int .u16 0, .bool false] 0 [.int .u8 b0.kind, .int .u32 b0.ip, .int .u16 b0.port, .bool b0.share]) 1 false)).wf := q67.wf.alloc.set (Nat.lt_succ_self _)
    have gb9 : ((g7.alloc (.row [.int .u8 0, .int .u32 0, .int .u16 0, .bool false] 1 false)).set g7.next (.row (splice [.int .u8 0, .int .u32 0, .int .u16 0, .bool false] 0 [.int .u8 b0.kind, .int .u32 b0.ip, .int .u16 b0.port, .bool b0.share]) 1 false)).get h.next = some (.row [.int .u8 c0, .int .u32 c1, .int .u16 c2, .bool c3] 1 false) := by simp (disch := (first | omega | (simp only [Hp.alloc_next, Hp.set_next] <;> omega) | (simp (disch := (first | omega | (simp only [Hp.alloc_next, Hp.set_next] <;> omega) | fail)) only [Hp.get_set_self, Hp.get_set_ne, Hp.get_alloc_self, Hp.get_alloc_ne, Hp.get_alloc_at, Hp.get_set_at, Hp.set_next, Hp.alloc_next, gb7]; done) | fail)) only [Hp.st, Hp.ld, Hp.lda, splice, ble_eq', if_true, if_false, ite_true, ite_false, cond_true, cond_false, decide_true, decide_false, List.length_cons, List.length_nil, List.take_zero, List.take_succ_cons, List.nil_append, List.cons_append, List.append_nil, List.drop_succ_cons, List.drop_zero, List.drop_nil, List.getElem?_cons_succ, List.getElem?_cons_zero, Nat.reduceAdd, Nat.reduceLeDiff, Nat.reduceEqDiff, Nat.zero_add, Nat.add_zero, Nat.le_refl, Nat.zero_le, Nat.succ_ne_self, Nat.mul_one, Int.toNat_natCast, Option.some.injEq, Option.isNone_some, Option.isNone_none, V.int.injEq, V.str.injEq, V.bool.injEq, V.ptr.injEq, V.slc.injEq, V.map.injEq, V.agg.injEq, V.tup.injEq, List.cons.injEq, Prod.mk.injEq, onS, true_and, and_true, and_assoc, exists_and_left, exists_eq_left', forall_eq, heq_eq_eq, reduceCtorEq, Bool.not_true, Bool.not_false, eq_self, not_false_eq_true, Nat.left_eq_add, Nat.add_eq_left, Nat.add_left_cancel_iff, Nat.add_right_cancel_iff, Nat.reduceEqDiff, Nat.one_ne_zero, Hp.get_set_self, Hp.get_set_ne, Hp.get_alloc_self, Hp.get_alloc_ne, Hp.get_alloc_at, Hp.get_set_at, Hp.set_next, Hp.alloc_next, Option.some_ne_none, V.tup.injEq, Option.isSome_some, Option.isSome_none, exists_eq_left, exists_eq, Nat.mul_zero, gb7]
    have gy9 : ((g7.alloc (.row [.int .u8 0, .int .u32 0, .int .u16 0, .bool false] 1 false)).set g7.next (.row (splice [.int .u8 0, .int .u32 0, .int .u16 0, .bool false] 0 [.int .u8 b0.kind, .int .u32 b0.ip, .int .u16 b0.port, .bool b0.share]) 1 false)).get g7.next = some (.row [.int .u8 0, .int .u32 0, .int .u16 0, .bool false] 1 false) := Hp.get_set_self
    generalize (g7.alloc (.row [.int .u8 0, .int .u32 0, .int .u16 0, .bool false] 1 false)).set g7.next (.row (splice [.int .u8 0, .int .u32 0, .int .u16 0, .bool false] 0 [.int .u8 b0.kind, .int .u32 b0.ip, .int .u16 b0.port, .bool b0.share]) 1 false) = g9 at *
    refine (bindN (b := ⟨c0, c1, c2, c3⟩) w9).mono ?_
    rintro _ g10 ⟨rfl, q10⟩
    have gb10 : g10.get h.next = some (.row [.int .u8 c0, .int .u32 c1, .int .u16 c2, .bool c3] 1 false) := by rw [q10.same _ (w9.lt gb9)]; exact gb9
    have gy10 : g10.get g7.next = some (.row [.int .u8 0, .int .u32 0, .int .u16 0, .bool false] 1 false) := by rw [q10.same _ (w9.lt gy9)]; exact gy9
    refine ⟨_, rfl, ?_⟩
    show ∃ n19 n20 n21 b6, _
    refine ⟨0, 0, 0, false, by rw [Hp.lda_of gy10 (Nat.le_of_ble_eq_true rfl)]; rfl, ?_⟩
    refine ⟨c0, by rw [Hp.ld_of gb10]; rfl, ?_⟩
    refine (atN q10.wf).mono ?_
    rintro _ g11 ⟨rfl, q11⟩
    refine ⟨_, _, _, rfl, ?_⟩
    rintro g12 rfl
    refine (giveN q11.wf.alloc).mono ?_
    rintro _ g13 ⟨rfl, q13⟩
    refine ⟨_, rfl, ?_⟩
    refine lenN.mono ?_
    rintro _ _ ⟨rfl, rfl⟩
    refine ⟨_, rfl, ?_⟩
    exact works_spec fun _ => ⟨_, rfl, KT _⟩
end Go.Vex.PortsFull

namespace Go.Proofs.Ytehihinmgejpaaa.portsFull
open Go.ChangeShapes Go.WideShapes Go.ChangeAt Go.RowKit Go.Vex Go.Vex.PortsFull
open Go.ChangeMaps (open_string shut_string)

theorem own : ownKnob Try.prog.godebug = none := by kernel_rfl

set_option maxRecDepth 100000 in
theorem lifted (os : Os) (started : os.Started) (H : Type) (enc : TypeId × Value → H) :
    ReturnsInHanded {} Try.checked os 6 .any (Rows.portsFullSpec.pre6 enc Try.prog Try.f6 Rows.portsFullRow.domain false) (Rows.portsFullSpec.post enc Try.prog Try.f6 false true false false) := by
  refine returnsInHanded_of_change_sized (C := Try.checked) own started (by kernel_rfl) Try.func6
    (ChangeSpec.witness6 (enc := enc) (C := Try.checked) false ⟨#[], #[.int .u16 0, .agg #[.int .u8 0, .int .u32 0, .int .u16 0, .bool false]], []⟩ 8 (by kernel_rfl) (by kernel_rfl) (by kernel_rfl) (by kernel_rfl)) ?_
  intro W base args ds gs before hval0 hW hcnd hsz _
  have hval : ∀ (j : Nat) t v, Try.f6.params[j]? = some t → args[j]? = some v → Value.okWide Try.prog W .any base t v := hval0
  have hW' := hW
  obtain ⟨p, q, hA0, hV, rfl, hfz, hnd⟩ := hW
  have hA : DataW.TrodAll enc Try.prog W 0 (fun _ => true) true Try.f6.params.toList args.toList ds p := hA0
  rw [Try.params6] at hA hval hsz
  obtain ⟨v0, vs0, d0, ds0, p0, q0, hargs, rfl, rfl, h0, r0⟩ := trodAll_cons hA
  obtain ⟨v1, vs1, d1, ds1, p1, q1, rfl, rfl, rfl, h1, r1⟩ := trodAll_cons r0
  obtain ⟨rfl, rfl, rfl⟩ := trodAll_nil r1
  obtain rfl : args = #[v0, v1] := by cases args; simp_all
  obtain ⟨rfl, rfl⟩ := trodVars_none hV
  obtain ⟨a0, rfl, rfl, rfl, w0⟩ := open_int Try.underlying24 (hval 0 24 v0 rfl rfl) h0
  obtain ⟨cs1, rfl, hsz1, hc1⟩ := open_flat Try.underlying37 (ts := [5, 23, 24, 4]) (by kernel_rfl) (by kernel_rfl) (hval 1 37 v1 rfl rfl)
  obtain ⟨x1_0, hx1_0, ok1_0⟩ := hc1 0 5 rfl
  obtain ⟨a1_0, rfl, b1_0⟩ := cell_intB Try.underlying5 ok1_0
  obtain ⟨x1_1, hx1_1, ok1_1⟩ := hc1 1 23 rfl
  obtain ⟨a1_1, rfl, b1_1⟩ := cell_intB Try.underlying23 ok1_1
  obtain ⟨x1_2, hx1_2, ok1_2⟩ := hc1 2 24 rfl
  obtain ⟨a1_2, rfl, b1_2⟩ := cell_intB Try.underlying24 ok1_2
  obtain ⟨x1_3, hx1_3, ok1_3⟩ := hc1 3 4 rfl
  obtain ⟨a1_3, rfl⟩ := cell_bool Try.underlying4 ok1_3
  obtain rfl := arr_of (l := [.int .u8 a1_0, .int .u32 a1_1, .int .u16 a1_2, .bool a1_3]) hsz1 (fun j x hj => by
    match j, hj with
    | 0, hj => cases hj; exact hx1_0
    | 1, hj => cases hj; exact hx1_1
    | 2, hj => cases hj; exact hx1_2
    | 3, hj => cases hj; exact hx1_3
    | j + 4, hj => simp at hj)
  refine (XCalls.true' (Sat.none W fun _ => ⟨0, 0, 0, 0⟩) (vs := [.int .u16 a0, .agg [.int .u8 a1_0, .int .u32 a1_1, .int .u16 a1_2, .bool a1_3]]) ⟨_, _, rfl, rfl, ⟨_, _, rfl, ⟨_, rfl, ⟨_, _, rfl, rfl, ⟨_, _, rfl, rfl, ⟨_, _, rfl, rfl, ⟨_, _, rfl, rfl, rfl⟩⟩⟩⟩⟩, rfl⟩⟩ (law_calls a0 w0 a1_0 b1_0 a1_1 b1_1 a1_2 b1_2 a1_3)).mono fun e W' ⟨he, hb⟩ => ?_
  subst he
  exact ⟨_, rfl, post_true (by kernel_rfl) hW' hb rfl (fun gs hg => by subst hg; rfl) (tb := 4) rfl Try.underlying4 (by decide +kernel)⟩

theorem over : Rows.portsFullRow.holds Try.pinned (OpenSpec.ofChange Rows.portsFullSpec) :=
  OpenClaim.holds_of_wide 6 Try.f6 rfl rfl rfl rfl rfl rfl rfl ⟨rfl, rfl, rfl, rfl, rfl⟩ rfl rfl rfl rfl rfl (by kernel_rfl) Try.func6 (by kernel_rfl)
    (of_decide_eq_true (by kernel_rfl)) (by unfold Func.isWrapper; first | (rw [if_pos (by decide +kernel)]; kernel_rfl) | (rw [if_neg (by decide +kernel)]; exact ⟨rfl, rfl⟩))
    (fun os started H enc _ => lifted os started H enc)

theorem proved : Rows.PortsFullSaid :=
  over
#print axioms proved
end Go.Proofs.Ytehihinmgejpaaa.portsFull

