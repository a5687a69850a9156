/-
  PortsRound of layer 22: whatever the draw, however many, of whichever kind, the law returns true and leaves the input as it was. No condition.
-/
import Derived.Test.YtehihinmgejpaaaVexDD
import Derived.Test.YtehihinmgejpaaaTab22
import Derived.Test.YtehihinmgejpaaaXp22
import Derived.Test.YtehihinmgejpaaaXpn22
import Derived.Test.YtehihinmgejpaaaXlr22
import Derived.Test.YtehihinmgejpaaaCpa22
import Derived.Test.YtehihinmgejpaaaCpb22
import Derived.Test.YtehihinmgejpaaaCpc22
import Derived.Test.YtehihinmgejpaaaCpd22
import Derived.Test.YtehihinmgejpaaaCpl22
import Derived.Test.YtehihinmgejpaaaRows
import Derived.WalkKit
import Derived.ProofKit
import Derived.OpenShut
import Derived.KernelRfl
set_option linter.unusedVariables false
set_option linter.unusedSimpArgs false
namespace Go.Vex.PortsRound
open Go.Proofs Go.Vex.Ports

def ent (b : Bd) (draw : Int) (k : Nat) : Int × Bd := ((k : Int) + 1, lendAt b draw k)
def rl (b : Bd) (draw : Int) (m n : Nat) : List (Int × Bd) := (List.range' m n).map (ent b draw)

theorem rl_succ (b : Bd) (draw : Int) (n : Nat) : rl b draw 0 (n + 1) = rl b draw 0 n ++ [((n : Int) + 1, lendAt b draw n)] := by
  simp [rl, List.range'_concat, ent]

theorem mem_rl {b : Bd} {draw : Int} {m n : Nat} {x : Int × Bd} (h : x ∈ rl b draw m n) : ∃ j, m ≤ j ∧ j < m + n ∧ x = ent b draw j := by
  obtain ⟨j, hj, rfl⟩ := List.mem_map.1 h
  obtain ⟨i, hi, rfl⟩ := List.mem_range'.1 hj
  exact ⟨_, by omega, by omega, rfl⟩

theorem meet_lend {b b' : Bd} {draw : Int} {i j : Nat} (hi : i < 28232) (hj : j < 28232) (hne : i ≠ j) : meetB (lendAt b draw i) (lendAt b' draw j) = false := by
  have : ((lendAt b' draw j).port == (lendAt b draw i).port) = false := by
    simp only [lendAt, beq_eq_false_iff_ne, ne_eq]; omega
  simp only [meetB, this, Bool.false_and, Bool.and_false]

theorem meet_self {b : Bd} {draw : Int} {i : Nat} : meetB (lendAt b draw i) (lendAt b draw i) = true := by simp [meetB]

theorem free_rl {b : Bd} {draw : Int} {m n i : Nat} (hn : m + n ≤ 28232) (hi : i < 28232) (h : i < m ∨ m + n ≤ i) : freeB (rl b draw m n) (lendAt b draw i) = true := by
  unfold freeB
  rw [List.all_eq_true]
  intro x hx
  obtain ⟨j, h1, h2, rfl⟩ := mem_rl hx
  simp only [ent]
  rw [meet_lend hi (by omega) (by omega)]
  rfl

theorem notfree_rl {b : Bd} {draw : Int} {n i : Nat} (h : i < n) : freeB (rl b draw 0 n) (lendAt b draw i) = false := by
  unfold freeB
  rw [List.all_eq_false]
  refine ⟨ent b draw i, List.mem_map.2 ⟨i, by simp [List.mem_range'_1]; exact h, rfl⟩, ?_⟩
  simp [ent, meet_self]

theorem get_rl {b : Bd} {draw : Int} {m n : Nat} {s : Int} (h : s < (m : Int) + 1 ∨ (m : Int) + n < s) : mget (rl b draw m n) s = none := by
  unfold mget
  rw [Option.map_eq_none_iff, List.find?_eq_none]
  intro x hx
  obtain ⟨j, h1, h2, rfl⟩ := mem_rl hx
  intro e
  have e := of_decide_eq_true e
  simp only [ent] at e
  omega

theorem may_of {L : List (Int × Bd)} {s : Int} {b : Bd} (hk : b.kind = 1 ∨ b.kind = 2) (hg : mget L s = none) (hl : L.length < 1024) : mayCode L s b false = 0 := by
  unfold mayCode
  rw [if_neg (by simp; omega), if_neg (by simp [hg]), if_neg (by omega)]

theorem lend_at {L L' : List (Int × Bd)} {s code port draw : Int} {b : Bd} (hr : LendR L s b draw code port L') (hm : mayCode L s b false = 0) {i : Nat} (hi : i < 28232) (hno : ∀ j, j < i → freeB L (lendAt b draw j) = false) (hf : freeB L (lendAt b draw i) = true) :
    code = 0 ∧ port = (lendAt b draw i).port ∧ L' = L ++ [(s, lendAt b draw i)] := by
  rcases hr with ⟨h, _⟩ | ⟨_, k, hk, h1, h2, h3, h4, h5⟩ | ⟨_, h, _⟩
  · exact absurd hm h
  · have : k = i := by
      rcases Nat.lt_trichotomy k i with h | h | h
      · rw [hno k h] at h2; cases h2
      · exact h
      · rw [h1 i h] at hf; cases hf
    subst this
    exact ⟨h3, h4, h5⟩
  · rw [h i hi] at hf; cases hf

theorem u64w {x : Int} (h0 : 0 ≤ x) (h1 : x < 18446744073709551616) : IntKind.u64.wrap x = x := wrap_of (by simp [IntKind.min, IntKind.max, IntKind.signed, IntKind.bits]; omega)
theorem u8w {x : Int} (h0 : 0 ≤ x) (h1 : x < 256) : IntKind.u8.wrap x = x := wrap_of (by simp [IntKind.min, IntKind.max, IntKind.signed, IntKind.bits]; omega)

theorem law_calls (draw : Int) (w0 : (Lit.int .u16 draw).wf = true) (many : Int) (w1 : (Lit.int .u8 many).wf = true) (udp : Bool) {h : Hp} :
    XCalls Try.prog 5 [.int .u16 draw, .int .u8 many, .bool udp] h fun v _ => v = .bool true := by
  refine XCalls.ofWf fun hw => ?_
  refine XCalls.cps fun K hK => ?_
  have KT : ∀ h', K (.bool true) h' := fun h' => hK _ _ rfl
  have hd := lit_bnd w0
  have hm := lit_bnd w1
  simp [IntKind.min, IntKind.max, IntKind.signed, IntKind.bits] at hd hm
  obtain ⟨N, rfl⟩ := Int.eq_ofNat_of_zero_le hm.1
  apply x5; unfold X5
  refine (new_spec hw).mono ?_
  rintro _ g1 ⟨rfl, r1, q1⟩
  refine ⟨_, rfl, ?_⟩
  rintro g2 rfl
  refine ⟨_, Hp.st_of Hp.get_alloc_self (Nat.le_of_ble_eq_true rfl), ?_⟩
  have hr1 := (PortsR.rep _ _).lt q1.wf r1 (j := h.next + 1) (by simp)
  obtain ⟨kd, hkd⟩ : ∃ kd : Int, kd = if udp then 1 else 2 := ⟨_, rfl⟩
  refine ⟨fun vs g => match vs with
    | [] => Quiet g1 g ∧ g.get g1.next = some (.row [.int .u8 kd, .int .u32 0, .int .u16 0, .bool false] 1 false)
    | _ => False, ?_, ?_⟩
  · have q3 : ∀ x, Quiet g1 ((g1.alloc (.row [.int .u8 0, .int .u32 0, .int .u16 0, .bool false] 1 false)).set g1.next x) := fun x => ⟨fun j hj => by simp (disch := (first | omega | (simp only [Hp.alloc_next, Hp.set_next] <;> omega) | (simp (disch := (first | omega | (simp only [Hp.alloc_next, Hp.set_next] <;> omega) | fail)) only [Hp.get_set_self, Hp.get_set_ne, Hp.get_alloc_self, Hp.get_alloc_ne, Hp.get_alloc_at, Hp.get_set_at, Hp.set_next, Hp.alloc_next]; done) | fail)) only [Hp.st, Hp.ld, Hp.lda, splice, ble_eq', if_true, if_false, ite_true, ite_false, cond_true, cond_false, decide_true, decide_false, List.length_cons, List.length_nil, List.take_zero, List.take_succ_cons, List.nil_append, List.cons_append, List.append_nil, List.drop_succ_cons, List.drop_zero, List.drop_nil, List.getElem?_cons_succ, List.getElem?_cons_zero, Nat.reduceAdd, Nat.reduceLeDiff, Nat.reduceEqDiff, Nat.zero_add, Nat.add_zero, Nat.le_refl, Nat.zero_le, Nat.succ_ne_self, Nat.mul_one, Int.toNat_natCast, Option.some.injEq, Option.isNone_some, Option.isNone_none, V.int.injEq, V.str.injEq, V.bool.injEq, V.ptr.injEq, V.slc.injEq, V.map.injEq, V.agg.injEq, V.tup.injEq, List.cons.injEq, Prod.mk.injEq, onS, true_and, and_true, and_assoc, exists_and_left, exists_eq_left', forall_eq, heq_eq_eq, reduceCtorEq, Bool.not_true, Bool.not_false, eq_self, not_false_eq_true, Nat.left_eq_add, Nat.add_eq_left, Nat.add_left_cancel_iff, Nat.add_right_cancel_iff, Nat.reduceEqDiff, Nat.one_ne_zero, Hp.get_set_self, Hp.get_set_ne, Hp.get_alloc_self, Hp.get_alloc_ne, Hp.get_alloc_at, Hp.get_set_at, Hp.set_next, Hp.alloc_next, Option.some_ne_none, V.tup.injEq, Option.isSome_some, Option.isSome_none, exists_eq_left, exists_eq, Nat.mul_zero], by simp (disch := (first | omega | (simp only [Hp.alloc_next, Hp.set_next] <;> omega) | (simp (disch := (first | omega | (simp only [Hp.alloc_next, Hp.set_next] <;> omega) | fail)) only [Hp.get_set_self, Hp.get_set_ne, Hp.get_alloc_self, Hp.get_alloc_ne, Hp.get_alloc_at, Hp.get_set_at, Hp.set_next, Hp.alloc_next]; done) | fail)) only [Hp.st, Hp.ld, Hp.lda, splice, ble_eq', if_true, if_false, ite_true, ite_false, cond_true, cond_false, decide_true, decide_false, List.length_cons, List.length_nil, List.take_zero, List.take_succ_cons, List.nil_append, List.cons_append, List.append_nil, List.drop_succ_cons, List.drop_zero, List.drop_nil, List.getElem?_cons_succ, List.getElem?_cons_zero, Nat.reduceAdd, Nat.reduceLeDiff, Nat.reduceEqDiff, Nat.zero_add, Nat.add_zero, Nat.le_refl, Nat.zero_le, Nat.succ_ne_self, Nat.mul_one, Int.toNat_natCast, Option.some.injEq, Option.isNone_some, Option.isNone_none, V.int.injEq, V.str.injEq, V.bool.injEq, V.ptr.injEq, V.slc.injEq, V.map.injEq, V.agg.injEq, V.tup.injEq, List.cons.injEq, Prod.mk.injEq, onS, true_and, and_true, and_assoc, exists_and_left, exists_eq_left', forall_eq, heq_eq_eq, reduceCtorEq, Bool.not_true, Bool.not_false, eq_self, not_false_eq_true, Nat.left_eq_add, Nat.add_eq_left, Nat.add_left_cancel_iff, Nat.add_right_cancel_iff, Nat.reduceEqDiff, Nat.one_ne_zero, Hp.get_set_self, Hp.get_set_ne, Hp.get_alloc_self, Hp.get_alloc_ne, Hp.get_alloc_at, Hp.get_set_at, Hp.set_next, Hp.alloc_next, Option.some_ne_none, V.tup.injEq, Option.isSome_some, Option.isSome_none, exists_eq_left, exists_eq, Nat.mul_zero]; omega, q1.wf.alloc.set (Nat.lt_succ_self _)⟩
    cases udp with
    | true =>
      refine ⟨_, Hp.st_of Hp.get_set_self (Nat.le_of_ble_eq_true rfl), rfl, ⟨fun j hj => by simp (disch := (first | omega | (simp only [Hp.alloc_next, Hp.set_next] <;> omega) | (simp (disch := (first | omega | (simp only [Hp.alloc_next, Hp.set_next] <;> omega) | fail)) only [Hp.get_set_self, Hp.get_set_ne, Hp.get_alloc_self, Hp.get_alloc_ne, Hp.get_alloc_at, Hp.get_set_at, Hp.set_next, Hp.alloc_next]; done) | fail)) only [Hp.st, Hp.ld, Hp.lda, splice, ble_eq', if_true, if_false, ite_true, ite_false, cond_true, cond_false, decide_true, decide_false, List.length_cons, List.length_nil, List.take_zero, List.take_succ_cons, List.nil_append, List.cons_append, List.append_nil, List.drop_succ_cons, List.drop_zero, List.drop_nil, List.getElem?_cons_succ, List.getElem?_cons_zero, Nat.reduceAdd, Nat.reduceLeDiff, Nat.reduceEqDiff, Nat.zero_add, Nat.add_zero, Nat.le_refl, Nat.zero_le, Nat.succ_ne_self, Nat.mul_one, Int.toNat_natCast, Option.some.injEq, Option.isNone_some, Option.isNone_none, V.int.injEq, V.str.injEq, V.bool.injEq, V.ptr.injEq, V.slc.injEq, V.map.injEq, V.agg.injEq, V.tup.injEq, List.cons.injEq, Prod.mk.injEq, onS, true_and, and_true, and_assoc, exists_and_left, exists_eq_left', forall_eq, heq_eq_eq, reduceCtorEq, Bool.not_true, Bool.not_false, eq_self, not_false_eq_true, Nat.left_eq_add, Nat.add_eq_left, Nat.add_left_cancel_iff, Nat.add_right_cancel_iff, Nat.reduceEqDiff, Nat.one_ne_zero, Hp.get_set_self, Hp.get_set_ne, Hp.get_alloc_self, Hp.get_alloc_ne, Hp.get_alloc_at, Hp.get_set_at, Hp.set_next, Hp.alloc_next, Option.some_ne_none, V.tup.injEq, Option.isSome_some, Option.isSome_none, exists_eq_left, exists_eq, Nat.mul_zero], by simp (disch := (first | omega | (simp only [Hp.alloc_next, Hp.set_next] <;> omega) | (simp (disch := (first | omega | (simp only [Hp.alloc_next, Hp.set_next] <;> omega) | fail)) only [Hp.get_set_self, Hp.get_set_ne, Hp.get_alloc_self, Hp.get_alloc_ne, Hp.get_alloc_at, Hp.get_set_at, Hp.set_next, Hp.alloc_next]; done) | fail)) only [Hp.st, Hp.ld, Hp.lda, splice, ble_eq', if_true, if_false, ite_true, ite_false, cond_true, cond_false, decide_true, decide_false, List.length_cons, List.length_nil, List.take_zero, List.take_succ_cons, List.nil_append, List.cons_append, List.append_nil, List.drop_succ_cons, List.drop_zero, List.drop_nil, List.getElem?_cons_succ, List.getElem?_cons_zero, Nat.reduceAdd, Nat.reduceLeDiff, Nat.reduceEqDiff, Nat.zero_add, Nat.add_zero, Nat.le_refl, Nat.zero_le, Nat.succ_ne_self, Nat.mul_one, Int.toNat_natCast, Option.some.injEq, Option.isNone_some, Option.isNone_none, V.int.injEq, V.str.injEq, V.bool.injEq, V.ptr.injEq, V.slc.injEq, V.map.injEq, V.agg.injEq, V.tup.injEq, List.cons.injEq, Prod.mk.injEq, onS, true_and, and_true, and_assoc, exists_and_left, exists_eq_left', forall_eq, heq_eq_eq, reduceCtorEq, Bool.not_true, Bool.not_false, eq_self, not_false_eq_true, Nat.left_eq_add, Nat.add_eq_left, Nat.add_left_cancel_iff, Nat.add_right_cancel_iff, Nat.reduceEqDiff, Nat.one_ne_zero, Hp.get_set_self, Hp.get_set_ne, Hp.get_alloc_self, Hp.get_alloc_ne, Hp.get_alloc_at, Hp.get_set_at, Hp.set_next, Hp.alloc_next, Option.some_ne_none, V.tup.injEq, Option.isSome_some, Option.isSome_none, exists_eq_left, exists_eq, Nat.mul_zero]; omega, (q3 _).wf.set (by simp (disch := (first | omega | (simp only [Hp.alloc_next, Hp.set_next] <;> omega) | (simp (disch := (first | omega | (simp only [Hp.alloc_next, Hp.set_next] <;> omega) | fail)) only [Hp.get_set_self, Hp.get_set_ne, Hp.get_alloc_self, Hp.get_alloc_ne, Hp.get_alloc_at, Hp.get_set_at, Hp.set_next, Hp.alloc_next]; done) | fail)) only [Hp.st, Hp.ld, Hp.lda, splice, ble_eq', if_true, if_false, ite_true, ite_false, cond_true, cond_false, decide_true, decide_false, List.length_cons, List.length_nil, List.take_zero, List.take_succ_cons, List.nil_append, List.cons_append, List.append_nil, List.drop_succ_cons, List.drop_zero, List.drop_nil, List.getElem?_cons_succ, List.getElem?_cons_zero, Nat.reduceAdd, Nat.reduceLeDiff, Nat.reduceEqDiff, Nat.zero_add, Nat.add_zero, Nat.le_refl, Nat.zero_le, Nat.succ_ne_self, Nat.mul_one, Int.toNat_natCast, Option.some.injEq, Option.isNone_some, Option.isNone_none, V.int.injEq, V.str.injEq, V.bool.injEq, V.ptr.injEq, V.slc.injEq, V.map.injEq, V.agg.injEq, V.tup.injEq, List.cons.injEq, Prod.mk.injEq, onS, true_and, and_true, and_assoc, exists_and_left, exists_eq_left', forall_eq, heq_eq_eq, reduceCtorEq, Bool.not_true, Bool.not_false, eq_self, not_false_eq_true, Nat.left_eq_add, Nat.add_eq_left, Nat.add_left_cancel_iff, Nat.add_right_cancel_iff, Nat.reduceEqDiff, Nat.one_ne_zero, Hp.get_set_self, Hp.get_set_ne, Hp.get_alloc_self, Hp.get_alloc_ne, Hp.get_alloc_at, Hp.get_set_at, Hp.set_next, Hp.alloc_next, Option.some_ne_none, V.tup.injEq, Option.isSome_some, Option.isSome_none, exists_eq_left, exists_eq, Nat.mul_zero]; omega)⟩, ?_⟩
      rw [Hp.get_set_self, hkd]; rfl
    | false =>
      refine ⟨rfl, q3 _, ?_⟩
      rw [Hp.get_set_self, hkd]; rfl
  have hk12 : kd = 1 ∨ kd = 2 := by rw [hkd]; cases udp <;> simp
  clear hkd
  rintro bs g3 ⟨q3, b3⟩
  obtain ⟨b, hb⟩ : ∃ b : Bd, b = ⟨kd, 0, 0, false⟩ := ⟨_, rfl⟩
  have hbk : b.kind = 1 ∨ b.kind = 2 := by rw [hb]; exact hk12
  have r3 := r1.quiet q1.wf q3
  have hnb := q3.wf.lt b3
  refine ⟨fun vs g => match vs with
    | [.int _ i] => ∃ k : Nat, i = k ∧ k ≤ N ∧ PortsR (h.next + 1) (rl b draw 0 k) g [h.next + 1, h.next] ∧ g.get g1.next = some (.row [.int .u8 kd, .int .u32 0, .int .u16 0, .bool false] 1 false) ∧ g.wf
    | _ => False, fun vs _ => match vs with
    | [.int _ i] => N - i.toNat
    | _ => 0, ⟨rfl, 0, rfl, by omega, r3, b3, q3.wf⟩, ?_⟩
  rintro bs2 i g ⟨k, rfl, hk, r, gb, gw⟩
  have hbn := gw.lt gb
  rw [wr (x := (N : Int)) (by omega) (by omega)]
  have step : ∀ {g g' : Hp} {F' : List Nat}, g.wf → g.get g1.next = some (.row [.int .u8 kd, .int .u32 0, .int .u16 0, .bool false] 1 false) → Upd g g' [h.next + 1, h.next] F' → g'.get g1.next = some (.row [.int .u8 kd, .int .u32 0, .int .u16 0, .bool false] 1 false) := fun w e u => by
    rw [u.same _ (w.lt e) (by simp; omega)]; exact e
  cases hlt : ltI (↑k) (↑N) with
  | true =>
    rw [ltI_eq, decide_eq_true_eq] at hlt
    refine ⟨kd, 0, 0, false, by simp (disch := (first | omega | (simp only [Hp.alloc_next, Hp.set_next] <;> omega) | (simp (disch := (first | omega | (simp only [Hp.alloc_next, Hp.set_next] <;> omega) | fail)) only [Hp.get_set_self, Hp.get_set_ne, Hp.get_alloc_self, Hp.get_alloc_ne, Hp.get_alloc_at, Hp.get_set_at, Hp.set_next, Hp.alloc_next, gb]; done) | fail)) only [Hp.st, Hp.ld, Hp.lda, splice, ble_eq', if_true, if_false, ite_true, ite_false, cond_true, cond_false, decide_true, decide_false, List.length_cons, List.length_nil, List.take_zero, List.take_succ_cons, List.nil_append, List.cons_append, List.append_nil, List.drop_succ_cons, List.drop_zero, List.drop_nil, List.getElem?_cons_succ, List.getElem?_cons_zero, Nat.reduceAdd, Nat.reduceLeDiff, Nat.reduceEqDiff, Nat.zero_add, Nat.add_zero, Nat.le_refl, Nat.zero_le, Nat.succ_ne_self, Nat.mul_one, Int.toNat_natCast, Option.some.injEq, Option.isNone_some, Option.isNone_none, V.int.injEq, V.str.injEq, V.bool.injEq, V.ptr.injEq, V.slc.injEq, V.map.injEq, V.agg.injEq, V.tup.injEq, List.cons.injEq, Prod.mk.injEq, onS, true_and, and_true, and_assoc, exists_and_left, exists_eq_left', forall_eq, heq_eq_eq, reduceCtorEq, Bool.not_true, Bool.not_false, eq_self, not_false_eq_true, Nat.left_eq_add, Nat.add_eq_left, Nat.add_left_cancel_iff, Nat.add_right_cancel_iff, Nat.reduceEqDiff, Nat.one_ne_zero, Hp.get_set_self, Hp.get_set_ne, Hp.get_alloc_self, Hp.get_alloc_ne, Hp.get_alloc_at, Hp.get_set_at, Hp.set_next, Hp.alloc_next, Option.some_ne_none, V.tup.injEq, Option.isSome_some, Option.isSome_none, exists_eq_left, exists_eq, Nat.mul_zero, gb], ?_⟩
    rw [u64w (x := (k : Int)) (by omega) (by omega), u64w (x := (k : Int) + 1) (by omega) (by omega)]
    have hb' : V.agg [.int .u8 kd, .int .u32 0, .int .u16 0, .bool false] = bV b := by rw [hb]; rfl
    rw [hb']
    refine (lend_spec (b := b) gw r (by omega)).mono ?_
    rintro _ g5 ⟨code, port, L', rfl, hl, r5, u5, w5⟩
    obtain ⟨rfl, rfl, rfl⟩ := lend_at hl (may_of hbk (get_rl (by omega)) (by simp [rl]; omega)) (i := k) (by omega) (fun j hj => notfree_rl hj) (free_rl (by omega) (by omega) (by omega))
    refine ⟨_, _, rfl, ?_⟩
    have e0 : IntKind.i64.wrap ((lendAt b draw k).port) = 32768 + (draw + k) % 28232 := by simp only [lendAt]; rw [wr (by omega) (by omega)]
    have e1 : IntKind.i64.wrap (32768 + (IntKind.i64.wrap ((IntKind.i64.wrap draw).tmod 28232 + (k : Int))).tmod 28232) = 32768 + (draw + k) % 28232 := by
      have t1 : draw.tmod 28232 = draw % 28232 := Int.tmod_eq_emod_of_nonneg (by omega)
      have t2 : (draw % 28232 + (k : Int)).tmod 28232 = (draw % 28232 + (k : Int)) % 28232 := Int.tmod_eq_emod_of_nonneg (by omega)
      rw [wr (x := draw) (by omega) (by omega), t1, wr (x := draw % 28232 + k) (by omega) (by omega), t2, wr (by omega) (by omega)]; omega
    have hw1 : IntKind.i64.wrap ((k : Int) + 1) = ((k + 1 : Nat) : Int) := by rw [wr (by omega) (by omega)]; rfl
    rw [e0, e1]
    simp only [bne_self_eq_false, cond_false]
    exact ⟨by decide, by decide, (by trivial), ⟨k + 1, hw1, by omega, by rw [rl_succ]; exact r5, step gw gb u5, w5⟩, by simp only [hw1, Int.toNat_natCast]; omega⟩
  | false =>
    rw [ltI_eq, decide_eq_false_iff_not] at hlt
    obtain rfl : k = N := by omega
    simp only [cond_false]
    cases hz : ((k : Int) == 0) with
    | true => exact works_spec fun _ => ⟨_, rfl, KT _⟩
    | false =>
      have hz : k ≠ 0 := by simpa using hz
      obtain ⟨n, rfl⟩ : ∃ n, k = n + 1 := ⟨k - 1, by omega⟩
      have hrl : rl b draw 0 (n + 1) = (1, lendAt b draw 0) :: rl b draw 1 n := by simp [rl, List.range'_succ, ent]
      have hget : mget (rl b draw 0 (n + 1)) 1 = some (lendAt b draw 0) := by rw [hrl]; rfl
      have hwo : without (rl b draw 0 (n + 1)) [1] = rl b draw 1 n := by
        rw [hrl]
        unfold without
        rw [List.filter_cons_of_neg (by simp)]
        apply List.filter_eq_self.2
        intro x hx
        obtain ⟨j, h1, h2, rfl⟩ := mem_rl hx
        simp [ent]; omega
      have hnd : ((rl b draw 0 (n + 1)).map Prod.fst).Nodup := by
        unfold rl
        rw [List.map_map]
        refine List.Pairwise.map _ ?_ (List.nodup_range' (s := 0) (n := n + 1))
        intro a b hab e
        exact hab (by simp [ent] at e; omega)
      refine (of_spec gw r).mono ?_
      rintro _ g7 ⟨rfl, q7⟩
      rw [hget]
      simp only [Option.getD_some, Option.isSome_some]
      obtain ⟨f0, hf0⟩ : ∃ f0, f0 = lendAt b draw 0 := ⟨_, rfl⟩
      rw [← hf0]
      refine ⟨_, _, _, _, _, rfl, ?_⟩
      rintro g8 rfl
      refine ⟨_, Hp.st_of Hp.get_alloc_self (Nat.le_of_ble_eq_true rfl), ?_⟩
      rintro g10 hg10
      have q10 : Quiet g7 g10 := by
        rw [hg10]
        exact ⟨fun j hj => by simp (disch := (first | omega | (simp only [Hp.alloc_next, Hp.set_next] <;> omega) | (simp (disch := (first | omega | (simp only [Hp.alloc_next, Hp.set_next] <;> omega) | fail)) only [Hp.get_set_self, Hp.get_set_ne, Hp.get_alloc_self, Hp.get_alloc_ne, Hp.get_alloc_at, Hp.get_set_at, Hp.set_next, Hp.alloc_next]; done) | fail)) only [Hp.st, Hp.ld, Hp.lda, splice, ble_eq', if_true, if_false, ite_true, ite_false, cond_true, cond_false, decide_true, decide_false, List.length_cons, List.length_nil, List.take_zero, List.take_succ_cons, List.nil_append, List.cons_append, List.append_nil, List.drop_succ_cons, List.drop_zero, List.drop_nil, List.getElem?_cons_succ, List.getElem?_cons_zero, Nat.reduceAdd, Nat.reduceLeDiff, Nat.reduceEqDiff, Nat.zero_add, Nat.add_zero, Nat.le_refl, Nat.zero_le, Nat.succ_ne_self, Nat.mul_one, Int.toNat_natCast, Option.some.injEq, Option.isNone_some, Option.isNone_none, V.int.injEq, V.str.injEq, V.bool.injEq, V.ptr.injEq, V.slc.injEq, V.map.injEq, V.agg.injEq, V.tup.injEq, List.cons.injEq, Prod.mk.injEq, onS, true_and, and_true, and_assoc, exists_and_left, exists_eq_left', forall_eq, heq_eq_eq, reduceCtorEq, Bool.not_true, Bool.not_false, eq_self, not_false_eq_true, Nat.left_eq_add, Nat.add_eq_left, Nat.add_left_cancel_iff, Nat.add_right_cancel_iff, Nat.reduceEqDiff, Nat.one_ne_zero, Hp.get_set_self, Hp.get_set_ne, Hp.get_alloc_self, Hp.get_alloc_ne, Hp.get_alloc_at, Hp.get_set_at, Hp.set_next, Hp.alloc_next, Option.some_ne_none, V.tup.injEq, Option.isSome_some, Option.isSome_none, exists_eq_left, exists_eq, Nat.mul_zero], by simp (disch := (first | omega | (simp only [Hp.alloc_next, Hp.set_next] <;> omega) | (simp (disch := (first | omega | (simp only [Hp.alloc_next, Hp.set_next] <;> omega) | fail)) only [Hp.get_set_self, Hp.get_set_ne, Hp.get_alloc_self, Hp.get_alloc_ne, Hp.get_alloc_at, Hp.get_set_at, Hp.set_next, Hp.alloc_next]; done) | fail)) only [Hp.st, Hp.ld, Hp.lda, splice, ble_eq', if_true, if_false, ite_true, ite_false, cond_true, cond_false, decide_true, decide_false, List.length_cons, List.length_nil, List.take_zero, List.take_succ_cons, List.nil_append, List.cons_append, List.append_nil, List.drop_succ_cons, List.drop_zero, List.drop_nil, List.getElem?_cons_succ, List.getElem?_cons_zero, Nat.reduceAdd, Nat.reduceLeDiff, Nat.reduceEqDiff, Nat.zero_add, Nat.add_zero, Nat.le_refl, Nat.zero_le, Nat.succ_ne_self, Nat.mul_one, Int.toNat_natCast, Option.some.injEq, Option.isNone_some, Option.isNone_none, V.int.injEq, V.str.injEq, V.bool.injEq, V.ptr.injEq, V.slc.injEq, V.map.injEq, V.agg.injEq, V.tup.injEq, List.cons.injEq, Prod.mk.injEq, onS, true_and, and_true, and_assoc, exists_and_left, exists_eq_left', forall_eq, heq_eq_eq, reduceCtorEq, Bool.not_true, Bool.not_false, eq_self, not_false_eq_true, Nat.left_eq_add, Nat.add_eq_left, Nat.add_left_cancel_iff, Nat.add_right_cancel_iff, Nat.reduceEqDiff, Nat.one_ne_zero, Hp.get_set_self, Hp.get_set_ne, Hp.get_alloc_self, Hp.get_alloc_ne, Hp.get_alloc_at, Hp.get_set_at, Hp.set_next, Hp.alloc_next, Option.some_ne_none, V.tup.injEq, Option.isSome_some, Option.isSome_none, exists_eq_left, exists_eq, Nat.mul_zero]; omega, (q7.wf.alloc.set (Nat.lt_succ_self _)).alloc⟩
      have y10 : g10.get g7.next = some (.row [.int .u8 f0.kind, .int .u32 f0.ip, .int .u16 f0.port, .bool f0.share] 1 false) := by rw [hg10]; simp (disch := (first | omega | (simp only [Hp.alloc_next, Hp.set_next] <;> omega) | (simp (disch := (first | omega | (simp only [Hp.alloc_next, Hp.set_next] <;> omega) | fail)) only [Hp.get_set_self, Hp.get_set_ne, Hp.get_alloc_self, Hp.get_alloc_ne, Hp.get_alloc_at, Hp.get_set_at, Hp.set_next, Hp.alloc_next]; done) | fail)) only [Hp.st, Hp.ld, Hp.lda, splice, ble_eq', if_true, if_false, ite_true, ite_false, cond_true, cond_false, decide_true, decide_false, List.length_cons, List.length_nil, List.take_zero, List.take_succ_cons, List.nil_append, List.cons_append, List.append_nil, List.drop_succ_cons, List.drop_zero, List.drop_nil, List.getElem?_cons_succ, List.getElem?_cons_zero, Nat.reduceAdd, Nat.reduceLeDiff, Nat.reduceEqDiff, Nat.zero_add, Nat.add_zero, Nat.le_refl, Nat.zero_le, Nat.succ_ne_self, Nat.mul_one, Int.toNat_natCast, Option.some.injEq, Option.isNone_some, Option.isNone_none, V.int.injEq, V.str.injEq, V.bool.injEq, V.ptr.injEq, V.slc.injEq, V.map.injEq, V.agg.injEq, V.tup.injEq, List.cons.injEq, Prod.mk.injEq, onS, true_and, and_true, and_assoc, exists_and_left, exists_eq_left', forall_eq, heq_eq_eq, reduceCtorEq, Bool.not_true, Bool.not_false, eq_self, not_false_eq_true, Nat.left_eq_add, Nat.add_eq_left, Nat.add_left_cancel_iff, Nat.add_right_cancel_iff, Nat.reduceEqDiff, Nat.one_ne_zero, Hp.get_set_self, Hp.get_set_ne, Hp.get_alloc_self, Hp.get_alloc_ne, Hp.get_alloc_at, Hp.get_set_at, Hp.set_next, Hp.alloc_next, Option.some_ne_none, V.tup.injEq, Option.isSome_some, Option.isSome_none, exists_eq_left, exists_eq, Nat.mul_zero]
      have x10 : g10.get (g7.next + 1) = some (.row [.int .u64 1] 1 false) := by rw [hg10]; simp (disch := (first | omega | (simp only [Hp.alloc_next, Hp.set_next] <;> omega) | (simp (disch := (first | omega | (simp only [Hp.alloc_next, Hp.set_next] <;> omega) | fail)) only [Hp.get_set_self, Hp.get_set_ne, Hp.get_alloc_self, Hp.get_alloc_ne, Hp.get_alloc_at, Hp.get_set_at, Hp.set_next, Hp.alloc_next]; done) | fail)) only [Hp.st, Hp.ld, Hp.lda, splice, ble_eq', if_true, if_false, ite_true, ite_false, cond_true, cond_false, decide_true, decide_false, List.length_cons, List.length_nil, List.take_zero, List.take_succ_cons, List.nil_append, List.cons_append, List.append_nil, List.drop_succ_cons, List.drop_zero, List.drop_nil, List.getElem?_cons_succ, List.getElem?_cons_zero, Nat.reduceAdd, Nat.reduceLeDiff, Nat.reduceEqDiff, Nat.zero_add, Nat.add_zero, Nat.le_refl, Nat.zero_le, Nat.succ_ne_self, Nat.mul_one, Int.toNat_natCast, Option.some.injEq, Option.isNone_some, Option.isNone_none, V.int.injEq, V.str.injEq, V.bool.injEq, V.ptr.injEq, V.slc.injEq, V.map.injEq, V.agg.injEq, V.tup.injEq, List.cons.injEq, Prod.mk.injEq, onS, true_and, and_true, and_assoc, exists_and_left, exists_eq_left', forall_eq, heq_eq_eq, reduceCtorEq, Bool.not_true, Bool.not_false, eq_self, not_false_eq_true, Nat.left_eq_add, Nat.add_eq_left, Nat.add_left_cancel_iff, Nat.add_right_cancel_iff, Nat.reduceEqDiff, Nat.one_ne_zero, Hp.get_set_self, Hp.get_set_ne, Hp.get_alloc_self, Hp.get_alloc_ne, Hp.get_alloc_at, Hp.get_set_at, Hp.set_next, Hp.alloc_next, Option.some_ne_none, V.tup.injEq, Option.isSome_some, Option.isSome_none, exists_eq_left, exists_eq, Nat.mul_zero]
      have n10 : g10.next = g7.next + 2 := by rw [hg10]; rfl
      clear hg10
      have q70 := q7.trans q10
      simp only [Hp.set_next, Hp.alloc_next]
      have r10 := r.quiet gw q70
      have gb10 : g10.get g1.next = some (.row [.int .u8 kd, .int .u32 0, .int .u16 0, .bool false] 1 false) := by rw [q70.same _ hbn]; exact gb
      have nb7 : g1.next < g7.next := q7.wf.lt (by rw [q7.same _ hbn]; exact gb)
      have rd : Rd (some (g7.next + 1, 0)) 1 [1] g10 := ⟨rfl, fun _ => ⟨_, _, _, _, _, rfl, x10, fun k hk => match k, hk with
        | 0, _ => rfl⟩⟩
      refine (give_spec (xs := [1]) q10.wf r10 hnd (by simp [rl]; omega) rd (by omega) (fun q o e => by cases e; simp; omega)).mono ?_
      rintro _ g11 ⟨rfl, r11, u11, w11⟩
      rw [hwo] at r11 ⊢
      have e1 : (((rl b draw 0 (n + 1)).length : Int) - (rl b draw 1 n).length != 1) = false := by
        have e0 : (rl b draw 0 (n+1)).length = n + 1 := by simp [rl]
        have e9 : (rl b draw 1 n).length = n := by simp [rl]
        rw [e0, e9, bne_eq_false_iff_eq]; omega
      refine ⟨_, rfl, ?_⟩
      rw [e1]
      have gb11 := step q10.wf gb10 u11
      have y11 : g11.get g7.next = some (.row [.int .u8 f0.kind, .int .u32 f0.ip, .int .u16 f0.port, .bool f0.share] 1 false) := by rw [u11.same _ (by omega) (by simp; omega)]; exact y10
      refine ⟨kd, 0, 0, false, by simp (disch := (first | omega | (simp only [Hp.alloc_next, Hp.set_next] <;> omega) | (simp (disch := (first | omega | (simp only [Hp.alloc_next, Hp.set_next] <;> omega) | fail)) only [Hp.get_set_self, Hp.get_set_ne, Hp.get_alloc_self, Hp.get_alloc_ne, Hp.get_alloc_at, Hp.get_set_at, Hp.set_next, Hp.alloc_next, gb11]; done) | fail)) only [Hp.st, Hp.ld, Hp.lda, splice, ble_eq', if_true, if_false, ite_true, ite_false, cond_true, cond_false, decide_true, decide_false, List.length_cons, List.length_nil, List.take_zero, List.take_succ_cons, List.nil_append, List.cons_append, List.append_nil, List.drop_succ_cons, List.drop_zero, List.drop_nil, List.getElem?_cons_succ, List.getElem?_cons_zero, Nat.reduceAdd, Nat.reduceLeDiff, Nat.reduceEqDiff, Nat.zero_add, Nat.add_zero, Nat.le_refl, Nat.zero_le, Nat.succ_ne_self, Nat.mul_one, Int.toNat_natCast, Option.some.injEq, Option.isNone_some, Option.isNone_none, V.int.injEq, V.str.injEq, V.bool.injEq, V.ptr.injEq, V.slc.injEq, V.map.injEq, V.agg.injEq, V.tup.injEq, List.cons.injEq, Prod.mk.injEq, onS, true_and, and_true, and_assoc, exists_and_left, exists_eq_left', forall_eq, heq_eq_eq, reduceCtorEq, Bool.not_true, Bool.not_false, eq_self, not_false_eq_true, Nat.left_eq_add, Nat.add_eq_left, Nat.add_left_cancel_iff, Nat.add_right_cancel_iff, Nat.reduceEqDiff, Nat.one_ne_zero, Hp.get_set_self, Hp.get_set_ne, Hp.get_alloc_self, Hp.get_alloc_ne, Hp.get_alloc_at, Hp.get_set_at, Hp.set_next, Hp.alloc_next, Option.some_ne_none, V.tup.injEq, Option.isSome_some, Option.isSome_none, exists_eq_left, exists_eq, Nat.mul_zero, gb11], ?_⟩
      have hb' : V.agg [.int .u8 kd, .int .u32 0, .int .u16 0, .bool false] = bV b := by rw [hb]; rfl
      rw [hb']
      refine (lend_spec (b := b) w11 r11 (by omega)).mono ?_
      rintro _ g12 ⟨code, port, L', rfl, hl, r12, u12, w12⟩
      obtain ⟨rfl, rfl, rfl⟩ := lend_at hl (may_of hbk (get_rl (by omega)) (by simp [rl]; omega)) (i := 0) (by omega) (fun j hj => by omega) (free_rl (by omega) (by omega) (by omega))
      have gb12 := step w11 gb11 u12
      have y12 : g12.get g7.next = some (.row [.int .u8 f0.kind, .int .u32 f0.ip, .int .u16 f0.port, .bool f0.share] 1 false) := by rw [u12.same _ (w11.lt y11) (by simp; omega)]; exact y11
      refine ⟨_, _, rfl, kd, 0, 0, false, by simp (disch := (first | omega | (simp only [Hp.alloc_next, Hp.set_next] <;> omega) | (simp (disch := (first | omega | (simp only [Hp.alloc_next, Hp.set_next] <;> omega) | fail)) only [Hp.get_set_self, Hp.get_set_ne, Hp.get_alloc_self, Hp.get_alloc_ne, Hp.get_alloc_at, Hp.get_set_at, Hp.set_next, Hp.alloc_next, gb12]; done) | fail)) only [Hp.st, Hp.ld, Hp.lda, splice, ble_eq', if_true, if_false, ite_true, ite_false, cond_true, cond_false, decide_true, decide_false, List.length_cons, List.length_nil, List.take_zero, List.take_succ_cons, List.nil_append, List.cons_append, List.append_nil, List.drop_succ_cons, List.drop_zero, List.drop_nil, List.getElem?_cons_succ, List.getElem?_cons_zero, Nat.reduceAdd, Nat.reduceLeDiff, Nat.reduceEqDiff, Nat.zero_add, Nat.add_zero, Nat.le_refl, Nat.zero_le, Nat.succ_ne_self, Nat.mul_one, Int.toNat_natCast, Option.some.injEq, Option.isNone_some, Option.isNone_none, V.int.injEq, V.str.injEq, V.bool.injEq, V.ptr.injEq, V.slc.injEq, V.map.injEq, V.agg.injEq, V.tup.injEq, List.cons.injEq, Prod.mk.injEq, onS, true_and, and_true, and_assoc, exists_and_left, exists_eq_left', forall_eq, heq_eq_eq, reduceCtorEq, Bool.not_true, Bool.not_false, eq_self, not_false_eq_true, Nat.left_eq_add, Nat.add_eq_left, Nat.add_left_cancel_iff, Nat.add_right_cancel_iff, Nat.reduceEqDiff, Nat.one_ne_zero, Hp.get_set_self, Hp.get_set_ne, Hp.get_alloc_self, Hp.get_alloc_ne, Hp.get_alloc_at, Hp.get_set_at, Hp.set_next, Hp.alloc_next, Option.some_ne_none, V.tup.injEq, Option.isSome_some, Option.isSome_none, exists_eq_left, exists_eq, Nat.mul_zero, gb12], ?_⟩
      rintro g13 rfl
      refine ⟨_, Hp.st_of Hp.get_alloc_self (Nat.le_of_ble_eq_true rfl), kd, ?_, ?_⟩
      · have := w12.lt gb12
        rw [Hp.ld_of (c := [.int .u8 kd, .int .u32 0, .int .u16 0, .bool false]) (e := 1) (r := false) (by simp (disch := (first | omega | (simp only [Hp.alloc_next, Hp.set_next] <;> omega) | (simp (disch := (first | omega | (simp only [Hp.alloc_next, Hp.set_next] <;> omega) | fail)) only [Hp.get_set_self, Hp.get_set_ne, Hp.get_alloc_self, Hp.get_alloc_ne, Hp.get_alloc_at, Hp.get_set_at, Hp.set_next, Hp.alloc_next, gb12]; done) | fail)) only [Hp.st, Hp.ld, Hp.lda, splice, ble_eq', if_true, if_false, ite_true, ite_false, cond_true, cond_false, decide_true, decide_false, List.length_cons, List.length_nil, List.take_zero, List.take_succ_cons, List.nil_append, List.cons_append, List.append_nil, List.drop_succ_cons, List.drop_zero, List.drop_nil, List.getElem?_cons_succ, List.getElem?_cons_zero, Nat.reduceAdd, Nat.reduceLeDiff, Nat.reduceEqDiff, Nat.zero_add, Nat.add_zero, Nat.le_refl, Nat.zero_le, Nat.succ_ne_self, Nat.mul_one, Int.toNat_natCast, Option.some.injEq, Option.isNone_some, Option.isNone_none, V.int.injEq, V.str.injEq, V.bool.injEq, V.ptr.injEq, V.slc.injEq, V.map.injEq, V.agg.injEq, V.tup.injEq, List.cons.injEq, Prod.mk.injEq, onS, true_and, and_true, and_assoc, exists_and_left, exists_eq_left', forall_eq, heq_eq_eq, reduceCtorEq, Bool.not_true, Bool.not_false, eq_self, not_false_eq_true, Nat.left_eq_add, Nat.add_eq_left, Nat.add_left_cancel_iff, Nat.add_right_cancel_iff, Nat.reduceEqDiff, Nat.one_ne_zero, Hp.get_set_self, Hp.get_set_ne, Hp.get_alloc_self, Hp.get_alloc_ne, Hp.get_alloc_at, Hp.get_set_at, Hp.set_next, Hp.alloc_next, Option.some_ne_none, V.tup.injEq, Option.isSome_some, Option.isSome_none, exists_eq_left, exists_eq, Nat.mul_zero, gb12])]; rfl
      refine ⟨_, Hp.st_of Hp.get_set_self (Nat.le_of_ble_eq_true rfl), ?_⟩
      rw [u8w (x := 3 - kd) (by omega) (by omega)]
      obtain ⟨g15, hg15⟩ : ∃ g15, g15 = ((g12.alloc (.row [.int .u8 0, .int .u32 0, .int .u16 0, .bool false] 1 false)).set g12.next (.row (splice [.int .u8 0, .int .u32 0, .int .u16 0, .bool false] 0 [.int .u8 kd, .int .u32 0, .int .u16 0, .bool false]) 1 false)).set g12.next (.row (splice (splice [.int .u8 0, .int .u32 0, .int .u16 0, .bool false] 0 [.int .u8 kd, .int .u32 0, .int .u16 0, .bool false]) 0 [.int .u8 (3 - kd)]) 1 false) := ⟨_, rfl⟩
      rw [← hg15]
      have q15 : Quiet g12 g15 := by rw [hg15]; exact ⟨fun j hj => by simp (disch := (first | omega | (simp only [Hp.alloc_next, Hp.set_next] <;> omega) | (simp (disch := (first | omega | (simp only [Hp.alloc_next, Hp.set_next] <;> omega) | fail)) only [Hp.get_set_self, Hp.get_set_ne, Hp.get_alloc_self, Hp.get_alloc_ne, Hp.get_alloc_at, Hp.get_set_at, Hp.set_next, Hp.alloc_next]; done) | fail)) only [Hp.st, Hp.ld, Hp.lda, splice, ble_eq', if_true, if_false, ite_true, ite_false, cond_true, cond_false, decide_true, decide_false, List.length_cons, List.length_nil, List.take_zero, List.take_succ_cons, List.nil_append, List.cons_append, List.append_nil, List.drop_succ_cons, List.drop_zero, List.drop_nil, List.getElem?_cons_succ, List.getElem?_cons_zero, Nat.reduceAdd, Nat.reduceLeDiff, Nat.reduceEqDiff, Nat.zero_add, Nat.add_zero, Nat.le_refl, Nat.zero_le, Nat.succ_ne_self, Nat.mul_one, Int.toNat_natCast, Option.some.injEq, Option.isNone_some, Option.isNone_none, V.int.injEq, V.str.injEq, V.bool.injEq, V.ptr.injEq, V.slc.injEq, V.map.injEq, V.agg.injEq, V.tup.injEq, List.cons.injEq, Prod.mk.injEq, onS, true_and, and_true, and_assoc, exists_and_left, exists_eq_left', forall_eq, heq_eq_eq, reduceCtorEq, Bool.not_true, Bool.not_false, eq_self, not_false_eq_true, Nat.left_eq_add, Nat.add_eq_left, Nat.add_left_cancel_iff, Nat.add_right_cancel_iff, Nat.reduceEqDiff, Nat.one_ne_zero, Hp.get_set_self, Hp.get_set_ne, Hp.get_alloc_self, Hp.get_alloc_ne, Hp.get_alloc_at, Hp.get_set_at, Hp.set_next, Hp.alloc_next, Option.some_ne_none, V.tup.injEq, Option.isSome_some, Option.isSome_none, exists_eq_left, exists_eq, Nat.mul_zero], by simp (disch := (first | omega | (simp only [Hp.alloc_next, Hp.set_next] <;> omega) | (simp (disch := (first | omega | (simp only [Hp.alloc_next, Hp.set_next] <;> omega) | fail)) only [Hp.get_set_self, Hp.get_set_ne, Hp.get_alloc_self, Hp.get_alloc_ne, Hp.get_alloc_at, Hp.get_set_at, Hp.set_next, Hp.alloc_next]; done) | fail)) only [Hp.st, Hp.ld, Hp.lda, splice, ble_eq', if_true, if_false, ite_true, ite_false, cond_true, cond_false, decide_true, decide_false, List.length_cons, List.length_nil, List.take_zero, List.take_succ_cons, List.nil_append, List.cons_append, List.append_nil, List.drop_succ_cons, List.drop_zero, List.drop_nil, List.getElem?_cons_succ, List.getElem?_cons_zero, Nat.reduceAdd, Nat.reduceLeDiff, Nat.reduceEqDiff, Nat.zero_add, Nat.add_zero, Nat.le_refl, Nat.zero_le, Nat.succ_ne_self, Nat.mul_one, Int.toNat_natCast, Option.some.injEq, Option.isNone_some, Option.isNone_none, V.int.injEq, V.str.injEq, V.bool.injEq, V.ptr.injEq, V.slc.injEq, V.map.injEq, V.agg.injEq, V.tup.injEq, List.cons.injEq, Prod.mk.injEq, onS, true_and, and_true, and_assoc, exists_and_left, exists_eq_left', forall_eq, heq_eq_eq, reduceCtorEq, Bool.not_true, Bool.not_false, eq_self, not_false_eq_true, Nat.left_eq_add, Nat.add_eq_left, Nat.add_left_cancel_iff, Nat.add_right_cancel_iff, Nat.reduceEqDiff, Nat.one_ne_zero, Hp.get_set_self, Hp.get_set_ne, Hp.get_alloc_self, Hp.get_alloc_ne, Hp.get_alloc_at, Hp.get_set_at, Hp.set_next, Hp.alloc_next, Option.some_ne_none, V.tup.injEq, Option.isSome_some, Option.isSome_none, exists_eq_left, exists_eq, Nat.mul_zero]; omega, (w12.alloc.set (Nat.lt_succ_self _)).set (Nat.lt_succ_self _)⟩
      have c15 : g15.get g12.next = some (.row [.int .u8 (3 - kd), .int .u32 0, .int .u16 0, .bool false] 1 false) := by rw [hg15, Hp.get_set_self]; rfl
      clear hg15
      have y15 : g15.get g7.next = some (.row [.int .u8 f0.kind, .int .u32 f0.ip, .int .u16 f0.port, .bool f0.share] 1 false) := by rw [q15.same _ (w12.lt y12)]; exact y12
      refine ⟨3 - kd, 0, 0, false, by simp (disch := (first | omega | (simp only [Hp.alloc_next, Hp.set_next] <;> omega) | (simp (disch := (first | omega | (simp only [Hp.alloc_next, Hp.set_next] <;> omega) | fail)) only [Hp.get_set_self, Hp.get_set_ne, Hp.get_alloc_self, Hp.get_alloc_ne, Hp.get_alloc_at, Hp.get_set_at, Hp.set_next, Hp.alloc_next, c15]; done) | fail)) only [Hp.st, Hp.ld, Hp.lda, splice, ble_eq', if_true, if_false, ite_true, ite_false, cond_true, cond_false, decide_true, decide_false, List.length_cons, List.length_nil, List.take_zero, List.take_succ_cons, List.nil_append, List.cons_append, List.append_nil, List.drop_succ_cons, List.drop_zero, List.drop_nil, List.getElem?_cons_succ, List.getElem?_cons_zero, Nat.reduceAdd, Nat.reduceLeDiff, Nat.reduceEqDiff, Nat.zero_add, Nat.add_zero, Nat.le_refl, Nat.zero_le, Nat.succ_ne_self, Nat.mul_one, Int.toNat_natCast, Option.some.injEq, Option.isNone_some, Option.isNone_none, V.int.injEq, V.str.injEq, V.bool.injEq, V.ptr.injEq, V.slc.injEq, V.map.injEq, V.agg.injEq, V.tup.injEq, List.cons.injEq, Prod.mk.injEq, onS, true_and, and_true, and_assoc, exists_and_left, exists_eq_left', forall_eq, heq_eq_eq, reduceCtorEq, Bool.not_true, Bool.not_false, eq_self, not_false_eq_true, Nat.left_eq_add, Nat.add_eq_left, Nat.add_left_cancel_iff, Nat.add_right_cancel_iff, Nat.reduceEqDiff, Nat.one_ne_zero, Hp.get_set_self, Hp.get_set_ne, Hp.get_alloc_self, Hp.get_alloc_ne, Hp.get_alloc_at, Hp.get_set_at, Hp.set_next, Hp.alloc_next, Option.some_ne_none, V.tup.injEq, Option.isSome_some, Option.isSome_none, exists_eq_left, exists_eq, Nat.mul_zero, c15], ?_⟩
      obtain ⟨b2, hb2⟩ : ∃ b2 : Bd, b2 = ⟨3 - kd, 0, 0, false⟩ := ⟨_, rfl⟩
      have hb2' : V.agg [.int .u8 (3 - kd), .int .u32 0, .int .u16 0, .bool false] = bV b2 := by rw [hb2]; rfl
      rw [hb2']
      refine (lend_spec (b := b2) q15.wf (r12.quiet w12 q15) (by omega)).mono ?_
      rintro _ g16 ⟨code, port, L', rfl, hl, r16, u16, w16⟩
      have hfree2 : freeB (rl b draw 1 n ++ [(1000, lendAt b draw 0)]) (lendAt b2 draw 0) = true := by
        unfold freeB
        rw [List.all_eq_true]
        intro x hx
        have hkx : x.2.kind = kd := by
          rcases List.mem_append.1 hx with hx | hx
          · obtain ⟨j, h1, h2, rfl⟩ := mem_rl hx; simp [ent, lendAt, hb]
          · rw [List.mem_singleton] at hx; subst hx; simp [lendAt, hb]
        have : (x.2.kind == (lendAt b2 draw 0).kind) = false := by rw [hkx]; simp [lendAt, hb2]; omega
        simp [meetB, this]
      have hget2 : mget (rl b draw 1 n ++ [(1000, lendAt b draw 0)]) 1001 = none := by
        unfold mget
        rw [Option.map_eq_none_iff, List.find?_eq_none]
        intro x hx
        rcases List.mem_append.1 hx with hx | hx
        · obtain ⟨j, h1, h2, rfl⟩ := mem_rl hx; intro e; have e := of_decide_eq_true e; simp only [ent] at e; omega
        · rw [List.mem_singleton] at hx; subst hx; simp
      obtain ⟨rfl, rfl, rfl⟩ := lend_at hl (may_of (by rw [hb2]; simp; omega) hget2 (by simp [rl]; omega)) (i := 0) (by omega) (fun j hj => by omega) hfree2
      have y16 : g16.get g7.next = some (.row [.int .u8 f0.kind, .int .u32 f0.ip, .int .u16 f0.port, .bool f0.share] 1 false) := by rw [u16.same _ (q15.wf.lt y15) (by simp; omega)]; exact y15
      refine ⟨_, _, rfl, ?_⟩
      have ep : (lendAt b2 draw 0).port = f0.port := by rw [hf0]; rfl
      have eq : (lendAt b draw 0).port = f0.port := by rw [hf0]
      rw [ep, eq]
      simp (disch := (first | omega | (simp only [Hp.alloc_next, Hp.set_next] <;> omega) | (simp (disch := (first | omega | (simp only [Hp.alloc_next, Hp.set_next] <;> omega) | fail)) only [Hp.get_set_self, Hp.get_set_ne, Hp.get_alloc_self, Hp.get_alloc_ne, Hp.get_alloc_at, Hp.get_set_at, Hp.set_next, Hp.alloc_next, y16]; done) | fail)) only [Hp.st, Hp.ld, Hp.lda, splice, ble_eq', if_true, if_false, ite_true, ite_false, cond_true, cond_false, decide_true, decide_false, List.length_cons, List.length_nil, List.take_zero, List.take_succ_cons, List.nil_append, List.cons_append, List.append_nil, List.drop_succ_cons, List.drop_zero, List.drop_nil, List.getElem?_cons_succ, List.getElem?_cons_zero, Nat.reduceAdd, Nat.reduceLeDiff, Nat.reduceEqDiff, Nat.zero_add, Nat.add_zero, Nat.le_refl, Nat.zero_le, Nat.succ_ne_self, Nat.mul_one, Int.toNat_natCast, Option.some.injEq, Option.isNone_some, Option.isNone_none, V.int.injEq, V.str.injEq, V.bool.injEq, V.ptr.injEq, V.slc.injEq, V.map.injEq, V.agg.injEq, V.tup.injEq, List.cons.injEq, Prod.mk.injEq, onS, true_and, and_true, and_assoc, exists_and_left, exists_eq_left', forall_eq, heq_eq_eq, reduceCtorEq, Bool.not_true, Bool.not_false, eq_self, not_false_eq_true, Nat.left_eq_add, Nat.add_eq_left, Nat.add_left_cancel_iff, Nat.add_right_cancel_iff, Nat.reduceEqDiff, Nat.one_ne_zero, Hp.get_set_self, Hp.get_set_ne, Hp.get_alloc_self, Hp.get_alloc_ne, Hp.get_alloc_at, Hp.get_set_at, Hp.set_next, Hp.alloc_next, Option.some_ne_none, V.tup.injEq, Option.isSome_some, Option.isSome_none, exists_eq_left, exists_eq, Nat.mul_zero, y16]
      simp only [beq_self_eq_true, cond_true]
      exact works_spec fun _ => ⟨_, rfl, KT _⟩
end Go.Vex.PortsRound

namespace Go.Proofs.Ytehihinmgejpaaa.portsRound
open Go.ChangeShapes Go.WideShapes Go.ChangeAt Go.RowKit Go.Vex Go.Vex.PortsRound
open Go.ChangeMaps (open_string shut_string)

theorem own : ownKnob Try.prog.godebug = none := by kernel_rfl

set_option maxRecDepth 100000 in
theorem lifted (os : Os) (started : os.Started) (H : Type) (enc : TypeId × Value → H) :
    ReturnsInHanded {} Try.checked os 5 .any (Rows.portsRoundSpec.pre6 enc Try.prog Try.f5 Rows.portsRoundRow.domain false) (Rows.portsRoundSpec.post enc Try.prog Try.f5 false true false false) := by
  refine returnsInHanded_of_change_sized (C := Try.checked) own started (by kernel_rfl) Try.func5
    (ChangeSpec.witness6 (enc := enc) (C := Try.checked) false ⟨#[], #[.int .u16 0, .int .u8 0, .bool false], []⟩ 8 (by kernel_rfl) (by kernel_rfl) (by kernel_rfl) (by kernel_rfl)) ?_
  intro W base args ds gs before hval0 hW hcnd hsz _
  have hval : ∀ (j : Nat) t v, Try.f5.params[j]? = some t → args[j]? = some v → Value.okWide Try.prog W .any base t v := hval0
  have hW' := hW
  obtain ⟨p, q, hA0, hV, rfl, hfz, hnd⟩ := hW
  have hA : DataW.TrodAll enc Try.prog W 0 (fun _ => true) true Try.f5.params.toList args.toList ds p := hA0
  rw [Try.params5] at hA hval hsz
  obtain ⟨v0, vs0, d0, ds0, p0, q0, hargs, rfl, rfl, h0, r0⟩ := trodAll_cons hA
  obtain ⟨v1, vs1, d1, ds1, p1, q1, rfl, rfl, rfl, h1, r1⟩ := trodAll_cons r0
  obtain ⟨v2, vs2, d2, ds2, p2, q2, rfl, rfl, rfl, h2, r2⟩ := trodAll_cons r1
  obtain ⟨rfl, rfl, rfl⟩ := trodAll_nil r2
  obtain rfl : args = #[v0, v1, v2] := by cases args; simp_all
  obtain ⟨rfl, rfl⟩ := trodVars_none hV
  obtain ⟨a0, rfl, rfl, rfl, w0⟩ := open_int Try.underlying24 (hval 0 24 v0 rfl rfl) h0
  obtain ⟨a1, rfl, rfl, rfl, w1⟩ := open_int Try.underlying5 (hval 1 5 v1 rfl rfl) h1
  obtain ⟨a2, rfl, rfl, rfl⟩ := open_bool Try.underlying4 (hval 2 4 v2 rfl rfl) h2
  refine (XCalls.true' (Sat.none W fun _ => ⟨0, 0, 0, 0⟩) (vs := [.int .u16 a0, .int .u8 a1, .bool a2]) ⟨_, _, rfl, rfl, ⟨_, _, rfl, rfl, ⟨_, _, rfl, rfl, rfl⟩⟩⟩ (law_calls a0 w0 a1 w1 a2)).mono fun e W' ⟨he, hb⟩ => ?_
  subst he
  exact ⟨_, rfl, post_true (by kernel_rfl) hW' hb rfl (fun gs hg => by subst hg; rfl) (tb := 4) rfl Try.underlying4 (by decide +kernel)⟩

theorem over : Rows.portsRoundRow.holds Try.pinned (OpenSpec.ofChange Rows.portsRoundSpec) :=
  OpenClaim.holds_of_wide 5 Try.f5 rfl rfl rfl rfl rfl rfl rfl ⟨rfl, rfl, rfl, rfl, rfl⟩ rfl rfl rfl rfl rfl (by kernel_rfl) Try.func5 (by kernel_rfl)
    (of_decide_eq_true (by kernel_rfl)) (by unfold Func.isWrapper; first | (rw [if_pos (by decide +kernel)]; kernel_rfl) | (rw [if_neg (by decide +kernel)]; exact ⟨rfl, rfl⟩))
    (fun os started H enc _ => lifted os started H enc)

theorem proved : Rows.PortsRoundSaid :=
  over
#print axioms proved
end Go.Proofs.Ytehihinmgejpaaa.portsRound

