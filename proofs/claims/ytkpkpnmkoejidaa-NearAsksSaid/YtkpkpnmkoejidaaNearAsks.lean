/-
  NearAsks of layer 9: whatever the conf, the card's address and how often it is heard, the law returns true and leaves the input as it was. No condition.
-/
import Derived.Test.YtkpkpnmkoejidaaVexEE
import Derived.Test.YtkpkpnmkoejidaaVexFF
import Derived.Test.YtkpkpnmkoejidaaVexGG
import Derived.Test.YtkpkpnmkoejidaaTab09
import Derived.Test.YtkpkpnmkoejidaaXa09
import Derived.Test.YtkpkpnmkoejidaaXs09
import Derived.Test.YtkpkpnmkoejidaaXk09
import Derived.Test.YtkpkpnmkoejidaaCsa09
import Derived.Test.YtkpkpnmkoejidaaCsb09
import Derived.Test.YtkpkpnmkoejidaaCsc09
import Derived.Test.YtkpkpnmkoejidaaCsd09
import Derived.Test.YtkpkpnmkoejidaaCse09
import Derived.Test.YtkpkpnmkoejidaaCa09
import Derived.Test.YtkpkpnmkoejidaaCb09
import Derived.Test.YtkpkpnmkoejidaaCc09
import Derived.Test.YtkpkpnmkoejidaaCd09
import Derived.Test.YtkpkpnmkoejidaaCe09
import Derived.Test.YtkpkpnmkoejidaaCf09
import Derived.Test.YtkpkpnmkoejidaaCg09
import Derived.Test.YtkpkpnmkoejidaaXb09
import Derived.Test.YtkpkpnmkoejidaaRows
import Derived.WalkKit
import Derived.ProofKit
import Derived.OpenShut
import Derived.KernelRfl
set_option linter.unusedVariables false
set_option linter.unusedSimpArgs false
namespace Go.Vex.NearAsks
open Go.Proofs Go.Vex.Nr

def askedE (k pause : Int) (k1 : Int) : En := ⟨1, 0, k1 * pause, k1, [1]⟩

/-- the near one behind k pauses -/
def stK (c : Cf) (k : Nat) : NS := ⟨c, k * c.pause, if (k : Int) < c.asks then 1 else 0, if (k : Int) < c.asks then [(9, ⟨1, 0, (k + 1) * c.pause, k + 1, [1]⟩)] else []⟩

theorem ticks_one (S : NS) (ip : Int) : ticks S [ip] = tick1 ⟨S, [], []⟩ ip := by unfold ticks; rfl

theorem one_ok {S : NS} {e : En} (h : S.es = [(9, e)]) (hl : e.ws.length ≤ 100000) : WsOk S := fun ip x hx => by
  rw [h, mget_cons] at hx
  split at hx
  · cases hx; exact hl
  · cases hx

theorem mul_bnd {k p K P : Int} (h0 : 0 ≤ k) (h1 : k ≤ K) (h2 : 0 ≤ p) (h3 : p ≤ P) : 0 ≤ k * p ∧ k * p ≤ K * P := by
  refine ⟨Int.mul_nonneg h0 h2, ?_⟩
  exact Int.mul_le_mul h1 h3 h2 (by omega)

set_option maxRecDepth 20000 in
theorem law_calls (most : Int) (w0 : IntKind.i64.min ≤ most ∧ most ≤ IntKind.i64.max) (waits : Int) (w1 : IntKind.i64.min ≤ waits ∧ waits ≤ IntKind.i64.max) (each : Int) (w2 : IntKind.i64.min ≤ each ∧ each ≤ IntKind.i64.max) (known : Int) (w3 : IntKind.i64.min ≤ known ∧ known ≤ IntKind.i64.max) (asks : Int) (w4 : IntKind.i64.min ≤ asks ∧ asks ≤ IntKind.i64.max) (pause : Int) (w5 : IntKind.i64.min ≤ pause ∧ pause ≤ IntKind.i64.max)
    (mac : Int) (wm : (Lit.int .u64 mac).wf = true) (heard : Int) (wh : (Lit.int .u8 heard).wf = true) {h : Hp} : XCalls Try.prog 3 [.agg [.int .i64 most, .int .i64 waits, .int .i64 each, .int .i64 known, .int .i64 asks, .int .i64 pause], .int .u64 mac, .int .u8 heard] h fun v _ => v = .bool true := by
  refine XCalls.ofWf fun hw => ?_
  refine XCalls.cps fun K hK => ?_
  have KT : ∀ h', K (.bool true) h' := fun h' => hK _ _ rfl
  have hh := lit_bnd wh
  simp [IntKind.min, IntKind.max, IntKind.signed, IntKind.bits] at hh
  apply x3; unfold X3
  rintro h1 rfl
  obtain ⟨cf, hcf⟩ : ∃ cf : Cf, cf = ⟨most, waits, each, known, asks, pause⟩ := ⟨_, rfl⟩
  obtain ⟨o, ho⟩ : ∃ o, o = O.row [.int .i64 most, .int .i64 waits, .int .i64 each, .int .i64 known, .int .i64 asks, .int .i64 pause] 1 false := ⟨_, rfl⟩
  rw [← ho]
  have q1 := Quiet.alloc hw o
  have g1 : (h.alloc o).get h.next = some o := Hp.get_alloc_self
  generalize h.alloc o = h1 at *
  have rd : ∀ {g' : Hp}, g'.get h.next = some o → g'.ld h.next 1 = some (.int .i64 waits) ∧ g'.ld h.next 2 = some (.int .i64 each) ∧ g'.ld h.next 3 = some (.int .i64 known) ∧ g'.ld h.next 4 = some (.int .i64 asks) ∧ g'.ld h.next 5 = some (.int .i64 pause) := fun {g'} hg => by
    subst ho
    exact ⟨by simp (disch := (first | omega | (simp only [Hp.alloc_next, Hp.set_next] <;> omega) | (simp (disch := (first | omega | (simp only [Hp.alloc_next, Hp.set_next] <;> omega) | fail)) only [Hp.get_set_self, Hp.get_set_ne, Hp.get_alloc_self, Hp.get_alloc_ne, Hp.get_alloc_at, Hp.get_set_at, Hp.set_next, Hp.alloc_next, hg]; done) | fail)) only [Hp.st, Hp.ld, Hp.lda, splice, ble_eq', if_true, if_false, ite_true, ite_false, cond_true, cond_false, decide_true, decide_false, List.length_cons, List.length_nil, List.take_zero, List.take_succ_cons, List.nil_append, List.cons_append, List.append_nil, List.drop_succ_cons, List.drop_zero, List.drop_nil, List.getElem?_cons_succ, List.getElem?_cons_zero, Nat.reduceAdd, Nat.reduceLeDiff, Nat.reduceEqDiff, Nat.zero_add, Nat.add_zero, Nat.le_refl, Nat.zero_le, Nat.succ_ne_self, Nat.mul_one, Int.toNat_natCast, Option.some.injEq, Option.isNone_some, Option.isNone_none, V.int.injEq, V.str.injEq, V.bool.injEq, V.ptr.injEq, V.slc.injEq, V.map.injEq, V.agg.injEq, V.tup.injEq, List.cons.injEq, Prod.mk.injEq, onS, true_and, and_true, and_assoc, exists_and_left, exists_eq_left', forall_eq, heq_eq_eq, reduceCtorEq, Bool.not_true, Bool.not_false, eq_self, not_false_eq_true, Nat.left_eq_add, Nat.add_eq_left, Nat.add_left_cancel_iff, Nat.add_right_cancel_iff, Nat.reduceEqDiff, Nat.one_ne_zero, Hp.get_set_self, Hp.get_set_ne, Hp.get_alloc_self, Hp.get_alloc_ne, Hp.get_alloc_at, Hp.get_set_at, Hp.set_next, Hp.alloc_next, Option.some_ne_none, V.tup.injEq, Option.isSome_some, Option.isSome_none, exists_eq_left, exists_eq, Nat.mul_zero, hg], by simp (disch := (first | omega | (simp only [Hp.alloc_next, Hp.set_next] <;> omega) | (simp (disch := (first | omega | (simp only [Hp.alloc_next, Hp.set_next] <;> omega) | fail)) only [Hp.get_set_self, Hp.get_set_ne, Hp.get_alloc_self, Hp.get_alloc_ne, Hp.get_alloc_at, Hp.get_set_at, Hp.set_next, Hp.alloc_next, hg]; done) | fail)) only [Hp.st, Hp.ld, Hp.lda, splice, ble_eq', if_true, if_false, ite_true, ite_false, cond_true, cond_false, decide_true, decide_false, List.length_cons, List.length_nil, List.take_zero, List.take_succ_cons, List.nil_append, List.cons_append, List.append_nil, List.drop_succ_cons, List.drop_zero, List.drop_nil, List.getElem?_cons_succ, List.getElem?_cons_zero, Nat.reduceAdd, Nat.reduceLeDiff, Nat.reduceEqDiff, Nat.zero_add, Nat.add_zero, Nat.le_refl, Nat.zero_le, Nat.succ_ne_self, Nat.mul_one, Int.toNat_natCast, Option.some.injEq, Option.isNone_some, Option.isNone_none, V.int.injEq, V.str.injEq, V.bool.injEq, V.ptr.injEq, V.slc.injEq, V.map.injEq, V.agg.injEq, V.tup.injEq, List.cons.injEq, Prod.mk.injEq, onS, true_and, and_true, and_assoc, exists_and_left, exists_eq_left', forall_eq, heq_eq_eq, reduceCtorEq, Bool.not_true, Bool.not_false, eq_self, not_false_eq_true, Nat.left_eq_add, Nat.add_eq_left, Nat.add_left_cancel_iff, Nat.add_right_cancel_iff, Nat.reduceEqDiff, Nat.one_ne_zero, Hp.get_set_self, Hp.get_set_ne, Hp.get_alloc_self, Hp.get_alloc_ne, Hp.get_alloc_at, Hp.get_set_at, Hp.set_next, Hp.alloc_next, Option.some_ne_none, V.tup.injEq, Option.isSome_some, Option.isSome_none, exists_eq_left, exists_eq, Nat.mul_zero, hg], by simp (disch := (first | omega | (simp only [Hp.alloc_next, Hp.set_next] <;> omega) | (simp (disch := (first | omega | (simp only [Hp.alloc_next, Hp.set_next] <;> omega) | fail)) only [Hp.get_set_self, Hp.get_set_ne, Hp.get_alloc_self, Hp.get_alloc_ne, Hp.get_alloc_at, Hp.get_set_at, Hp.set_next, Hp.alloc_next, hg]; done) | fail)) only [Hp.st, Hp.ld, Hp.lda, splice, ble_eq', if_true, if_false, ite_true, ite_false, cond_true, cond_false, decide_true, decide_false, List.length_cons, List.length_nil, List.take_zero, List.take_succ_cons, List.nil_append, List.cons_append, List.append_nil, List.drop_succ_cons, List.drop_zero, List.drop_nil, List.getElem?_cons_succ, List.getElem?_cons_zero, Nat.reduceAdd, Nat.reduceLeDiff, Nat.reduceEqDiff, Nat.zero_add, Nat.add_zero, Nat.le_refl, Nat.zero_le, Nat.succ_ne_self, Nat.mul_one, Int.toNat_natCast, Option.some.injEq, Option.isNone_some, Option.isNone_none, V.int.injEq, V.str.injEq, V.bool.injEq, V.ptr.injEq, V.slc.injEq, V.map.injEq, V.agg.injEq, V.tup.injEq, List.cons.injEq, Prod.mk.injEq, onS, true_and, and_true, and_assoc, exists_and_left, exists_eq_left', forall_eq, heq_eq_eq, reduceCtorEq, Bool.not_true, Bool.not_false, eq_self, not_false_eq_true, Nat.left_eq_add, Nat.add_eq_left, Nat.add_left_cancel_iff, Nat.add_right_cancel_iff, Nat.reduceEqDiff, Nat.one_ne_zero, Hp.get_set_self, Hp.get_set_ne, Hp.get_alloc_self, Hp.get_alloc_ne, Hp.get_alloc_at, Hp.get_set_at, Hp.set_next, Hp.alloc_next, Option.some_ne_none, V.tup.injEq, Option.isSome_some, Option.isSome_none, exists_eq_left, exists_eq, Nat.mul_zero, hg], by simp (disch := (first | omega | (simp only [Hp.alloc_next, Hp.set_next] <;> omega) | (simp (disch := (first | omega | (simp only [Hp.alloc_next, Hp.set_next] <;> omega) | fail)) only [Hp.get_set_self, Hp.get_set_ne, Hp.get_alloc_self, Hp.get_alloc_ne, Hp.get_alloc_at, Hp.get_set_at, Hp.set_next, Hp.alloc_next, hg]; done) | fail)) only [Hp.st, Hp.ld, Hp.lda, splice, ble_eq', if_true, if_false, ite_true, ite_false, cond_true, cond_false, decide_true, decide_false, List.length_cons, List.length_nil, List.take_zero, List.take_succ_cons, List.nil_append, List.cons_append, List.append_nil, List.drop_succ_cons, List.drop_zero, List.drop_nil, List.getElem?_cons_succ, List.getElem?_cons_zero, Nat.reduceAdd, Nat.reduceLeDiff, Nat.reduceEqDiff, Nat.zero_add, Nat.add_zero, Nat.le_refl, Nat.zero_le, Nat.succ_ne_self, Nat.mul_one, Int.toNat_natCast, Option.some.injEq, Option.isNone_some, Option.isNone_none, V.int.injEq, V.str.injEq, V.bool.injEq, V.ptr.injEq, V.slc.injEq, V.map.injEq, V.agg.injEq, V.tup.injEq, List.cons.injEq, Prod.mk.injEq, onS, true_and, and_true, and_assoc, exists_and_left, exists_eq_left', forall_eq, heq_eq_eq, reduceCtorEq, Bool.not_true, Bool.not_false, eq_self, not_false_eq_true, Nat.left_eq_add, Nat.add_eq_left, Nat.add_left_cancel_iff, Nat.add_right_cancel_iff, Nat.reduceEqDiff, Nat.one_ne_zero, Hp.get_set_self, Hp.get_set_ne, Hp.get_alloc_self, Hp.get_alloc_ne, Hp.get_alloc_at, Hp.get_set_at, Hp.set_next, Hp.alloc_next, Option.some_ne_none, V.tup.injEq, Option.isSome_some, Option.isSome_none, exists_eq_left, exists_eq, Nat.mul_zero, hg], by simp (disch := (first | omega | (simp only [Hp.alloc_next, Hp.set_next] <;> omega) | (simp (disch := (first | omega | (simp only [Hp.alloc_next, Hp.set_next] <;> omega) | fail)) only [Hp.get_set_self, Hp.get_set_ne, Hp.get_alloc_self, Hp.get_alloc_ne, Hp.get_alloc_at, Hp.get_set_at, Hp.set_next, Hp.alloc_next, hg]; done) | fail)) only [Hp.st, Hp.ld, Hp.lda, splice, ble_eq', if_true, if_false, ite_true, ite_false, cond_true, cond_false, decide_true, decide_false, List.length_cons, List.length_nil, List.take_zero, List.take_succ_cons, List.nil_append, List.cons_append, List.append_nil, List.drop_succ_cons, List.drop_zero, List.drop_nil, List.getElem?_cons_succ, List.getElem?_cons_zero, Nat.reduceAdd, Nat.reduceLeDiff, Nat.reduceEqDiff, Nat.zero_add, Nat.add_zero, Nat.le_refl, Nat.zero_le, Nat.succ_ne_self, Nat.mul_one, Int.toNat_natCast, Option.some.injEq, Option.isNone_some, Option.isNone_none, V.int.injEq, V.str.injEq, V.bool.injEq, V.ptr.injEq, V.slc.injEq, V.map.injEq, V.agg.injEq, V.tup.injEq, List.cons.injEq, Prod.mk.injEq, onS, true_and, and_true, and_assoc, exists_and_left, exists_eq_left', forall_eq, heq_eq_eq, reduceCtorEq, Bool.not_true, Bool.not_false, eq_self, not_false_eq_true, Nat.left_eq_add, Nat.add_eq_left, Nat.add_left_cancel_iff, Nat.add_right_cancel_iff, Nat.reduceEqDiff, Nat.one_ne_zero, Hp.get_set_self, Hp.get_set_ne, Hp.get_alloc_self, Hp.get_alloc_ne, Hp.get_alloc_at, Hp.get_set_at, Hp.set_next, Hp.alloc_next, Option.some_ne_none, V.tup.injEq, Option.isSome_some, Option.isSome_none, exists_eq_left, exists_eq, Nat.mul_zero, hg]⟩
  refine ⟨most, waits, each, known, asks, pause, by subst ho; simp (disch := (first | omega | (simp only [Hp.alloc_next, Hp.set_next] <;> omega) | (simp (disch := (first | omega | (simp only [Hp.alloc_next, Hp.set_next] <;> omega) | fail)) only [Hp.get_set_self, Hp.get_set_ne, Hp.get_alloc_self, Hp.get_alloc_ne, Hp.get_alloc_at, Hp.get_set_at, Hp.set_next, Hp.alloc_next, g1]; done) | fail)) only [Hp.st, Hp.ld, Hp.lda, splice, ble_eq', if_true, if_false, ite_true, ite_false, cond_true, cond_false, decide_true, decide_false, List.length_cons, List.length_nil, List.take_zero, List.take_succ_cons, List.nil_append, List.cons_append, List.append_nil, List.drop_succ_cons, List.drop_zero, List.drop_nil, List.getElem?_cons_succ, List.getElem?_cons_zero, Nat.reduceAdd, Nat.reduceLeDiff, Nat.reduceEqDiff, Nat.zero_add, Nat.add_zero, Nat.le_refl, Nat.zero_le, Nat.succ_ne_self, Nat.mul_one, Int.toNat_natCast, Option.some.injEq, Option.isNone_some, Option.isNone_none, V.int.injEq, V.str.injEq, V.bool.injEq, V.ptr.injEq, V.slc.injEq, V.map.injEq, V.agg.injEq, V.tup.injEq, List.cons.injEq, Prod.mk.injEq, onS, true_and, and_true, and_assoc, exists_and_left, exists_eq_left', forall_eq, heq_eq_eq, reduceCtorEq, Bool.not_true, Bool.not_false, eq_self, not_false_eq_true, Nat.left_eq_add, Nat.add_eq_left, Nat.add_left_cancel_iff, Nat.add_right_cancel_iff, Nat.reduceEqDiff, Nat.one_ne_zero, Hp.get_set_self, Hp.get_set_ne, Hp.get_alloc_self, Hp.get_alloc_ne, Hp.get_alloc_at, Hp.get_set_at, Hp.set_next, Hp.alloc_next, Option.some_ne_none, V.tup.injEq, Option.isSome_some, Option.isSome_none, exists_eq_left, exists_eq, Nat.mul_zero, g1], ?_⟩
  have hns := new_spec q1.wf cf
  rw [hcf] at hns
  refine hns.mono ?_
  rintro _ h2 (⟨rfl, q2⟩ | ⟨n, F, rfl, ok, r2, q2, hF⟩)
  · exact ⟨_, _, rfl, alive_spec fun h' => ⟨_, rfl, KT _⟩⟩
  rw [← hcf] at ok r2
  refine ⟨_, _, rfl, ?_⟩
  have hl1 : h.next < h1.next := q1.wf _ _ g1
  have g2 : h2.get h.next = some o := by rw [q2.same _ hl1]; exact g1
  have j2 : NJ n h.next o ⟨cf, 0, 0, []⟩ F h2 := ⟨r2, fun j hj => by have := hF j hj; omega, g2, q2.wf⟩
  obtain ⟨d1, d2, d3, d4, d5⟩ := rd g2
  refine ⟨asks, d4, ?_⟩
  cases c1 : ltI 50 asks with
  | true => exact alive_spec fun h' => ⟨_, rfl, KT _⟩
  | false =>
  refine ⟨each, d2, ?_⟩
  cases c2 : ltI each 1 with
  | true => exact alive_spec fun h' => ⟨_, rfl, KT _⟩
  | false =>
  refine ⟨waits, d1, ?_⟩
  cases c3 : ltI waits 1 with
  | true => exact alive_spec fun h' => ⟨_, rfl, KT _⟩
  | false =>
  refine ⟨pause, d5, ?_⟩
  cases c4 : ltI 1073741824 pause with
  | true => exact alive_spec fun h' => ⟨_, rfl, KT _⟩
  | false =>
  refine ⟨known, d3, ?_⟩
  cases c5 : ltI 1073741824 known with
  | true => exact alive_spec fun h' => ⟨_, rfl, KT _⟩
  | false =>
  rw [ltI_eq, decide_eq_false_iff_not] at c1 c2 c3 c4 c5
  have okm := ok.most
  have okk := ok.known
  have oka := ok.asks
  have okp := ok.pause
  have f1 : cf.most = most := by rw [hcf]
  have f2 : cf.waits = waits := by rw [hcf]
  have f3 : cf.each = each := by rw [hcf]
  have f4 : cf.known = known := by rw [hcf]
  have f5 : cf.asks = asks := by rw [hcf]
  have f6 : cf.pause = pause := by rw [hcf]
  rw [f1] at okm
  rw [f4] at okk
  rw [f5] at oka
  rw [f6] at okp
  clear d1 d2 d3 d4 d5 r2 q2 hF g2 w0 w1 w2 w3 w4 w5
  -- the first one: it is asked
  refine (find_spec j2.wf j2.r (fun ip e he => by cases he) 9 1 0).mono ?_
  have hfind : findF ⟨cf, 0, 0, []⟩ 9 1 0 = ((0, false, true, 0), stK cf 0) := by
    have ht : timeF ⟨cf, 0, 0, []⟩ 0 = ⟨cf, 0, 0, []⟩ := rfl
    unfold findF
    rw [ht]
    unfold findG
    have hn : mget ([] : List (Int × En)) 9 = none := rfl
    simp only [hn]
    rw [if_neg (by simp only [List.length_nil]; omega)]
    have h1 : IntKind.i64.wrap (0 + 1) = 1 := rfl
    have h2 : IntKind.i64.wrap (0 + cf.pause) = cf.pause := by rw [wr (by omega) (by omega)]; omega
    unfold stK
    rw [if_pos (by omega), if_pos (by omega)]
    simp only [askE, eNew, h1, h2, mput]
    simp
  rw [hfind]
  rintro _ h3 ⟨rfl, F3, r3, u3, w3⟩
  have j3 := j2.upd r3 u3 w3
  refine ⟨0, false, true, 0, rfl, ?_⟩
  refine ⟨fun vs g => match vs with
    | [.int _ cn, .int _ nw, .int _ i] => ∃ (k : Nat) (F : List Nat), i = k ∧ (k : Int) ≤ asks ∧ nw = k * pause ∧ cn = (if (k : Int) < asks then (k : Int) + 1 else k) ∧ NJ n h.next o (stK cf k) F g
    | _ => False, fun vs _ => match vs with
    | [.int _ _, .int _ _, .int _ i] => asks.toNat - i.toNat
    | _ => 0, ⟨rfl, 0, F3, rfl, by omega, by simp, by rw [if_pos (by omega)]; rfl, j3⟩, ?_⟩
  clear j2 j3 r3 u3 w3 hfind
  rintro bs1 cn nw i g ⟨k, F, rfl, hk, rfl, rfl, j⟩
  obtain ⟨d1, d2, d3, d4, d5⟩ := rd j.sh
  have hkp := mul_bnd (k := k) (p := pause) (K := 50) (P := 1073741824) (by omega) (by omega) (by omega) (by omega)
  have e0 : ((k : Int) + 1) * pause = k * pause + pause := by rw [Int.add_mul, Int.one_mul]
  refine ⟨asks, d4, ?_⟩
  cases hi : ltI (↑k) asks with
  | true =>
    rw [ltI_eq, decide_eq_true_eq] at hi
    obtain ⟨e, he⟩ : ∃ e : En, e = ⟨1, 0, (k + 1) * cf.pause, k + 1, [1]⟩ := ⟨_, rfl⟩
    have hS : stK cf k = ⟨cf, k * cf.pause, 1, [(9, e)]⟩ := by unfold stK; rw [f5, if_pos hi, if_pos hi, he]
    rw [hS] at j
    obtain ⟨m, om, pm, fp, a, eF⟩ := j.r
    refine (state_spec a 9).mono ?_
    rintro _ _ ⟨rfl, rfl⟩
    rename_i g
    have hst : stateF ⟨cf, k * cf.pause, 1, [(9, e)]⟩ 9 = 1 := by
      unfold stateF
      have : mget [((9 : Int), e)] 9 = some e := rfl
      simp only [this]; rw [he]
    rw [hst]
    refine ⟨1, rfl, pause, d5, ?_⟩
    rw [if_pos hi]
    have wn : IntKind.i64.wrap (↑k * pause + pause) = ((k + 1 : Nat) : Int) * pause := by
      rw [wr (by omega) (by omega)]; push_cast; rw [e0]
    have wi : IntKind.i64.wrap (↑k + 1) = ((k + 1 : Nat) : Int) := by rw [wr (by omega) (by omega)]; rfl
    rw [wn, wi]
    refine (tick_spec j.wf j.r (one_ok rfl (by rw [he]; simp)) (by simp) (((k + 1 : Nat) : Int) * pause)).mono ?_
    rintro _ g' ⟨ks, x1, b1, G1, x2, b2, G2, F', rfl, hp, hri, o1, o2, hG1, hG2, r', u', w'⟩
    have hks : ks = [9] := List.perm_singleton.1 hp
    subst hks
    have ht : timeF ⟨cf, k * cf.pause, 1, [(9, e)]⟩ (((k + 1 : Nat) : Int) * pause) = ⟨cf, ((k + 1 : Nat) : Int) * pause, 1, [(9, e)]⟩ := by
      unfold timeF
      rw [f6]
      congr 1
      push_cast; rw [e0]
      show max (↑k * pause) (min (↑k * pause + pause) 17592186044416) = _
      omega
    rw [ht] at r' ⊢
    have hg : mget (⟨cf, ((k + 1 : Nat) : Int) * pause, 1, [(9, e)]⟩ : NS).es 9 = some e := rfl
    have hnlt : ¬ (⟨cf, ((k + 1 : Nat) : Int) * pause, 1, [(9, e)]⟩ : NS).now < e.at' := by
      rw [he]; show ¬ ((k + 1 : Nat) : Int) * pause < (k + 1) * cf.pause
      rw [f6]; push_cast; omega
    have hst2 : ¬ e.st = 2 := by rw [he]; simp
    have hw4 : IntKind.i64.wrap (asks - 1) = asks - 1 := wr (by omega) (by omega)
    by_cases hlast : (k : Int) + 1 < asks
    · have htick : ticks ⟨cf, ((k + 1 : Nat) : Int) * pause, 1, [(9, e)]⟩ [9] = ⟨stK cf (k + 1), [9], []⟩ := by
        rw [ticks_one]
        rw [tick1_ask (c := ⟨⟨cf, ((k + 1 : Nat) : Int) * pause, 1, [(9, e)]⟩, [], []⟩) hg hnlt hst2 (by rw [he]; show ¬ (_ ∨ ¬ (k : Int) + 1 < cf.asks); rw [f5]; simp; omega)]
        unfold stK
        rw [f5, if_pos (by push_cast; omega), if_pos (by push_cast; omega)]
        have e3 : IntKind.i64.wrap (e.asked + 1) = ((k + 1 : Nat) : Int) + 1 := by rw [he]; show IntKind.i64.wrap ((k : Int) + 1 + 1) = _; rw [wr (by omega) (by omega)]; push_cast; rfl
        have e4 : IntKind.i64.wrap (((k + 1 : Nat) : Int) * pause + cf.pause) = (((k + 1 : Nat) : Int) + 1) * cf.pause := by
          rw [f6, Int.add_mul, Int.one_mul]
          push_cast at *
          rw [e0]
          exact wr (by omega) (by omega)
        simp only [askE, e3]
        rw [e4, f6, he]
        simp [mput]
      rw [htick] at r' ⊢
      refine ⟨_, _, _, _, _, _, rfl, asks, (rd (j.upd r' u' w').sh).2.2.2.1, ?_⟩
      have c6 : ((↑k : Int) == IntKind.i64.wrap (asks - 1)) = false := by rw [hw4]; simp; omega
      rw [c6]
      have hcn : IntKind.i64.wrap ((k : Int) + 1 + (([9] : List Int).length : Nat)) = ((k + 1 : Nat) : Int) + 1 := by
        rw [wr (by simp; omega) (by simp; omega)]; simp
      rw [hcn]
      exact ⟨rfl, ⟨k + 1, F', rfl, by push_cast; omega, rfl, by rw [if_pos (by push_cast; omega)], j.upd r' u' w'⟩, by show asks.toNat - ((k + 1 : Nat) : Int).toNat < asks.toNat - (k : Int).toNat; omega⟩
    · have htick : ticks ⟨cf, ((k + 1 : Nat) : Int) * pause, 1, [(9, e)]⟩ [9] = ⟨stK cf (k + 1), [], [1]⟩ := by
        rw [ticks_one]
        rw [tick1_lose (c := ⟨⟨cf, ((k + 1 : Nat) : Int) * pause, 1, [(9, e)]⟩, [], []⟩) hg hnlt hst2 (.inr (by rw [he]; show ¬ (k : Int) + 1 < cf.asks; rw [f5]; exact hlast))]
        unfold stK
        rw [f5, if_neg (by push_cast; omega), if_neg (by push_cast; omega), f6, he]
        have e3 : IntKind.i64.wrap (1 - (1 : Nat)) = 0 := rfl
        simp [mdel]
        exact e3
      rw [htick] at r' ⊢
      refine ⟨_, _, _, _, _, _, rfl, asks, (rd (j.upd r' u' w').sh).2.2.2.1, ?_⟩
      have c6 : ((↑k : Int) == IntKind.i64.wrap (asks - 1)) = true := by rw [hw4]; simp; omega
      rw [c6]
      have hcn : IntKind.i64.wrap ((k : Int) + 1 + (([] : List Int).length : Nat)) = ((k + 1 : Nat) : Int) := by
        rw [wr (by simp; omega) (by simp; omega)]; simp
      rw [hcn]
      exact ⟨rfl, ⟨k + 1, F', rfl, by push_cast; omega, rfl, by rw [if_neg (by push_cast; omega)], j.upd r' u' w'⟩, by show asks.toNat - ((k + 1 : Nat) : Int).toNat < asks.toNat - (k : Int).toNat; omega⟩
  | false =>
  rw [ltI_eq, decide_eq_false_iff_not] at hi
  have hka : (k : Int) = asks := by omega
  refine ⟨asks, d4, ?_⟩
  rw [if_neg hi, hka, bne_self_eq_false]
  rw [hka] at hkp
  have hS : stK cf k = ⟨cf, asks * pause, 0, []⟩ := by unfold stK; rw [f5, if_neg hi, if_neg hi, f6, hka]
  rw [hS] at j
  obtain ⟨m, om, pm, fp, a, eF⟩ := j.r
  refine (state_spec a 9).mono ?_
  rintro _ _ ⟨rfl, rfl⟩
  rename_i g
  refine ⟨0, rfl, ?_⟩
  refine (hear_spec j.wf j.r 9 mac true (asks * pause)).mono ?_
  have hhear : hearF ⟨cf, asks * pause, 0, []⟩ 9 mac true (asks * pause) = ([], ⟨cf, asks * pause, 0, [(9, ⟨2, mac, asks * pause + known, 0, []⟩)]⟩) := by
    have ht : timeF ⟨cf, asks * pause, 0, []⟩ (asks * pause) = ⟨cf, asks * pause, 0, []⟩ := by
      unfold timeF
      congr 1
      show max (asks * pause) (min (asks * pause) 17592186044416) = _
      omega
    unfold hearF
    rw [ht]
    unfold hearG
    have hn : mget ([] : List (Int × En)) 9 = none := rfl
    simp only [hn]
    rw [if_neg (by simp only [List.length_nil]; simp; omega)]
    have h2 : IntKind.i64.wrap (asks * pause + cf.known) = asks * pause + known := by rw [f4]; exact wr (by omega) (by omega)
    simp only [eHeard, h2, mput]
    rfl
  rw [hhear]
  rintro _ g4 ⟨x4, b4, G4, F4, rfl, o4, hG4, r4, u4, w4'⟩
  have j4 := j.upd r4 u4 w4'
  refine ⟨_, _, _, rfl, ?_⟩
  have hwh : IntKind.i64.wrap heard = heard := wr (by omega) (by omega)
  rw [hwh]
  -- heard again and again
  refine ⟨fun vs g => match vs with
    | [.int _ mc, .int _ nw, .int _ i] => ∃ (k : Nat) (F : List Nat), i = k ∧ (k : Int) ≤ heard ∧ 0 ≤ nw ∧ nw ≤ 53687091200 + k * 1073741824 ∧ NJ n h.next o ⟨cf, nw, 0, [(9, ⟨2, mc, nw + known, 0, []⟩)]⟩ F g
    | _ => False, fun vs _ => match vs with
    | [.int _ _, .int _ _, .int _ i] => heard.toNat - i.toNat
    | _ => 0, ⟨rfl, 0, F4, rfl, by omega, by omega, by omega, j4⟩, ?_⟩
  clear j4 r4 u4 w4' hhear o4 hG4 j a
  rintro bs2 mc nw i g5 ⟨i, F5, rfl, hi5, hn0, hn1, j⟩
  cases hic : ltI (↑i) heard with
  | true =>
    rw [ltI_eq, decide_eq_true_eq] at hic
    obtain ⟨d1, d2, d3, d4, d5⟩ := rd j.sh
    refine ⟨known, d3, ?_⟩
    have wn : IntKind.i64.wrap (IntKind.i64.wrap (nw + known) - 1) = nw + known - 1 := by
      rw [wr (x := nw + known) (by omega) (by omega)]; exact wr (by omega) (by omega)
    have wi : IntKind.i64.wrap (↑i + 1) = ((i + 1 : Nat) : Int) := by rw [wr (by omega) (by omega)]; rfl
    rw [wn, wi]
    obtain ⟨e, he⟩ : ∃ e : En, e = ⟨2, mc, nw + known, 0, []⟩ := ⟨_, rfl⟩
    rw [← he] at j
    refine (tick_spec j.wf j.r (one_ok rfl (by rw [he]; simp)) (by simp) (nw + known - 1)).mono ?_
    rintro _ g6 ⟨ks, x1, b1, G1, x2, b2, G2, F6, rfl, hp, hri, o1, o2, hG1, hG2, r6, u6, w6⟩
    have hks : ks = [9] := List.perm_singleton.1 hp
    subst hks
    have ht : ∀ z, 0 ≤ z → z ≤ nw + known - 1 → timeF ⟨cf, z, 0, [(9, e)]⟩ (nw + known - 1) = ⟨cf, nw + known - 1, 0, [(9, e)]⟩ := fun z h1 h2 => by
      unfold timeF
      congr 1
      show max z (min (nw + known - 1) 17592186044416) = _
      omega
    rw [ht nw hn0 (by omega)] at r6 ⊢
    have htick : ticks ⟨cf, nw + known - 1, 0, [(9, e)]⟩ [9] = ⟨⟨cf, nw + known - 1, 0, [(9, e)]⟩, [], []⟩ := by
      rw [ticks_one]
      exact tick1_none (c := ⟨⟨cf, nw + known - 1, 0, [(9, e)]⟩, [], []⟩) (e := e) rfl (by rw [he]; show nw + known - 1 < nw + known; omega)
    rw [htick] at r6 ⊢
    have j6 := j.upd r6 u6 w6
    refine ⟨_, _, _, _, _, _, rfl, ?_⟩
    refine (find_spec j6.wf j6.r (one_ok rfl (by rw [he]; simp)) 9 1 (nw + known - 1)).mono ?_
    have hfind : findF ⟨cf, nw + known - 1, 0, [(9, e)]⟩ 9 1 (nw + known - 1) = ((mc, true, false, 0), ⟨cf, nw + known - 1, 0, [(9, e)]⟩) := by
      unfold findF
      rw [ht (nw + known - 1) (by omega) (by omega)]
      unfold findG
      have hg : mget [((9 : Int), e)] 9 = some e := rfl
      simp only [hg]
      rw [if_pos (by rw [he]; simp)]
      rw [he]; rfl
    rw [hfind]
    rintro _ g7 ⟨rfl, F7, r7, u7, w7⟩
    have j7 := j6.upd r7 u7 w7
    refine ⟨_, _, _, _, rfl, ?_⟩
    have c7 : ltI 0 ((([] : List Int).length : Nat) : Int) = false := rfl
    rw [c7]
    have c8 : (mc != mc) = false := bne_self_eq_false mc
    simp only [Bool.not_true, cond_false, c8]
    refine (hear_spec j7.wf j7.r 9 (IntKind.u64.wrap (mc + 1)) false (nw + known - 1)).mono ?_
    have hhear : hearF ⟨cf, nw + known - 1, 0, [(9, e)]⟩ 9 (IntKind.u64.wrap (mc + 1)) false (nw + known - 1) = ([], ⟨cf, nw + known - 1, 0, [(9, ⟨2, IntKind.u64.wrap (mc + 1), nw + known - 1 + known, 0, []⟩)]⟩) := by
      unfold hearF
      rw [ht (nw + known - 1) (by omega) (by omega)]
      unfold hearG
      have hg : mget [((9 : Int), e)] 9 = some e := rfl
      simp only [hg]
      have h2 : IntKind.i64.wrap (nw + known - 1 + cf.known) = nw + known - 1 + known := by rw [f4]; exact wr (by omega) (by omega)
      have h3 : e.ws = [] := by rw [he]
      simp only [eHeard, h2, mput, h3]
      rfl
    rw [hhear]
    rintro _ g8 ⟨x8, b8, G8, F8, rfl, o8, hG8, r8, u8, w8⟩
    refine ⟨_, _, _, rfl, by trivial, ⟨i + 1, F8, rfl, by push_cast; omega, by omega, by push_cast; omega, j7.upd r8 u8 w8⟩, by show heard.toNat - ((i + 1 : Nat) : Int).toNat < heard.toNat - (i : Int).toNat; omega⟩
  | false =>
    obtain ⟨m, om, pm, fp, a, eF⟩ := j.r
    refine (state_spec a 9).mono ?_
    rintro _ _ ⟨rfl, rfl⟩
    exact ⟨2, rfl, alive_spec fun h' => ⟨_, rfl, KT _⟩⟩
end Go.Vex.NearAsks

namespace Go.Proofs.Ytkpkpnmkoejidaa.nearAsks
open Go.ChangeShapes Go.WideShapes Go.ChangeAt Go.RowKit Go.Vex Go.Vex.NearAsks
open Go.ChangeMaps (open_string shut_string)

theorem own : ownKnob Try.prog.godebug = none := by kernel_rfl

set_option maxRecDepth 100000 in
theorem lifted (os : Os) (started : os.Started) (H : Type) (enc : TypeId × Value → H) :
    ReturnsInHanded {} Try.checked os 3 .any (Rows.nearAsksSpec.pre6 enc Try.prog Try.f3 Rows.nearAsksRow.domain false) (Rows.nearAsksSpec.post enc Try.prog Try.f3 false true false false) := by
  refine returnsInHanded_of_change_sized (C := Try.checked) own started (by kernel_rfl) Try.func3
    (ChangeSpec.witness6 (enc := enc) (C := Try.checked) false ⟨#[], #[.agg #[.int .i64 0, .int .i64 0, .int .i64 0, .int .i64 0, .int .i64 0, .int .i64 0], .int .u64 0, .int .u8 0], []⟩ 8 (by kernel_rfl) (by kernel_rfl) (by kernel_rfl) (by kernel_rfl)) ?_
  intro W base args ds gs before hval0 hW hcnd hsz _
  have hval : ∀ (j : Nat) t v, Try.f3.params[j]? = some t → args[j]? = some v → Value.okWide Try.prog W .any base t v := hval0
  have hW' := hW
  obtain ⟨p, q, hA0, hV, rfl, hfz, hnd⟩ := hW
  have hA : DataW.TrodAll enc Try.prog W 0 (fun _ => true) true Try.f3.params.toList args.toList ds p := hA0
  rw [Try.params3] at hA hval hsz
  obtain ⟨v0, vs0, d0, ds0, p0, q0, hargs, rfl, rfl, h0, r0⟩ := trodAll_cons hA
  obtain ⟨v1, vs1, d1, ds1, p1, q1, rfl, rfl, rfl, h1, r1⟩ := trodAll_cons r0
  obtain ⟨v2, vs2, d2, ds2, p2, q2, rfl, rfl, rfl, h2, r2⟩ := trodAll_cons r1
  obtain ⟨rfl, rfl, rfl⟩ := trodAll_nil r2
  obtain rfl : args = #[v0, v1, v2] := by cases args; simp_all
  obtain ⟨rfl, rfl⟩ := trodVars_none hV
  obtain ⟨cs0, rfl, hsz0, hc0⟩ := open_flat Try.underlying23 (ts := [3, 3, 3, 2, 3, 2]) (by kernel_rfl) (by kernel_rfl) (hval 0 23 v0 rfl rfl)
  obtain ⟨x0_0, hx0_0, ok0_0⟩ := hc0 0 3 rfl
  obtain ⟨a0_0, rfl, b0_0⟩ := cell_intB Try.underlying3 ok0_0
  obtain ⟨x0_1, hx0_1, ok0_1⟩ := hc0 1 3 rfl
  obtain ⟨a0_1, rfl, b0_1⟩ := cell_intB Try.underlying3 ok0_1
  obtain ⟨x0_2, hx0_2, ok0_2⟩ := hc0 2 3 rfl
  obtain ⟨a0_2, rfl, b0_2⟩ := cell_intB Try.underlying3 ok0_2
  obtain ⟨x0_3, hx0_3, ok0_3⟩ := hc0 3 2 rfl
  obtain ⟨a0_3, rfl, b0_3⟩ := cell_intB Try.underlying2 ok0_3
  obtain ⟨x0_4, hx0_4, ok0_4⟩ := hc0 4 3 rfl
  obtain ⟨a0_4, rfl, b0_4⟩ := cell_intB Try.underlying3 ok0_4
  obtain ⟨x0_5, hx0_5, ok0_5⟩ := hc0 5 2 rfl
  obtain ⟨a0_5, rfl, b0_5⟩ := cell_intB Try.underlying2 ok0_5
  obtain rfl := arr_of (l := [.int .i64 a0_0, .int .i64 a0_1, .int .i64 a0_2, .int .i64 a0_3, .int .i64 a0_4, .int .i64 a0_5]) hsz0 (fun j x hj => by
    match j, hj with
    | 0, hj => cases hj; exact hx0_0
    | 1, hj => cases hj; exact hx0_1
    | 2, hj => cases hj; exact hx0_2
    | 3, hj => cases hj; exact hx0_3
    | 4, hj => cases hj; exact hx0_4
    | 5, hj => cases hj; exact hx0_5
    | j + 6, hj => simp at hj)
  obtain ⟨a1, rfl, rfl, rfl, w1⟩ := open_int Try.underlying25 (hval 1 25 v1 rfl rfl) h1
  obtain ⟨a2, rfl, rfl, rfl, w2⟩ := open_int Try.underlying5 (hval 2 5 v2 rfl rfl) h2
  refine (XCalls.true' (Sat.none W fun _ => ⟨0, 0, 0, 0⟩) (vs := [.agg [.int .i64 a0_0, .int .i64 a0_1, .int .i64 a0_2, .int .i64 a0_3, .int .i64 a0_4, .int .i64 a0_5], .int .u64 a1, .int .u8 a2]) ⟨_, _, rfl, ⟨_, rfl, ⟨_, _, rfl, rfl, ⟨_, _, rfl, rfl, ⟨_, _, rfl, rfl, ⟨_, _, rfl, rfl, ⟨_, _, rfl, rfl, ⟨_, _, rfl, rfl, rfl⟩⟩⟩⟩⟩⟩⟩, ⟨_, _, rfl, rfl, ⟨_, _, rfl, rfl, rfl⟩⟩⟩ (law_calls a0_0 b0_0 a0_1 b0_1 a0_2 b0_2 a0_3 b0_3 a0_4 b0_4 a0_5 b0_5 a1 w1 a2 w2)).mono fun e W' ⟨he, hb⟩ => ?_
  subst he
  exact ⟨_, rfl, post_true (by kernel_rfl) hW' hb rfl (fun gs hg => by subst hg; rfl) (tb := 4) rfl Try.underlying4 (by decide +kernel)⟩

theorem over : Rows.nearAsksRow.holds Try.pinned (OpenSpec.ofChange Rows.nearAsksSpec) :=
  OpenClaim.holds_of_wide 3 Try.f3 rfl rfl rfl rfl rfl rfl rfl ⟨rfl, rfl, rfl, rfl, rfl⟩ rfl rfl rfl rfl rfl (by kernel_rfl) Try.func3 (by kernel_rfl)
    (of_decide_eq_true (by kernel_rfl)) (by unfold Func.isWrapper; first | (rw [if_pos (by decide +kernel)]; kernel_rfl) | (rw [if_neg (by decide +kernel)]; exact ⟨rfl, rfl⟩))
    (fun os started H enc _ => lifted os started H enc)

theorem proved : Rows.NearAsksSaid :=
  over
#print axioms proved
end Go.Proofs.Ytkpkpnmkoejidaa.nearAsks

