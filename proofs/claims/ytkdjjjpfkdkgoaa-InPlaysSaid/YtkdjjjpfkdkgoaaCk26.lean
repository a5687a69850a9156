/-
  Exact contracts of Put and Fin (layer 26).
-/
import Derived.Test.YtkdjjjpfkdkgoaaVexGG
import Derived.Test.YtkdjjjpfkdkgoaaTab26
import Derived.Test.YtkdjjjpfkdkgoaaXa26
import Derived.Test.YtkdjjjpfkdkgoaaCa26
import Derived.Test.YtkdjjjpfkdkgoaaXg26
import Derived.Test.YtkdjjjpfkdkgoaaCg26
import Derived.Test.YtkdjjjpfkdkgoaaCi26
import Derived.Test.YtkdjjjpfkdkgoaaCj26
set_option linter.unusedVariables false
set_option linter.unusedSimpArgs false
namespace Go.Vex.In
open Go.Proofs

theorem stp_fst (n : Nat) (W E p c : Int) (F : Nat → Int) (k : Nat) : (stp n W E p c (F, k)).1 = (stp n W E p c (F, 0)).1 := by
  unfold stp; split <;> rfl

theorem stp_snd (n : Nat) (W E p c : Int) (F : Nat → Int) (k : Nat) : (stp n W E p c (F, k)).2 = k + if okF n W E F p c then 1 else 0 := by
  unfold stp; split <;> rfl

theorem stp_no {n : Nat} {W E p c : Int} {S : (Nat → Int) × Nat} (h : ¬ okF n W E S.1 p c) : stp n W E p c S = S := by
  unfold stp; rw [if_neg h]

section
variable {b : Int} {R : List UInt8} {n : Nat} {F : Nat → Int} {E : Int} {q : Nat} {s : IS} {h : Hp} {i : Nat} {FA : List Nat}

/-- how far behind 'next' a number is -/
def farOf (at' nx : Int) : Int := IntKind.i64.wrap (IntKind.i32.wrap (IntKind.u32.wrap (at' - nx)))

theorem far_spec {at' nx : Int} (h1 : 0 ≤ at' ∧ at' < 4294967296) (h2 : 0 ≤ nx ∧ nx < 4294967296) : IntKind.i32.wrap (IntKind.u32.wrap (at' - nx)) = farOf at' nx ∧ -2147483648 ≤ farOf at' nx ∧ farOf at' nx < 2147483648 ∧ at' = (nx + farOf at' nx) % 4294967296 := by
  unfold farOf
  rw [u32w, i32w (by omega)]
  by_cases c : (at' - nx) % 4294967296 < 2147483648
  · rw [if_pos c, wr (by omega) (by omega)]; refine ⟨rfl, by omega, by omega, by omega⟩
  · rw [if_neg c, wr (by omega) (by omega)]; refine ⟨rfl, by omega, by omega, by omega⟩

theorem chk1 {W p : Int} (hW : 0 ≤ W ∧ W ≤ 400) (hp : -2147483648 ≤ p ∧ p < 2147500032) : 0 < IntKind.i32.wrap ((W - p) % 4294967296) ↔ (p < W ∧ -2147483648 < p - W) ∨ 2147483648 + W < p := by
  rw [i32w (by omega)]
  split <;> omega

theorem chk2 {q p : Int} (hq : 0 ≤ q ∧ q ≤ 400) (hp : -2147483648 ≤ p ∧ p < 2147500032) : ¬ IntKind.i32.wrap ((p - q) % 4294967296) < 0 ↔ (q ≤ p ∧ p < 2147483648 + q) ∨ p < q - 2147483648 := by
  rw [i32w (by omega)]
  split <;> omega

theorem put_big (r : InR i s h FA) {at' : Int} {text : List UInt8} (hl : 16384 < text.length) : XCalls Try.prog 28 [.ptr (some (i, 0)), .int .u32 at', .str text] h fun v h' => v = .int .i64 0 ∧ h' = h := by
  obtain ⟨m, a, f, o, G, e1, e2, e3, e4, hF, d1, d2, d3⟩ := r
  apply x28; unfold X28
  refine ⟨some m, by simp (disch := (first | omega | (simp only [Hp.alloc_next, Hp.set_next] <;> omega) | (simp (disch := (first | omega | (simp only [Hp.alloc_next, Hp.set_next] <;> omega) | fail)) only [Hp.get_set_self, Hp.get_set_ne, Hp.get_alloc_self, Hp.get_alloc_ne, Hp.get_alloc_at, Hp.get_set_at, Hp.set_next, Hp.alloc_next, e1]; done) | fail)) only [Hp.st, Hp.ld, Hp.lda, splice, ble_eq', if_true, if_false, ite_true, ite_false, cond_true, cond_false, decide_true, decide_false, List.length_cons, List.length_nil, List.take_zero, List.take_succ_cons, List.nil_append, List.cons_append, List.append_nil, List.drop_succ_cons, List.drop_zero, List.drop_nil, List.getElem?_cons_succ, List.getElem?_cons_zero, Nat.reduceAdd, Nat.reduceLeDiff, Nat.reduceEqDiff, Nat.zero_add, Nat.add_zero, Nat.le_refl, Nat.zero_le, Nat.succ_ne_self, Nat.mul_one, Int.toNat_natCast, Option.some.injEq, Option.isNone_some, Option.isNone_none, V.int.injEq, V.str.injEq, V.bool.injEq, V.ptr.injEq, V.slc.injEq, V.map.injEq, V.agg.injEq, V.tup.injEq, List.cons.injEq, Prod.mk.injEq, onS, true_and, and_true, and_assoc, exists_and_left, exists_eq_left', forall_eq, heq_eq_eq, reduceCtorEq, Bool.not_true, Bool.not_false, eq_self, not_false_eq_true, Nat.left_eq_add, Nat.add_eq_left, Nat.add_left_cancel_iff, Nat.add_right_cancel_iff, Nat.reduceEqDiff, Nat.one_ne_zero, Hp.get_set_self, Hp.get_set_ne, Hp.get_alloc_self, Hp.get_alloc_ne, Hp.get_alloc_at, Hp.get_set_at, Hp.set_next, Hp.alloc_next, Option.some_ne_none, V.tup.injEq, Option.isSome_some, Option.isSome_none, exists_eq_left, exists_eq, Nat.mul_zero, e1], ?_⟩
  have c0 : ltI 16384 (↑text.length) = true := by rw [ltI_eq, decide_eq_true_eq]; omega
  rw [c0]
  exact ⟨rfl, rfl⟩

theorem put_ex (hn : n ≤ 400) (hw : h.wf) (r : InR i s h FA) (si : PI b R n F E 0 s) (fi : FI n R.length F E) (hq : F 0 < 0) (hrow : s.rows = rn F n) {at' : Int} {text : List UInt8} (ha : 0 ≤ at' ∧ at' < 4294967296) (hl : text.length ≤ 16384) :
    XCalls Try.prog 28 [.ptr (some (i, 0)), .int .u32 at', .str text] h fun v h' => v = .int .i64 (puts n (n - R.length) E (farOf at' s.nx) F text text.length).2 ∧ ∃ s' q' FA', InR i s' h' FA' ∧ Upd h h' FA FA' ∧ h'.wf ∧
      PI b R n (puts n (n - R.length) E (farOf at' s.nx) F text text.length).1 E q' s' ∧ (∀ k, k < q' → 0 ≤ (puts n (n - R.length) E (farOf at' s.nx) F text text.length).1 k) ∧ (puts n (n - R.length) E (farOf at' s.nx) F text text.length).1 q' < 0 ∧ s'.rows = rn (puts n (n - R.length) E (farOf at' s.nx) F text text.length).1 n := by
  have hlen := si.len
  have hmo := si.mo
  have hnx := si.nx
  have hrl := fi.rle
  refine XCalls.cps fun K hK => ?_
  have r0 := r
  obtain ⟨hf0, hf1, hf2, hf3⟩ := far_spec (nx := s.nx) ha (by omega)
  generalize farOf at' s.nx = far at *
  obtain ⟨m, a, f, o, G, e1, e2, e3, e4, hF, d1, d2, d3⟩ := r
  apply x28; unfold X28
  refine ⟨some m, by simp (disch := (first | omega | (simp only [Hp.alloc_next, Hp.set_next] <;> omega) | (simp (disch := (first | omega | (simp only [Hp.alloc_next, Hp.set_next] <;> omega) | fail)) only [Hp.get_set_self, Hp.get_set_ne, Hp.get_alloc_self, Hp.get_alloc_ne, Hp.get_alloc_at, Hp.get_set_at, Hp.set_next, Hp.alloc_next, e1]; done) | fail)) only [Hp.st, Hp.ld, Hp.lda, splice, ble_eq', if_true, if_false, ite_true, ite_false, cond_true, cond_false, decide_true, decide_false, List.length_cons, List.length_nil, List.take_zero, List.take_succ_cons, List.nil_append, List.cons_append, List.append_nil, List.drop_succ_cons, List.drop_zero, List.drop_nil, List.getElem?_cons_succ, List.getElem?_cons_zero, Nat.reduceAdd, Nat.reduceLeDiff, Nat.reduceEqDiff, Nat.zero_add, Nat.add_zero, Nat.le_refl, Nat.zero_le, Nat.succ_ne_self, Nat.mul_one, Int.toNat_natCast, Option.some.injEq, Option.isNone_some, Option.isNone_none, V.int.injEq, V.str.injEq, V.bool.injEq, V.ptr.injEq, V.slc.injEq, V.map.injEq, V.agg.injEq, V.tup.injEq, List.cons.injEq, Prod.mk.injEq, onS, true_and, and_true, and_assoc, exists_and_left, exists_eq_left', forall_eq, heq_eq_eq, reduceCtorEq, Bool.not_true, Bool.not_false, eq_self, not_false_eq_true, Nat.left_eq_add, Nat.add_eq_left, Nat.add_left_cancel_iff, Nat.add_right_cancel_iff, Nat.reduceEqDiff, Nat.one_ne_zero, Hp.get_set_self, Hp.get_set_ne, Hp.get_alloc_self, Hp.get_alloc_ne, Hp.get_alloc_at, Hp.get_set_at, Hp.set_next, Hp.alloc_next, Option.some_ne_none, V.tup.injEq, Option.isSome_some, Option.isSome_none, exists_eq_left, exists_eq, Nat.mul_zero, e1], ?_⟩
  have c0 : ltI 16384 (↑text.length) = false := by rw [ltI_eq, decide_eq_false_iff_not]; omega
  rw [c0]
  simp only [Option.isNone_some, cond_false]
  refine ⟨s.nx, by simp (disch := (first | omega | (simp only [Hp.alloc_next, Hp.set_next] <;> omega) | (simp (disch := (first | omega | (simp only [Hp.alloc_next, Hp.set_next] <;> omega) | fail)) only [Hp.get_set_self, Hp.get_set_ne, Hp.get_alloc_self, Hp.get_alloc_ne, Hp.get_alloc_at, Hp.get_set_at, Hp.set_next, Hp.alloc_next, e1]; done) | fail)) only [Hp.st, Hp.ld, Hp.lda, splice, ble_eq', if_true, if_false, ite_true, ite_false, cond_true, cond_false, decide_true, decide_false, List.length_cons, List.length_nil, List.take_zero, List.take_succ_cons, List.nil_append, List.cons_append, List.append_nil, List.drop_succ_cons, List.drop_zero, List.drop_nil, List.getElem?_cons_succ, List.getElem?_cons_zero, Nat.reduceAdd, Nat.reduceLeDiff, Nat.reduceEqDiff, Nat.zero_add, Nat.add_zero, Nat.le_refl, Nat.zero_le, Nat.succ_ne_self, Nat.mul_one, Int.toNat_natCast, Option.some.injEq, Option.isNone_some, Option.isNone_none, V.int.injEq, V.str.injEq, V.bool.injEq, V.ptr.injEq, V.slc.injEq, V.map.injEq, V.agg.injEq, V.tup.injEq, List.cons.injEq, Prod.mk.injEq, onS, true_and, and_true, and_assoc, exists_and_left, exists_eq_left', forall_eq, heq_eq_eq, reduceCtorEq, Bool.not_true, Bool.not_false, eq_self, not_false_eq_true, Nat.left_eq_add, Nat.add_eq_left, Nat.add_left_cancel_iff, Nat.add_right_cancel_iff, Nat.reduceEqDiff, Nat.one_ne_zero, Hp.get_set_self, Hp.get_set_ne, Hp.get_alloc_self, Hp.get_alloc_ne, Hp.get_alloc_at, Hp.get_set_at, Hp.set_next, Hp.alloc_next, Option.some_ne_none, V.tup.injEq, Option.isSome_some, Option.isSome_none, exists_eq_left, exists_eq, Nat.mul_zero, e1], ?_⟩
  refine (window_spec r0 (by omega)).mono ?_
  rintro _ h1 ⟨rfl, rfl⟩
  refine ⟨_, rfl, ⟨s.nx, by simp (disch := (first | omega | (simp only [Hp.alloc_next, Hp.set_next] <;> omega) | (simp (disch := (first | omega | (simp only [Hp.alloc_next, Hp.set_next] <;> omega) | fail)) only [Hp.get_set_self, Hp.get_set_ne, Hp.get_alloc_self, Hp.get_alloc_ne, Hp.get_alloc_at, Hp.get_set_at, Hp.set_next, Hp.alloc_next, e1]; done) | fail)) only [Hp.st, Hp.ld, Hp.lda, splice, ble_eq', if_true, if_false, ite_true, ite_false, cond_true, cond_false, decide_true, decide_false, List.length_cons, List.length_nil, List.take_zero, List.take_succ_cons, List.nil_append, List.cons_append, List.append_nil, List.drop_succ_cons, List.drop_zero, List.drop_nil, List.getElem?_cons_succ, List.getElem?_cons_zero, Nat.reduceAdd, Nat.reduceLeDiff, Nat.reduceEqDiff, Nat.zero_add, Nat.add_zero, Nat.le_refl, Nat.zero_le, Nat.succ_ne_self, Nat.mul_one, Int.toNat_natCast, Option.some.injEq, Option.isNone_some, Option.isNone_none, V.int.injEq, V.str.injEq, V.bool.injEq, V.ptr.injEq, V.slc.injEq, V.map.injEq, V.agg.injEq, V.tup.injEq, List.cons.injEq, Prod.mk.injEq, onS, true_and, and_true, and_assoc, exists_and_left, exists_eq_left', forall_eq, heq_eq_eq, reduceCtorEq, Bool.not_true, Bool.not_false, eq_self, not_false_eq_true, Nat.left_eq_add, Nat.add_eq_left, Nat.add_left_cancel_iff, Nat.add_right_cancel_iff, Nat.reduceEqDiff, Nat.one_ne_zero, Hp.get_set_self, Hp.get_set_ne, Hp.get_alloc_self, Hp.get_alloc_ne, Hp.get_alloc_at, Hp.get_set_at, Hp.set_next, Hp.alloc_next, Option.some_ne_none, V.tup.injEq, Option.isSome_some, Option.isSome_none, exists_eq_left, exists_eq, Nat.mul_zero, e1], rfl⟩, by trivial, by trivial, by trivial, fun vs h' => match vs with
    | [.int _ c, .int _ k] => ∃ (k' : Nat) (s' : IS) (q' : Nat) (FA' : List Nat), k = k' ∧ k' ≤ text.length ∧ c = (puts n (n - R.length) E far F text k').2 ∧ InR i s' h' FA' ∧ Upd h1 h' FA FA' ∧ h'.wf ∧ PI b R n (puts n (n - R.length) E far F text k').1 E q' s' ∧ (∀ k, k < q' → 0 ≤ (puts n (n - R.length) E far F text k').1 k) ∧ (puts n (n - R.length) E far F text k').1 q' < 0 ∧ s'.rows = rn (puts n (n - R.length) E far F text k').1 n
    | _ => False, fun vs _ => match vs with
    | [_, .int _ k] => text.length - k.toNat
    | _ => 0, ⟨by trivial, 0, s, 0, FA, rfl, Nat.zero_le _, rfl, r0, Upd.refl _ _, hw, si, fun k hk => absurd hk (by omega), hq, hrow⟩, ?_⟩
  rintro bs c k h2 ⟨k', s2, q2, F2, rfl, hkl, rfl, r2, u2, w2, si2, lo2, hq2, hr2⟩
  cases hi : ltI (↑k') (↑text.length) with
  | false =>
    rw [ltI_eq, decide_eq_false_iff_not] at hi
    obtain rfl : k' = text.length := by omega
    exact hK _ _ ⟨rfl, s2, q2, F2, r2, u2, w2, si2, lo2, hq2, hr2⟩
  | true =>
  rw [ltI_eq, decide_eq_true_eq] at hi
  have hk : k' < text.length := by omega
  have hwk : IntKind.i64.wrap ((k' : Int) + 1) = ((k' + 1 : Nat) : Int) := by rw [wr (by omega) (by omega)]; rfl
  obtain ⟨c, hb⟩ : ∃ c, text[k']? = some c := ⟨_, List.getElem?_eq_getElem hk⟩
  have hsucc : puts n (n - R.length) E far F text (k' + 1) = stp n (n - R.length) E (far + k') c.toNat (puts n (n - R.length) E far F text k') := by
    rw [puts, hb]
  have fi2 : FI n R.length (puts n (n - R.length) E far F text k').1 E := fi.puts k'
  have hcnt := puts_le (n := n) (W := n - R.length) (E := E) (far := far) (F := F) (text := text) k'
  generalize puts n (n - R.length) E far F text k' = S at *
  obtain ⟨Fk, ck⟩ := S
  dsimp only at *
  have hq2n : q2 + R.length ≤ n := by
    by_cases h0 : q2 = 0
    · omega
    · have := fi2.lt (lo2 (q2 - 1) (by omega)); omega
  have hv1 : IntKind.u32.wrap (IntKind.u32.wrap (IntKind.u32.wrap (s.most - s.rd.length) + s.nx) - IntKind.u32.wrap (at' + IntKind.u32.wrap k')) = (((n : Int) - R.length) - (far + k')) % 4294967296 := by
    rw [u32w, u32w, u32w, u32w, u32w, hf3]; omega
  have hv2 : IntKind.u32.wrap (IntKind.u32.wrap (at' + IntKind.u32.wrap k') - s2.nx) = ((far + k') - (q2 : Int)) % 4294967296 := by
    rw [u32w, u32w, u32w, hf3, hnx, si2.nx]; omega
  have k1 := chk1 (W := (n : Int) - R.length) (p := far + k') (by omega) (by omega)
  have k2 := chk2 (q := (q2 : Int)) (p := far + k') (by omega) (by omega)
  rw [hv1]
  have skip : ¬ okF n (n - R.length) E Fk (far + k') c.toNat → ∃ (k'' : Nat) (s' : IS) (q' : Nat) (FA' : List Nat), (((k' + 1 : Nat) : Int) = k'') ∧ k'' ≤ text.length ∧ ((ck : Int) = (puts n (n - R.length) E far F text k'').2) ∧ InR i s' h2 FA' ∧ Upd h1 h2 FA FA' ∧ h2.wf ∧ PI b R n (puts n (n - R.length) E far F text k'').1 E q' s' ∧ (∀ k, k < q' → 0 ≤ (puts n (n - R.length) E far F text k'').1 k) ∧ (puts n (n - R.length) E far F text k'').1 q' < 0 ∧ s'.rows = rn (puts n (n - R.length) E far F text k'').1 n := fun hno => by
    refine ⟨k' + 1, s2, q2, F2, rfl, hk, ?_⟩
    rw [hsucc, stp_no (S := (Fk, ck)) hno]
    exact ⟨rfl, r2, u2, w2, si2, lo2, hq2, hr2⟩
  have low : ∀ {p : Int}, 0 ≤ p → p < q2 → ¬ okF n (n - R.length) E Fk p c.toNat := fun {p} h1 h2 h => by
    have := h.2.2.2.1
    have := lo2 p.toNat (by omega)
    omega
  cases hwin : ltI 0 (IntKind.i32.wrap ((((n : Int) - R.length) - (far + k')) % 4294967296)) with
  | false =>
    rw [ltI_eq, decide_eq_false_iff_not, k1] at hwin
    rw [hwk]
    refine ⟨by trivial, skip (fun h => ?_), by simp only [Int.toNat_natCast]; omega⟩
    have := h.1; have := h.2.1
    omega
  | true =>
  rw [ltI_eq, decide_eq_true_eq, k1] at hwin
  obtain ⟨m2, a2, f2, o2, G2, p1, p2⟩ := r2
  refine ⟨s2.nx, by simp (disch := (first | omega | (simp only [Hp.alloc_next, Hp.set_next] <;> omega) | (simp (disch := (first | omega | (simp only [Hp.alloc_next, Hp.set_next] <;> omega) | fail)) only [Hp.get_set_self, Hp.get_set_ne, Hp.get_alloc_self, Hp.get_alloc_ne, Hp.get_alloc_at, Hp.get_set_at, Hp.set_next, Hp.alloc_next, p1]; done) | fail)) only [Hp.st, Hp.ld, Hp.lda, splice, ble_eq', if_true, if_false, ite_true, ite_false, cond_true, cond_false, decide_true, decide_false, List.length_cons, List.length_nil, List.take_zero, List.take_succ_cons, List.nil_append, List.cons_append, List.append_nil, List.drop_succ_cons, List.drop_zero, List.drop_nil, List.getElem?_cons_succ, List.getElem?_cons_zero, Nat.reduceAdd, Nat.reduceLeDiff, Nat.reduceEqDiff, Nat.zero_add, Nat.add_zero, Nat.le_refl, Nat.zero_le, Nat.succ_ne_self, Nat.mul_one, Int.toNat_natCast, Option.some.injEq, Option.isNone_some, Option.isNone_none, V.int.injEq, V.str.injEq, V.bool.injEq, V.ptr.injEq, V.slc.injEq, V.map.injEq, V.agg.injEq, V.tup.injEq, List.cons.injEq, Prod.mk.injEq, onS, true_and, and_true, and_assoc, exists_and_left, exists_eq_left', forall_eq, heq_eq_eq, reduceCtorEq, Bool.not_true, Bool.not_false, eq_self, not_false_eq_true, Nat.left_eq_add, Nat.add_eq_left, Nat.add_left_cancel_iff, Nat.add_right_cancel_iff, Nat.reduceEqDiff, Nat.one_ne_zero, Hp.get_set_self, Hp.get_set_ne, Hp.get_alloc_self, Hp.get_alloc_ne, Hp.get_alloc_at, Hp.get_set_at, Hp.set_next, Hp.alloc_next, Option.some_ne_none, V.tup.injEq, Option.isSome_some, Option.isSome_none, exists_eq_left, exists_eq, Nat.mul_zero, p1], ?_⟩
  have r2 : InR i s2 h2 F2 := ⟨m2, a2, f2, o2, G2, p1, p2⟩
  rw [hv2]
  cases hlt : ltI (IntKind.i32.wrap (((far + k') - (q2 : Int)) % 4294967296)) 0 with
  | true =>
    rw [ltI_eq, decide_eq_true_eq] at hlt
    rw [hwk]
    refine ⟨by trivial, skip (fun h => ?_), by simp only [Int.toNat_natCast]; omega⟩
    have h1 := h.1; have h2 := h.2.1
    by_cases e : far + k' < q2
    · exact low h1 e h
    · exact (k2.2 (by omega)) hlt
  | false =>
  rw [ltI_eq, decide_eq_false_iff_not, k2] at hlt
  have tk : ((k' : Int)).toNat = k' := by omega
  refine ⟨by omega, c, by rw [tk]; exact hb, ?_⟩
  obtain ⟨p, hp⟩ : ∃ p : Nat, far + k' = (p : Int) := ⟨(far + k').toNat, by omega⟩
  have hx : IntKind.u32.wrap (at' + IntKind.u32.wrap k') = (b + p) % 4294967296 := by rw [u32w, u32w, hf3]; omega
  rw [hx]
  refine (takes_ex hn w2 r2 si2 fi2 lo2 hq2 hr2 (p := p) (by omega) (by omega) c).mono ?_
  rintro _ h3 ⟨rfl, s3, q3, F3, r3, u3, w3, hq3, si3, lo3, hr3⟩
  have hfi3 : FI n R.length (stp n (n - R.length) E p c.toNat (Fk, 0)).1 E := fi2.stp
  rw [hp] at hsucc
  have hs1 := stp_fst n (n - R.length) E p c.toNat Fk ck
  have hs2 := stp_snd n (n - R.length) E p c.toNat Fk ck
  rw [← hsucc] at hs1 hs2
  rw [← hs1] at si3 lo3 hr3 hfi3
  have joins : XCalls Try.prog 44 [.ptr (some (i, 0))] h3 fun v h4 => ∃ (k2 : Nat) (s' : IS) (q' : Nat) (FA' : List Nat), (((k' + 1 : Nat) : Int) = k2) ∧ k2 = k' + 1 ∧ InR i s' h4 FA' ∧ Upd h1 h4 FA FA' ∧ h4.wf ∧ PI b R n (puts n (n - R.length) E far F text k2).1 E q' s' ∧ (∀ k, k < q' → 0 ≤ (puts n (n - R.length) E far F text k2).1 k) ∧ (puts n (n - R.length) E far F text k2).1 q' < 0 ∧ s'.rows = rn (puts n (n - R.length) E far F text k2).1 n := by
    refine (joins_ex hn w3 r3 si3 hfi3 lo3 hr3).mono ?_
    rintro _ h4 ⟨s4, q4, F4, r4, u4, w4, hq4, si4, lo4, hF4, hr4⟩
    exact ⟨k' + 1, s4, q4, F4, rfl, rfl, r4, (u2.trans u3).trans u4, w4, si4, lo4, hF4, hr4⟩
  refine ⟨_, rfl, ?_⟩
  by_cases hok : okF n (n - R.length) E Fk p c.toNat
  · rw [decide_eq_true hok]
    rw [if_pos hok] at hs2
    refine joins.mono ?_
    rintro _ h4 ⟨k2, s', q', FA', hk2, rfl, rest⟩
    have hwc : IntKind.i64.wrap ((ck : Int) + 1) = ((ck + 1 : Nat) : Int) := by rw [wr (by omega) (by omega)]; rfl
    rw [hwc, hwk]
    exact ⟨by trivial, ⟨k' + 1, s', q', FA', rfl, hk, by rw [hs2], rest⟩, by simp only [Int.toNat_natCast]; omega⟩
  · rw [decide_eq_false hok]
    rw [if_neg hok] at hs2
    refine joins.mono ?_
    rintro _ h4 ⟨k2, s', q', FA', hk2, rfl, rest⟩
    rw [hwk]
    exact ⟨by trivial, ⟨k' + 1, s', q', FA', rfl, hk, by rw [hs2]; rfl, rest⟩, by simp only [Int.toNat_natCast]; omega⟩

/-! ### Fin -/

/-- the last place that is filled -/
def lst (F : Nat → Int) : Nat → Int
  | 0 => -1
  | n + 1 => if 0 ≤ F n then n else lst F n

theorem lst_lt {d : Int} (hd : 0 ≤ d) : ∀ n, lst F n < d ↔ ∀ k : Nat, k < n → 0 ≤ F k → (k : Int) < d
  | 0 => ⟨fun _ k hk => absurd hk (by omega), fun _ => by show (-1 : Int) < d; omega⟩
  | n + 1 => by
    have ih := lst_lt hd n
    unfold lst
    by_cases e : 0 ≤ F n
    · rw [if_pos e]
      refine ⟨fun h k hk _ => by omega, fun h => h n (by omega) e⟩
    · rw [if_neg e, ih]
      refine ⟨fun h k hk hf => ?_, fun h k hk => h k (by omega)⟩
      by_cases e2 : k = n
      · subst e2; exact absurd hf e
      · exact h k (by omega) hf

def finE (n : Nat) (W : Int) (F : Nat → Int) (E far : Int) : Int := if E < 0 ∧ 0 ≤ far ∧ far ≤ W ∧ lst F n < far then far else E

theorem FI.fin {rl : Nat} {far : Int} (fi : FI n rl F E) : FI n rl F (finE n (n - rl) F E far) := by
  unfold finE
  split
  · rename_i h
    obtain ⟨h1, h2, h3, h4⟩ := h
    rw [lst_lt h2] at h4
    exact ⟨fi.hi, fi.rle, fun _ => ⟨by omega, fun k hk => h4 k (by have := fi.lt hk; omega) hk⟩, fi.rns⟩
  · exact fi

theorem PI.fin0 (si : PI b R n F E 0 s) (fi : FI n R.length F E) (hn : n ≤ 400) : (s.fin && s.en == s.nx) = (E == 0) := by
  rw [si.fin]
  by_cases e : 0 ≤ E
  · have := (fi.en e).1
    rw [decide_eq_true e, si.en e, si.nx, Bool.true_and, Bool.eq_iff_iff, beq_iff_eq, beq_iff_eq]
    omega
  · rw [decide_eq_false e, Bool.false_and, Bool.eq_iff_iff, beq_iff_eq]
    exact ⟨fun h => Bool.noConfusion h, fun h => by omega⟩

theorem fin_ex (hn : n ≤ 400) (hw : h.wf) (r : InR i s h FA) (si : PI b R n F E 0 s) (fi : FI n R.length F E) {at' : Int} (ha : 0 ≤ at' ∧ at' < 4294967296) :
    XCalls Try.prog 27 [.ptr (some (i, 0)), .int .u32 at'] h fun v h' => v = .bool (finE n (n - R.length) F E (farOf at' s.nx) == 0) ∧ ∃ s', InR i s' h' FA ∧ Upd h h' FA FA ∧ h'.wf ∧ PI b R n F (finE n (n - R.length) F E (farOf at' s.nx)) 0 s' ∧ s'.rows = s.rows := by
  have hlen := si.len
  have hmo := si.mo
  have hnx := si.nx
  have hrl := fi.rle
  refine XCalls.cps fun K hK => ?_
  have r0 := r
  obtain ⟨hf0, hf1, hf2, hf3⟩ := far_spec (nx := s.nx) ha (by omega)
  generalize farOf at' s.nx = far at *
  obtain ⟨m, a, f, o, G, e1, e2, e3, e4, hF, d1, d2, d3⟩ := r
  have hil := hw.lt e1
  have hml := hw.lt e2
  have hGl : ∀ x ∈ G, x < h.next := fun x hx => (Own.rep _ _ _ _).lt hw e4 hx
  have fi' : FI n R.length F (finE n (n - R.length) F E far) := fi.fin
  apply x27; unfold X27
  refine ⟨some m, by simp (disch := (first | omega | (simp only [Hp.alloc_next, Hp.set_next] <;> omega) | (simp (disch := (first | omega | (simp only [Hp.alloc_next, Hp.set_next] <;> omega) | fail)) only [Hp.get_set_self, Hp.get_set_ne, Hp.get_alloc_self, Hp.get_alloc_ne, Hp.get_alloc_at, Hp.get_set_at, Hp.set_next, Hp.alloc_next, e1]; done) | fail)) only [Hp.st, Hp.ld, Hp.lda, splice, ble_eq', if_true, if_false, ite_true, ite_false, cond_true, cond_false, decide_true, decide_false, List.length_cons, List.length_nil, List.take_zero, List.take_succ_cons, List.nil_append, List.cons_append, List.append_nil, List.drop_succ_cons, List.drop_zero, List.drop_nil, List.getElem?_cons_succ, List.getElem?_cons_zero, Nat.reduceAdd, Nat.reduceLeDiff, Nat.reduceEqDiff, Nat.zero_add, Nat.add_zero, Nat.le_refl, Nat.zero_le, Nat.succ_ne_self, Nat.mul_one, Int.toNat_natCast, Option.some.injEq, Option.isNone_some, Option.isNone_none, V.int.injEq, V.str.injEq, V.bool.injEq, V.ptr.injEq, V.slc.injEq, V.map.injEq, V.agg.injEq, V.tup.injEq, List.cons.injEq, Prod.mk.injEq, onS, true_and, and_true, and_assoc, exists_and_left, exists_eq_left', forall_eq, heq_eq_eq, reduceCtorEq, Bool.not_true, Bool.not_false, eq_self, not_false_eq_true, Nat.left_eq_add, Nat.add_eq_left, Nat.add_left_cancel_iff, Nat.add_right_cancel_iff, Nat.reduceEqDiff, Nat.one_ne_zero, Hp.get_set_self, Hp.get_set_ne, Hp.get_alloc_self, Hp.get_alloc_ne, Hp.get_alloc_at, Hp.get_set_at, Hp.set_next, Hp.alloc_next, Option.some_ne_none, V.tup.injEq, Option.isSome_some, Option.isSome_none, exists_eq_left, exists_eq, Nat.mul_zero, e1], ?_⟩
  refine ⟨s.nx, by simp (disch := (first | omega | (simp only [Hp.alloc_next, Hp.set_next] <;> omega) | (simp (disch := (first | omega | (simp only [Hp.alloc_next, Hp.set_next] <;> omega) | fail)) only [Hp.get_set_self, Hp.get_set_ne, Hp.get_alloc_self, Hp.get_alloc_ne, Hp.get_alloc_at, Hp.get_set_at, Hp.set_next, Hp.alloc_next, e1]; done) | fail)) only [Hp.st, Hp.ld, Hp.lda, splice, ble_eq', if_true, if_false, ite_true, ite_false, cond_true, cond_false, decide_true, decide_false, List.length_cons, List.length_nil, List.take_zero, List.take_succ_cons, List.nil_append, List.cons_append, List.append_nil, List.drop_succ_cons, List.drop_zero, List.drop_nil, List.getElem?_cons_succ, List.getElem?_cons_zero, Nat.reduceAdd, Nat.reduceLeDiff, Nat.reduceEqDiff, Nat.zero_add, Nat.add_zero, Nat.le_refl, Nat.zero_le, Nat.succ_ne_self, Nat.mul_one, Int.toNat_natCast, Option.some.injEq, Option.isNone_some, Option.isNone_none, V.int.injEq, V.str.injEq, V.bool.injEq, V.ptr.injEq, V.slc.injEq, V.map.injEq, V.agg.injEq, V.tup.injEq, List.cons.injEq, Prod.mk.injEq, onS, true_and, and_true, and_assoc, exists_and_left, exists_eq_left', forall_eq, heq_eq_eq, reduceCtorEq, Bool.not_true, Bool.not_false, eq_self, not_false_eq_true, Nat.left_eq_add, Nat.add_eq_left, Nat.add_left_cancel_iff, Nat.add_right_cancel_iff, Nat.reduceEqDiff, Nat.one_ne_zero, Hp.get_set_self, Hp.get_set_ne, Hp.get_alloc_self, Hp.get_alloc_ne, Hp.get_alloc_at, Hp.get_set_at, Hp.set_next, Hp.alloc_next, Option.some_ne_none, V.tup.injEq, Option.isSome_some, Option.isSome_none, exists_eq_left, exists_eq, Nat.mul_zero, e1], fun vs h' => match vs with
    | [] => ∃ s', InR i s' h' FA ∧ Upd h h' FA FA ∧ h'.wf ∧ PI b R n F (finE n (n - R.length) F E far) 0 s' ∧ s'.rows = s.rows
    | _ => False, ?_, ?_⟩
  · refine ⟨s.fin, by simp (disch := (first | omega | (simp only [Hp.alloc_next, Hp.set_next] <;> omega) | (simp (disch := (first | omega | (simp only [Hp.alloc_next, Hp.set_next] <;> omega) | fail)) only [Hp.get_set_self, Hp.get_set_ne, Hp.get_alloc_self, Hp.get_alloc_ne, Hp.get_alloc_at, Hp.get_set_at, Hp.set_next, Hp.alloc_next, e1]; done) | fail)) only [Hp.st, Hp.ld, Hp.lda, splice, ble_eq', if_true, if_false, ite_true, ite_false, cond_true, cond_false, decide_true, decide_false, List.length_cons, List.length_nil, List.take_zero, List.take_succ_cons, List.nil_append, List.cons_append, List.append_nil, List.drop_succ_cons, List.drop_zero, List.drop_nil, List.getElem?_cons_succ, List.getElem?_cons_zero, Nat.reduceAdd, Nat.reduceLeDiff, Nat.reduceEqDiff, Nat.zero_add, Nat.add_zero, Nat.le_refl, Nat.zero_le, Nat.succ_ne_self, Nat.mul_one, Int.toNat_natCast, Option.some.injEq, Option.isNone_some, Option.isNone_none, V.int.injEq, V.str.injEq, V.bool.injEq, V.ptr.injEq, V.slc.injEq, V.map.injEq, V.agg.injEq, V.tup.injEq, List.cons.injEq, Prod.mk.injEq, onS, true_and, and_true, and_assoc, exists_and_left, exists_eq_left', forall_eq, heq_eq_eq, reduceCtorEq, Bool.not_true, Bool.not_false, eq_self, not_false_eq_true, Nat.left_eq_add, Nat.add_eq_left, Nat.add_left_cancel_iff, Nat.add_right_cancel_iff, Nat.reduceEqDiff, Nat.one_ne_zero, Hp.get_set_self, Hp.get_set_ne, Hp.get_alloc_self, Hp.get_alloc_ne, Hp.get_alloc_at, Hp.get_set_at, Hp.set_next, Hp.alloc_next, Option.some_ne_none, V.tup.injEq, Option.isSome_some, Option.isSome_none, exists_eq_left, exists_eq, Nat.mul_zero, e1], ?_⟩
    have keep : ∀ {h1 : Hp}, Quiet h h1 → ¬(E < 0 ∧ 0 ≤ far ∧ far ≤ (n : Int) - R.length ∧ lst F n < far) → ∃ s', InR i s' h1 FA ∧ Upd h h1 FA FA ∧ h1.wf ∧ PI b R n F (finE n (n - R.length) F E far) 0 s' ∧ s'.rows = s.rows := fun {h1} qq hh => by
      rw [finE, if_neg hh]
      exact ⟨s, r0.quiet hw qq, qq.upd _, qq.wf, si, rfl⟩
    cases hfin : s.fin with
    | true =>
      have hE0 : 0 ≤ E := by have := si.fin; rw [hfin] at this; exact of_decide_eq_true this.symm
      exact ⟨rfl, keep (Quiet.refl hw) (by omega)⟩
    | false =>
      have hE0 : ¬ 0 ≤ E := by have := si.fin; rw [hfin] at this; exact of_decide_eq_false this.symm
      rw [hf0]
      cases c0 : ltI far 0 with
      | true =>
        rw [ltI_eq, decide_eq_true_eq] at c0
        exact ⟨rfl, keep (Quiet.refl hw) (by omega)⟩
      | false =>
      rw [ltI_eq, decide_eq_false_iff_not] at c0
      refine (window_spec r0 (by omega)).mono ?_
      rintro _ h1 ⟨rfl, rfl⟩
      refine ⟨_, rfl, ?_⟩
      rw [wr (x := far) (by omega) (by omega)]
      cases c1 : ltI (s.most - ↑s.rd.length) far with
      | true =>
        rw [ltI_eq, decide_eq_true_eq] at c1
        exact ⟨rfl, keep (Quiet.refl hw) (by omega)⟩
      | false =>
        rw [ltI_eq, decide_eq_false_iff_not] at c1
        obtain ⟨g2, hx2, it2, s2, n2, w2⟩ := e3.iter mtF e2 hw
        refine ⟨some m, by simp (disch := (first | omega | (simp only [Hp.alloc_next, Hp.set_next] <;> omega) | (simp (disch := (first | omega | (simp only [Hp.alloc_next, Hp.set_next] <;> omega) | fail)) only [Hp.get_set_self, Hp.get_set_ne, Hp.get_alloc_self, Hp.get_alloc_ne, Hp.get_alloc_at, Hp.get_set_at, Hp.set_next, Hp.alloc_next, e1]; done) | fail)) only [Hp.st, Hp.ld, Hp.lda, splice, ble_eq', if_true, if_false, ite_true, ite_false, cond_true, cond_false, decide_true, decide_false, List.length_cons, List.length_nil, List.take_zero, List.take_succ_cons, List.nil_append, List.cons_append, List.append_nil, List.drop_succ_cons, List.drop_zero, List.drop_nil, List.getElem?_cons_succ, List.getElem?_cons_zero, Nat.reduceAdd, Nat.reduceLeDiff, Nat.reduceEqDiff, Nat.zero_add, Nat.add_zero, Nat.le_refl, Nat.zero_le, Nat.succ_ne_self, Nat.mul_one, Int.toNat_natCast, Option.some.injEq, Option.isNone_some, Option.isNone_none, V.int.injEq, V.str.injEq, V.bool.injEq, V.ptr.injEq, V.slc.injEq, V.map.injEq, V.agg.injEq, V.tup.injEq, List.cons.injEq, Prod.mk.injEq, onS, true_and, and_true, and_assoc, exists_and_left, exists_eq_left', forall_eq, heq_eq_eq, reduceCtorEq, Bool.not_true, Bool.not_false, eq_self, not_false_eq_true, Nat.left_eq_add, Nat.add_eq_left, Nat.add_left_cancel_iff, Nat.add_right_cancel_iff, Nat.reduceEqDiff, Nat.one_ne_zero, Hp.get_set_self, Hp.get_set_ne, Hp.get_alloc_self, Hp.get_alloc_ne, Hp.get_alloc_at, Hp.get_set_at, Hp.set_next, Hp.alloc_next, Option.some_ne_none, V.tup.injEq, Option.isSome_some, Option.isSome_none, exists_eq_left, exists_eq, Nat.mul_zero, e1], _, hx2, fun vs h' => match vs with
          | [.bool b] => ∃ done, Itr kU bU s.A m h1.next done h' ∧ (∀ j, j < h1.next → h'.get j = h1.get j) ∧ h'.wf ∧ h1.next < h'.next ∧ b = done.any fun x => !ltI (IntKind.i32.wrap (IntKind.u32.wrap (x.1 - at'))) 0
          | _ => False, fun _ h' => s.A.length - itN h1.next h', ⟨rfl, [], it2, fun j hj => s2 j (by omega), w2, by omega, rfl⟩, ?_⟩
        rintro bs b' g3 ⟨done, it3, s3, w3, n3, hb⟩
        obtain ⟨l, hl, hend, hforms, hstep⟩ := it3.next w3
        have q3 : Quiet h1 g3 := ⟨s3, by omega, w3⟩
        refine ⟨l, hl, fun hmem => ?_, hforms, ?_⟩
        · have hperm := hend hmem
          have hany : b' = s.A.any fun x => !ltI (IntKind.i32.wrap (IntKind.u32.wrap (x.1 - at'))) 0 := by
            rw [hb, Bool.eq_iff_iff, List.any_eq_true, List.any_eq_true]
            exact ⟨fun ⟨x, h1, h2⟩ => ⟨x, hperm.mem_iff.1 h1, h2⟩, fun ⟨x, h1, h2⟩ => ⟨x, hperm.mem_iff.2 h1, h2⟩⟩
          have key : ∀ k : Nat, 0 ≤ F k → (!ltI (IntKind.i32.wrap (IntKind.u32.wrap ((b + k) % 4294967296 - at'))) 0) = decide (far ≤ k) := fun k hk => by
            have := fi.lt hk
            have e : IntKind.u32.wrap ((b + k) % 4294967296 - at') = ((k : Int) - far) % 4294967296 := by rw [u32w, hf3, hnx]; omega
            rw [e, i32w (by omega), ltI_eq]
            by_cases e2 : far ≤ (k : Int)
            · rw [decide_eq_true e2, if_pos (by omega), decide_eq_false (by omega)]; rfl
            · rw [decide_eq_false e2, if_neg (by omega), decide_eq_true (by omega)]; rfl
          have hiff : b' = true ↔ ¬ lst F n < far := by
            rw [hany, List.any_eq_true, lst_lt (by omega)]
            constructor
            · rintro ⟨x, hx, hx2⟩ hall
              obtain ⟨k, h1, h2, rfl⟩ := si.far x hx
              rw [key k h2, decide_eq_true_eq] at hx2
              have := hall k (by have := fi.lt h2; omega) h2
              omega
            · intro hno
              simp only [Classical.not_forall] at hno
              obtain ⟨k, h1, h2, h3⟩ := hno
              have hg := si.get k (by omega) (by omega)
              rw [if_pos h2] at hg
              exact ⟨_, mget_in hg, by show (!ltI (IntKind.i32.wrap (IntKind.u32.wrap ((b + k) % 4294967296 - at'))) 0) = true; rw [key k h2, decide_eq_true_eq]; omega⟩
          cases hbb : b' with
          | true =>
            have := hiff.1 hbb
            exact ⟨rfl, keep q3 (by omega)⟩
          | false =>
            have hlt : lst F n < far := by
              by_cases e : lst F n < far
              · exact e
              · have := hiff.2 e; rw [hbb] at this; cases this
            have e1' : g3.get i = some (.row [.int .u32 s.nx, .slc a s.rd.length f, .map (some m), .int .i64 s.rows, .int .i64 s.most, .bool s.fin, .int .u32 s.en] 1 false) := by rw [s3 _ hil]; exact e1
            refine ⟨_, Hp.st_of e1' (Nat.le_of_ble_eq_true rfl), _, Hp.st_of Hp.get_set_self (Nat.le_of_ble_eq_true rfl), rfl, { s with fin := true, en := at' }, ⟨m, a, f, o, G, ?_, ?_, e3, (Own.rep _ _ _ _).loc _ _ _ (fun x hx => ?_) e4, hF, d1, d2, d3⟩, ⟨fun x hx hxF => ?_, fun x hx => .inl hx, by simp only [Hp.set_next]; omega⟩, (w3.set (by omega)).set (by simp only [Hp.set_next]; omega), ?_, rfl⟩
            · rw [Hp.get_set_self]; rfl
            · rw [Hp.get_set_ne (Ne.symm d1), Hp.get_set_ne (Ne.symm d1), s3 _ hml]; exact e2
            · have k1 : x ≠ i := fun e => d2 (e ▸ hx)
              rw [Hp.get_set_ne k1, Hp.get_set_ne k1, s3 x (hGl x hx)]
            · have k1 : x ≠ i := by rintro rfl; exact hxF (by rw [hF]; simp)
              rw [Hp.get_set_ne k1, Hp.get_set_ne k1, s3 x hx]
            · rw [finE, if_pos ⟨by omega, by omega, by omega, hlt⟩]
              exact ⟨si.nx, si.rd, si.mo, si.get, si.far, si.nA, (decide_eq_true (by omega)).symm, fun _ => by show at' = _; omega⟩
        · intro x y g4 hmem
          obtain ⟨z, hz, rfl, rfl, hent, hs4, hn4, w4, _, hnx4⟩ := hstep x y g4 hmem
          obtain ⟨i5, lt5⟩ := hnx4 g4 rfl rfl
          have go : ∀ b2 : Bool, b2 = ((done ++ [z]).any fun x => !ltI (IntKind.i32.wrap (IntKind.u32.wrap (x.1 - at'))) 0) → ∃ done, Itr kU bU s.A m h1.next done g4 ∧ (∀ j, j < h1.next → g4.get j = h1.get j) ∧ g4.wf ∧ h1.next < g4.next ∧ b2 = done.any fun x => !ltI (IntKind.i32.wrap (IntKind.u32.wrap (x.1 - at'))) 0 := fun b2 e => ⟨_, i5, fun j hj => by rw [hs4 j (by omega), s3 j hj], w4, by omega, e⟩
          refine ⟨z.1, _, hent, ?_⟩
          have hsnoc : ((done ++ [z]).any fun x => !ltI (IntKind.i32.wrap (IntKind.u32.wrap (x.1 - at'))) 0) = (b' || !ltI (IntKind.i32.wrap (IntKind.u32.wrap (z.1 - at'))) 0) := by rw [List.any_append, ← hb]; simp
          cases hbb : b' with
          | true => exact ⟨rfl, go _ (by rw [hsnoc, hbb]; rfl), lt5⟩
          | false => exact ⟨rfl, go _ (by rw [hsnoc, hbb]; rfl), lt5⟩
  rintro bs h2 ⟨s', r2, u2, w2, si2, hr2⟩
  have r2' := r2
  obtain ⟨m2, a2, f2, o2, G2, p1, _⟩ := r2'
  have h0 := si2.fin0 fi' hn
  refine ⟨s'.fin, by simp (disch := (first | omega | (simp only [Hp.alloc_next, Hp.set_next] <;> omega) | (simp (disch := (first | omega | (simp only [Hp.alloc_next, Hp.set_next] <;> omega) | fail)) only [Hp.get_set_self, Hp.get_set_ne, Hp.get_alloc_self, Hp.get_alloc_ne, Hp.get_alloc_at, Hp.get_set_at, Hp.set_next, Hp.alloc_next, p1]; done) | fail)) only [Hp.st, Hp.ld, Hp.lda, splice, ble_eq', if_true, if_false, ite_true, ite_false, cond_true, cond_false, decide_true, decide_false, List.length_cons, List.length_nil, List.take_zero, List.take_succ_cons, List.nil_append, List.cons_append, List.append_nil, List.drop_succ_cons, List.drop_zero, List.drop_nil, List.getElem?_cons_succ, List.getElem?_cons_zero, Nat.reduceAdd, Nat.reduceLeDiff, Nat.reduceEqDiff, Nat.zero_add, Nat.add_zero, Nat.le_refl, Nat.zero_le, Nat.succ_ne_self, Nat.mul_one, Int.toNat_natCast, Option.some.injEq, Option.isNone_some, Option.isNone_none, V.int.injEq, V.str.injEq, V.bool.injEq, V.ptr.injEq, V.slc.injEq, V.map.injEq, V.agg.injEq, V.tup.injEq, List.cons.injEq, Prod.mk.injEq, onS, true_and, and_true, and_assoc, exists_and_left, exists_eq_left', forall_eq, heq_eq_eq, reduceCtorEq, Bool.not_true, Bool.not_false, eq_self, not_false_eq_true, Nat.left_eq_add, Nat.add_eq_left, Nat.add_left_cancel_iff, Nat.add_right_cancel_iff, Nat.reduceEqDiff, Nat.one_ne_zero, Hp.get_set_self, Hp.get_set_ne, Hp.get_alloc_self, Hp.get_alloc_ne, Hp.get_alloc_at, Hp.get_set_at, Hp.set_next, Hp.alloc_next, Option.some_ne_none, V.tup.injEq, Option.isSome_some, Option.isSome_none, exists_eq_left, exists_eq, Nat.mul_zero, p1], ?_⟩
  cases hf2 : s'.fin with
  | false => exact hK _ _ ⟨by rw [← h0, hf2]; rfl, s', r2, u2, w2, si2, hr2⟩
  | true =>
    refine ⟨s'.en, by simp (disch := (first | omega | (simp only [Hp.alloc_next, Hp.set_next] <;> omega) | (simp (disch := (first | omega | (simp only [Hp.alloc_next, Hp.set_next] <;> omega) | fail)) only [Hp.get_set_self, Hp.get_set_ne, Hp.get_alloc_self, Hp.get_alloc_ne, Hp.get_alloc_at, Hp.get_set_at, Hp.set_next, Hp.alloc_next, p1]; done) | fail)) only [Hp.st, Hp.ld, Hp.lda, splice, ble_eq', if_true, if_false, ite_true, ite_false, cond_true, cond_false, decide_true, decide_false, List.length_cons, List.length_nil, List.take_zero, List.take_succ_cons, List.nil_append, List.cons_append, List.append_nil, List.drop_succ_cons, List.drop_zero, List.drop_nil, List.getElem?_cons_succ, List.getElem?_cons_zero, Nat.reduceAdd, Nat.reduceLeDiff, Nat.reduceEqDiff, Nat.zero_add, Nat.add_zero, Nat.le_refl, Nat.zero_le, Nat.succ_ne_self, Nat.mul_one, Int.toNat_natCast, Option.some.injEq, Option.isNone_some, Option.isNone_none, V.int.injEq, V.str.injEq, V.bool.injEq, V.ptr.injEq, V.slc.injEq, V.map.injEq, V.agg.injEq, V.tup.injEq, List.cons.injEq, Prod.mk.injEq, onS, true_and, and_true, and_assoc, exists_and_left, exists_eq_left', forall_eq, heq_eq_eq, reduceCtorEq, Bool.not_true, Bool.not_false, eq_self, not_false_eq_true, Nat.left_eq_add, Nat.add_eq_left, Nat.add_left_cancel_iff, Nat.add_right_cancel_iff, Nat.reduceEqDiff, Nat.one_ne_zero, Hp.get_set_self, Hp.get_set_ne, Hp.get_alloc_self, Hp.get_alloc_ne, Hp.get_alloc_at, Hp.get_set_at, Hp.set_next, Hp.alloc_next, Option.some_ne_none, V.tup.injEq, Option.isSome_some, Option.isSome_none, exists_eq_left, exists_eq, Nat.mul_zero, p1], s'.nx, by simp (disch := (first | omega | (simp only [Hp.alloc_next, Hp.set_next] <;> omega) | (simp (disch := (first | omega | (simp only [Hp.alloc_next, Hp.set_next] <;> omega) | fail)) only [Hp.get_set_self, Hp.get_set_ne, Hp.get_alloc_self, Hp.get_alloc_ne, Hp.get_alloc_at, Hp.get_set_at, Hp.set_next, Hp.alloc_next, p1]; done) | fail)) only [Hp.st, Hp.ld, Hp.lda, splice, ble_eq', if_true, if_false, ite_true, ite_false, cond_true, cond_false, decide_true, decide_false, List.length_cons, List.length_nil, List.take_zero, List.take_succ_cons, List.nil_append, List.cons_append, List.append_nil, List.drop_succ_cons, List.drop_zero, List.drop_nil, List.getElem?_cons_succ, List.getElem?_cons_zero, Nat.reduceAdd, Nat.reduceLeDiff, Nat.reduceEqDiff, Nat.zero_add, Nat.add_zero, Nat.le_refl, Nat.zero_le, Nat.succ_ne_self, Nat.mul_one, Int.toNat_natCast, Option.some.injEq, Option.isNone_some, Option.isNone_none, V.int.injEq, V.str.injEq, V.bool.injEq, V.ptr.injEq, V.slc.injEq, V.map.injEq, V.agg.injEq, V.tup.injEq, List.cons.injEq, Prod.mk.injEq, onS, true_and, and_true, and_assoc, exists_and_left, exists_eq_left', forall_eq, heq_eq_eq, reduceCtorEq, Bool.not_true, Bool.not_false, eq_self, not_false_eq_true, Nat.left_eq_add, Nat.add_eq_left, Nat.add_left_cancel_iff, Nat.add_right_cancel_iff, Nat.reduceEqDiff, Nat.one_ne_zero, Hp.get_set_self, Hp.get_set_ne, Hp.get_alloc_self, Hp.get_alloc_ne, Hp.get_alloc_at, Hp.get_set_at, Hp.set_next, Hp.alloc_next, Option.some_ne_none, V.tup.injEq, Option.isSome_some, Option.isSome_none, exists_eq_left, exists_eq, Nat.mul_zero, p1], hK _ _ ⟨by rw [← h0, hf2]; rfl, s', r2, u2, w2, si2, hr2⟩⟩
end

end Go.Vex.In
