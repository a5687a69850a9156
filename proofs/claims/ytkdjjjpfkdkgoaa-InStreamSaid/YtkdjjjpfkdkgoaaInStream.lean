/-
  InStream of layer 26: whatever the number, the most, the stream and the pieces, the law returns true and leaves the input as it was. No condition.
-/
import Derived.Test.YtkdjjjpfkdkgoaaVexGG
import Derived.Test.YtkdjjjpfkdkgoaaTab26
import Derived.Test.YtkdjjjpfkdkgoaaXa26
import Derived.Test.YtkdjjjpfkdkgoaaCa26
import Derived.Test.YtkdjjjpfkdkgoaaXg26
import Derived.Test.YtkdjjjpfkdkgoaaCg26
import Derived.Test.YtkdjjjpfkdkgoaaXh26
import Derived.Test.YtkdjjjpfkdkgoaaRows
import Derived.WalkKit
import Derived.ProofKit
import Derived.OpenShut
import Derived.KernelRfl
set_option linter.unusedVariables false
set_option linter.unusedSimpArgs false
namespace Go.Vex.InStream
open Go.Proofs Go.Vex.In

set_option maxRecDepth 100000 in
theorem works_ev : (ev Vex.T Vex.F (fun _ => []) 100000).call 10 [] h0 isT = true := by kernel_rfl

theorem works_spec {h : Hp} {K : V → Hp → Prop} (hk : ∀ h', K (.bool true) h') : XCalls Try.prog 10 [] h K :=
  (XCalls.fresh (K := fun v => v = .bool true) rfl (fun v hv => by subst hv; rfl) (XCalls.ev tok fok mixed (fun _ => []) 100000 works_ev fun _ _ hv => isT_spec hv)).mono fun v h' hv => by rw [hv.1]; exact hk h'

def stepZ : List V := [.bool false, .bool false, .int .i64 0, .int .i64 0, .str []]

theorem step_form {r : List V} (h : shpBs stepZ r = true) : ∃ a b c d s, r = [.bool a, .bool b, .int .i64 c, .int .i64 d, .str s] :=
  allSs_spec stepZ r (k := fun r => ∃ a b c d s, r = [.bool a, .bool b, .int .i64 c, .int .i64 d, .str s]) (fun a b c d s => ⟨a, b, c, d, s, rfl⟩) h

theorem wrap_succ {k n : Nat} (h : k < n) (hn : n ≤ 9223372036854775807) : IntKind.i64.wrap ((k : Int) + 1) = ((k + 1 : Nat) : Int) := by
  rw [wrap_of (by simp [IntKind.min, IntKind.max, IntKind.signed, IntKind.bits]; omega)]; rfl

theorem pieces_spec {h : Hp} {a : Option (Nat × Nat)} {n : Nat} {f : Bool} {rows : List (List V)} (ha : RoSlc h a n rows 5) (hr : ∀ r ∈ rows, shpBs stepZ r = true) :
    XCalls Try.prog 24 [.slc a n f] h fun v h' => h' = h ∧ ∃ b, v = .bool b ∧ (b = false → n ≤ 200) := by
  apply x24; unfold X24
  refine ⟨fun vs h' => match vs with
    | [.int _ x] => h' = h
    | _ => False, ?_, ?_⟩
  · refine ⟨fun vs h' => match vs with
      | [.int _ x, .int _ i] => h' = h ∧ ∃ k : Nat, i = k ∧ k ≤ 500 ∧ k ≤ n
      | _ => False, fun vs _ => match vs with
      | [_, .int _ i] => 500 - i.toNat
      | _ => 0, ⟨rfl, rfl, 0, rfl, by omega, by omega⟩, ?_⟩
    rintro bs x i h1 ⟨rfl, k, rfl, hk, hkn⟩
    cases hi : ltI (↑k) (↑n) with
    | false => exact ⟨rfl, rfl⟩
    | true =>
      cases hj : ltI (↑k) 500 with
      | false => exact ⟨rfl, rfl⟩
      | true =>
        rw [ltI_eq, decide_eq_true_eq] at hi hj
        obtain ⟨q, r, rfl, hrow, hld, _⟩ := ha.ld (Hp.keeps.refl h1) (k := k) (by omega) (fun r h => shpBs_length (hr r h))
        obtain ⟨a', b', c', d', s', rfl⟩ := step_form (hr r (List.mem_of_getElem? hrow))
        have hw1 : IntKind.i64.wrap ((k : Int) + 1) = ((k + 1 : Nat) : Int) := wrap_succ (n := 500) (by omega) (by omega)
        refine ⟨⟨by omega, hi⟩, s', hld 4 (by omega), rfl, ⟨rfl, k + 1, hw1, by omega, by omega⟩, ?_⟩
        show 500 - Int.toNat (IntKind.i64.wrap ((k : Int) + 1)) < 500 - Int.toNat (k : Int)
        rw [hw1]; simp only [Int.toNat_natCast]; omega
  rintro bs x h1 rfl
  cases hc : ltI 200 (↑n) with
  | true => exact ⟨rfl, true, rfl, fun h => by cases h⟩
  | false => rw [ltI_eq, decide_eq_false_iff_not] at hc; exact ⟨rfl, _, rfl, fun _ => by omega⟩

def St (h0 : Hp) (S : List UInt8) (fr : Int) (M : Nat) (i : Nat) (got : List UInt8) (h : Hp) : Prop :=
  ∃ s N g F, InR i s h F ∧ SI S fr M N g (N + 1) s ∧ got = S.take g ∧ (∀ j ∈ F, h0.next ≤ j) ∧ (∀ j, j < h0.next → h.get j = h0.get j) ∧ h.wf ∧ h0.next ≤ h.next

theorem St.upd {h0 h h' : Hp} {S : List UInt8} {fr : Int} {M i N g : Nat} {s : IS} {F F' : List Nat} (lo : ∀ j ∈ F, h0.next ≤ j) (same : ∀ j, j < h0.next → h.get j = h0.get j) (le : h0.next ≤ h.next) (u : Upd h h' F F') (w : h'.wf) (r : InR i s h' F') (si : SI S fr M N g (N + 1) s) : St h0 S fr M i (S.take g) h' :=
  ⟨s, N, g, F', r, si, rfl, fun j hj => by
    rcases u.new j hj with h | h
    · exact lo j h
    · omega, fun j hj => by rw [u.same j (by omega) (fun h => by have := lo j h; omega)]; exact same j hj, w, Nat.le_trans le u.le⟩

set_option maxRecDepth 20000 in
theorem law_calls (fr : Int) (w0 : (Lit.int .u32 fr).wf = true) (most : Int) (w1 : (Lit.int .u8 most).wf = true) (S : List UInt8) (w2 : S.length ≤ reachBytes) {h : Hp} {a : Option (Nat × Nat)} {n : Nat} {f : Bool} {rows : List (List V)} (ha : RoSlc h a n rows 5)
    (hr0 : ∀ r ∈ rows, shpBs stepZ r = true ∧ ∀ v ∈ r, v.fits) (hbz : n * Try.prog.bytesOf 52 ≤ reachBytes) : XCalls Try.prog 5 [.int .u32 fr, .int .u8 most, .str S, .slc a n f] h fun v _ => v = .bool true := by
  have hr : ∀ r ∈ rows, shpBs stepZ r = true := fun r h => (hr0 r h).1
  have hz : ∀ r ∈ rows, r.length = 5 := fun r h => shpBs_length (hr r h)
  refine XCalls.ofWf fun hw => ?_
  refine XCalls.cps fun K hK => ?_
  have KT : ∀ h', K (.bool true) h' := fun h' => hK _ _ rfl
  have hfr := lit_bnd w0
  have hmo := lit_bnd w1
  simp [IntKind.min, IntKind.max, IntKind.signed, IntKind.bits] at hfr hmo
  apply x5; unfold X5
  cases c0 : ltI 4096 (↑S.length) with
  | true => exact works_spec fun _ => ⟨_, rfl, KT _⟩
  | false =>
  rw [ltI_eq, decide_eq_false_iff_not] at c0
  have hS : S.length ≤ 4096 := by omega
  simp only [cond_false]
  refine (pieces_spec ha hr).mono ?_
  rintro _ g0 ⟨rfl, bb, rfl, hn⟩
  refine ⟨_, rfl, ?_⟩
  cases bb with
  | true => exact works_spec fun _ => ⟨_, rfl, KT _⟩
  | false =>
  have hn := hn rfl
  obtain ⟨M, hM, hM1⟩ : ∃ M : Nat, IntKind.i64.wrap (IntKind.i64.wrap most + 1) = (M : Int) ∧ 1 ≤ M ∧ M ≤ 256 := by
    refine ⟨most.toNat + 1, ?_, by omega, by omega⟩
    rw [wr (x := most) (by omega) (by omega), wr (by omega) (by omega)]; omega
  rw [hM]
  simp only [cond_false]
  refine (new_spec hw (most := (M : Int)) (by omega)).mono ?_
  rintro _ g1 ⟨rfl, r1, q1⟩
  refine ⟨_, _, rfl, ?_⟩
  simp only [bne_self_eq_false, cond_false, Option.isNone_some]
  have st0 : St g0 S fr M (g0.next + 1) [] g1 := ⟨_, 0, 0, _, r1, ⟨by simp; omega, by simp, Nat.le_refl _, Nat.zero_le _, by omega, rfl, by simp, by simp, by simp⟩, by simp, fun j hj => by simp at hj; omega, q1.same, q1.wf, q1.le⟩
  generalize hii : g0.next + 1 = i at *
  refine ⟨fun vs g => match vs with
    | [.str got, .int _ k] => ∃ k' : Nat, k = k' ∧ k' ≤ n ∧ St g0 S fr M i got g
    | _ => False, fun vs _ => match vs with
    | [_, .int _ k] => n - k.toNat
    | _ => 0, ⟨by trivial, 0, rfl, by omega, st0⟩, ?_⟩
  rintro bs got k g ⟨k, rfl, hkn, s, N, gg, F, r, si, rfl, lo, same, gw, gle⟩
  cases hi : ltI (↑k) (↑n) with
  | false => exact works_spec fun _ => ⟨true, rfl, KT _⟩
  | true =>
  rw [ltI_eq, decide_eq_true_eq] at hi
  have hkn' : k < n := by omega
  have hgN := si.gN
  have hNS := si.NS
  have hlen := si.len
  have keeps : g0.keeps g := fun j c e hq => by rw [same j (hw.lt hq)]; exact hq
  obtain ⟨qa, row, rfl, hrow, hld, hlda⟩ := ha.ld keeps hkn' hz
  obtain ⟨bR, bF, pA, pN, pS, rfl⟩ := step_form (hr row (List.mem_of_getElem? hrow))
  have hw1 : IntKind.i64.wrap ((k : Int) + 1) = ((k + 1 : Nat) : Int) := wrap_succ (n := n) (by omega) (by omega)
  refine ⟨⟨by omega, hi⟩, bR, bF, pA, pN, pS, hlda, ?_⟩
  rintro g9 rfl
  refine ⟨_, Hp.st_of Hp.get_alloc_self (Nat.le_of_ble_eq_true rfl), ?_⟩
  obtain ⟨g3, hg3⟩ : ∃ g3, g3 = (g.alloc (.row [.bool false, .bool false, .int .i64 0, .int .i64 0, .str []] 1 false)).set g.next (.row (splice [.bool false, .bool false, .int .i64 0, .int .i64 0, .str []] 0 [.bool bR, .bool bF, .int .i64 pA, .int .i64 pN, .str pS]) 1 false) := ⟨_, rfl⟩
  rw [← hg3]
  have c3 : g3.get g.next = some (.row [.bool bR, .bool bF, .int .i64 pA, .int .i64 pN, .str pS] 1 false) := by rw [hg3, Hp.get_set_self]; rfl
  have q3 : Quiet g g3 := by rw [hg3]; exact ⟨fun j hj => by simp (disch := (first | omega | (simp only [Hp.alloc_next, Hp.set_next] <;> omega) | (simp (disch := (first | omega | (simp only [Hp.alloc_next, Hp.set_next] <;> omega) | fail)) only [Hp.get_set_self, Hp.get_set_ne, Hp.get_alloc_self, Hp.get_alloc_ne, Hp.get_alloc_at, Hp.get_set_at, Hp.set_next, Hp.alloc_next]; done) | fail)) only [Hp.st, Hp.ld, Hp.lda, splice, ble_eq', if_true, if_false, ite_true, ite_false, cond_true, cond_false, decide_true, decide_false, List.length_cons, List.length_nil, List.take_zero, List.take_succ_cons, List.nil_append, List.cons_append, List.append_nil, List.drop_succ_cons, List.drop_zero, List.drop_nil, List.getElem?_cons_succ, List.getElem?_cons_zero, Nat.reduceAdd, Nat.reduceLeDiff, Nat.reduceEqDiff, Nat.zero_add, Nat.add_zero, Nat.le_refl, Nat.zero_le, Nat.succ_ne_self, Nat.mul_one, Int.toNat_natCast, Option.some.injEq, Option.isNone_some, Option.isNone_none, V.int.injEq, V.str.injEq, V.bool.injEq, V.ptr.injEq, V.slc.injEq, V.map.injEq, V.agg.injEq, V.tup.injEq, List.cons.injEq, Prod.mk.injEq, onS, true_and, and_true, and_assoc, exists_and_left, exists_eq_left', forall_eq, heq_eq_eq, reduceCtorEq, Bool.not_true, Bool.not_false, eq_self, not_false_eq_true, Nat.left_eq_add, Nat.add_eq_left, Nat.add_left_cancel_iff, Nat.add_right_cancel_iff, Nat.reduceEqDiff, Nat.one_ne_zero, Hp.get_set_self, Hp.get_set_ne, Hp.get_alloc_self, Hp.get_alloc_ne, Hp.get_alloc_at, Hp.get_set_at, Hp.set_next, Hp.alloc_next, Option.some_ne_none, V.tup.injEq, Option.isSome_some, Option.isSome_none, exists_eq_left, exists_eq, Nat.mul_zero], by simp (disch := (first | omega | (simp only [Hp.alloc_next, Hp.set_next] <;> omega) | (simp (disch := (first | omega | (simp only [Hp.alloc_next, Hp.set_next] <;> omega) | fail)) only [Hp.get_set_self, Hp.get_set_ne, Hp.get_alloc_self, Hp.get_alloc_ne, Hp.get_alloc_at, Hp.get_set_at, Hp.set_next, Hp.alloc_next]; done) | fail)) only [Hp.st, Hp.ld, Hp.lda, splice, ble_eq', if_true, if_false, ite_true, ite_false, cond_true, cond_false, decide_true, decide_false, List.length_cons, List.length_nil, List.take_zero, List.take_succ_cons, List.nil_append, List.cons_append, List.append_nil, List.drop_succ_cons, List.drop_zero, List.drop_nil, List.getElem?_cons_succ, List.getElem?_cons_zero, Nat.reduceAdd, Nat.reduceLeDiff, Nat.reduceEqDiff, Nat.zero_add, Nat.add_zero, Nat.le_refl, Nat.zero_le, Nat.succ_ne_self, Nat.mul_one, Int.toNat_natCast, Option.some.injEq, Option.isNone_some, Option.isNone_none, V.int.injEq, V.str.injEq, V.bool.injEq, V.ptr.injEq, V.slc.injEq, V.map.injEq, V.agg.injEq, V.tup.injEq, List.cons.injEq, Prod.mk.injEq, onS, true_and, and_true, and_assoc, exists_and_left, exists_eq_left', forall_eq, heq_eq_eq, reduceCtorEq, Bool.not_true, Bool.not_false, eq_self, not_false_eq_true, Nat.left_eq_add, Nat.add_eq_left, Nat.add_left_cancel_iff, Nat.add_right_cancel_iff, Nat.reduceEqDiff, Nat.one_ne_zero, Hp.get_set_self, Hp.get_set_ne, Hp.get_alloc_self, Hp.get_alloc_ne, Hp.get_alloc_at, Hp.get_set_at, Hp.set_next, Hp.alloc_next, Option.some_ne_none, V.tup.injEq, Option.isSome_some, Option.isSome_none, exists_eq_left, exists_eq, Nat.mul_zero]; omega, gw.alloc.set (Nat.lt_succ_self _)⟩
  clear hg3
  have r3 := r.quiet gw q3
  have same3 : ∀ j, j < g0.next → g3.get j = g0.get j := fun j hj => by rw [q3.same j (by omega)]; exact same j hj
  have le3 : g0.next ≤ g3.next := Nat.le_trans gle q3.le
  refine ⟨fun vs h' => match vs with
    | [.int _ at'] => h' = g3 ∧ ∃ j0 : Nat, at' = j0 ∧ j0 ≤ S.length
    | _ => False, ?_, ?_⟩
  · cases cS : ltI 0 (↑S.length) with
    | false => exact ⟨by trivial, rfl, 0, rfl, by omega⟩
    | true =>
      rw [ltI_eq, decide_eq_true_eq] at cS
      refine ⟨pA, by simp (disch := (first | omega | (simp only [Hp.alloc_next, Hp.set_next] <;> omega) | (simp (disch := (first | omega | (simp only [Hp.alloc_next, Hp.set_next] <;> omega) | fail)) only [Hp.get_set_self, Hp.get_set_ne, Hp.get_alloc_self, Hp.get_alloc_ne, Hp.get_alloc_at, Hp.get_set_at, Hp.set_next, Hp.alloc_next, c3]; done) | fail)) only [Hp.st, Hp.ld, Hp.lda, splice, ble_eq', if_true, if_false, ite_true, ite_false, cond_true, cond_false, decide_true, decide_false, List.length_cons, List.length_nil, List.take_zero, List.take_succ_cons, List.nil_append, List.cons_append, List.append_nil, List.drop_succ_cons, List.drop_zero, List.drop_nil, List.getElem?_cons_succ, List.getElem?_cons_zero, Nat.reduceAdd, Nat.reduceLeDiff, Nat.reduceEqDiff, Nat.zero_add, Nat.add_zero, Nat.le_refl, Nat.zero_le, Nat.succ_ne_self, Nat.mul_one, Int.toNat_natCast, Option.some.injEq, Option.isNone_some, Option.isNone_none, V.int.injEq, V.str.injEq, V.bool.injEq, V.ptr.injEq, V.slc.injEq, V.map.injEq, V.agg.injEq, V.tup.injEq, List.cons.injEq, Prod.mk.injEq, onS, true_and, and_true, and_assoc, exists_and_left, exists_eq_left', forall_eq, heq_eq_eq, reduceCtorEq, Bool.not_true, Bool.not_false, eq_self, not_false_eq_true, Nat.left_eq_add, Nat.add_eq_left, Nat.add_left_cancel_iff, Nat.add_right_cancel_iff, Nat.reduceEqDiff, Nat.one_ne_zero, Hp.get_set_self, Hp.get_set_ne, Hp.get_alloc_self, Hp.get_alloc_ne, Hp.get_alloc_at, Hp.get_set_at, Hp.set_next, Hp.alloc_next, Option.some_ne_none, V.tup.injEq, Option.isSome_some, Option.isSome_none, exists_eq_left, exists_eq, Nat.mul_zero, c3], by omega, by omega, by trivial, by trivial, ?_⟩
      have h1 := Int.tmod_lt_of_pos pA (b := (S.length : Int)) cS
      have h1' : -(S.length : Int) < pA.tmod S.length := by
        have := Int.lt_tmod_of_pos pA (b := (S.length : Int)) cS
        exact this
      rw [wr (x := pA.tmod ↑S.length + ↑S.length) (by omega) (by omega), Int.tmod_eq_emod_of_nonneg (by omega)]
      have h2 := Int.emod_nonneg (pA.tmod ↑S.length + ↑S.length) (b := (S.length : Int)) (by omega)
      have h3 := Int.emod_lt_of_pos (pA.tmod ↑S.length + ↑S.length) (b := (S.length : Int)) cS
      exact ⟨((pA.tmod ↑S.length + ↑S.length) % ↑S.length).toNat, by omega, by omega⟩
  rintro bs2 at' g4 ⟨rfl, j0, rfl, hj0⟩
  refine ⟨pN, by simp (disch := (first | omega | (simp only [Hp.alloc_next, Hp.set_next] <;> omega) | (simp (disch := (first | omega | (simp only [Hp.alloc_next, Hp.set_next] <;> omega) | fail)) only [Hp.get_set_self, Hp.get_set_ne, Hp.get_alloc_self, Hp.get_alloc_ne, Hp.get_alloc_at, Hp.get_set_at, Hp.set_next, Hp.alloc_next, c3]; done) | fail)) only [Hp.st, Hp.ld, Hp.lda, splice, ble_eq', if_true, if_false, ite_true, ite_false, cond_true, cond_false, decide_true, decide_false, List.length_cons, List.length_nil, List.take_zero, List.take_succ_cons, List.nil_append, List.cons_append, List.append_nil, List.drop_succ_cons, List.drop_zero, List.drop_nil, List.getElem?_cons_succ, List.getElem?_cons_zero, Nat.reduceAdd, Nat.reduceLeDiff, Nat.reduceEqDiff, Nat.zero_add, Nat.add_zero, Nat.le_refl, Nat.zero_le, Nat.succ_ne_self, Nat.mul_one, Int.toNat_natCast, Option.some.injEq, Option.isNone_some, Option.isNone_none, V.int.injEq, V.str.injEq, V.bool.injEq, V.ptr.injEq, V.slc.injEq, V.map.injEq, V.agg.injEq, V.tup.injEq, List.cons.injEq, Prod.mk.injEq, onS, true_and, and_true, and_assoc, exists_and_left, exists_eq_left', forall_eq, heq_eq_eq, reduceCtorEq, Bool.not_true, Bool.not_false, eq_self, not_false_eq_true, Nat.left_eq_add, Nat.add_eq_left, Nat.add_left_cancel_iff, Nat.add_right_cancel_iff, Nat.reduceEqDiff, Nat.one_ne_zero, Hp.get_set_self, Hp.get_set_ne, Hp.get_alloc_self, Hp.get_alloc_ne, Hp.get_alloc_at, Hp.get_set_at, Hp.set_next, Hp.alloc_next, Option.some_ne_none, V.tup.injEq, Option.isSome_some, Option.isSome_none, exists_eq_left, exists_eq, Nat.mul_zero, c3], fun vs h' => match vs with
    | [.str got] => St g0 S fr M i got h'
    | _ => False, ?_, ?_⟩
  · refine ⟨bR, by simp (disch := (first | omega | (simp only [Hp.alloc_next, Hp.set_next] <;> omega) | (simp (disch := (first | omega | (simp only [Hp.alloc_next, Hp.set_next] <;> omega) | fail)) only [Hp.get_set_self, Hp.get_set_ne, Hp.get_alloc_self, Hp.get_alloc_ne, Hp.get_alloc_at, Hp.get_set_at, Hp.set_next, Hp.alloc_next, c3]; done) | fail)) only [Hp.st, Hp.ld, Hp.lda, splice, ble_eq', if_true, if_false, ite_true, ite_false, cond_true, cond_false, decide_true, decide_false, List.length_cons, List.length_nil, List.take_zero, List.take_succ_cons, List.nil_append, List.cons_append, List.append_nil, List.drop_succ_cons, List.drop_zero, List.drop_nil, List.getElem?_cons_succ, List.getElem?_cons_zero, Nat.reduceAdd, Nat.reduceLeDiff, Nat.reduceEqDiff, Nat.zero_add, Nat.add_zero, Nat.le_refl, Nat.zero_le, Nat.succ_ne_self, Nat.mul_one, Int.toNat_natCast, Option.some.injEq, Option.isNone_some, Option.isNone_none, V.int.injEq, V.str.injEq, V.bool.injEq, V.ptr.injEq, V.slc.injEq, V.map.injEq, V.agg.injEq, V.tup.injEq, List.cons.injEq, Prod.mk.injEq, onS, true_and, and_true, and_assoc, exists_and_left, exists_eq_left', forall_eq, heq_eq_eq, reduceCtorEq, Bool.not_true, Bool.not_false, eq_self, not_false_eq_true, Nat.left_eq_add, Nat.add_eq_left, Nat.add_left_cancel_iff, Nat.add_right_cancel_iff, Nat.reduceEqDiff, Nat.one_ne_zero, Hp.get_set_self, Hp.get_set_ne, Hp.get_alloc_self, Hp.get_alloc_ne, Hp.get_alloc_at, Hp.get_set_at, Hp.set_next, Hp.alloc_next, Option.some_ne_none, V.tup.injEq, Option.isSome_some, Option.isSome_none, exists_eq_left, exists_eq, Nat.mul_zero, c3], ?_⟩
    cases bR with
    | true =>
      refine ⟨pN, by simp (disch := (first | omega | (simp only [Hp.alloc_next, Hp.set_next] <;> omega) | (simp (disch := (first | omega | (simp only [Hp.alloc_next, Hp.set_next] <;> omega) | fail)) only [Hp.get_set_self, Hp.get_set_ne, Hp.get_alloc_self, Hp.get_alloc_ne, Hp.get_alloc_at, Hp.get_set_at, Hp.set_next, Hp.alloc_next, c3]; done) | fail)) only [Hp.st, Hp.ld, Hp.lda, splice, ble_eq', if_true, if_false, ite_true, ite_false, cond_true, cond_false, decide_true, decide_false, List.length_cons, List.length_nil, List.take_zero, List.take_succ_cons, List.nil_append, List.cons_append, List.append_nil, List.drop_succ_cons, List.drop_zero, List.drop_nil, List.getElem?_cons_succ, List.getElem?_cons_zero, Nat.reduceAdd, Nat.reduceLeDiff, Nat.reduceEqDiff, Nat.zero_add, Nat.add_zero, Nat.le_refl, Nat.zero_le, Nat.succ_ne_self, Nat.mul_one, Int.toNat_natCast, Option.some.injEq, Option.isNone_some, Option.isNone_none, V.int.injEq, V.str.injEq, V.bool.injEq, V.ptr.injEq, V.slc.injEq, V.map.injEq, V.agg.injEq, V.tup.injEq, List.cons.injEq, Prod.mk.injEq, onS, true_and, and_true, and_assoc, exists_and_left, exists_eq_left', forall_eq, heq_eq_eq, reduceCtorEq, Bool.not_true, Bool.not_false, eq_self, not_false_eq_true, Nat.left_eq_add, Nat.add_eq_left, Nat.add_left_cancel_iff, Nat.add_right_cancel_iff, Nat.reduceEqDiff, Nat.one_ne_zero, Hp.get_set_self, Hp.get_set_ne, Hp.get_alloc_self, Hp.get_alloc_ne, Hp.get_alloc_at, Hp.get_set_at, Hp.set_next, Hp.alloc_next, Option.some_ne_none, V.tup.injEq, Option.isSome_some, Option.isSome_none, exists_eq_left, exists_eq, Nat.mul_zero, c3], ?_⟩
      refine (read_spec q3.wf r3 pN).mono ?_
      rintro _ g5 ⟨kr, hkr, rfl, r5, u5, w5⟩
      have hkl : kr ≤ N - gg := by omega
      have htl : (s.rd.take kr).length ≤ 4096 := by rw [List.length_take]; omega
      refine ⟨_, rfl, by rw [List.length_take]; omega, by trivial, ?_⟩
      have hgot : S.take gg ++ s.rd.take kr = S.take (gg + kr) := by
        rw [si.rd, List.take_add]
        congr 1
        rw [List.drop_take, List.take_take, Nat.min_eq_left (by omega)]
      rw [hgot]
      refine St.upd lo same3 le3 u5 w5 r5 (N := N) ⟨si.nx, ?_, by omega, hNS, by have := si.rl; omega, si.mo, fun x hx => ?_, si.nA, si.en⟩
      · show s.rd.drop kr = _
        rw [si.rd, List.drop_drop]
      · obtain ⟨j, b, h1, h2, h3⟩ := si.far x hx
        exact ⟨j, b, h1, by omega, h3⟩
    | false =>
      refine ⟨bF, by simp (disch := (first | omega | (simp only [Hp.alloc_next, Hp.set_next] <;> omega) | (simp (disch := (first | omega | (simp only [Hp.alloc_next, Hp.set_next] <;> omega) | fail)) only [Hp.get_set_self, Hp.get_set_ne, Hp.get_alloc_self, Hp.get_alloc_ne, Hp.get_alloc_at, Hp.get_set_at, Hp.set_next, Hp.alloc_next, c3]; done) | fail)) only [Hp.st, Hp.ld, Hp.lda, splice, ble_eq', if_true, if_false, ite_true, ite_false, cond_true, cond_false, decide_true, decide_false, List.length_cons, List.length_nil, List.take_zero, List.take_succ_cons, List.nil_append, List.cons_append, List.append_nil, List.drop_succ_cons, List.drop_zero, List.drop_nil, List.getElem?_cons_succ, List.getElem?_cons_zero, Nat.reduceAdd, Nat.reduceLeDiff, Nat.reduceEqDiff, Nat.zero_add, Nat.add_zero, Nat.le_refl, Nat.zero_le, Nat.succ_ne_self, Nat.mul_one, Int.toNat_natCast, Option.some.injEq, Option.isNone_some, Option.isNone_none, V.int.injEq, V.str.injEq, V.bool.injEq, V.ptr.injEq, V.slc.injEq, V.map.injEq, V.agg.injEq, V.tup.injEq, List.cons.injEq, Prod.mk.injEq, onS, true_and, and_true, and_assoc, exists_and_left, exists_eq_left', forall_eq, heq_eq_eq, reduceCtorEq, Bool.not_true, Bool.not_false, eq_self, not_false_eq_true, Nat.left_eq_add, Nat.add_eq_left, Nat.add_left_cancel_iff, Nat.add_right_cancel_iff, Nat.reduceEqDiff, Nat.one_ne_zero, Hp.get_set_self, Hp.get_set_ne, Hp.get_alloc_self, Hp.get_alloc_ne, Hp.get_alloc_at, Hp.get_set_at, Hp.set_next, Hp.alloc_next, Option.some_ne_none, V.tup.injEq, Option.isSome_some, Option.isSome_none, exists_eq_left, exists_eq, Nat.mul_zero, c3], ?_⟩
      cases bF with
      | true =>
        have e : IntKind.u32.wrap (fr + IntKind.u32.wrap ↑S.length) = (fr + S.length) % 4294967296 := by rw [u32w, u32w]; omega
        rw [e]
        refine (fin_spec hS (by omega) q3.wf r3 si).mono ?_
        rintro _ g5 ⟨b, s', rfl, r5, si5, u5, w5, _⟩
        exact ⟨_, rfl, by trivial, St.upd lo same3 le3 u5 w5 r5 si5⟩
      | false =>
        obtain ⟨e, he, he1, he2⟩ : ∃ e : Nat, (bif ltI (IntKind.i64.wrap (↑j0 + bif ltI 300 (bif ltI pN 0 then 0 else pN) then 300 else bif ltI pN 0 then 0 else pN)) ↑S.length then IntKind.i64.wrap (↑j0 + bif ltI 300 (bif ltI pN 0 then 0 else pN) then 300 else bif ltI pN 0 then 0 else pN) else ↑S.length) = (e : Int) ∧ j0 ≤ e ∧ e ≤ S.length := by
          obtain ⟨c, hc, hc0⟩ : ∃ c : Int, (bif ltI 300 (bif ltI pN 0 then 0 else pN) then 300 else bif ltI pN 0 then 0 else pN) = c ∧ 0 ≤ c ∧ c ≤ 300 := by
            cases c1 : ltI pN 0 with
            | true => exact ⟨0, rfl, by omega, by omega⟩
            | false =>
              rw [ltI_eq, decide_eq_false_iff_not] at c1
              simp only [cond_false]
              cases c2 : ltI 300 pN with
              | true => exact ⟨300, rfl, by omega, by omega⟩
              | false => rw [ltI_eq, decide_eq_false_iff_not] at c2; exact ⟨pN, rfl, by omega, by omega⟩
          rw [hc, wr (by omega) (by omega)]
          cases c3 : ltI (↑j0 + c) ↑S.length with
          | true => rw [ltI_eq, decide_eq_true_eq] at c3; exact ⟨(↑j0 + c).toNat, by simp only [cond_true]; omega, by omega, by omega⟩
          | false => exact ⟨S.length, rfl, by omega, by omega⟩
        rw [he]
        have e2 : IntKind.u32.wrap (fr + IntKind.u32.wrap ↑j0) = (fr + j0) % 4294967296 := by rw [u32w, u32w]; omega
        rw [e2]
        have t1 : ((e : Int)).toNat - ((j0 : Int)).toNat = e - j0 := by omega
        have t2 : ((j0 : Int)).toNat = j0 := by omega
        refine ⟨by omega, by omega, ⟨by omega, by omega⟩, ?_⟩
        rw [t1, t2]
        refine (put_spec (j0 := j0) (text := (S.drop j0).take (e - j0)) hS (by omega) q3.wf r3 si (fun k b hk => ?_) (by rw [List.length_take, List.length_drop]; omega)).mono ?_
        · rw [List.getElem?_take] at hk
          split at hk
          · rw [List.getElem?_drop] at hk; exact hk
          · cases hk
        rintro _ g5 ⟨nn, s', N', F', rfl, r5, si5, hN', hf5, u5, w5, _⟩
        exact ⟨_, rfl, by trivial, St.upd lo same3 le3 u5 w5 r5 si5⟩
  rintro bs3 got g5 ⟨s5, N5, gg5, F5, r5, si5, rfl, lo5, same5, w5, le5⟩
  have hgl : gg5 ≤ N5 := si5.gN
  have hNS5 := si5.NS
  have hl5 := si5.len
  have hrl5 := si5.rl
  have hmo5 := si5.mo
  have htl : (S.take gg5).length = gg5 := by rw [List.length_take]; omega
  rw [htl]
  have c1 : ltI (↑S.length) (↑gg5) = false := by rw [ltI_eq, decide_eq_false_iff_not]; omega
  have t5 : ((gg5 : Int)).toNat = gg5 := by omega
  rw [c1, t5]
  simp only [cond_false]
  refine ⟨by omega, ⟨by omega, by omega⟩, ?_⟩
  have c2 : (S.take gg5 == List.take (gg5 - 0) (List.drop 0 S)) = true := by simp
  rw [c2]
  simp only [Bool.not_true, cond_false]
  refine (ready_spec r5).mono ?_
  rintro _ g6 ⟨rfl, rfl⟩
  refine ⟨_, rfl, ?_⟩
  have c3' : ltI (↑M) (↑s5.rd.length) = false := by rw [ltI_eq, decide_eq_false_iff_not]; omega
  rw [c3']
  refine (window_spec r5 (by omega)).mono ?_
  rintro _ g7 ⟨rfl, rfl⟩
  refine ⟨_, rfl, ?_⟩
  refine (ready_spec r5).mono ?_
  rintro _ g8 ⟨rfl, rfl⟩
  refine ⟨_, rfl, ?_⟩
  rw [hmo5, wr (x := (M : Int) - s5.rd.length) (by omega) (by omega)]
  simp only [bne_self_eq_false, cond_false]
  refine (next_spec r5).mono ?_
  rintro _ g9 ⟨rfl, rfl⟩
  refine ⟨_, rfl, ?_⟩
  refine (ready_spec r5).mono ?_
  rintro _ g10 ⟨rfl, rfl⟩
  refine ⟨_, rfl, ?_⟩
  have c4 : (s5.nx != IntKind.u32.wrap (fr + IntKind.u32.wrap (IntKind.i64.wrap (↑gg5 + ↑s5.rd.length)))) = false := by
    rw [wr (x := (gg5 : Int) + s5.rd.length) (by omega) (by omega), u32w, u32w, si5.nx, hl5, bne_eq_false_iff_eq]; omega
  rw [c4]
  simp only [cond_false]
  refine (ended_spec r5).mono ?_
  rintro _ g11 ⟨rfl, rfl⟩
  refine ⟨_, rfl, ?_⟩
  have done : ∃ k' : Nat, ((k + 1 : Nat) : Int) = k' ∧ k' ≤ n ∧ St g0 S fr M i (S.take gg5) g11 := ⟨k + 1, rfl, by omega, s5, N5, gg5, F5, r5, si5, rfl, lo5, same5, w5, le5⟩
  rw [hw1]
  cases ce : s5.fin && (s5.en == s5.nx && (((s5.rd.length : Nat) : Int) == 0)) with
  | false => exact ⟨by trivial, done, by simp only [Int.toNat_natCast]; omega⟩
  | true =>
    simp only [Bool.and_eq_true, beq_iff_eq] at ce
    obtain ⟨f1, f2, f3⟩ := ce
    have e1 := si5.en f1
    rw [e1, si5.nx] at f2
    have hNe : S.length = N5 := mod_inj (fr := fr) (by omega) (by omega) f2
    have hg : gg5 = S.length := by omega
    have c5 : (S.take gg5 == S) = true := by rw [hg, List.take_length]; simp
    rw [c5]
    exact ⟨by trivial, done, by simp only [Int.toNat_natCast]; omega⟩
end Go.Vex.InStream

namespace Go.Proofs.Ytkdjjjpfkdkgoaa.inStream
open Go.ChangeShapes Go.WideShapes Go.ChangeAt Go.RowKit Go.Vex Go.Vex.InStream
open Go.ChangeMaps (open_string shut_string)

theorem own : ownKnob Try.prog.godebug = none := by kernel_rfl

set_option maxRecDepth 100000 in
theorem lifted (os : Os) (started : os.Started) (H : Type) (enc : TypeId × Value → H) :
    ReturnsInHanded {} Try.checked os 5 .any (Rows.inStreamSpec.pre6 enc Try.prog Try.f5 Rows.inStreamRow.domain false) (Rows.inStreamSpec.post enc Try.prog Try.f5 false true false false) := by
  refine returnsInHanded_of_change_sized (C := Try.checked) own started (by kernel_rfl) Try.func5
    (ChangeSpec.witness6 (enc := enc) (C := Try.checked) false ⟨#[], #[.int .u32 0, .int .u8 0, .string ⟨#[]⟩, .slice none 0 0], []⟩ 8 (by kernel_rfl) (by kernel_rfl) (by kernel_rfl) (by kernel_rfl)) ?_
  intro W base args ds gs before hval0 hW hcnd hsz _
  have hval : ∀ (j : Nat) t v, Try.f5.params[j]? = some t → args[j]? = some v → Value.okWide Try.prog W .any base t v := hval0
  have hW' := hW
  obtain ⟨p, q, hA0, hV, rfl, hfz, hnd⟩ := hW
  have hA : DataW.TrodAll enc Try.prog W 0 (fun _ => true) true Try.f5.params.toList args.toList ds p := hA0
  rw [Try.params5] at hA hval hsz
  obtain ⟨v0, vs0, d0, ds0, p0, q0, hargs, rfl, rfl, h0, r0⟩ := trodAll_cons hA
  obtain ⟨v1, vs1, d1, ds1, p1, q1, rfl, rfl, rfl, h1, r1⟩ := trodAll_cons r0
  obtain ⟨v2, vs2, d2, ds2, p2, q2, rfl, rfl, rfl, h2, r2⟩ := trodAll_cons r1
  obtain ⟨v3, vs3, d3, ds3, p3, q3, rfl, rfl, rfl, h3, r3⟩ := trodAll_cons r2
  obtain ⟨rfl, rfl, rfl⟩ := trodAll_nil r3
  obtain rfl : args = #[v0, v1, v2, v3] := by cases args; simp_all
  obtain ⟨rfl, rfl⟩ := trodVars_none hV
  obtain ⟨a0, rfl, rfl, rfl, w0⟩ := open_int Try.underlying22 (hval 0 22 v0 rfl rfl) h0
  obtain ⟨a1, rfl, rfl, rfl, w1⟩ := open_int Try.underlying5 (hval 1 5 v1 rfl rfl) h1
  obtain ⟨a2, rfl, rfl, rfl, w2⟩ := open_string Try.underlying9 (hval 2 9 v2 rfl rfl) h2
  obtain ⟨ρ3, hp3, b3, n3, f3, rows3, s3, x3, l3, k3, vr3, ro3, sh3, z3⟩ := arg_slice tok (T := Vex.T) (t := 46) (e := 52) (d := 5) (zs := stepZ) rfl rfl rfl rfl rfl (by decide) (hval 3 46 v3 rfl rfl) h3 (fun m hm => hW'.lt m (by simp [hm])) (fun m hm => by simpa using List.all_eq_true.1 hsz m (DataW.weights_mem_each (j := 3) (t := 46) rfl rfl m hm)) (Sat.none W fun _ => ⟨0, 0, 0, 0⟩)
  refine (XCalls.true' s3 (vs := [.int .u32 a0, .int .u8 a1, .str a2.data.toList, .slc b3 n3 f3]) ⟨_, _, rfl, rfl, ⟨_, _, rfl, rfl, ⟨_, _, rfl, rfl, ⟨_, _, rfl, vr3, rfl⟩⟩⟩⟩ (law_calls a0 w0 a1 w1 a2.data.toList (sized_string hsz (j := 2) rfl rfl) ro3 sh3 z3)).mono fun e W' ⟨he, hb⟩ => ?_
  subst he
  exact ⟨_, rfl, post_true (by kernel_rfl) hW' hb rfl (fun gs hg => by subst hg; rfl) (tb := 4) rfl Try.underlying4 (by decide +kernel)⟩

theorem over : Rows.inStreamRow.holds Try.pinned (OpenSpec.ofChange Rows.inStreamSpec) :=
  OpenClaim.holds_of_wide 5 Try.f5 rfl rfl rfl rfl rfl rfl rfl ⟨rfl, rfl, rfl, rfl, rfl⟩ rfl rfl rfl rfl rfl (by kernel_rfl) Try.func5 (by kernel_rfl)
    (of_decide_eq_true (by kernel_rfl)) (by unfold Func.isWrapper; first | (rw [if_pos (by decide +kernel)]; kernel_rfl) | (rw [if_neg (by decide +kernel)]; exact ⟨rfl, rfl⟩))
    (fun os started H enc _ => lifted os started H enc)

theorem proved : Rows.InStreamSaid :=
  over
#print axioms proved
end Go.Proofs.Ytkdjjjpfkdkgoaa.inStream

