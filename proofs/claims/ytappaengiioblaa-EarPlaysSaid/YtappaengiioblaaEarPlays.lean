/-
  EarPlays of layer 28: however many, whatever the script, the law returns true and leaves the input as it was. No condition.
-/
import Derived.Test.YtappaengiioblaaVexFF
import Derived.Test.YtappaengiioblaaTab28
import Derived.Test.YtappaengiioblaaXe28
import Derived.Test.YtappaengiioblaaXf28
import Derived.Test.YtappaengiioblaaCe28
import Derived.Test.YtappaengiioblaaXs28
import Derived.Test.YtappaengiioblaaXk28
import Derived.Test.YtappaengiioblaaCsa28
import Derived.Test.YtappaengiioblaaCsb28
import Derived.Test.YtappaengiioblaaCsc28
import Derived.Test.YtappaengiioblaaCsd28
import Derived.Test.YtappaengiioblaaCse28
import Derived.Test.YtappaengiioblaaCf28
import Derived.Test.YtappaengiioblaaCg28
import Derived.Test.YtappaengiioblaaRows
import Derived.WalkKit
import Derived.ProofKit
import Derived.OpenShut
import Derived.KernelRfl
set_option linter.unusedVariables false
set_option linter.unusedSimpArgs false
namespace Go.Vex.EarPlays
open Go.Proofs Go.Vex.Ear

set_option maxRecDepth 100000 in
theorem works_ev : (ev Vex.T Vex.F (fun _ => []) 100000).call 9 [] h0 isT = true := by kernel_rfl

theorem works_spec {h : Hp} {K : V → Hp → Prop} (hk : ∀ h', K (.bool true) h') : XCalls Try.prog 9 [] h K :=
  (XCalls.fresh (K := fun v => v = .bool true) rfl (fun v hv => by subst hv; rfl) (XCalls.ev tok fok mixed (fun _ => []) 100000 works_ev fun _ _ hv => isT_spec hv)).mono fun v h' hv => by rw [hv.1]; exact hk h'

def stepZ : List V := [.bool false, .bool false, .bool false, .int .u8 0, .int .u64 0]

theorem step_form {r : List V} (h : shpBs stepZ r = true) : ∃ a b c p w, r = [.bool a, .bool b, .bool c, .int .u8 p, .int .u64 w] :=
  allSs_spec stepZ r (k := fun r => ∃ a b c p w, r = [.bool a, .bool b, .bool c, .int .u8 p, .int .u64 w]) (fun a b c p w => ⟨a, b, c, p, w, rfl⟩) h

/-! ### the frame -/

structure EJ (h0 : Hp) (r x : Nat) (bk : Int) (A : List (Int × Ch)) (Ps : List (Pr × Int)) (D : List Int) (R : List Kd) (cnt : Int) (F G : List Nat) (g : Hp) : Prop where
  er : EarR r bk A Ps D g F
  re : RefE x bk R cnt g G
  dis : ∀ j ∈ F, j ∉ G
  lo : ∀ j, j ∈ F ∨ j ∈ G → h0.next ≤ j
  same : ∀ j, j < h0.next → g.get j = h0.get j
  wf : g.wf
  le : h0.next ≤ g.next

section
variable {h0 g g' : Hp} {r x : Nat} {bk cnt cnt' : Int} {A A' : List (Int × Ch)} {Ps Ps' : List (Pr × Int)} {D D' : List Int} {R R' : List Kd} {F F' G G' : List Nat}

theorem EJ.ear (i : EJ h0 r x bk A Ps D R cnt F G g) (u : Upd g g' F F') (er : EarR r bk A' Ps' D' g' F') (w : g'.wf) : EJ h0 r x bk A' Ps' D' R cnt F' G g' := by
  have hl := i.le
  have hG := fun j hj => (RefE.rep _ _ _ _).lt i.wf i.re (j := j) hj
  refine ⟨er, (RefE.rep _ _ _ _).loc _ _ _ (fun j hj => u.same j (hG j hj) fun h => i.dis j h hj) i.re, fun j hj hg => ?_, fun j hj => ?_, fun j hj => ?_, w, Nat.le_trans i.le u.le⟩
  · rcases u.new j hj with h | h
    · exact i.dis j h hg
    · have := hG j hg; omega
  · rcases hj with hj | hj
    · rcases u.new j hj with h | h
      · exact i.lo j (.inl h)
      · omega
    · exact i.lo j (.inr hj)
  · rw [u.same j (by omega) (fun h => by have := i.lo j (.inl h); omega)]; exact i.same j hj

theorem EJ.ref (i : EJ h0 r x bk A Ps D R cnt F G g) (u : Upd g g' G G') (re : RefE x bk R' cnt' g' G') (w : g'.wf) : EJ h0 r x bk A Ps D R' cnt' F G' g' := by
  have hl := i.le
  have hF := fun j hj => (EarR.rep _ _ _ _ _).lt i.wf i.er (j := j) hj
  refine ⟨(EarR.rep _ _ _ _ _).loc _ _ _ (fun j hj => u.same j (hF j hj) (i.dis j hj)) i.er, re, fun j hj hg => ?_, fun j hj => ?_, fun j hj => ?_, w, Nat.le_trans i.le u.le⟩
  · rcases u.new j hg with h | h
    · exact i.dis j hj h
    · have := hF j hj; omega
  · rcases hj with hj | hj
    · exact i.lo j (.inl hj)
    · rcases u.new j hj with h | h
      · exact i.lo j (.inr h)
      · omega
  · rw [u.same j (by omega) (fun h => by have := i.lo j (.inr h); omega)]; exact i.same j hj

theorem EJ.quiet (i : EJ h0 r x bk A Ps D R cnt F G g) (q : Quiet g g') : EJ h0 r x bk A Ps D R cnt F G g' := by
  have hl := i.le
  exact ⟨i.er.quiet i.wf q, i.re.quiet i.wf q, i.dis, i.lo, fun j hj => by rw [q.same j (by omega)]; exact i.same j hj, q.wf, Nat.le_trans i.le q.le⟩
end

def St (h0 : Hp) (r x : Nat) (bk : Int) (m : Nat) (g : Hp) : Prop :=
  ∃ A Ps D R cnt F G, EJ h0 r x bk A Ps D R cnt F G g ∧ Rel bk A Ps D R cnt ∧ cnt ≤ m

set_option maxRecDepth 20000 in
theorem law_calls (backlog : Int) (w0 : (Lit.int .i64 backlog).wf = true) {h : Hp} {a : Option (Nat × Nat)} {n : Nat} {f : Bool} {rows : List (List V)} (ha : RoSlc h a n rows 5)
    (hr0 : ∀ r ∈ rows, shpBs stepZ r = true ∧ ∀ v ∈ r, v.fits) (hbz : n * Try.prog.bytesOf 31 ≤ reachBytes) : XCalls Try.prog 7 [.int .i64 backlog, .slc a n f] h fun v _ => v = .bool true := by
  have hr : ∀ r ∈ rows, shpBs stepZ r = true := fun r h => (hr0 r h).1
  have hz : ∀ r ∈ rows, r.length = 5 := fun r h => shpBs_length (hr r h)
  refine XCalls.ofWf fun hw => ?_
  refine XCalls.cps fun K hK => ?_
  have KT : ∀ h', K (.bool true) h' := fun h' => hK _ _ rfl
  apply x7; unfold X7
  cases c0 : ltI 300 (↑n) with
  | true => exact works_spec fun _ => ⟨_, rfl, KT _⟩
  | false =>
  rw [ltI_eq, decide_eq_false_iff_not] at c0
  simp only [cond_false]
  by_cases hbad : backlog < 1 ∨ 128 < backlog
  · refine (new_err hbad).mono ?_
    rintro _ g1 ⟨rfl, rfl⟩
    refine ⟨_, _, rfl, ?_⟩
    have fin : XCalls Try.prog 9 [] g1 fun v4 h'4 => ∃ b3, v4 = V.bool b3 ∧ K (V.bool b3) h'4 := works_spec fun _ => ⟨true, rfl, KT _⟩
    cases c1 : ltI backlog 1 with
    | true => exact fin
    | false =>
      cases c2 : ltI 128 backlog with
      | true => exact fin
      | false => rw [ltI_eq, decide_eq_false_iff_not] at c1 c2; omega
  have c1 : ltI backlog 1 = false := by rw [ltI_eq, decide_eq_false_iff_not]; omega
  have c2 : ltI 128 backlog = false := by rw [ltI_eq, decide_eq_false_iff_not]; omega
  refine (new_spec hw (bk := backlog) (by omega)).mono ?_
  rintro _ g1 ⟨rfl, er1, q1⟩
  refine ⟨_, _, rfl, ?_⟩
  rw [c1, c2]
  simp only [bne_self_eq_false, cond_false, Option.isNone_some]
  rintro g2 rfl
  have q2 := Quiet.alloc q1.wf (.row [.int .i64 backlog, .slc none 0 true, .int .i64 0] 1 false)
  have hlt1 := fun j hj => (EarR.rep _ _ _ _ _).lt q1.wf er1 (j := j) hj
  have st0 : St h (h.next + 2) g1.next backlog 0 (g1.alloc (.row [.int .i64 backlog, .slc none 0 true, .int .i64 0] 1 false)) :=
    ⟨[], [], [], [], 0, _, [g1.next], ⟨er1.quiet q1.wf q2, ⟨none, true, [], Hp.get_alloc_self, Own.nil _ _, rfl, by simp⟩, fun j hj hg => by rw [List.mem_singleton] at hg; have := hlt1 j hj; omega, fun j hj => by have := q1.le; simp at hj; omega, fun j hj => by rw [q2.same j (by have := q1.le; omega)]; exact q1.same j hj, q2.wf, Nat.le_trans q1.le q2.le⟩,
      ⟨⟨by simp, by simp, by simp, by simp; omega, by simp; omega⟩, by simp, by simp, by simp, by simp, rfl, by simp, fun _ _ => rfl, by simp, fun _ _ => rfl, ⟨[], by simp, rfl, by simp⟩, by simp⟩, by simp⟩
  generalize hrr : h.next + 2 = r at *
  generalize hxx : g1.next = x at *
  refine ⟨fun vs g => match vs with
    | [.int _ i] => ∃ k : Nat, i = k ∧ k ≤ n ∧ St h r x backlog k g
    | _ => False, fun vs _ => match vs with
    | [.int _ i] => n - i.toNat
    | _ => 0, ⟨by trivial, 0, rfl, by omega, st0⟩, ?_⟩
  rintro bs i g ⟨k, rfl, hkn, A, Ps, D, R, cnt, F, G, j1, v1, hcnt⟩
  cases hi : ltI (↑k) (↑n) with
  | false => exact works_spec fun _ => ⟨true, rfl, KT _⟩
  | true =>
  rw [ltI_eq, decide_eq_true_eq] at hi
  have hkn' : k < n := by omega
  have hAD := v1.inv.le
  have hop := v1.inv.op
  have hdn := v1.inv.dn
  have hAR := v1.lenA
  have hDl := v1.dlen
  have hc0 := v1.cn.1
  have keeps : h.keeps g := fun j c e hq => by rw [j1.same j (hw.lt hq)]; exact hq
  obtain ⟨qa, row, rfl, hrow, hld, hlda⟩ := ha.ld keeps hkn' hz
  obtain ⟨b1, b2, b3, kp, w, rfl⟩ := step_form (hr row (List.mem_of_getElem? hrow))
  have hw1 : IntKind.i64.wrap ((k : Int) + 1) = ((k + 1 : Nat) : Int) := wrap_succ (n := n) (by omega) (by omega)
  refine ⟨⟨by omega, hi⟩, b1, b2, b3, kp, w, hlda, ?_⟩
  rintro g9 rfl
  refine ⟨_, Hp.st_of Hp.get_alloc_self (Nat.le_of_ble_eq_true rfl), ?_⟩
  obtain ⟨g3, hg3⟩ : ∃ g3, g3 = (g.alloc (.row [.bool false, .bool false, .bool false, .int .u8 0, .int .u64 0] 1 false)).set g.next (.row (splice [.bool false, .bool false, .bool false, .int .u8 0, .int .u64 0] 0 [.bool b1, .bool b2, .bool b3, .int .u8 kp, .int .u64 w]) 1 false) := ⟨_, rfl⟩
  rw [← hg3]
  have c3 : g3.get g.next = some (.row [.bool b1, .bool b2, .bool b3, .int .u8 kp, .int .u64 w] 1 false) := by rw [hg3, Hp.get_set_self]; rfl
  have q3 : Quiet g g3 := by rw [hg3]; exact ⟨fun j hj => by simp (disch := (first | omega | (simp only [Hp.alloc_next, Hp.set_next] <;> omega) | (simp (disch := (first | omega | (simp only [Hp.alloc_next, Hp.set_next] <;> omega) | fail)) only [Hp.get_set_self, Hp.get_set_ne, Hp.get_alloc_self, Hp.get_alloc_ne, Hp.get_alloc_at, Hp.get_set_at, Hp.set_next, Hp.alloc_next]; done) | fail)) only [Hp.st, Hp.ld, Hp.lda, splice, ble_eq', if_true, if_false, ite_true, ite_false, cond_true, cond_false, decide_true, decide_false, List.length_cons, List.length_nil, List.take_zero, List.take_succ_cons, List.nil_append, List.cons_append, List.append_nil, List.drop_succ_cons, List.drop_zero, List.drop_nil, List.getElem?_cons_succ, List.getElem?_cons_zero, Nat.reduceAdd, Nat.reduceLeDiff, Nat.reduceEqDiff, Nat.zero_add, Nat.add_zero, Nat.le_refl, Nat.zero_le, Nat.succ_ne_self, Nat.mul_one, Int.toNat_natCast, Option.some.injEq, Option.isNone_some, Option.isNone_none, V.int.injEq, V.str.injEq, V.bool.injEq, V.ptr.injEq, V.slc.injEq, V.map.injEq, V.agg.injEq, V.tup.injEq, List.cons.injEq, Prod.mk.injEq, onS, true_and, and_true, and_assoc, exists_and_left, exists_eq_left', forall_eq, heq_eq_eq, reduceCtorEq, Bool.not_true, Bool.not_false, eq_self, not_false_eq_true, Nat.left_eq_add, Nat.add_eq_left, Nat.add_left_cancel_iff, Nat.add_right_cancel_iff, Nat.reduceEqDiff, Nat.one_ne_zero, Hp.get_set_self, Hp.get_set_ne, Hp.get_alloc_self, Hp.get_alloc_ne, Hp.get_alloc_at, Hp.get_set_at, Hp.set_next, Hp.alloc_next, Option.some_ne_none, V.tup.injEq, Option.isSome_some, Option.isSome_none, exists_eq_left, exists_eq, Nat.mul_zero], by simp (disch := (first | omega | (simp only [Hp.alloc_next, Hp.set_next] <;> omega) | (simp (disch := (first | omega | (simp only [Hp.alloc_next, Hp.set_next] <;> omega) | fail)) only [Hp.get_set_self, Hp.get_set_ne, Hp.get_alloc_self, Hp.get_alloc_ne, Hp.get_alloc_at, Hp.get_set_at, Hp.set_next, Hp.alloc_next]; done) | fail)) only [Hp.st, Hp.ld, Hp.lda, splice, ble_eq', if_true, if_false, ite_true, ite_false, cond_true, cond_false, decide_true, decide_false, List.length_cons, List.length_nil, List.take_zero, List.take_succ_cons, List.nil_append, List.cons_append, List.append_nil, List.drop_succ_cons, List.drop_zero, List.drop_nil, List.getElem?_cons_succ, List.getElem?_cons_zero, Nat.reduceAdd, Nat.reduceLeDiff, Nat.reduceEqDiff, Nat.zero_add, Nat.add_zero, Nat.le_refl, Nat.zero_le, Nat.succ_ne_self, Nat.mul_one, Int.toNat_natCast, Option.some.injEq, Option.isNone_some, Option.isNone_none, V.int.injEq, V.str.injEq, V.bool.injEq, V.ptr.injEq, V.slc.injEq, V.map.injEq, V.agg.injEq, V.tup.injEq, List.cons.injEq, Prod.mk.injEq, onS, true_and, and_true, and_assoc, exists_and_left, exists_eq_left', forall_eq, heq_eq_eq, reduceCtorEq, Bool.not_true, Bool.not_false, eq_self, not_false_eq_true, Nat.left_eq_add, Nat.add_eq_left, Nat.add_left_cancel_iff, Nat.add_right_cancel_iff, Nat.reduceEqDiff, Nat.one_ne_zero, Hp.get_set_self, Hp.get_set_ne, Hp.get_alloc_self, Hp.get_alloc_ne, Hp.get_alloc_at, Hp.get_set_at, Hp.set_next, Hp.alloc_next, Option.some_ne_none, V.tup.injEq, Option.isSome_some, Option.isSome_none, exists_eq_left, exists_eq, Nat.mul_zero]; omega, j1.wf.alloc.set (Nat.lt_succ_self _)⟩
  clear hg3
  have j3 := j1.quiet q3
  have hF := fun j hj => (EarR.rep _ _ _ _ _).lt j1.wf j1.er (j := j) hj
  have hG := fun j hj => (RefE.rep _ _ _ _).lt j1.wf j1.re (j := j) hj
  have l3 := j3.wf.lt c3
  have keepE : ∀ {g' g'' : Hp} {F' : List Nat} {o : O}, g'.get g.next = some o → g'.wf → Upd g' g'' F F' → g''.get g.next = some o := fun e w' u => by
    rw [u.same _ (w'.lt e) (fun hj => by have := hF _ hj; omega)]; exact e
  have keepR : ∀ {g' g'' : Hp} {G' : List Nat} {o : O}, g'.get g.next = some o → g'.wf → Upd g' g'' G G' → g''.get g.next = some o := fun e w' u => by
    rw [u.same _ (w'.lt e) (fun hj => by have := hG _ hj; omega)]; exact e
  refine ⟨fun vs g' => match vs with
    | [.bool b] => b = true ∧ St h r x backlog (k + 1) g' ∧ g'.get g.next = some (.row [.bool b1, .bool b2, .bool b3, .int .u8 kp, .int .u64 w] 1 false)
    | _ => False, ?_, ?_⟩
  · refine ⟨b1, by simp (disch := (first | omega | (simp only [Hp.alloc_next, Hp.set_next] <;> omega) | (simp (disch := (first | omega | (simp only [Hp.alloc_next, Hp.set_next] <;> omega) | fail)) only [Hp.get_set_self, Hp.get_set_ne, Hp.get_alloc_self, Hp.get_alloc_ne, Hp.get_alloc_at, Hp.get_set_at, Hp.set_next, Hp.alloc_next, c3]; done) | fail)) only [Hp.st, Hp.ld, Hp.lda, splice, ble_eq', if_true, if_false, ite_true, ite_false, cond_true, cond_false, decide_true, decide_false, List.length_cons, List.length_nil, List.take_zero, List.take_succ_cons, List.nil_append, List.cons_append, List.append_nil, List.drop_succ_cons, List.drop_zero, List.drop_nil, List.getElem?_cons_succ, List.getElem?_cons_zero, Nat.reduceAdd, Nat.reduceLeDiff, Nat.reduceEqDiff, Nat.zero_add, Nat.add_zero, Nat.le_refl, Nat.zero_le, Nat.succ_ne_self, Nat.mul_one, Int.toNat_natCast, Option.some.injEq, Option.isNone_some, Option.isNone_none, V.int.injEq, V.str.injEq, V.bool.injEq, V.ptr.injEq, V.slc.injEq, V.map.injEq, V.agg.injEq, V.tup.injEq, List.cons.injEq, Prod.mk.injEq, onS, true_and, and_true, and_assoc, exists_and_left, exists_eq_left', forall_eq, heq_eq_eq, reduceCtorEq, Bool.not_true, Bool.not_false, eq_self, not_false_eq_true, Nat.left_eq_add, Nat.add_eq_left, Nat.add_left_cancel_iff, Nat.add_right_cancel_iff, Nat.reduceEqDiff, Nat.one_ne_zero, Hp.get_set_self, Hp.get_set_ne, Hp.get_alloc_self, Hp.get_alloc_ne, Hp.get_alloc_at, Hp.get_set_at, Hp.set_next, Hp.alloc_next, Option.some_ne_none, V.tup.injEq, Option.isSome_some, Option.isSome_none, exists_eq_left, exists_eq, Nat.mul_zero, c3], ?_⟩
    cases b1 with
    | true =>
      refine ⟨w, by simp (disch := (first | omega | (simp only [Hp.alloc_next, Hp.set_next] <;> omega) | (simp (disch := (first | omega | (simp only [Hp.alloc_next, Hp.set_next] <;> omega) | fail)) only [Hp.get_set_self, Hp.get_set_ne, Hp.get_alloc_self, Hp.get_alloc_ne, Hp.get_alloc_at, Hp.get_set_at, Hp.set_next, Hp.alloc_next, c3]; done) | fail)) only [Hp.st, Hp.ld, Hp.lda, splice, ble_eq', if_true, if_false, ite_true, ite_false, cond_true, cond_false, decide_true, decide_false, List.length_cons, List.length_nil, List.take_zero, List.take_succ_cons, List.nil_append, List.cons_append, List.append_nil, List.drop_succ_cons, List.drop_zero, List.drop_nil, List.getElem?_cons_succ, List.getElem?_cons_zero, Nat.reduceAdd, Nat.reduceLeDiff, Nat.reduceEqDiff, Nat.zero_add, Nat.add_zero, Nat.le_refl, Nat.zero_le, Nat.succ_ne_self, Nat.mul_one, Int.toNat_natCast, Option.some.injEq, Option.isNone_some, Option.isNone_none, V.int.injEq, V.str.injEq, V.bool.injEq, V.ptr.injEq, V.slc.injEq, V.map.injEq, V.agg.injEq, V.tup.injEq, List.cons.injEq, Prod.mk.injEq, onS, true_and, and_true, and_assoc, exists_and_left, exists_eq_left', forall_eq, heq_eq_eq, reduceCtorEq, Bool.not_true, Bool.not_false, eq_self, not_false_eq_true, Nat.left_eq_add, Nat.add_eq_left, Nat.add_left_cancel_iff, Nat.add_right_cancel_iff, Nat.reduceEqDiff, Nat.one_ne_zero, Hp.get_set_self, Hp.get_set_ne, Hp.get_alloc_self, Hp.get_alloc_ne, Hp.get_alloc_at, Hp.get_set_at, Hp.set_next, Hp.alloc_next, Option.some_ne_none, V.tup.injEq, Option.isSome_some, Option.isSome_none, exists_eq_left, exists_eq, Nat.mul_zero, c3], w, by simp (disch := (first | omega | (simp only [Hp.alloc_next, Hp.set_next] <;> omega) | (simp (disch := (first | omega | (simp only [Hp.alloc_next, Hp.set_next] <;> omega) | fail)) only [Hp.get_set_self, Hp.get_set_ne, Hp.get_alloc_self, Hp.get_alloc_ne, Hp.get_alloc_at, Hp.get_set_at, Hp.set_next, Hp.alloc_next, c3]; done) | fail)) only [Hp.st, Hp.ld, Hp.lda, splice, ble_eq', if_true, if_false, ite_true, ite_false, cond_true, cond_false, decide_true, decide_false, List.length_cons, List.length_nil, List.take_zero, List.take_succ_cons, List.nil_append, List.cons_append, List.append_nil, List.drop_succ_cons, List.drop_zero, List.drop_nil, List.getElem?_cons_succ, List.getElem?_cons_zero, Nat.reduceAdd, Nat.reduceLeDiff, Nat.reduceEqDiff, Nat.zero_add, Nat.add_zero, Nat.le_refl, Nat.zero_le, Nat.succ_ne_self, Nat.mul_one, Int.toNat_natCast, Option.some.injEq, Option.isNone_some, Option.isNone_none, V.int.injEq, V.str.injEq, V.bool.injEq, V.ptr.injEq, V.slc.injEq, V.map.injEq, V.agg.injEq, V.tup.injEq, List.cons.injEq, Prod.mk.injEq, onS, true_and, and_true, and_assoc, exists_and_left, exists_eq_left', forall_eq, heq_eq_eq, reduceCtorEq, Bool.not_true, Bool.not_false, eq_self, not_false_eq_true, Nat.left_eq_add, Nat.add_eq_left, Nat.add_left_cancel_iff, Nat.add_right_cancel_iff, Nat.reduceEqDiff, Nat.one_ne_zero, Hp.get_set_self, Hp.get_set_ne, Hp.get_alloc_self, Hp.get_alloc_ne, Hp.get_alloc_at, Hp.get_set_at, Hp.set_next, Hp.alloc_next, Option.some_ne_none, V.tup.injEq, Option.isSome_some, Option.isSome_none, exists_eq_left, exists_eq, Nat.mul_zero, c3], ?_⟩
      refine (done_spec (s := w) j3.wf j3.er (by omega)).mono ?_
      rintro _ g4 ⟨rfl, hd, w4⟩
      by_cases h0 : doneCode backlog A D w = 0
      · rw [if_pos h0] at hd
        obtain ⟨p, F', hgm, er4, u4⟩ := hd
        have j4 := j3.ear u4 er4 w4
        have c4 := keepE c3 j3.wf u4
        refine ⟨_, rfl, ⟨w, by simp (disch := (first | omega | (simp only [Hp.alloc_next, Hp.set_next] <;> omega) | (simp (disch := (first | omega | (simp only [Hp.alloc_next, Hp.set_next] <;> omega) | fail)) only [Hp.get_set_self, Hp.get_set_ne, Hp.get_alloc_self, Hp.get_alloc_ne, Hp.get_alloc_at, Hp.get_set_at, Hp.set_next, Hp.alloc_next, c4]; done) | fail)) only [Hp.st, Hp.ld, Hp.lda, splice, ble_eq', if_true, if_false, ite_true, ite_false, cond_true, cond_false, decide_true, decide_false, List.length_cons, List.length_nil, List.take_zero, List.take_succ_cons, List.nil_append, List.cons_append, List.append_nil, List.drop_succ_cons, List.drop_zero, List.drop_nil, List.getElem?_cons_succ, List.getElem?_cons_zero, Nat.reduceAdd, Nat.reduceLeDiff, Nat.reduceEqDiff, Nat.zero_add, Nat.add_zero, Nat.le_refl, Nat.zero_le, Nat.succ_ne_self, Nat.mul_one, Int.toNat_natCast, Option.some.injEq, Option.isNone_some, Option.isNone_none, V.int.injEq, V.str.injEq, V.bool.injEq, V.ptr.injEq, V.slc.injEq, V.map.injEq, V.agg.injEq, V.tup.injEq, List.cons.injEq, Prod.mk.injEq, onS, true_and, and_true, and_assoc, exists_and_left, exists_eq_left', forall_eq, heq_eq_eq, reduceCtorEq, Bool.not_true, Bool.not_false, eq_self, not_false_eq_true, Nat.left_eq_add, Nat.add_eq_left, Nat.add_left_cancel_iff, Nat.add_right_cancel_iff, Nat.reduceEqDiff, Nat.one_ne_zero, Hp.get_set_self, Hp.get_set_ne, Hp.get_alloc_self, Hp.get_alloc_ne, Hp.get_alloc_at, Hp.get_set_at, Hp.set_next, Hp.alloc_next, Option.some_ne_none, V.tup.injEq, Option.isSome_some, Option.isSome_none, exists_eq_left, exists_eq, Nat.mul_zero, c4], rfl⟩, by trivial, by trivial, ?_⟩
        refine (rdone_spec (s := w) w4 j4.re (by omega) (by omega)).mono ?_
        rintro _ g5 ⟨c, rfl, w5, u5, hcc⟩
        have c5 := keepR c4 w4 u5
        have hlt : (D.length : Int) < backlog := by
          unfold doneCode at h0
          rw [hgm] at h0
          simp only at h0
          split at h0
          · assumption
          · omega
        rcases hcc with ⟨rfl, hno, _⟩ | ⟨m, y, hm, hys, hcode, hre⟩
        · rw [v1.na w hno] at hgm; cases hgm
        · have hy := List.mem_of_getElem? hm
          have hla := v1.la y hy
          rw [hys, hgm] at hla
          have hnd : ¬ 0 < y.d := fun hh => by rw [decide_eq_true hh] at hla; cases hla
          have hpy : p = y.p := by have := Option.some.inj hla; exact congrArg Prod.fst this
          have hcz : c = 0 := by rw [hcode]; unfold rdoneCode; simp only; rw [if_neg hnd, if_pos (by omega)]
          rw [if_pos hcz] at hre
          refine ⟨_, rfl, by trivial, by rw [h0, hcz]; rfl, ⟨_, _, _, _, _, _, _, j4.ref u5 hre w5, by rw [hpy]; exact v1.done hm hys hnd hlt, by omega⟩, c5⟩
      · rw [if_neg h0] at hd
        have j4 := j3.ear hd.2 hd.1 w4
        have c4 := keepE c3 j3.wf hd.2
        refine ⟨_, rfl, ⟨w, by simp (disch := (first | omega | (simp only [Hp.alloc_next, Hp.set_next] <;> omega) | (simp (disch := (first | omega | (simp only [Hp.alloc_next, Hp.set_next] <;> omega) | fail)) only [Hp.get_set_self, Hp.get_set_ne, Hp.get_alloc_self, Hp.get_alloc_ne, Hp.get_alloc_at, Hp.get_set_at, Hp.set_next, Hp.alloc_next, c4]; done) | fail)) only [Hp.st, Hp.ld, Hp.lda, splice, ble_eq', if_true, if_false, ite_true, ite_false, cond_true, cond_false, decide_true, decide_false, List.length_cons, List.length_nil, List.take_zero, List.take_succ_cons, List.nil_append, List.cons_append, List.append_nil, List.drop_succ_cons, List.drop_zero, List.drop_nil, List.getElem?_cons_succ, List.getElem?_cons_zero, Nat.reduceAdd, Nat.reduceLeDiff, Nat.reduceEqDiff, Nat.zero_add, Nat.add_zero, Nat.le_refl, Nat.zero_le, Nat.succ_ne_self, Nat.mul_one, Int.toNat_natCast, Option.some.injEq, Option.isNone_some, Option.isNone_none, V.int.injEq, V.str.injEq, V.bool.injEq, V.ptr.injEq, V.slc.injEq, V.map.injEq, V.agg.injEq, V.tup.injEq, List.cons.injEq, Prod.mk.injEq, onS, true_and, and_true, and_assoc, exists_and_left, exists_eq_left', forall_eq, heq_eq_eq, reduceCtorEq, Bool.not_true, Bool.not_false, eq_self, not_false_eq_true, Nat.left_eq_add, Nat.add_eq_left, Nat.add_left_cancel_iff, Nat.add_right_cancel_iff, Nat.reduceEqDiff, Nat.one_ne_zero, Hp.get_set_self, Hp.get_set_ne, Hp.get_alloc_self, Hp.get_alloc_ne, Hp.get_alloc_at, Hp.get_set_at, Hp.set_next, Hp.alloc_next, Option.some_ne_none, V.tup.injEq, Option.isSome_some, Option.isSome_none, exists_eq_left, exists_eq, Nat.mul_zero, c4], rfl⟩, by trivial, by trivial, ?_⟩
        refine (rdone_spec (s := w) w4 j4.re (by omega) (by omega)).mono ?_
        rintro _ g5 ⟨c, rfl, w5, u5, hcc⟩
        have c5 := keepR c4 w4 u5
        have same : c = doneCode backlog A D w ∧ RefE x backlog R cnt g5 G := by
          rcases hcc with ⟨rfl, hno, hre⟩ | ⟨m, y, hm, hys, hcode, hre⟩
          · refine ⟨?_, hre⟩
            unfold doneCode; rw [v1.na w hno]
          · have hy := List.mem_of_getElem? hm
            have hla := v1.la y hy
            rw [hys] at hla
            have hc : c = doneCode backlog A D w := by
              rw [hcode]
              unfold doneCode rdoneCode
              rw [hla]
              by_cases hd0 : 0 < y.d
              · rw [decide_eq_true hd0]; simp only; rw [if_pos hd0]
              · rw [decide_eq_false hd0]; simp only; rw [if_neg hd0, hDl]
            rw [if_neg (by rw [hc]; exact h0)] at hre
            exact ⟨hc, hre⟩
        refine ⟨_, rfl, by trivial, by rw [same.1]; simp, ⟨_, _, _, _, _, _, _, j4.ref u5 same.2 w5, v1, by omega⟩, c5⟩
    | false =>
      refine ⟨b2, by simp (disch := (first | omega | (simp only [Hp.alloc_next, Hp.set_next] <;> omega) | (simp (disch := (first | omega | (simp only [Hp.alloc_next, Hp.set_next] <;> omega) | fail)) only [Hp.get_set_self, Hp.get_set_ne, Hp.get_alloc_self, Hp.get_alloc_ne, Hp.get_alloc_at, Hp.get_set_at, Hp.set_next, Hp.alloc_next, c3]; done) | fail)) only [Hp.st, Hp.ld, Hp.lda, splice, ble_eq', if_true, if_false, ite_true, ite_false, cond_true, cond_false, decide_true, decide_false, List.length_cons, List.length_nil, List.take_zero, List.take_succ_cons, List.nil_append, List.cons_append, List.append_nil, List.drop_succ_cons, List.drop_zero, List.drop_nil, List.getElem?_cons_succ, List.getElem?_cons_zero, Nat.reduceAdd, Nat.reduceLeDiff, Nat.reduceEqDiff, Nat.zero_add, Nat.add_zero, Nat.le_refl, Nat.zero_le, Nat.succ_ne_self, Nat.mul_one, Int.toNat_natCast, Option.some.injEq, Option.isNone_some, Option.isNone_none, V.int.injEq, V.str.injEq, V.bool.injEq, V.ptr.injEq, V.slc.injEq, V.map.injEq, V.agg.injEq, V.tup.injEq, List.cons.injEq, Prod.mk.injEq, onS, true_and, and_true, and_assoc, exists_and_left, exists_eq_left', forall_eq, heq_eq_eq, reduceCtorEq, Bool.not_true, Bool.not_false, eq_self, not_false_eq_true, Nat.left_eq_add, Nat.add_eq_left, Nat.add_left_cancel_iff, Nat.add_right_cancel_iff, Nat.reduceEqDiff, Nat.one_ne_zero, Hp.get_set_self, Hp.get_set_ne, Hp.get_alloc_self, Hp.get_alloc_ne, Hp.get_alloc_at, Hp.get_set_at, Hp.set_next, Hp.alloc_next, Option.some_ne_none, V.tup.injEq, Option.isSome_some, Option.isSome_none, exists_eq_left, exists_eq, Nat.mul_zero, c3], ?_⟩
      cases b2 with
      | true =>
        refine ⟨w, by simp (disch := (first | omega | (simp only [Hp.alloc_next, Hp.set_next] <;> omega) | (simp (disch := (first | omega | (simp only [Hp.alloc_next, Hp.set_next] <;> omega) | fail)) only [Hp.get_set_self, Hp.get_set_ne, Hp.get_alloc_self, Hp.get_alloc_ne, Hp.get_alloc_at, Hp.get_set_at, Hp.set_next, Hp.alloc_next, c3]; done) | fail)) only [Hp.st, Hp.ld, Hp.lda, splice, ble_eq', if_true, if_false, ite_true, ite_false, cond_true, cond_false, decide_true, decide_false, List.length_cons, List.length_nil, List.take_zero, List.take_succ_cons, List.nil_append, List.cons_append, List.append_nil, List.drop_succ_cons, List.drop_zero, List.drop_nil, List.getElem?_cons_succ, List.getElem?_cons_zero, Nat.reduceAdd, Nat.reduceLeDiff, Nat.reduceEqDiff, Nat.zero_add, Nat.add_zero, Nat.le_refl, Nat.zero_le, Nat.succ_ne_self, Nat.mul_one, Int.toNat_natCast, Option.some.injEq, Option.isNone_some, Option.isNone_none, V.int.injEq, V.str.injEq, V.bool.injEq, V.ptr.injEq, V.slc.injEq, V.map.injEq, V.agg.injEq, V.tup.injEq, List.cons.injEq, Prod.mk.injEq, onS, true_and, and_true, and_assoc, exists_and_left, exists_eq_left', forall_eq, heq_eq_eq, reduceCtorEq, Bool.not_true, Bool.not_false, eq_self, not_false_eq_true, Nat.left_eq_add, Nat.add_eq_left, Nat.add_left_cancel_iff, Nat.add_right_cancel_iff, Nat.reduceEqDiff, Nat.one_ne_zero, Hp.get_set_self, Hp.get_set_ne, Hp.get_alloc_self, Hp.get_alloc_ne, Hp.get_alloc_at, Hp.get_set_at, Hp.set_next, Hp.alloc_next, Option.some_ne_none, V.tup.injEq, Option.isSome_some, Option.isSome_none, exists_eq_left, exists_eq, Nat.mul_zero, c3], w, by simp (disch := (first | omega | (simp only [Hp.alloc_next, Hp.set_next] <;> omega) | (simp (disch := (first | omega | (simp only [Hp.alloc_next, Hp.set_next] <;> omega) | fail)) only [Hp.get_set_self, Hp.get_set_ne, Hp.get_alloc_self, Hp.get_alloc_ne, Hp.get_alloc_at, Hp.get_set_at, Hp.set_next, Hp.alloc_next, c3]; done) | fail)) only [Hp.st, Hp.ld, Hp.lda, splice, ble_eq', if_true, if_false, ite_true, ite_false, cond_true, cond_false, decide_true, decide_false, List.length_cons, List.length_nil, List.take_zero, List.take_succ_cons, List.nil_append, List.cons_append, List.append_nil, List.drop_succ_cons, List.drop_zero, List.drop_nil, List.getElem?_cons_succ, List.getElem?_cons_zero, Nat.reduceAdd, Nat.reduceLeDiff, Nat.reduceEqDiff, Nat.zero_add, Nat.add_zero, Nat.le_refl, Nat.zero_le, Nat.succ_ne_self, Nat.mul_one, Int.toNat_natCast, Option.some.injEq, Option.isNone_some, Option.isNone_none, V.int.injEq, V.str.injEq, V.bool.injEq, V.ptr.injEq, V.slc.injEq, V.map.injEq, V.agg.injEq, V.tup.injEq, List.cons.injEq, Prod.mk.injEq, onS, true_and, and_true, and_assoc, exists_and_left, exists_eq_left', forall_eq, heq_eq_eq, reduceCtorEq, Bool.not_true, Bool.not_false, eq_self, not_false_eq_true, Nat.left_eq_add, Nat.add_eq_left, Nat.add_left_cancel_iff, Nat.add_right_cancel_iff, Nat.reduceEqDiff, Nat.one_ne_zero, Hp.get_set_self, Hp.get_set_ne, Hp.get_alloc_self, Hp.get_alloc_ne, Hp.get_alloc_at, Hp.get_set_at, Hp.set_next, Hp.alloc_next, Option.some_ne_none, V.tup.injEq, Option.isSome_some, Option.isSome_none, exists_eq_left, exists_eq, Nat.mul_zero, c3], ?_⟩
        refine (gone_spec (s := w) j3.wf j3.er (by omega)).mono ?_
        rintro _ g4 ⟨rfl, hd, u4, w4⟩
        have c4 := keepE c3 j3.wf u4
        have j4r : RefE x backlog R cnt g4 G := (RefE.rep _ _ _ _).loc _ _ _ (fun j hj => u4.same j ((RefE.rep _ _ _ _).lt j3.wf j3.re hj) fun hf => j3.dis j hf hj) j3.re
        refine ⟨_, rfl, ⟨w, by simp (disch := (first | omega | (simp only [Hp.alloc_next, Hp.set_next] <;> omega) | (simp (disch := (first | omega | (simp only [Hp.alloc_next, Hp.set_next] <;> omega) | fail)) only [Hp.get_set_self, Hp.get_set_ne, Hp.get_alloc_self, Hp.get_alloc_ne, Hp.get_alloc_at, Hp.get_set_at, Hp.set_next, Hp.alloc_next, c4]; done) | fail)) only [Hp.st, Hp.ld, Hp.lda, splice, ble_eq', if_true, if_false, ite_true, ite_false, cond_true, cond_false, decide_true, decide_false, List.length_cons, List.length_nil, List.take_zero, List.take_succ_cons, List.nil_append, List.cons_append, List.append_nil, List.drop_succ_cons, List.drop_zero, List.drop_nil, List.getElem?_cons_succ, List.getElem?_cons_zero, Nat.reduceAdd, Nat.reduceLeDiff, Nat.reduceEqDiff, Nat.zero_add, Nat.add_zero, Nat.le_refl, Nat.zero_le, Nat.succ_ne_self, Nat.mul_one, Int.toNat_natCast, Option.some.injEq, Option.isNone_some, Option.isNone_none, V.int.injEq, V.str.injEq, V.bool.injEq, V.ptr.injEq, V.slc.injEq, V.map.injEq, V.agg.injEq, V.tup.injEq, List.cons.injEq, Prod.mk.injEq, onS, true_and, and_true, and_assoc, exists_and_left, exists_eq_left', forall_eq, heq_eq_eq, reduceCtorEq, Bool.not_true, Bool.not_false, eq_self, not_false_eq_true, Nat.left_eq_add, Nat.add_eq_left, Nat.add_left_cancel_iff, Nat.add_right_cancel_iff, Nat.reduceEqDiff, Nat.one_ne_zero, Hp.get_set_self, Hp.get_set_ne, Hp.get_alloc_self, Hp.get_alloc_ne, Hp.get_alloc_at, Hp.get_set_at, Hp.set_next, Hp.alloc_next, Option.some_ne_none, V.tup.injEq, Option.isSome_some, Option.isSome_none, exists_eq_left, exists_eq, Nat.mul_zero, c4], rfl⟩, by trivial, by trivial, ?_⟩
        refine (rgone_spec (s := w) w4 j4r (by omega) v1.nS).mono ?_
        rintro _ g5 ⟨⟨b, rfl, hb⟩, G', re5, u5, w5⟩
        have c5 := keepR c4 w4 u5
        refine ⟨_, rfl, by trivial, ?_⟩
        rcases hb with ⟨rfl, hno⟩ | ⟨rfl, y, hy, hys⟩
        · have hA := v1.na w hno
          rw [hA] at hd ⊢
          have hR : wo R w = R := List.filter_eq_self.2 fun x hx => by simpa using hno x hx
          rw [hR] at re5
          have j4 := j3.ear u4 (by simpa using hd) w4
          exact ⟨rfl, ⟨_, _, _, _, _, _, _, j4.ref u5 re5 w5, v1, by omega⟩, c5⟩
        · have hA := v1.la y hy
          rw [hys] at hA
          rw [hA] at hd ⊢
          simp only [Option.isSome_some, if_true, Option.getD_some] at hd
          have j4 := j3.ear u4 hd w4
          exact ⟨rfl, ⟨_, _, _, _, _, _, _, j4.ref u5 re5 w5, v1.gone hy hys, by omega⟩, c5⟩
      | false =>
        refine ⟨b3, by simp (disch := (first | omega | (simp only [Hp.alloc_next, Hp.set_next] <;> omega) | (simp (disch := (first | omega | (simp only [Hp.alloc_next, Hp.set_next] <;> omega) | fail)) only [Hp.get_set_self, Hp.get_set_ne, Hp.get_alloc_self, Hp.get_alloc_ne, Hp.get_alloc_at, Hp.get_set_at, Hp.set_next, Hp.alloc_next, c3]; done) | fail)) only [Hp.st, Hp.ld, Hp.lda, splice, ble_eq', if_true, if_false, ite_true, ite_false, cond_true, cond_false, decide_true, decide_false, List.length_cons, List.length_nil, List.take_zero, List.take_succ_cons, List.nil_append, List.cons_append, List.append_nil, List.drop_succ_cons, List.drop_zero, List.drop_nil, List.getElem?_cons_succ, List.getElem?_cons_zero, Nat.reduceAdd, Nat.reduceLeDiff, Nat.reduceEqDiff, Nat.zero_add, Nat.add_zero, Nat.le_refl, Nat.zero_le, Nat.succ_ne_self, Nat.mul_one, Int.toNat_natCast, Option.some.injEq, Option.isNone_some, Option.isNone_none, V.int.injEq, V.str.injEq, V.bool.injEq, V.ptr.injEq, V.slc.injEq, V.map.injEq, V.agg.injEq, V.tup.injEq, List.cons.injEq, Prod.mk.injEq, onS, true_and, and_true, and_assoc, exists_and_left, exists_eq_left', forall_eq, heq_eq_eq, reduceCtorEq, Bool.not_true, Bool.not_false, eq_self, not_false_eq_true, Nat.left_eq_add, Nat.add_eq_left, Nat.add_left_cancel_iff, Nat.add_right_cancel_iff, Nat.reduceEqDiff, Nat.one_ne_zero, Hp.get_set_self, Hp.get_set_ne, Hp.get_alloc_self, Hp.get_alloc_ne, Hp.get_alloc_at, Hp.get_set_at, Hp.set_next, Hp.alloc_next, Option.some_ne_none, V.tup.injEq, Option.isSome_some, Option.isSome_none, exists_eq_left, exists_eq, Nat.mul_zero, c3], ?_⟩
        cases b3 with
        | true =>
          refine (accept_spec j3.wf j3.er (by omega)).mono ?_
          rintro _ g4 ⟨w4, u4, hm⟩
          have c4 := keepE c3 j3.wf u4
          have j4r : RefE x backlog R cnt g4 G := (RefE.rep _ _ _ _).loc _ _ _ (fun j hj => u4.same j ((RefE.rep _ _ _ _).lt j3.wf j3.re hj) fun hf => j3.dis j hf hj) j3.re
          rename_i v9
          obtain ⟨P, S, B, A', Ps', D', R', rfl, er4, v4, hacc⟩ : ∃ (P : Pr) (S : Int) (B : Bool) (A' : List (Int × Ch)) (Ps' : List (Pr × Int)) (D' : List Int) (R' : List Kd), v9 = .tup [prV P, .int .u64 S, .bool B] ∧ EarR r backlog A' Ps' D' g4 F ∧ Rel backlog A' Ps' D' R' cnt ∧
              ∀ (v : V) (g6 h' : Hp), (∃ F', Upd g6 h' G F' ∧ ((v = .tup [prV p0, .int .u64 0, .bool false] ∧ (∀ y ∈ R, ¬ 0 < y.d) ∧ RefE x backlog R cnt h' F') ∨ ∃ y ∈ R, 0 < y.d ∧ (∀ z ∈ R, 0 < z.d → y.d ≤ z.d) ∧ v = .tup [prV y.p, .int .u64 y.s, .bool true] ∧ RefE x backlog (wo R y.s) cnt h' F')) →
                v = .tup [prV P, .int .u64 S, .bool B] ∧ ∃ G', Upd g6 h' G G' ∧ RefE x backlog R' cnt h' G' := by
            cases D with
            | nil =>
              obtain ⟨rfl, er4⟩ := hm
              refine ⟨p0, 0, false, A, Ps, [], R, rfl, er4, v1, fun v g6 h' hh => ?_⟩
              obtain ⟨F', u, hh | ⟨y, hy, hd, _⟩⟩ := hh
              · exact ⟨hh.1, F', u, hh.2.2⟩
              · have : y ∈ dn R := List.mem_filter.2 ⟨hy, decide_eq_true hd⟩
                have := List.length_pos_of_mem this
                rw [← hDl] at this; simp at this
            | cons s D' =>
              obtain ⟨rfl, er4⟩ := hm
              obtain ⟨E, k1, k2, k3⟩ := v1.ex
              cases E with
              | nil => cases k2
              | cons e E =>
                rw [List.map_cons, List.cons.injEq] at k2
                obtain ⟨rfl, rfl⟩ := k2
                rw [List.pairwise_cons] at k1
                obtain ⟨he, hed⟩ := (k3 e).1 (by simp)
                have hA := v1.la e he
                rw [hA] at er4 ⊢
                simp only [Option.isSome_some, if_true, Option.getD_some] at er4
                refine ⟨e.p, e.s, true, _, _, _, wo R e.s, rfl, er4, v1.gone he rfl, fun v g6 h' hh => ?_⟩
                obtain ⟨F', u, hh | ⟨y, hy, hd, hmin, rfl, hre⟩⟩ := hh
                · exact absurd hed (hh.2.1 e he)
                · have hye : y = e := by
                    have h1 := hmin e he hed
                    rcases List.mem_cons.1 ((k3 y).2 ⟨hy, hd⟩) with h | h
                    · exact h
                    · have := k1.1 y h; omega
                  subst hye
                  exact ⟨rfl, F', u, hre⟩
          refine ⟨P.a, P.b, P.c, P.d, S, B, rfl, ?_⟩
          rintro g5 rfl
          refine ⟨_, Hp.st_of Hp.get_alloc_self (Nat.le_of_ble_eq_true rfl), ?_⟩
          obtain ⟨g6, hg6⟩ : ∃ g6, g6 = (g4.alloc (.row [.int .u32 0, .int .u16 0, .int .u32 0, .int .u16 0] 1 false)).set g4.next (.row (splice [.int .u32 0, .int .u16 0, .int .u32 0, .int .u16 0] 0 [.int .u32 P.a, .int .u16 P.b, .int .u32 P.c, .int .u16 P.d]) 1 false) := ⟨_, rfl⟩
          rw [← hg6]
          have p6 : g6.get g4.next = some (.row [.int .u32 P.a, .int .u16 P.b, .int .u32 P.c, .int .u16 P.d] 1 false) := by rw [hg6, Hp.get_set_self]; rfl
          have q6 : Quiet g4 g6 := by rw [hg6]; exact ⟨fun j hj => by simp (disch := (first | omega | (simp only [Hp.alloc_next, Hp.set_next] <;> omega) | (simp (disch := (first | omega | (simp only [Hp.alloc_next, Hp.set_next] <;> omega) | fail)) only [Hp.get_set_self, Hp.get_set_ne, Hp.get_alloc_self, Hp.get_alloc_ne, Hp.get_alloc_at, Hp.get_set_at, Hp.set_next, Hp.alloc_next]; done) | fail)) only [Hp.st, Hp.ld, Hp.lda, splice, ble_eq', if_true, if_false, ite_true, ite_false, cond_true, cond_false, decide_true, decide_false, List.length_cons, List.length_nil, List.take_zero, List.take_succ_cons, List.nil_append, List.cons_append, List.append_nil, List.drop_succ_cons, List.drop_zero, List.drop_nil, List.getElem?_cons_succ, List.getElem?_cons_zero, Nat.reduceAdd, Nat.reduceLeDiff, Nat.reduceEqDiff, Nat.zero_add, Nat.add_zero, Nat.le_refl, Nat.zero_le, Nat.succ_ne_self, Nat.mul_one, Int.toNat_natCast, Option.some.injEq, Option.isNone_some, Option.isNone_none, V.int.injEq, V.str.injEq, V.bool.injEq, V.ptr.injEq, V.slc.injEq, V.map.injEq, V.agg.injEq, V.tup.injEq, List.cons.injEq, Prod.mk.injEq, onS, true_and, and_true, and_assoc, exists_and_left, exists_eq_left', forall_eq, heq_eq_eq, reduceCtorEq, Bool.not_true, Bool.not_false, eq_self, not_false_eq_true, Nat.left_eq_add, Nat.add_eq_left, Nat.add_left_cancel_iff, Nat.add_right_cancel_iff, Nat.reduceEqDiff, Nat.one_ne_zero, Hp.get_set_self, Hp.get_set_ne, Hp.get_alloc_self, Hp.get_alloc_ne, Hp.get_alloc_at, Hp.get_set_at, Hp.set_next, Hp.alloc_next, Option.some_ne_none, V.tup.injEq, Option.isSome_some, Option.isSome_none, exists_eq_left, exists_eq, Nat.mul_zero], by simp (disch := (first | omega | (simp only [Hp.alloc_next, Hp.set_next] <;> omega) | (simp (disch := (first | omega | (simp only [Hp.alloc_next, Hp.set_next] <;> omega) | fail)) only [Hp.get_set_self, Hp.get_set_ne, Hp.get_alloc_self, Hp.get_alloc_ne, Hp.get_alloc_at, Hp.get_set_at, Hp.set_next, Hp.alloc_next]; done) | fail)) only [Hp.st, Hp.ld, Hp.lda, splice, ble_eq', if_true, if_false, ite_true, ite_false, cond_true, cond_false, decide_true, decide_false, List.length_cons, List.length_nil, List.take_zero, List.take_succ_cons, List.nil_append, List.cons_append, List.append_nil, List.drop_succ_cons, List.drop_zero, List.drop_nil, List.getElem?_cons_succ, List.getElem?_cons_zero, Nat.reduceAdd, Nat.reduceLeDiff, Nat.reduceEqDiff, Nat.zero_add, Nat.add_zero, Nat.le_refl, Nat.zero_le, Nat.succ_ne_self, Nat.mul_one, Int.toNat_natCast, Option.some.injEq, Option.isNone_some, Option.isNone_none, V.int.injEq, V.str.injEq, V.bool.injEq, V.ptr.injEq, V.slc.injEq, V.map.injEq, V.agg.injEq, V.tup.injEq, List.cons.injEq, Prod.mk.injEq, onS, true_and, and_true, and_assoc, exists_and_left, exists_eq_left', forall_eq, heq_eq_eq, reduceCtorEq, Bool.not_true, Bool.not_false, eq_self, not_false_eq_true, Nat.left_eq_add, Nat.add_eq_left, Nat.add_left_cancel_iff, Nat.add_right_cancel_iff, Nat.reduceEqDiff, Nat.one_ne_zero, Hp.get_set_self, Hp.get_set_ne, Hp.get_alloc_self, Hp.get_alloc_ne, Hp.get_alloc_at, Hp.get_set_at, Hp.set_next, Hp.alloc_next, Option.some_ne_none, V.tup.injEq, Option.isSome_some, Option.isSome_none, exists_eq_left, exists_eq, Nat.mul_zero]; omega, w4.alloc.set (Nat.lt_succ_self _)⟩
          clear hg6
          have j6 := (j3.ear u4 er4 w4).quiet q6
          have c6 := c4
          rw [← q6.same _ (w4.lt c4)] at c6
          refine (raccept_spec j6.wf j6.re (by omega) v1.nS).mono ?_
          rintro v10 g7 ⟨w7, hh⟩
          obtain ⟨rfl, G', u7, re7⟩ := hacc v10 g6 g7 hh
          have c7 := keepR c6 j6.wf u7
          have l6 := j6.wf.lt p6
          have hGg4 : g4.next ∉ G := fun hj => by have := (RefE.rep _ _ _ _).lt w4 j4r hj; omega
          have p7 : g7.get g4.next = some (.row [.int .u32 P.a, .int .u16 P.b, .int .u32 P.c, .int .u16 P.d] 1 false) := by rw [u7.same _ l6 hGg4]; exact p6
          refine ⟨P.a, P.b, P.c, P.d, S, B, rfl, ?_⟩
          rintro g8 rfl
          refine ⟨_, Hp.st_of Hp.get_alloc_self (Nat.le_of_ble_eq_true rfl), ?_⟩
          obtain ⟨g9, hg9⟩ : ∃ g9, g9 = (g7.alloc (.row [.int .u32 0, .int .u16 0, .int .u32 0, .int .u16 0] 1 false)).set g7.next (.row (splice [.int .u32 0, .int .u16 0, .int .u32 0, .int .u16 0] 0 [.int .u32 P.a, .int .u16 P.b, .int .u32 P.c, .int .u16 P.d]) 1 false) := ⟨_, rfl⟩
          rw [← hg9]
          have p9 : g9.get g7.next = some (.row [.int .u32 P.a, .int .u16 P.b, .int .u32 P.c, .int .u16 P.d] 1 false) := by rw [hg9, Hp.get_set_self]; rfl
          have q9 : Quiet g7 g9 := by rw [hg9]; exact ⟨fun j hj => by simp (disch := (first | omega | (simp only [Hp.alloc_next, Hp.set_next] <;> omega) | (simp (disch := (first | omega | (simp only [Hp.alloc_next, Hp.set_next] <;> omega) | fail)) only [Hp.get_set_self, Hp.get_set_ne, Hp.get_alloc_self, Hp.get_alloc_ne, Hp.get_alloc_at, Hp.get_set_at, Hp.set_next, Hp.alloc_next]; done) | fail)) only [Hp.st, Hp.ld, Hp.lda, splice, ble_eq', if_true, if_false, ite_true, ite_false, cond_true, cond_false, decide_true, decide_false, List.length_cons, List.length_nil, List.take_zero, List.take_succ_cons, List.nil_append, List.cons_append, List.append_nil, List.drop_succ_cons, List.drop_zero, List.drop_nil, List.getElem?_cons_succ, List.getElem?_cons_zero, Nat.reduceAdd, Nat.reduceLeDiff, Nat.reduceEqDiff, Nat.zero_add, Nat.add_zero, Nat.le_refl, Nat.zero_le, Nat.succ_ne_self, Nat.mul_one, Int.toNat_natCast, Option.some.injEq, Option.isNone_some, Option.isNone_none, V.int.injEq, V.str.injEq, V.bool.injEq, V.ptr.injEq, V.slc.injEq, V.map.injEq, V.agg.injEq, V.tup.injEq, List.cons.injEq, Prod.mk.injEq, onS, true_and, and_true, and_assoc, exists_and_left, exists_eq_left', forall_eq, heq_eq_eq, reduceCtorEq, Bool.not_true, Bool.not_false, eq_self, not_false_eq_true, Nat.left_eq_add, Nat.add_eq_left, Nat.add_left_cancel_iff, Nat.add_right_cancel_iff, Nat.reduceEqDiff, Nat.one_ne_zero, Hp.get_set_self, Hp.get_set_ne, Hp.get_alloc_self, Hp.get_alloc_ne, Hp.get_alloc_at, Hp.get_set_at, Hp.set_next, Hp.alloc_next, Option.some_ne_none, V.tup.injEq, Option.isSome_some, Option.isSome_none, exists_eq_left, exists_eq, Nat.mul_zero], by simp (disch := (first | omega | (simp only [Hp.alloc_next, Hp.set_next] <;> omega) | (simp (disch := (first | omega | (simp only [Hp.alloc_next, Hp.set_next] <;> omega) | fail)) only [Hp.get_set_self, Hp.get_set_ne, Hp.get_alloc_self, Hp.get_alloc_ne, Hp.get_alloc_at, Hp.get_set_at, Hp.set_next, Hp.alloc_next]; done) | fail)) only [Hp.st, Hp.ld, Hp.lda, splice, ble_eq', if_true, if_false, ite_true, ite_false, cond_true, cond_false, decide_true, decide_false, List.length_cons, List.length_nil, List.take_zero, List.take_succ_cons, List.nil_append, List.cons_append, List.append_nil, List.drop_succ_cons, List.drop_zero, List.drop_nil, List.getElem?_cons_succ, List.getElem?_cons_zero, Nat.reduceAdd, Nat.reduceLeDiff, Nat.reduceEqDiff, Nat.zero_add, Nat.add_zero, Nat.le_refl, Nat.zero_le, Nat.succ_ne_self, Nat.mul_one, Int.toNat_natCast, Option.some.injEq, Option.isNone_some, Option.isNone_none, V.int.injEq, V.str.injEq, V.bool.injEq, V.ptr.injEq, V.slc.injEq, V.map.injEq, V.agg.injEq, V.tup.injEq, List.cons.injEq, Prod.mk.injEq, onS, true_and, and_true, and_assoc, exists_and_left, exists_eq_left', forall_eq, heq_eq_eq, reduceCtorEq, Bool.not_true, Bool.not_false, eq_self, not_false_eq_true, Nat.left_eq_add, Nat.add_eq_left, Nat.add_left_cancel_iff, Nat.add_right_cancel_iff, Nat.reduceEqDiff, Nat.one_ne_zero, Hp.get_set_self, Hp.get_set_ne, Hp.get_alloc_self, Hp.get_alloc_ne, Hp.get_alloc_at, Hp.get_set_at, Hp.set_next, Hp.alloc_next, Option.some_ne_none, V.tup.injEq, Option.isSome_some, Option.isSome_none, exists_eq_left, exists_eq, Nat.mul_zero]; omega, w7.alloc.set (Nat.lt_succ_self _)⟩
          clear hg9
          have p9' : g9.get g4.next = some (.row [.int .u32 P.a, .int .u16 P.b, .int .u32 P.c, .int .u16 P.d] 1 false) := by rw [q9.same _ (w7.lt p7)]; exact p7
          have c9 := c7
          rw [← q9.same _ (w7.lt c7)] at c9
          have j9 := (j6.ref u7 re7 w7).quiet q9
          refine ⟨P.a, P.b, P.c, P.d, by simp (disch := (first | omega | (simp only [Hp.alloc_next, Hp.set_next] <;> omega) | (simp (disch := (first | omega | (simp only [Hp.alloc_next, Hp.set_next] <;> omega) | fail)) only [Hp.get_set_self, Hp.get_set_ne, Hp.get_alloc_self, Hp.get_alloc_ne, Hp.get_alloc_at, Hp.get_set_at, Hp.set_next, Hp.alloc_next, p9']; done) | fail)) only [Hp.st, Hp.ld, Hp.lda, splice, ble_eq', if_true, if_false, ite_true, ite_false, cond_true, cond_false, decide_true, decide_false, List.length_cons, List.length_nil, List.take_zero, List.take_succ_cons, List.nil_append, List.cons_append, List.append_nil, List.drop_succ_cons, List.drop_zero, List.drop_nil, List.getElem?_cons_succ, List.getElem?_cons_zero, Nat.reduceAdd, Nat.reduceLeDiff, Nat.reduceEqDiff, Nat.zero_add, Nat.add_zero, Nat.le_refl, Nat.zero_le, Nat.succ_ne_self, Nat.mul_one, Int.toNat_natCast, Option.some.injEq, Option.isNone_some, Option.isNone_none, V.int.injEq, V.str.injEq, V.bool.injEq, V.ptr.injEq, V.slc.injEq, V.map.injEq, V.agg.injEq, V.tup.injEq, List.cons.injEq, Prod.mk.injEq, onS, true_and, and_true, and_assoc, exists_and_left, exists_eq_left', forall_eq, heq_eq_eq, reduceCtorEq, Bool.not_true, Bool.not_false, eq_self, not_false_eq_true, Nat.left_eq_add, Nat.add_eq_left, Nat.add_left_cancel_iff, Nat.add_right_cancel_iff, Nat.reduceEqDiff, Nat.one_ne_zero, Hp.get_set_self, Hp.get_set_ne, Hp.get_alloc_self, Hp.get_alloc_ne, Hp.get_alloc_at, Hp.get_set_at, Hp.set_next, Hp.alloc_next, Option.some_ne_none, V.tup.injEq, Option.isSome_some, Option.isSome_none, exists_eq_left, exists_eq, Nat.mul_zero, p9'], P.a, P.b, P.c, P.d, by simp (disch := (first | omega | (simp only [Hp.alloc_next, Hp.set_next] <;> omega) | (simp (disch := (first | omega | (simp only [Hp.alloc_next, Hp.set_next] <;> omega) | fail)) only [Hp.get_set_self, Hp.get_set_ne, Hp.get_alloc_self, Hp.get_alloc_ne, Hp.get_alloc_at, Hp.get_set_at, Hp.set_next, Hp.alloc_next, p9]; done) | fail)) only [Hp.st, Hp.ld, Hp.lda, splice, ble_eq', if_true, if_false, ite_true, ite_false, cond_true, cond_false, decide_true, decide_false, List.length_cons, List.length_nil, List.take_zero, List.take_succ_cons, List.nil_append, List.cons_append, List.append_nil, List.drop_succ_cons, List.drop_zero, List.drop_nil, List.getElem?_cons_succ, List.getElem?_cons_zero, Nat.reduceAdd, Nat.reduceLeDiff, Nat.reduceEqDiff, Nat.zero_add, Nat.add_zero, Nat.le_refl, Nat.zero_le, Nat.succ_ne_self, Nat.mul_one, Int.toNat_natCast, Option.some.injEq, Option.isNone_some, Option.isNone_none, V.int.injEq, V.str.injEq, V.bool.injEq, V.ptr.injEq, V.slc.injEq, V.map.injEq, V.agg.injEq, V.tup.injEq, List.cons.injEq, Prod.mk.injEq, onS, true_and, and_true, and_assoc, exists_and_left, exists_eq_left', forall_eq, heq_eq_eq, reduceCtorEq, Bool.not_true, Bool.not_false, eq_self, not_false_eq_true, Nat.left_eq_add, Nat.add_eq_left, Nat.add_left_cancel_iff, Nat.add_right_cancel_iff, Nat.reduceEqDiff, Nat.one_ne_zero, Hp.get_set_self, Hp.get_set_ne, Hp.get_alloc_self, Hp.get_alloc_ne, Hp.get_alloc_at, Hp.get_set_at, Hp.set_next, Hp.alloc_next, Option.some_ne_none, V.tup.injEq, Option.isSome_some, Option.isSome_none, exists_eq_left, exists_eq, Nat.mul_zero, p9], ?_⟩
          simp only [beq_self_eq_true, Bool.and_self, cond_true]
          exact ⟨by trivial, by trivial, ⟨_, _, _, _, _, _, _, j9, v4, by omega⟩, c9⟩
        | false =>
          refine ⟨kp, by simp (disch := (first | omega | (simp only [Hp.alloc_next, Hp.set_next] <;> omega) | (simp (disch := (first | omega | (simp only [Hp.alloc_next, Hp.set_next] <;> omega) | fail)) only [Hp.get_set_self, Hp.get_set_ne, Hp.get_alloc_self, Hp.get_alloc_ne, Hp.get_alloc_at, Hp.get_set_at, Hp.set_next, Hp.alloc_next, c3]; done) | fail)) only [Hp.st, Hp.ld, Hp.lda, splice, ble_eq', if_true, if_false, ite_true, ite_false, cond_true, cond_false, decide_true, decide_false, List.length_cons, List.length_nil, List.take_zero, List.take_succ_cons, List.nil_append, List.cons_append, List.append_nil, List.drop_succ_cons, List.drop_zero, List.drop_nil, List.getElem?_cons_succ, List.getElem?_cons_zero, Nat.reduceAdd, Nat.reduceLeDiff, Nat.reduceEqDiff, Nat.zero_add, Nat.add_zero, Nat.le_refl, Nat.zero_le, Nat.succ_ne_self, Nat.mul_one, Int.toNat_natCast, Option.some.injEq, Option.isNone_some, Option.isNone_none, V.int.injEq, V.str.injEq, V.bool.injEq, V.ptr.injEq, V.slc.injEq, V.map.injEq, V.agg.injEq, V.tup.injEq, List.cons.injEq, Prod.mk.injEq, onS, true_and, and_true, and_assoc, exists_and_left, exists_eq_left', forall_eq, heq_eq_eq, reduceCtorEq, Bool.not_true, Bool.not_false, eq_self, not_false_eq_true, Nat.left_eq_add, Nat.add_eq_left, Nat.add_left_cancel_iff, Nat.add_right_cancel_iff, Nat.reduceEqDiff, Nat.one_ne_zero, Hp.get_set_self, Hp.get_set_ne, Hp.get_alloc_self, Hp.get_alloc_ne, Hp.get_alloc_at, Hp.get_set_at, Hp.set_next, Hp.alloc_next, Option.some_ne_none, V.tup.injEq, Option.isSome_some, Option.isSome_none, exists_eq_left, exists_eq, Nat.mul_zero, c3], w, by simp (disch := (first | omega | (simp only [Hp.alloc_next, Hp.set_next] <;> omega) | (simp (disch := (first | omega | (simp only [Hp.alloc_next, Hp.set_next] <;> omega) | fail)) only [Hp.get_set_self, Hp.get_set_ne, Hp.get_alloc_self, Hp.get_alloc_ne, Hp.get_alloc_at, Hp.get_set_at, Hp.set_next, Hp.alloc_next, c3]; done) | fail)) only [Hp.st, Hp.ld, Hp.lda, splice, ble_eq', if_true, if_false, ite_true, ite_false, cond_true, cond_false, decide_true, decide_false, List.length_cons, List.length_nil, List.take_zero, List.take_succ_cons, List.nil_append, List.cons_append, List.append_nil, List.drop_succ_cons, List.drop_zero, List.drop_nil, List.getElem?_cons_succ, List.getElem?_cons_zero, Nat.reduceAdd, Nat.reduceLeDiff, Nat.reduceEqDiff, Nat.zero_add, Nat.add_zero, Nat.le_refl, Nat.zero_le, Nat.succ_ne_self, Nat.mul_one, Int.toNat_natCast, Option.some.injEq, Option.isNone_some, Option.isNone_none, V.int.injEq, V.str.injEq, V.bool.injEq, V.ptr.injEq, V.slc.injEq, V.map.injEq, V.agg.injEq, V.tup.injEq, List.cons.injEq, Prod.mk.injEq, onS, true_and, and_true, and_assoc, exists_and_left, exists_eq_left', forall_eq, heq_eq_eq, reduceCtorEq, Bool.not_true, Bool.not_false, eq_self, not_false_eq_true, Nat.left_eq_add, Nat.add_eq_left, Nat.add_left_cancel_iff, Nat.add_right_cancel_iff, Nat.reduceEqDiff, Nat.one_ne_zero, Hp.get_set_self, Hp.get_set_ne, Hp.get_alloc_self, Hp.get_alloc_ne, Hp.get_alloc_at, Hp.get_set_at, Hp.set_next, Hp.alloc_next, Option.some_ne_none, V.tup.injEq, Option.isSome_some, Option.isSome_none, exists_eq_left, exists_eq, Nat.mul_zero, c3], kp, by simp (disch := (first | omega | (simp only [Hp.alloc_next, Hp.set_next] <;> omega) | (simp (disch := (first | omega | (simp only [Hp.alloc_next, Hp.set_next] <;> omega) | fail)) only [Hp.get_set_self, Hp.get_set_ne, Hp.get_alloc_self, Hp.get_alloc_ne, Hp.get_alloc_at, Hp.get_set_at, Hp.set_next, Hp.alloc_next, c3]; done) | fail)) only [Hp.st, Hp.ld, Hp.lda, splice, ble_eq', if_true, if_false, ite_true, ite_false, cond_true, cond_false, decide_true, decide_false, List.length_cons, List.length_nil, List.take_zero, List.take_succ_cons, List.nil_append, List.cons_append, List.append_nil, List.drop_succ_cons, List.drop_zero, List.drop_nil, List.getElem?_cons_succ, List.getElem?_cons_zero, Nat.reduceAdd, Nat.reduceLeDiff, Nat.reduceEqDiff, Nat.zero_add, Nat.add_zero, Nat.le_refl, Nat.zero_le, Nat.succ_ne_self, Nat.mul_one, Int.toNat_natCast, Option.some.injEq, Option.isNone_some, Option.isNone_none, V.int.injEq, V.str.injEq, V.bool.injEq, V.ptr.injEq, V.slc.injEq, V.map.injEq, V.agg.injEq, V.tup.injEq, List.cons.injEq, Prod.mk.injEq, onS, true_and, and_true, and_assoc, exists_and_left, exists_eq_left', forall_eq, heq_eq_eq, reduceCtorEq, Bool.not_true, Bool.not_false, eq_self, not_false_eq_true, Nat.left_eq_add, Nat.add_eq_left, Nat.add_left_cancel_iff, Nat.add_right_cancel_iff, Nat.reduceEqDiff, Nat.one_ne_zero, Hp.get_set_self, Hp.get_set_ne, Hp.get_alloc_self, Hp.get_alloc_ne, Hp.get_alloc_at, Hp.get_set_at, Hp.set_next, Hp.alloc_next, Option.some_ne_none, V.tup.injEq, Option.isSome_some, Option.isSome_none, exists_eq_left, exists_eq, Nat.mul_zero, c3], w, by simp (disch := (first | omega | (simp only [Hp.alloc_next, Hp.set_next] <;> omega) | (simp (disch := (first | omega | (simp only [Hp.alloc_next, Hp.set_next] <;> omega) | fail)) only [Hp.get_set_self, Hp.get_set_ne, Hp.get_alloc_self, Hp.get_alloc_ne, Hp.get_alloc_at, Hp.get_set_at, Hp.set_next, Hp.alloc_next, c3]; done) | fail)) only [Hp.st, Hp.ld, Hp.lda, splice, ble_eq', if_true, if_false, ite_true, ite_false, cond_true, cond_false, decide_true, decide_false, List.length_cons, List.length_nil, List.take_zero, List.take_succ_cons, List.nil_append, List.cons_append, List.append_nil, List.drop_succ_cons, List.drop_zero, List.drop_nil, List.getElem?_cons_succ, List.getElem?_cons_zero, Nat.reduceAdd, Nat.reduceLeDiff, Nat.reduceEqDiff, Nat.zero_add, Nat.add_zero, Nat.le_refl, Nat.zero_le, Nat.succ_ne_self, Nat.mul_one, Int.toNat_natCast, Option.some.injEq, Option.isNone_some, Option.isNone_none, V.int.injEq, V.str.injEq, V.bool.injEq, V.ptr.injEq, V.slc.injEq, V.map.injEq, V.agg.injEq, V.tup.injEq, List.cons.injEq, Prod.mk.injEq, onS, true_and, and_true, and_assoc, exists_and_left, exists_eq_left', forall_eq, heq_eq_eq, reduceCtorEq, Bool.not_true, Bool.not_false, eq_self, not_false_eq_true, Nat.left_eq_add, Nat.add_eq_left, Nat.add_left_cancel_iff, Nat.add_right_cancel_iff, Nat.reduceEqDiff, Nat.one_ne_zero, Hp.get_set_self, Hp.get_set_ne, Hp.get_alloc_self, Hp.get_alloc_ne, Hp.get_alloc_at, Hp.get_set_at, Hp.set_next, Hp.alloc_next, Option.some_ne_none, V.tup.injEq, Option.isSome_some, Option.isSome_none, exists_eq_left, exists_eq, Nat.mul_zero, c3], ?_⟩
          refine (pair_spec j3.wf).mono ?_
          rintro _ g4 ⟨rfl, q4⟩
          have c4 := c3
          rw [← q4.same _ l3] at c4
          have j4 := j3.quiet q4
          refine ⟨_, _, _, _, rfl, ⟨w, by simp (disch := (first | omega | (simp only [Hp.alloc_next, Hp.set_next] <;> omega) | (simp (disch := (first | omega | (simp only [Hp.alloc_next, Hp.set_next] <;> omega) | fail)) only [Hp.get_set_self, Hp.get_set_ne, Hp.get_alloc_self, Hp.get_alloc_ne, Hp.get_alloc_at, Hp.get_set_at, Hp.set_next, Hp.alloc_next, c4]; done) | fail)) only [Hp.st, Hp.ld, Hp.lda, splice, ble_eq', if_true, if_false, ite_true, ite_false, cond_true, cond_false, decide_true, decide_false, List.length_cons, List.length_nil, List.take_zero, List.take_succ_cons, List.nil_append, List.cons_append, List.append_nil, List.drop_succ_cons, List.drop_zero, List.drop_nil, List.getElem?_cons_succ, List.getElem?_cons_zero, Nat.reduceAdd, Nat.reduceLeDiff, Nat.reduceEqDiff, Nat.zero_add, Nat.add_zero, Nat.le_refl, Nat.zero_le, Nat.succ_ne_self, Nat.mul_one, Int.toNat_natCast, Option.some.injEq, Option.isNone_some, Option.isNone_none, V.int.injEq, V.str.injEq, V.bool.injEq, V.ptr.injEq, V.slc.injEq, V.map.injEq, V.agg.injEq, V.tup.injEq, List.cons.injEq, Prod.mk.injEq, onS, true_and, and_true, and_assoc, exists_and_left, exists_eq_left', forall_eq, heq_eq_eq, reduceCtorEq, Bool.not_true, Bool.not_false, eq_self, not_false_eq_true, Nat.left_eq_add, Nat.add_eq_left, Nat.add_left_cancel_iff, Nat.add_right_cancel_iff, Nat.reduceEqDiff, Nat.one_ne_zero, Hp.get_set_self, Hp.get_set_ne, Hp.get_alloc_self, Hp.get_alloc_ne, Hp.get_alloc_at, Hp.get_set_at, Hp.set_next, Hp.alloc_next, Option.some_ne_none, V.tup.injEq, Option.isSome_some, Option.isSome_none, exists_eq_left, exists_eq, Nat.mul_zero, c4], rfl⟩, by trivial, ⟨kp, by simp (disch := (first | omega | (simp only [Hp.alloc_next, Hp.set_next] <;> omega) | (simp (disch := (first | omega | (simp only [Hp.alloc_next, Hp.set_next] <;> omega) | fail)) only [Hp.get_set_self, Hp.get_set_ne, Hp.get_alloc_self, Hp.get_alloc_ne, Hp.get_alloc_at, Hp.get_set_at, Hp.set_next, Hp.alloc_next, c4]; done) | fail)) only [Hp.st, Hp.ld, Hp.lda, splice, ble_eq', if_true, if_false, ite_true, ite_false, cond_true, cond_false, decide_true, decide_false, List.length_cons, List.length_nil, List.take_zero, List.take_succ_cons, List.nil_append, List.cons_append, List.append_nil, List.drop_succ_cons, List.drop_zero, List.drop_nil, List.getElem?_cons_succ, List.getElem?_cons_zero, Nat.reduceAdd, Nat.reduceLeDiff, Nat.reduceEqDiff, Nat.zero_add, Nat.add_zero, Nat.le_refl, Nat.zero_le, Nat.succ_ne_self, Nat.mul_one, Int.toNat_natCast, Option.some.injEq, Option.isNone_some, Option.isNone_none, V.int.injEq, V.str.injEq, V.bool.injEq, V.ptr.injEq, V.slc.injEq, V.map.injEq, V.agg.injEq, V.tup.injEq, List.cons.injEq, Prod.mk.injEq, onS, true_and, and_true, and_assoc, exists_and_left, exists_eq_left', forall_eq, heq_eq_eq, reduceCtorEq, Bool.not_true, Bool.not_false, eq_self, not_false_eq_true, Nat.left_eq_add, Nat.add_eq_left, Nat.add_left_cancel_iff, Nat.add_right_cancel_iff, Nat.reduceEqDiff, Nat.one_ne_zero, Hp.get_set_self, Hp.get_set_ne, Hp.get_alloc_self, Hp.get_alloc_ne, Hp.get_alloc_at, Hp.get_set_at, Hp.set_next, Hp.alloc_next, Option.some_ne_none, V.tup.injEq, Option.isSome_some, Option.isSome_none, exists_eq_left, exists_eq, Nat.mul_zero, c4], rfl⟩, by trivial, by trivial, ⟨w, by simp (disch := (first | omega | (simp only [Hp.alloc_next, Hp.set_next] <;> omega) | (simp (disch := (first | omega | (simp only [Hp.alloc_next, Hp.set_next] <;> omega) | fail)) only [Hp.get_set_self, Hp.get_set_ne, Hp.get_alloc_self, Hp.get_alloc_ne, Hp.get_alloc_at, Hp.get_set_at, Hp.set_next, Hp.alloc_next, c4]; done) | fail)) only [Hp.st, Hp.ld, Hp.lda, splice, ble_eq', if_true, if_false, ite_true, ite_false, cond_true, cond_false, decide_true, decide_false, List.length_cons, List.length_nil, List.take_zero, List.take_succ_cons, List.nil_append, List.cons_append, List.append_nil, List.drop_succ_cons, List.drop_zero, List.drop_nil, List.getElem?_cons_succ, List.getElem?_cons_zero, Nat.reduceAdd, Nat.reduceLeDiff, Nat.reduceEqDiff, Nat.zero_add, Nat.add_zero, Nat.le_refl, Nat.zero_le, Nat.succ_ne_self, Nat.mul_one, Int.toNat_natCast, Option.some.injEq, Option.isNone_some, Option.isNone_none, V.int.injEq, V.str.injEq, V.bool.injEq, V.ptr.injEq, V.slc.injEq, V.map.injEq, V.agg.injEq, V.tup.injEq, List.cons.injEq, Prod.mk.injEq, onS, true_and, and_true, and_assoc, exists_and_left, exists_eq_left', forall_eq, heq_eq_eq, reduceCtorEq, Bool.not_true, Bool.not_false, eq_self, not_false_eq_true, Nat.left_eq_add, Nat.add_eq_left, Nat.add_left_cancel_iff, Nat.add_right_cancel_iff, Nat.reduceEqDiff, Nat.one_ne_zero, Hp.get_set_self, Hp.get_set_ne, Hp.get_alloc_self, Hp.get_alloc_ne, Hp.get_alloc_at, Hp.get_set_at, Hp.set_next, Hp.alloc_next, Option.some_ne_none, V.tup.injEq, Option.isSome_some, Option.isSome_none, exists_eq_left, exists_eq, Nat.mul_zero, c4], rfl⟩, by trivial, by trivial, ?_⟩
          refine (child_spec (s := w) (p := ⟨1, 80, 2, IntKind.u16.wrap kp⟩) j4.wf j4.er (by omega) (by omega)).mono ?_
          rintro _ g5 ⟨rfl, hd, u5, w5⟩
          have c5 := keepE c4 j4.wf u5
          obtain ⟨A', Ps', er5⟩ : ∃ A' Ps', EarR r backlog A' Ps' D g5 F := by split at hd <;> exact ⟨_, _, hd⟩
          have j5 := j4.ear u5 er5 w5
          refine ⟨_, rfl, ⟨w, by simp (disch := (first | omega | (simp only [Hp.alloc_next, Hp.set_next] <;> omega) | (simp (disch := (first | omega | (simp only [Hp.alloc_next, Hp.set_next] <;> omega) | fail)) only [Hp.get_set_self, Hp.get_set_ne, Hp.get_alloc_self, Hp.get_alloc_ne, Hp.get_alloc_at, Hp.get_set_at, Hp.set_next, Hp.alloc_next, c5]; done) | fail)) only [Hp.st, Hp.ld, Hp.lda, splice, ble_eq', if_true, if_false, ite_true, ite_false, cond_true, cond_false, decide_true, decide_false, List.length_cons, List.length_nil, List.take_zero, List.take_succ_cons, List.nil_append, List.cons_append, List.append_nil, List.drop_succ_cons, List.drop_zero, List.drop_nil, List.getElem?_cons_succ, List.getElem?_cons_zero, Nat.reduceAdd, Nat.reduceLeDiff, Nat.reduceEqDiff, Nat.zero_add, Nat.add_zero, Nat.le_refl, Nat.zero_le, Nat.succ_ne_self, Nat.mul_one, Int.toNat_natCast, Option.some.injEq, Option.isNone_some, Option.isNone_none, V.int.injEq, V.str.injEq, V.bool.injEq, V.ptr.injEq, V.slc.injEq, V.map.injEq, V.agg.injEq, V.tup.injEq, List.cons.injEq, Prod.mk.injEq, onS, true_and, and_true, and_assoc, exists_and_left, exists_eq_left', forall_eq, heq_eq_eq, reduceCtorEq, Bool.not_true, Bool.not_false, eq_self, not_false_eq_true, Nat.left_eq_add, Nat.add_eq_left, Nat.add_left_cancel_iff, Nat.add_right_cancel_iff, Nat.reduceEqDiff, Nat.one_ne_zero, Hp.get_set_self, Hp.get_set_ne, Hp.get_alloc_self, Hp.get_alloc_ne, Hp.get_alloc_at, Hp.get_set_at, Hp.set_next, Hp.alloc_next, Option.some_ne_none, V.tup.injEq, Option.isSome_some, Option.isSome_none, exists_eq_left, exists_eq, Nat.mul_zero, c5], rfl⟩, by trivial, ⟨kp, by simp (disch := (first | omega | (simp only [Hp.alloc_next, Hp.set_next] <;> omega) | (simp (disch := (first | omega | (simp only [Hp.alloc_next, Hp.set_next] <;> omega) | fail)) only [Hp.get_set_self, Hp.get_set_ne, Hp.get_alloc_self, Hp.get_alloc_ne, Hp.get_alloc_at, Hp.get_set_at, Hp.set_next, Hp.alloc_next, c5]; done) | fail)) only [Hp.st, Hp.ld, Hp.lda, splice, ble_eq', if_true, if_false, ite_true, ite_false, cond_true, cond_false, decide_true, decide_false, List.length_cons, List.length_nil, List.take_zero, List.take_succ_cons, List.nil_append, List.cons_append, List.append_nil, List.drop_succ_cons, List.drop_zero, List.drop_nil, List.getElem?_cons_succ, List.getElem?_cons_zero, Nat.reduceAdd, Nat.reduceLeDiff, Nat.reduceEqDiff, Nat.zero_add, Nat.add_zero, Nat.le_refl, Nat.zero_le, Nat.succ_ne_self, Nat.mul_one, Int.toNat_natCast, Option.some.injEq, Option.isNone_some, Option.isNone_none, V.int.injEq, V.str.injEq, V.bool.injEq, V.ptr.injEq, V.slc.injEq, V.map.injEq, V.agg.injEq, V.tup.injEq, List.cons.injEq, Prod.mk.injEq, onS, true_and, and_true, and_assoc, exists_and_left, exists_eq_left', forall_eq, heq_eq_eq, reduceCtorEq, Bool.not_true, Bool.not_false, eq_self, not_false_eq_true, Nat.left_eq_add, Nat.add_eq_left, Nat.add_left_cancel_iff, Nat.add_right_cancel_iff, Nat.reduceEqDiff, Nat.one_ne_zero, Hp.get_set_self, Hp.get_set_ne, Hp.get_alloc_self, Hp.get_alloc_ne, Hp.get_alloc_at, Hp.get_set_at, Hp.set_next, Hp.alloc_next, Option.some_ne_none, V.tup.injEq, Option.isSome_some, Option.isSome_none, exists_eq_left, exists_eq, Nat.mul_zero, c5], rfl⟩, by trivial, by trivial, ?_⟩
          refine (pair_spec w5).mono ?_
          rintro _ g6 ⟨rfl, q6⟩
          have c6 := c5
          rw [← q6.same _ (w5.lt c5)] at c6
          have j6 := j5.quiet q6
          refine ⟨_, _, _, _, rfl, ⟨w, by simp (disch := (first | omega | (simp only [Hp.alloc_next, Hp.set_next] <;> omega) | (simp (disch := (first | omega | (simp only [Hp.alloc_next, Hp.set_next] <;> omega) | fail)) only [Hp.get_set_self, Hp.get_set_ne, Hp.get_alloc_self, Hp.get_alloc_ne, Hp.get_alloc_at, Hp.get_set_at, Hp.set_next, Hp.alloc_next, c6]; done) | fail)) only [Hp.st, Hp.ld, Hp.lda, splice, ble_eq', if_true, if_false, ite_true, ite_false, cond_true, cond_false, decide_true, decide_false, List.length_cons, List.length_nil, List.take_zero, List.take_succ_cons, List.nil_append, List.cons_append, List.append_nil, List.drop_succ_cons, List.drop_zero, List.drop_nil, List.getElem?_cons_succ, List.getElem?_cons_zero, Nat.reduceAdd, Nat.reduceLeDiff, Nat.reduceEqDiff, Nat.zero_add, Nat.add_zero, Nat.le_refl, Nat.zero_le, Nat.succ_ne_self, Nat.mul_one, Int.toNat_natCast, Option.some.injEq, Option.isNone_some, Option.isNone_none, V.int.injEq, V.str.injEq, V.bool.injEq, V.ptr.injEq, V.slc.injEq, V.map.injEq, V.agg.injEq, V.tup.injEq, List.cons.injEq, Prod.mk.injEq, onS, true_and, and_true, and_assoc, exists_and_left, exists_eq_left', forall_eq, heq_eq_eq, reduceCtorEq, Bool.not_true, Bool.not_false, eq_self, not_false_eq_true, Nat.left_eq_add, Nat.add_eq_left, Nat.add_left_cancel_iff, Nat.add_right_cancel_iff, Nat.reduceEqDiff, Nat.one_ne_zero, Hp.get_set_self, Hp.get_set_ne, Hp.get_alloc_self, Hp.get_alloc_ne, Hp.get_alloc_at, Hp.get_set_at, Hp.set_next, Hp.alloc_next, Option.some_ne_none, V.tup.injEq, Option.isSome_some, Option.isSome_none, exists_eq_left, exists_eq, Nat.mul_zero, c6], rfl⟩, by trivial, by trivial, ?_⟩
          refine (rchild_spec (s := w) (p := ⟨1, 80, 2, IntKind.u16.wrap kp⟩) j6.wf j6.re (by omega) v1.z).mono ?_
          rintro _ g7 ⟨c, G', rfl, w7, u7, hcase, re7⟩
          have c7 := keepR c6 j6.wf u7
          have hcc : c = childCode backlog A Ps D ⟨1, 80, 2, IntKind.u16.wrap kp⟩ w := by
            unfold childCode
            rcases hcase with ⟨rfl, hw0⟩ | ⟨hw0, ⟨rfl, hx⟩ | ⟨h1, h2, rfl⟩⟩
            · rw [if_pos hw0]
            · rw [if_neg hw0, if_pos]
              rcases hx with ⟨y, hy, rfl⟩ | ⟨y, hy, hyp⟩
              · exact .inl (by rw [v1.la y hy]; rfl)
              · exact .inr (by rw [← hyp, v1.lp y hy]; rfl)
            · have hn : ¬ ((mget A w).isSome = true ∨ (mget Ps (⟨1, 80, 2, IntKind.u16.wrap kp⟩ : Pr)).isSome = true) := by rw [v1.na w h1, v1.np _ h2]; simp
              rw [if_neg hw0, if_neg hn, hAR, hDl]
          rw [← hcc]
          rw [← hcc] at hd
          refine ⟨_, rfl, by trivial, by simp, ?_, c7⟩
          by_cases hc : c = 0
          · rw [if_pos hc] at hd re7
            have h0 : childCode backlog A Ps D ⟨1, 80, 2, IntKind.u16.wrap kp⟩ w = 0 := by rw [← hcc, hc]
            rcases hcase with ⟨h, _⟩ | ⟨hw0, ⟨h, _⟩ | ⟨h1, h2, h3⟩⟩
            · omega
            · omega
            · have hnb : ¬ (backlog ≤ (R.length : Int) - (dn R).length ∨ backlog ≤ (dn R).length) := fun hh => by rw [if_pos hh] at h3; omega
              exact ⟨_, _, _, _, _, _, _, ((j4.ear u5 hd w5).quiet q6).ref u7 re7 w7, v1.child hw0 h1 h2 (by omega), by omega⟩
          · rw [if_neg hc] at hd re7
            exact ⟨_, _, _, _, _, _, _, ((j4.ear u5 hd w5).quiet q6).ref u7 re7 w7, v1, by omega⟩
  clear v1 hcnt hAD hop hdn hAR hDl hc0 keepE keepR hF hG j1 j3
  rintro bs2 b g4 ⟨rfl, ⟨A, Ps, D, R, cnt, F, G, j4, v1, hcnt⟩, c4⟩
  have hAD := v1.inv.le
  have hop := v1.inv.op
  have hdn := v1.inv.dn
  have hAR := v1.lenA
  have hDl := v1.dlen
  have l4 := j4.wf.lt c4
  refine ⟨kp, by simp (disch := (first | omega | (simp only [Hp.alloc_next, Hp.set_next] <;> omega) | (simp (disch := (first | omega | (simp only [Hp.alloc_next, Hp.set_next] <;> omega) | fail)) only [Hp.get_set_self, Hp.get_set_ne, Hp.get_alloc_self, Hp.get_alloc_ne, Hp.get_alloc_at, Hp.get_set_at, Hp.set_next, Hp.alloc_next, c4]; done) | fail)) only [Hp.st, Hp.ld, Hp.lda, splice, ble_eq', if_true, if_false, ite_true, ite_false, cond_true, cond_false, decide_true, decide_false, List.length_cons, List.length_nil, List.take_zero, List.take_succ_cons, List.nil_append, List.cons_append, List.append_nil, List.drop_succ_cons, List.drop_zero, List.drop_nil, List.getElem?_cons_succ, List.getElem?_cons_zero, Nat.reduceAdd, Nat.reduceLeDiff, Nat.reduceEqDiff, Nat.zero_add, Nat.add_zero, Nat.le_refl, Nat.zero_le, Nat.succ_ne_self, Nat.mul_one, Int.toNat_natCast, Option.some.injEq, Option.isNone_some, Option.isNone_none, V.int.injEq, V.str.injEq, V.bool.injEq, V.ptr.injEq, V.slc.injEq, V.map.injEq, V.agg.injEq, V.tup.injEq, List.cons.injEq, Prod.mk.injEq, onS, true_and, and_true, and_assoc, exists_and_left, exists_eq_left', forall_eq, heq_eq_eq, reduceCtorEq, Bool.not_true, Bool.not_false, eq_self, not_false_eq_true, Nat.left_eq_add, Nat.add_eq_left, Nat.add_left_cancel_iff, Nat.add_right_cancel_iff, Nat.reduceEqDiff, Nat.one_ne_zero, Hp.get_set_self, Hp.get_set_ne, Hp.get_alloc_self, Hp.get_alloc_ne, Hp.get_alloc_at, Hp.get_set_at, Hp.set_next, Hp.alloc_next, Option.some_ne_none, V.tup.injEq, Option.isSome_some, Option.isSome_none, exists_eq_left, exists_eq, Nat.mul_zero, c4], ?_⟩
  refine (pair_spec j4.wf).mono ?_
  rintro _ g5 ⟨rfl, q5⟩
  have j5 := j4.quiet q5
  obtain ⟨p, hp⟩ : ∃ p : Pr, p = ⟨1, 80, 2, IntKind.u16.wrap kp⟩ := ⟨_, rfl⟩
  rw [← hp]
  refine ⟨_, _, _, _, rfl, ?_⟩
  refine (of_spec (p := p) j5.wf j5.er).mono ?_
  rintro _ g6 ⟨rfl, q6⟩
  have j6 := j5.quiet q6
  refine ⟨_, _, rfl, ?_⟩
  refine (len_spec j6.er (by omega) (by omega)).mono ?_
  rintro _ g7 ⟨rfl, rfl⟩
  refine ⟨_, _, rfl, ?_⟩
  refine (rlen_spec j6.re (by omega)).mono ?_
  rintro _ g8 ⟨rfl, rfl⟩
  refine ⟨_, _, rfl, ?_⟩
  refine (all_spec j6.wf j6.er (by omega)).mono ?_
  rintro _ g9 ⟨a9, f9, l, H, rfl, hperm, hrise, hO, q9, hH⟩
  have j9 := j6.quiet q9
  have q49 := (q5.trans q6).trans q9
  have c9 := c4
  rw [← q49.same _ l4] at c9
  refine ⟨_, _, _, rfl, ?_⟩
  simp only [Bool.not_true, cond_false]
  refine ⟨kp, by simp (disch := (first | omega | (simp only [Hp.alloc_next, Hp.set_next] <;> omega) | (simp (disch := (first | omega | (simp only [Hp.alloc_next, Hp.set_next] <;> omega) | fail)) only [Hp.get_set_self, Hp.get_set_ne, Hp.get_alloc_self, Hp.get_alloc_ne, Hp.get_alloc_at, Hp.get_set_at, Hp.set_next, Hp.alloc_next, c9]; done) | fail)) only [Hp.st, Hp.ld, Hp.lda, splice, ble_eq', if_true, if_false, ite_true, ite_false, cond_true, cond_false, decide_true, decide_false, List.length_cons, List.length_nil, List.take_zero, List.take_succ_cons, List.nil_append, List.cons_append, List.append_nil, List.drop_succ_cons, List.drop_zero, List.drop_nil, List.getElem?_cons_succ, List.getElem?_cons_zero, Nat.reduceAdd, Nat.reduceLeDiff, Nat.reduceEqDiff, Nat.zero_add, Nat.add_zero, Nat.le_refl, Nat.zero_le, Nat.succ_ne_self, Nat.mul_one, Int.toNat_natCast, Option.some.injEq, Option.isNone_some, Option.isNone_none, V.int.injEq, V.str.injEq, V.bool.injEq, V.ptr.injEq, V.slc.injEq, V.map.injEq, V.agg.injEq, V.tup.injEq, List.cons.injEq, Prod.mk.injEq, onS, true_and, and_true, and_assoc, exists_and_left, exists_eq_left', forall_eq, heq_eq_eq, reduceCtorEq, Bool.not_true, Bool.not_false, eq_self, not_false_eq_true, Nat.left_eq_add, Nat.add_eq_left, Nat.add_left_cancel_iff, Nat.add_right_cancel_iff, Nat.reduceEqDiff, Nat.one_ne_zero, Hp.get_set_self, Hp.get_set_ne, Hp.get_alloc_self, Hp.get_alloc_ne, Hp.get_alloc_at, Hp.get_set_at, Hp.set_next, Hp.alloc_next, Option.some_ne_none, V.tup.injEq, Option.isSome_some, Option.isSome_none, exists_eq_left, exists_eq, Nat.mul_zero, c9], ?_⟩
  refine (pair_spec j9.wf).mono ?_
  rintro _ g10 ⟨rfl, q10⟩
  have j10 := j9.quiet q10
  rw [← hp]
  refine ⟨_, _, _, _, rfl, ?_⟩
  refine (rpair_spec (p := p) j10.wf j10.re (by omega)).mono ?_
  rintro _ g11 ⟨t, rfl, q11, ht⟩
  have j11 := j10.quiet q11
  refine ⟨_, rfl, ?_⟩
  have hof : (mget Ps p).getD 0 = t ∧ (mget Ps p).isSome = (t != 0) := by
    rcases ht with ⟨rfl, hno⟩ | ⟨y, hy, hyp, rfl⟩
    · rw [v1.np p hno]; exact ⟨rfl, rfl⟩
    · rw [← hyp, v1.lp y hy]
      have := v1.z y hy
      exact ⟨rfl, by simp [this]⟩
  rw [hof.1, hof.2, hAR, hDl]
  simp only [bne_self_eq_false, beq_self_eq_true, Bool.not_true, cond_false]
  have e9 : IntKind.i64.wrap ((R.length : Int) - (dn R).length + (dn R).length) = (R.length : Int) := by rw [wr (by omega) (by omega)]; omega
  rw [e9]
  simp only [bne_self_eq_false, cond_false]
  have hll : l.length = R.length := by rw [hperm.length_eq, List.length_map, hAR]
  have hnd : l.Nodup := hperm.nodup_iff.2 v1.inv.nA
  have hO11 : Own 1 a9 A.length (sing (uL l)) g11 H := by
    have := (Own.rep _ _ _ _).stay j9.wf hO (q10.trans q11).same
    have e : (l.map fun s => [V.int .u64 s]) = sing (uL l) := by simp [sing, uL]
    rw [e] at this; exact this
  have hmem : ∀ s ∈ l, ∃ y ∈ R, y.s = s := fun s hs => by
    have h1 := (mget_mem A s).2 (hperm.mem_iff.1 hs)
    apply Classical.byContradiction
    intro hno
    exact h1 (v1.na s fun y hy e => hno ⟨y, hy, e⟩)
  refine ⟨fun vs g' => match vs with
    | [.int _ i] => g' = g11 ∧ ∃ m : Nat, i = m ∧ m ≤ R.length
    | _ => False, fun vs _ => match vs with
    | [.int _ i] => R.length - i.toNat
    | _ => 0, ⟨by trivial, rfl, 0, rfl, by omega⟩, ?_⟩
  rintro bs3 i3 g12 ⟨rfl, m, rfl, hm⟩
  cases hi3 : ltI (↑m) (↑R.length) with
  | false =>
    rw [hw1]
    exact ⟨by trivial, ⟨k + 1, rfl, by omega, A, Ps, D, R, cnt, F, G, j11, v1, by omega⟩, by simp only [Int.toNat_natCast]; omega⟩
  | true =>
    rw [ltI_eq, decide_eq_true_eq] at hi3
    have hm' : m < R.length := by omega
    have hx : l[m]? = some l[m] := List.getElem?_eq_getElem (by omega)
    obtain ⟨q0, o0, rfl, hl0⟩ := hO11.ow.ld1 (uL_get hx)
    have hwm : IntKind.i64.wrap ((m : Int) + 1) = ((m + 1 : Nat) : Int) := wrap_succ (n := R.length) hm' (by omega)
    have tm : ((m : Int)).toNat = m := by omega
    refine ⟨⟨by omega, hi3⟩, l[m], by rw [tm]; exact hl0, ?_⟩
    refine (rat_spec j11.re (by omega)).mono ?_
    rintro _ g13 ⟨at', rfl, rfl, hat⟩
    refine ⟨_, rfl, ?_⟩
    rcases hat with ⟨rfl, hno⟩ | ⟨k3, y, rfl, hk3, hy3⟩
    · obtain ⟨y, hy, e⟩ := hmem l[m] (List.getElem_mem _)
      exact absurd e (hno y hy)
    have ck : ltI (↑k3) 0 = false := by rw [ltI_eq, decide_eq_false_iff_not]; omega
    rw [ck]
    simp only [cond_false]
    cases hp0 : ltI 0 (↑m) with
    | false =>
      rw [hwm]
      exact ⟨by trivial, ⟨by trivial, m + 1, rfl, by omega⟩, by simp only [Int.toNat_natCast]; omega⟩
    | true =>
      rw [ltI_eq, decide_eq_true_eq] at hp0
      have hx1 : l[m - 1]? = some l[m - 1] := List.getElem?_eq_getElem (by omega)
      obtain ⟨q1', o1', e1', hl1⟩ := hO11.ow.ld1 (uL_get hx1)
      cases e1'
      rw [wr (x := (m : Int) - 1) (by omega) (by omega)]
      have tm1 : ((m : Int) - 1).toNat = m - 1 := by omega
      refine ⟨⟨by omega, by omega⟩, l[m - 1], by rw [tm1]; exact hl1, ⟨by omega, hi3⟩, l[m], by rw [tm]; exact hl0, ?_⟩
      have clt : ltI l[m - 1] l[m] = true := by
        rw [ltI_eq, decide_eq_true_eq]
        have h1 := List.pairwise_iff_getElem.1 hrise (m - 1) m (by omega) (by omega) (by omega)
        have h2 : l[m - 1] ≠ l[m] := fun e => by
          have := (List.getElem_inj hnd).1 e
          omega
        omega
      rw [clt, hwm]
      simp only [Bool.not_true, cond_false]
      exact ⟨by trivial, ⟨by trivial, m + 1, rfl, by omega⟩, by simp only [Int.toNat_natCast]; omega⟩
end Go.Vex.EarPlays

namespace Go.Proofs.Ytappaengiioblaa.earPlays
open Go.ChangeShapes Go.WideShapes Go.ChangeAt Go.RowKit Go.Vex Go.Vex.EarPlays
open Go.ChangeMaps (open_string shut_string)

theorem own : ownKnob Try.prog.godebug = none := by kernel_rfl

set_option maxRecDepth 100000 in
theorem lifted (os : Os) (started : os.Started) (H : Type) (enc : TypeId × Value → H) :
    ReturnsInHanded {} Try.checked os 7 .any (Rows.earPlaysSpec.pre6 enc Try.prog Try.f7 Rows.earPlaysRow.domain false) (Rows.earPlaysSpec.post enc Try.prog Try.f7 false true false false) := by
  refine returnsInHanded_of_change_sized (C := Try.checked) own started (by kernel_rfl) Try.func7
    (ChangeSpec.witness6 (enc := enc) (C := Try.checked) false ⟨#[], #[.int .i64 0, .slice none 0 0], []⟩ 8 (by kernel_rfl) (by kernel_rfl) (by kernel_rfl) (by kernel_rfl)) ?_
  intro W base args ds gs before hval0 hW hcnd hsz _
  have hval : ∀ (j : Nat) t v, Try.f7.params[j]? = some t → args[j]? = some v → Value.okWide Try.prog W .any base t v := hval0
  have hW' := hW
  obtain ⟨p, q, hA0, hV, rfl, hfz, hnd⟩ := hW
  have hA : DataW.TrodAll enc Try.prog W 0 (fun _ => true) true Try.f7.params.toList args.toList ds p := hA0
  rw [Try.params7] at hA hval hsz
  obtain ⟨v0, vs0, d0, ds0, p0, q0, hargs, rfl, rfl, h0, r0⟩ := trodAll_cons hA
  obtain ⟨v1, vs1, d1, ds1, p1, q1, rfl, rfl, rfl, h1, r1⟩ := trodAll_cons r0
  obtain ⟨rfl, rfl, rfl⟩ := trodAll_nil r1
  obtain rfl : args = #[v0, v1] := by cases args; simp_all
  obtain ⟨rfl, rfl⟩ := trodVars_none hV
  obtain ⟨a0, rfl, rfl, rfl, w0⟩ := open_int Try.underlying3 (hval 0 3 v0 rfl rfl) h0
  obtain ⟨ρ1, hp1, b1, n1, f1, rows1, s1, x1, l1, k1, vr1, ro1, sh1, z1⟩ := arg_slice tok (T := Vex.T) (t := 22) (e := 31) (d := 5) (zs := stepZ) rfl rfl rfl rfl rfl (by decide) (hval 1 22 v1 rfl rfl) h1 (fun m hm => hW'.lt m (by simp [hm])) (fun m hm => by simpa using List.all_eq_true.1 hsz m (DataW.weights_mem_each (j := 1) (t := 22) rfl rfl m hm)) (Sat.none W fun _ => ⟨0, 0, 0, 0⟩)
  refine (XCalls.true' s1 (vs := [.int .i64 a0, .slc b1 n1 f1]) ⟨_, _, rfl, rfl, ⟨_, _, rfl, vr1, rfl⟩⟩ (law_calls a0 w0 ro1 sh1 z1)).mono fun e W' ⟨he, hb⟩ => ?_
  subst he
  exact ⟨_, rfl, post_true (by kernel_rfl) hW' hb rfl (fun gs hg => by subst hg; rfl) (tb := 4) rfl Try.underlying4 (by decide +kernel)⟩

theorem over : Rows.earPlaysRow.holds Try.pinned (OpenSpec.ofChange Rows.earPlaysSpec) :=
  OpenClaim.holds_of_wide 7 Try.f7 rfl rfl rfl rfl rfl rfl rfl ⟨rfl, rfl, rfl, rfl, rfl⟩ rfl rfl rfl rfl rfl (by kernel_rfl) Try.func7 (by kernel_rfl)
    (of_decide_eq_true (by kernel_rfl)) (by unfold Func.isWrapper; first | (rw [if_pos (by decide +kernel)]; kernel_rfl) | (rw [if_neg (by decide +kernel)]; exact ⟨rfl, rfl⟩))
    (fun os started H enc _ => lifted os started H enc)

theorem proved : Rows.EarPlaysSaid :=
  over
#print axioms proved
end Go.Proofs.Ytappaengiioblaa.earPlays

