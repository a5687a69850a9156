/-
  The reference of ports, third part: Who; and that both, side by side, answer the same.
-/
import Derived.Test.YtehihinmgejpaaaVexEE
import Derived.Test.YtehihinmgejpaaaTab22
import Derived.Test.YtehihinmgejpaaaXp22
import Derived.Test.YtehihinmgejpaaaXpq22
import Derived.Test.YtehihinmgejpaaaCpa22
import Derived.Test.YtehihinmgejpaaaCpb22
import Derived.Test.YtehihinmgejpaaaCpc22
import Derived.Test.YtehihinmgejpaaaCpd22
import Derived.Test.YtehihinmgejpaaaXs22
import Derived.Test.YtehihinmgejpaaaCsa22
import Derived.Test.YtehihinmgejpaaaCsb22
import Derived.Test.YtehihinmgejpaaaCsc22
import Derived.Test.YtehihinmgejpaaaCsd22
import Derived.Test.YtehihinmgejpaaaCpe22
import Derived.Test.YtehihinmgejpaaaCpr22
import Derived.Test.YtehihinmgejpaaaCps22
set_option linter.unusedVariables false
set_option linter.unusedSimpArgs false
namespace Go.Vex.Ports
open Go.Proofs

/-! ### Who -/

def uL (l : List Int) : List (List V) := l.map fun s => [V.int .u64 s]

structure WI (h : Hp) (row : O) (L1 L2 : List Int) (a1 : Option (Nat × Nat)) (n1 : Nat) (a2 : Option (Nat × Nat)) (n2 : Nat) (G1 G2 : List Nat) (g : Hp) : Prop where
  q : Quiet h g
  rw : g.get h.next = some row
  o1 : Own 1 a1 n1 (uL L1) g G1
  o2 : Own 1 a2 n2 (uL L2) g G2
  dis : ∀ j ∈ G1, j ∉ G2
  lo1 : ∀ j ∈ G1, h.next < j
  lo2 : ∀ j ∈ G2, h.next < j

section
variable {h g g' : Hp} {row : O} {L1 L2 : List Int} {a1 a2 : Option (Nat × Nat)} {n1 n2 : Nat} {G1 G2 : List Nat} {s : Int} {f : Bool}

theorem WI.swap (w : WI h row L1 L2 a1 n1 a2 n2 G1 G2 g) : WI h row L2 L1 a2 n2 a1 n1 G2 G1 g := ⟨w.q, w.rw, w.o2, w.o1, fun j h1 h2 => w.dis j h2 h1, w.lo2, w.lo1⟩

theorem WI.quiet (w : WI h row L1 L2 a1 n1 a2 n2 G1 G2 g) (q : Quiet g g') : WI h row L1 L2 a1 n1 a2 n2 G1 G2 g' :=
  ⟨w.q.trans q, by rw [q.same _ (w.q.wf.lt w.rw)]; exact w.rw, (Own.rep _ _ _ _).stay w.q.wf w.o1 q.same, (Own.rep _ _ _ _).stay w.q.wf w.o2 q.same, w.dis, w.lo1, w.lo2⟩

theorem WI.app1 (w : WI h row L1 L2 a1 n1 a2 n2 G1 G2 g) (hn : n1 ≤ 1024) : ∃ a' G' h', xapp T (g.alloc (.row [.int .u64 s] 1 false)) 46 46 (.slc a1 n1 f) (.slc (some (g.next, 0)) 1 true) = some (.slc a' (n1 + 1) false, h') ∧
    WI h row (L1 ++ [s]) L2 a' (n1 + 1) a2 n2 G' G2 h' ∧ Upd g h' G1 G' := by
  have q := Quiet.alloc w.q.wf (.row [.int .u64 s] 1 false)
  have w1 := w.quiet q
  have hc : (g.alloc (.row [.int .u64 s] 1 false)).get g.next = some (.row [.int .u64 s] 1 false) := Hp.get_alloc_self
  obtain ⟨ti, ht, hd⟩ := tS
  obtain ⟨ei, he, hs, hb, hz⟩ := tE
  have hud : ∀ k, ti.d ≠ .int k := fun k e => by rw [hd] at e; cases e
  obtain ⟨h', hx, ho, u, wf⟩ := w1.o1.app (f := f) q.wf ht hd ht hud he hs (by omega) hz (news := [[.int .u64 s]]) (xnews_one hc rfl) (by simp) (by simp) (by have := Nat.mul_le_mul (show n1 + 1 ≤ 2048 by omega) hb; simp only [List.length_singleton]; omega) (by simp; omega)
  have hg := w.q.wf.lt w.rw
  have hql := w.q.le
  have h1n : ∀ j, j < h.next + 1 → j ∉ G1 := fun j hj hG => by have := w.lo1 j hG; omega
  refine ⟨_, _, h', hx, ⟨⟨fun j hj => ?_, ?_, wf⟩, ?_, ?_, (Own.rep _ _ _ _).loc _ _ _ (fun j hj => u.same j ?_ fun hG => w.dis j hG hj) w1.o2, fun j hj hG => ?_, fun j hj => ?_, w.lo2⟩, (q.upd _).trans u⟩
  · rw [u.same j (by simp (disch := (first | omega | (simp only [Hp.alloc_next, Hp.set_next] <;> omega) | (simp (disch := (first | omega | (simp only [Hp.alloc_next, Hp.set_next] <;> omega) | fail)) only [Hp.get_set_self, Hp.get_set_ne, Hp.get_alloc_self, Hp.get_alloc_ne, Hp.get_alloc_at, Hp.get_set_at, Hp.set_next, Hp.alloc_next]; done) | fail)) only [Hp.st, Hp.ld, Hp.lda, splice, ble_eq', if_true, if_false, ite_true, ite_false, cond_true, cond_false, decide_true, decide_false, List.length_cons, List.length_nil, List.take_zero, List.take_succ_cons, List.nil_append, List.cons_append, List.append_nil, List.drop_succ_cons, List.drop_zero, List.drop_nil, List.getElem?_cons_succ, List.getElem?_cons_zero, Nat.reduceAdd, Nat.reduceLeDiff, Nat.reduceEqDiff, Nat.zero_add, Nat.add_zero, Nat.le_refl, Nat.zero_le, Nat.succ_ne_self, Nat.mul_one, Int.toNat_natCast, Option.some.injEq, Option.isNone_some, Option.isNone_none, V.int.injEq, V.str.injEq, V.bool.injEq, V.ptr.injEq, V.slc.injEq, V.map.injEq, V.agg.injEq, V.tup.injEq, List.cons.injEq, Prod.mk.injEq, onS, true_and, and_true, and_assoc, exists_and_left, exists_eq_left', forall_eq, heq_eq_eq, reduceCtorEq, Bool.not_true, Bool.not_false, eq_self, not_false_eq_true, Nat.left_eq_add, Nat.add_eq_left, Nat.add_left_cancel_iff, Nat.add_right_cancel_iff, Nat.reduceEqDiff, Nat.one_ne_zero, Hp.get_set_self, Hp.get_set_ne, Hp.get_alloc_self, Hp.get_alloc_ne, Hp.get_alloc_at, Hp.get_set_at, Hp.set_next, Hp.alloc_next, Option.some_ne_none, V.tup.injEq, Option.isSome_some, Option.isSome_none, exists_eq_left, exists_eq, Nat.mul_zero]; omega) (h1n j (by omega)), q.same j (by omega)]; exact w.q.same j hj
  · have := u.le; have := q.le; omega
  · rw [u.same _ (by simp (disch := (first | omega | (simp only [Hp.alloc_next, Hp.set_next] <;> omega) | (simp (disch := (first | omega | (simp only [Hp.alloc_next, Hp.set_next] <;> omega) | fail)) only [Hp.get_set_self, Hp.get_set_ne, Hp.get_alloc_self, Hp.get_alloc_ne, Hp.get_alloc_at, Hp.get_set_at, Hp.set_next, Hp.alloc_next]; done) | fail)) only [Hp.st, Hp.ld, Hp.lda, splice, ble_eq', if_true, if_false, ite_true, ite_false, cond_true, cond_false, decide_true, decide_false, List.length_cons, List.length_nil, List.take_zero, List.take_succ_cons, List.nil_append, List.cons_append, List.append_nil, List.drop_succ_cons, List.drop_zero, List.drop_nil, List.getElem?_cons_succ, List.getElem?_cons_zero, Nat.reduceAdd, Nat.reduceLeDiff, Nat.reduceEqDiff, Nat.zero_add, Nat.add_zero, Nat.le_refl, Nat.zero_le, Nat.succ_ne_self, Nat.mul_one, Int.toNat_natCast, Option.some.injEq, Option.isNone_some, Option.isNone_none, V.int.injEq, V.str.injEq, V.bool.injEq, V.ptr.injEq, V.slc.injEq, V.map.injEq, V.agg.injEq, V.tup.injEq, List.cons.injEq, Prod.mk.injEq, onS, true_and, and_true, and_assoc, exists_and_left, exists_eq_left', forall_eq, heq_eq_eq, reduceCtorEq, Bool.not_true, Bool.not_false, eq_self, not_false_eq_true, Nat.left_eq_add, Nat.add_eq_left, Nat.add_left_cancel_iff, Nat.add_right_cancel_iff, Nat.reduceEqDiff, Nat.one_ne_zero, Hp.get_set_self, Hp.get_set_ne, Hp.get_alloc_self, Hp.get_alloc_ne, Hp.get_alloc_at, Hp.get_set_at, Hp.set_next, Hp.alloc_next, Option.some_ne_none, V.tup.injEq, Option.isSome_some, Option.isSome_none, exists_eq_left, exists_eq, Nat.mul_zero]; omega) (h1n _ (by omega))]; exact w1.rw
  · have : uL (L1 ++ [s]) = uL L1 ++ [[.int .u64 s]] := by simp [uL]
    rw [this]; exact ho
  · exact (Own.rep _ _ _ _).lt w1.q.wf w1.o2 hj
  · rw [List.mem_singleton] at hj
    have := (Own.rep _ _ _ _).lt w1.q.wf w1.o2 hG
    omega
  · rw [List.mem_singleton] at hj
    subst hj
    simp (disch := (first | omega | (simp only [Hp.alloc_next, Hp.set_next] <;> omega) | (simp (disch := (first | omega | (simp only [Hp.alloc_next, Hp.set_next] <;> omega) | fail)) only [Hp.get_set_self, Hp.get_set_ne, Hp.get_alloc_self, Hp.get_alloc_ne, Hp.get_alloc_at, Hp.get_set_at, Hp.set_next, Hp.alloc_next]; done) | fail)) only [Hp.st, Hp.ld, Hp.lda, splice, ble_eq', if_true, if_false, ite_true, ite_false, cond_true, cond_false, decide_true, decide_false, List.length_cons, List.length_nil, List.take_zero, List.take_succ_cons, List.nil_append, List.cons_append, List.append_nil, List.drop_succ_cons, List.drop_zero, List.drop_nil, List.getElem?_cons_succ, List.getElem?_cons_zero, Nat.reduceAdd, Nat.reduceLeDiff, Nat.reduceEqDiff, Nat.zero_add, Nat.add_zero, Nat.le_refl, Nat.zero_le, Nat.succ_ne_self, Nat.mul_one, Int.toNat_natCast, Option.some.injEq, Option.isNone_some, Option.isNone_none, V.int.injEq, V.str.injEq, V.bool.injEq, V.ptr.injEq, V.slc.injEq, V.map.injEq, V.agg.injEq, V.tup.injEq, List.cons.injEq, Prod.mk.injEq, onS, true_and, and_true, and_assoc, exists_and_left, exists_eq_left', forall_eq, heq_eq_eq, reduceCtorEq, Bool.not_true, Bool.not_false, eq_self, not_false_eq_true, Nat.left_eq_add, Nat.add_eq_left, Nat.add_left_cancel_iff, Nat.add_right_cancel_iff, Nat.reduceEqDiff, Nat.one_ne_zero, Hp.get_set_self, Hp.get_set_ne, Hp.get_alloc_self, Hp.get_alloc_ne, Hp.get_alloc_at, Hp.get_set_at, Hp.set_next, Hp.alloc_next, Option.some_ne_none, V.tup.injEq, Option.isSome_some, Option.isSome_none, exists_eq_left, exists_eq, Nat.mul_zero]; omega
end

theorem atL_take {R : List (Int × Bd)} {kd ip port : Int} {k : Nat} {x : Int × Bd} (hx : R[k]? = some x) : atL (R.take (k + 1)) kd ip port = atL (R.take k) kd ip port ++ (if atB kd ip port x.2 then [x.1] else []) := by
  obtain ⟨hk, e⟩ := List.getElem?_eq_some_iff.1 hx
  rw [List.take_succ_eq_append_getElem hk, e]
  unfold atL
  rw [List.filter_append, List.map_append]
  congr 1
  cases hb : atB kd ip port x.2 <;> simp [hb]

theorem atL_len {R : List (Int × Bd)} {kd ip port : Int} {k : Nat} : (atL (R.take k) kd ip port).length ≤ R.length := by
  unfold atL
  rw [List.length_map]
  exact Nat.le_trans (List.length_filter_le _ _) (by rw [List.length_take]; omega)

theorem rwho_spec {h : Hp} {p : Nat} {R : List (Int × Bd)} {F : List Nat} {kd ip port : Int} (hw : h.wf) (r : RefP p R h F) (hn : R.length ≤ 1024) :
    XCalls Try.prog 15 [.ptr (some (p, 0)), .int .u8 kd, .agg [.int .u32 ip, .int .u16 port]] h fun v h' => ∃ a n f G, v = .slc a n f ∧ Own 1 a n (uL (whoL R kd ip port)) h' G ∧ (∀ j ∈ G, h.next ≤ j) ∧ Quiet h h' := by
  refine XCalls.cps fun K hK => ?_
  have hp0 : p < h.next := (RefP.rep _ _).lt hw r (by obtain ⟨_, _, _, _, _, rfl, _⟩ := r; simp)
  apply x15; unfold X15
  rintro g1 rfl
  refine ⟨fun vs g => match vs with
    | [.slc a1 n1 f1, .slc a2 n2 f2, .int _ i] => ∃ (k : Nat) (G1 G2 : List Nat), i = k ∧ k ≤ R.length ∧ WI h (.row [.int .u32 ip, .int .u16 port] 1 false) (atL (R.take k) kd ip port) (atL (R.take k) kd 0 port) a1 n1 a2 n2 G1 G2 g
    | _ => False, fun vs _ => match vs with
    | [_, _, .int _ i] => R.length - i.toNat
    | _ => 0, ⟨rfl, 0, [], [], rfl, by omega, ⟨Quiet.alloc hw _, Hp.get_alloc_self, Own.nil _ _, Own.nil _ _, by simp, by simp, by simp⟩⟩, ?_⟩
  rintro bs a1 n1 f1 a2 n2 f2 i g ⟨k, G1, G2, rfl, hk, w⟩
  have rg := r.quiet hw w.q
  obtain ⟨a, f, hg, hel⟩ := rg.hd
  refine ⟨a, R.length, f, by simp (disch := (first | omega | (simp only [Hp.alloc_next, Hp.set_next] <;> omega) | (simp (disch := (first | omega | (simp only [Hp.alloc_next, Hp.set_next] <;> omega) | fail)) only [Hp.get_set_self, Hp.get_set_ne, Hp.get_alloc_self, Hp.get_alloc_ne, Hp.get_alloc_at, Hp.get_set_at, Hp.set_next, Hp.alloc_next, hg]; done) | fail)) only [Hp.st, Hp.ld, Hp.lda, splice, ble_eq', if_true, if_false, ite_true, ite_false, cond_true, cond_false, decide_true, decide_false, List.length_cons, List.length_nil, List.take_zero, List.take_succ_cons, List.nil_append, List.cons_append, List.append_nil, List.drop_succ_cons, List.drop_zero, List.drop_nil, List.getElem?_cons_succ, List.getElem?_cons_zero, Nat.reduceAdd, Nat.reduceLeDiff, Nat.reduceEqDiff, Nat.zero_add, Nat.add_zero, Nat.le_refl, Nat.zero_le, Nat.succ_ne_self, Nat.mul_one, Int.toNat_natCast, Option.some.injEq, Option.isNone_some, Option.isNone_none, V.int.injEq, V.str.injEq, V.bool.injEq, V.ptr.injEq, V.slc.injEq, V.map.injEq, V.agg.injEq, V.tup.injEq, List.cons.injEq, Prod.mk.injEq, onS, true_and, and_true, and_assoc, exists_and_left, exists_eq_left', forall_eq, heq_eq_eq, reduceCtorEq, Bool.not_true, Bool.not_false, eq_self, not_false_eq_true, Nat.left_eq_add, Nat.add_eq_left, Nat.add_left_cancel_iff, Nat.add_right_cancel_iff, Nat.reduceEqDiff, Nat.one_ne_zero, Hp.get_set_self, Hp.get_set_ne, Hp.get_alloc_self, Hp.get_alloc_ne, Hp.get_alloc_at, Hp.get_set_at, Hp.set_next, Hp.alloc_next, Option.some_ne_none, V.tup.injEq, Option.isSome_some, Option.isSome_none, exists_eq_left, exists_eq, Nat.mul_zero, hg], ?_⟩
  have hl1 : n1 = (atL (R.take k) kd ip port).length := by have := w.o1.1; simp [uL] at this; exact this.symm
  have hl2 : n2 = (atL (R.take k) kd 0 port).length := by have := w.o2.1; simp [uL] at this; exact this.symm
  have hb1 := atL_len (R := R) (kd := kd) (ip := ip) (port := port) (k := k)
  have hb2 := atL_len (R := R) (kd := kd) (ip := 0) (port := port) (k := k)
  cases hi : ltI (↑k) (↑R.length) with
  | false =>
    rw [ltI_eq, decide_eq_false_iff_not] at hi
    have ht : R.take k = R := List.take_of_length_le (by omega)
    rw [ht] at w hl1 hl2
    have lo1 : ∀ j ∈ G1, h.next ≤ j := fun j hj => Nat.le_of_lt (w.lo1 j hj)
    have lo2 : ∀ j ∈ G2, h.next ≤ j := fun j hj => Nat.le_of_lt (w.lo2 j hj)
    cases hz : ltI 0 (↑n1) with
    | true =>
      rw [ltI_eq, decide_eq_true_eq] at hz
      refine hK _ _ ⟨_, _, _, G1, rfl, ?_, lo1, w.q⟩
      unfold whoL
      rw [if_neg (fun e => by rw [e] at hl1; simp at hl1; omega)]
      exact w.o1
    | false =>
      rw [ltI_eq, decide_eq_false_iff_not] at hz
      refine hK _ _ ⟨_, _, _, G2, rfl, ?_, lo2, w.q⟩
      unfold whoL
      rw [if_pos (List.eq_nil_of_length_eq_zero (by omega))]
      exact w.o2
  | true =>
    rw [ltI_eq, decide_eq_true_eq] at hi
    have hk' : k < R.length := by omega
    obtain ⟨x, hx⟩ : ∃ x, R[k]? = some x := ⟨_, List.getElem?_eq_getElem hk'⟩
    have e1 := atL_take (kd := kd) (ip := ip) (port := port) hx
    have e2 := atL_take (kd := kd) (ip := 0) (port := port) hx
    obtain ⟨q, o, ha, hld1, hld2⟩ := hel k x hx
    subst ha
    have hw1 := wrap_succ hk' (show R.length ≤ 9223372036854775807 by omega)
    refine ⟨some (q, o), R.length, f, by simp (disch := (first | omega | (simp only [Hp.alloc_next, Hp.set_next] <;> omega) | (simp (disch := (first | omega | (simp only [Hp.alloc_next, Hp.set_next] <;> omega) | fail)) only [Hp.get_set_self, Hp.get_set_ne, Hp.get_alloc_self, Hp.get_alloc_ne, Hp.get_alloc_at, Hp.get_set_at, Hp.set_next, Hp.alloc_next, hg]; done) | fail)) only [Hp.st, Hp.ld, Hp.lda, splice, ble_eq', if_true, if_false, ite_true, ite_false, cond_true, cond_false, decide_true, decide_false, List.length_cons, List.length_nil, List.take_zero, List.take_succ_cons, List.nil_append, List.cons_append, List.append_nil, List.drop_succ_cons, List.drop_zero, List.drop_nil, List.getElem?_cons_succ, List.getElem?_cons_zero, Nat.reduceAdd, Nat.reduceLeDiff, Nat.reduceEqDiff, Nat.zero_add, Nat.add_zero, Nat.le_refl, Nat.zero_le, Nat.succ_ne_self, Nat.mul_one, Int.toNat_natCast, Option.some.injEq, Option.isNone_some, Option.isNone_none, V.int.injEq, V.str.injEq, V.bool.injEq, V.ptr.injEq, V.slc.injEq, V.map.injEq, V.agg.injEq, V.tup.injEq, List.cons.injEq, Prod.mk.injEq, onS, true_and, and_true, and_assoc, exists_and_left, exists_eq_left', forall_eq, heq_eq_eq, reduceCtorEq, Bool.not_true, Bool.not_false, eq_self, not_false_eq_true, Nat.left_eq_add, Nat.add_eq_left, Nat.add_left_cancel_iff, Nat.add_right_cancel_iff, Nat.reduceEqDiff, Nat.one_ne_zero, Hp.get_set_self, Hp.get_set_ne, Hp.get_alloc_self, Hp.get_alloc_ne, Hp.get_alloc_at, Hp.get_set_at, Hp.set_next, Hp.alloc_next, Option.some_ne_none, V.tup.injEq, Option.isSome_some, Option.isSome_none, exists_eq_left, exists_eq, Nat.mul_zero, hg], ⟨by omega, hi⟩, x.2.kind, x.2.ip, x.2.port, x.2.share, hld2, ?_⟩
    rintro g2 rfl
    refine ⟨_, Hp.st_of Hp.get_alloc_self (Nat.le_of_ble_eq_true rfl), ?_⟩
    obtain ⟨g3, hg3⟩ : ∃ g3, g3 = (g.alloc (.row [.int .u8 0, .int .u32 0, .int .u16 0, .bool false] 1 false)).set g.next (.row (splice [.int .u8 0, .int .u32 0, .int .u16 0, .bool false] 0 [.int .u8 x.2.kind, .int .u32 x.2.ip, .int .u16 x.2.port, .bool x.2.share]) 1 false) := ⟨_, rfl⟩
    rw [← hg3]
    have c3 : g3.get g.next = some (.row [.int .u8 x.2.kind, .int .u32 x.2.ip, .int .u16 x.2.port, .bool x.2.share] 1 false) := by rw [hg3, Hp.get_set_self]; rfl
    have q3 : Quiet g g3 := by rw [hg3]; exact ⟨fun j hj => by simp (disch := (first | omega | (simp only [Hp.alloc_next, Hp.set_next] <;> omega) | (simp (disch := (first | omega | (simp only [Hp.alloc_next, Hp.set_next] <;> omega) | fail)) only [Hp.get_set_self, Hp.get_set_ne, Hp.get_alloc_self, Hp.get_alloc_ne, Hp.get_alloc_at, Hp.get_set_at, Hp.set_next, Hp.alloc_next]; done) | fail)) only [Hp.st, Hp.ld, Hp.lda, splice, ble_eq', if_true, if_false, ite_true, ite_false, cond_true, cond_false, decide_true, decide_false, List.length_cons, List.length_nil, List.take_zero, List.take_succ_cons, List.nil_append, List.cons_append, List.append_nil, List.drop_succ_cons, List.drop_zero, List.drop_nil, List.getElem?_cons_succ, List.getElem?_cons_zero, Nat.reduceAdd, Nat.reduceLeDiff, Nat.reduceEqDiff, Nat.zero_add, Nat.add_zero, Nat.le_refl, Nat.zero_le, Nat.succ_ne_self, Nat.mul_one, Int.toNat_natCast, Option.some.injEq, Option.isNone_some, Option.isNone_none, V.int.injEq, V.str.injEq, V.bool.injEq, V.ptr.injEq, V.slc.injEq, V.map.injEq, V.agg.injEq, V.tup.injEq, List.cons.injEq, Prod.mk.injEq, onS, true_and, and_true, and_assoc, exists_and_left, exists_eq_left', forall_eq, heq_eq_eq, reduceCtorEq, Bool.not_true, Bool.not_false, eq_self, not_false_eq_true, Nat.left_eq_add, Nat.add_eq_left, Nat.add_left_cancel_iff, Nat.add_right_cancel_iff, Nat.reduceEqDiff, Nat.one_ne_zero, Hp.get_set_self, Hp.get_set_ne, Hp.get_alloc_self, Hp.get_alloc_ne, Hp.get_alloc_at, Hp.get_set_at, Hp.set_next, Hp.alloc_next, Option.some_ne_none, V.tup.injEq, Option.isSome_some, Option.isSome_none, exists_eq_left, exists_eq, Nat.mul_zero], by simp (disch := (first | omega | (simp only [Hp.alloc_next, Hp.set_next] <;> omega) | (simp (disch := (first | omega | (simp only [Hp.alloc_next, Hp.set_next] <;> omega) | fail)) only [Hp.get_set_self, Hp.get_set_ne, Hp.get_alloc_self, Hp.get_alloc_ne, Hp.get_alloc_at, Hp.get_set_at, Hp.set_next, Hp.alloc_next]; done) | fail)) only [Hp.st, Hp.ld, Hp.lda, splice, ble_eq', if_true, if_false, ite_true, ite_false, cond_true, cond_false, decide_true, decide_false, List.length_cons, List.length_nil, List.take_zero, List.take_succ_cons, List.nil_append, List.cons_append, List.append_nil, List.drop_succ_cons, List.drop_zero, List.drop_nil, List.getElem?_cons_succ, List.getElem?_cons_zero, Nat.reduceAdd, Nat.reduceLeDiff, Nat.reduceEqDiff, Nat.zero_add, Nat.add_zero, Nat.le_refl, Nat.zero_le, Nat.succ_ne_self, Nat.mul_one, Int.toNat_natCast, Option.some.injEq, Option.isNone_some, Option.isNone_none, V.int.injEq, V.str.injEq, V.bool.injEq, V.ptr.injEq, V.slc.injEq, V.map.injEq, V.agg.injEq, V.tup.injEq, List.cons.injEq, Prod.mk.injEq, onS, true_and, and_true, and_assoc, exists_and_left, exists_eq_left', forall_eq, heq_eq_eq, reduceCtorEq, Bool.not_true, Bool.not_false, eq_self, not_false_eq_true, Nat.left_eq_add, Nat.add_eq_left, Nat.add_left_cancel_iff, Nat.add_right_cancel_iff, Nat.reduceEqDiff, Nat.one_ne_zero, Hp.get_set_self, Hp.get_set_ne, Hp.get_alloc_self, Hp.get_alloc_ne, Hp.get_alloc_at, Hp.get_set_at, Hp.set_next, Hp.alloc_next, Option.some_ne_none, V.tup.injEq, Option.isSome_some, Option.isSome_none, exists_eq_left, exists_eq, Nat.mul_zero]; omega, w.q.wf.alloc.set (Nat.lt_succ_self _)⟩
    clear hg3
    have w3 := w.quiet q3
    have r3 := rg.quiet w.q.wf q3
    have skip : atB kd ip port x.2 = false → atB kd 0 port x.2 = false → ∃ (k' : Nat) (G1 G2 : List Nat), (((k + 1 : Nat) : Int) = k') ∧ k' ≤ R.length ∧ WI h (.row [.int .u32 ip, .int .u16 port] 1 false) (atL (R.take k') kd ip port) (atL (R.take k') kd 0 port) a1 n1 a2 n2 G1 G2 g3 := fun h1 h2 => ⟨k + 1, G1, G2, rfl, hk', by rw [e1, e2, h1, h2]; simpa using w3⟩
    refine ⟨x.2.kind, by simp (disch := (first | omega | (simp only [Hp.alloc_next, Hp.set_next] <;> omega) | (simp (disch := (first | omega | (simp only [Hp.alloc_next, Hp.set_next] <;> omega) | fail)) only [Hp.get_set_self, Hp.get_set_ne, Hp.get_alloc_self, Hp.get_alloc_ne, Hp.get_alloc_at, Hp.get_set_at, Hp.set_next, Hp.alloc_next, c3]; done) | fail)) only [Hp.st, Hp.ld, Hp.lda, splice, ble_eq', if_true, if_false, ite_true, ite_false, cond_true, cond_false, decide_true, decide_false, List.length_cons, List.length_nil, List.take_zero, List.take_succ_cons, List.nil_append, List.cons_append, List.append_nil, List.drop_succ_cons, List.drop_zero, List.drop_nil, List.getElem?_cons_succ, List.getElem?_cons_zero, Nat.reduceAdd, Nat.reduceLeDiff, Nat.reduceEqDiff, Nat.zero_add, Nat.add_zero, Nat.le_refl, Nat.zero_le, Nat.succ_ne_self, Nat.mul_one, Int.toNat_natCast, Option.some.injEq, Option.isNone_some, Option.isNone_none, V.int.injEq, V.str.injEq, V.bool.injEq, V.ptr.injEq, V.slc.injEq, V.map.injEq, V.agg.injEq, V.tup.injEq, List.cons.injEq, Prod.mk.injEq, onS, true_and, and_true, and_assoc, exists_and_left, exists_eq_left', forall_eq, heq_eq_eq, reduceCtorEq, Bool.not_true, Bool.not_false, eq_self, not_false_eq_true, Nat.left_eq_add, Nat.add_eq_left, Nat.add_left_cancel_iff, Nat.add_right_cancel_iff, Nat.reduceEqDiff, Nat.one_ne_zero, Hp.get_set_self, Hp.get_set_ne, Hp.get_alloc_self, Hp.get_alloc_ne, Hp.get_alloc_at, Hp.get_set_at, Hp.set_next, Hp.alloc_next, Option.some_ne_none, V.tup.injEq, Option.isSome_some, Option.isSome_none, exists_eq_left, exists_eq, Nat.mul_zero, c3], ?_⟩
    rw [hw1]
    cases ck : x.2.kind == kd with
    | false =>
      have c : (x.2.kind != kd) = true := by simp [bne, ck]
      rw [c]
      exact ⟨rfl, skip (by simp [atB, ck]) (by simp [atB, ck]), by simp only [Int.toNat_natCast]; omega⟩
    | true =>
      have c : (x.2.kind != kd) = false := by simp [bne, ck]
      rw [c]
      have a3 := w3.rw
      refine ⟨x.2.port, by simp (disch := (first | omega | (simp only [Hp.alloc_next, Hp.set_next] <;> omega) | (simp (disch := (first | omega | (simp only [Hp.alloc_next, Hp.set_next] <;> omega) | fail)) only [Hp.get_set_self, Hp.get_set_ne, Hp.get_alloc_self, Hp.get_alloc_ne, Hp.get_alloc_at, Hp.get_set_at, Hp.set_next, Hp.alloc_next, c3]; done) | fail)) only [Hp.st, Hp.ld, Hp.lda, splice, ble_eq', if_true, if_false, ite_true, ite_false, cond_true, cond_false, decide_true, decide_false, List.length_cons, List.length_nil, List.take_zero, List.take_succ_cons, List.nil_append, List.cons_append, List.append_nil, List.drop_succ_cons, List.drop_zero, List.drop_nil, List.getElem?_cons_succ, List.getElem?_cons_zero, Nat.reduceAdd, Nat.reduceLeDiff, Nat.reduceEqDiff, Nat.zero_add, Nat.add_zero, Nat.le_refl, Nat.zero_le, Nat.succ_ne_self, Nat.mul_one, Int.toNat_natCast, Option.some.injEq, Option.isNone_some, Option.isNone_none, V.int.injEq, V.str.injEq, V.bool.injEq, V.ptr.injEq, V.slc.injEq, V.map.injEq, V.agg.injEq, V.tup.injEq, List.cons.injEq, Prod.mk.injEq, onS, true_and, and_true, and_assoc, exists_and_left, exists_eq_left', forall_eq, heq_eq_eq, reduceCtorEq, Bool.not_true, Bool.not_false, eq_self, not_false_eq_true, Nat.left_eq_add, Nat.add_eq_left, Nat.add_left_cancel_iff, Nat.add_right_cancel_iff, Nat.reduceEqDiff, Nat.one_ne_zero, Hp.get_set_self, Hp.get_set_ne, Hp.get_alloc_self, Hp.get_alloc_ne, Hp.get_alloc_at, Hp.get_set_at, Hp.set_next, Hp.alloc_next, Option.some_ne_none, V.tup.injEq, Option.isSome_some, Option.isSome_none, exists_eq_left, exists_eq, Nat.mul_zero, c3], port, by simp (disch := (first | omega | (simp only [Hp.alloc_next, Hp.set_next] <;> omega) | (simp (disch := (first | omega | (simp only [Hp.alloc_next, Hp.set_next] <;> omega) | fail)) only [Hp.get_set_self, Hp.get_set_ne, Hp.get_alloc_self, Hp.get_alloc_ne, Hp.get_alloc_at, Hp.get_set_at, Hp.set_next, Hp.alloc_next, a3]; done) | fail)) only [Hp.st, Hp.ld, Hp.lda, splice, ble_eq', if_true, if_false, ite_true, ite_false, cond_true, cond_false, decide_true, decide_false, List.length_cons, List.length_nil, List.take_zero, List.take_succ_cons, List.nil_append, List.cons_append, List.append_nil, List.drop_succ_cons, List.drop_zero, List.drop_nil, List.getElem?_cons_succ, List.getElem?_cons_zero, Nat.reduceAdd, Nat.reduceLeDiff, Nat.reduceEqDiff, Nat.zero_add, Nat.add_zero, Nat.le_refl, Nat.zero_le, Nat.succ_ne_self, Nat.mul_one, Int.toNat_natCast, Option.some.injEq, Option.isNone_some, Option.isNone_none, V.int.injEq, V.str.injEq, V.bool.injEq, V.ptr.injEq, V.slc.injEq, V.map.injEq, V.agg.injEq, V.tup.injEq, List.cons.injEq, Prod.mk.injEq, onS, true_and, and_true, and_assoc, exists_and_left, exists_eq_left', forall_eq, heq_eq_eq, reduceCtorEq, Bool.not_true, Bool.not_false, eq_self, not_false_eq_true, Nat.left_eq_add, Nat.add_eq_left, Nat.add_left_cancel_iff, Nat.add_right_cancel_iff, Nat.reduceEqDiff, Nat.one_ne_zero, Hp.get_set_self, Hp.get_set_ne, Hp.get_alloc_self, Hp.get_alloc_ne, Hp.get_alloc_at, Hp.get_set_at, Hp.set_next, Hp.alloc_next, Option.some_ne_none, V.tup.injEq, Option.isSome_some, Option.isSome_none, exists_eq_left, exists_eq, Nat.mul_zero, a3], ?_⟩
      cases cp : x.2.port == port with
      | false =>
        have c : (x.2.port != port) = true := by simp [bne, cp]
        rw [c]
        exact ⟨rfl, skip (by simp [atB, cp]) (by simp [atB, cp]), by simp only [Int.toNat_natCast]; omega⟩
      | true =>
        have c : (x.2.port != port) = false := by simp [bne, cp]
        rw [c]
        have ea : ∀ i, atB kd i port x.2 = (x.2.ip == i) := fun i => by simp [atB, ck, cp]
        rw [ea] at e1 e2
        obtain ⟨a', f', hg3, hel3⟩ := r3.hd
        obtain ⟨q', o', ha', hl3, _⟩ := hel3 k x hx
        subst ha'
        have hgl : g.next < g3.next := q3.wf.lt c3
        have hG1 : ∀ j ∈ G1, j < g.next := fun j hj => (Own.rep _ _ _ _).lt w.q.wf w.o1 hj
        refine ⟨fun vs h' => match vs with
          | [.slc a6 n6 f6] => ∃ G6, WI h (.row [.int .u32 ip, .int .u16 port] 1 false) (atL (R.take (k + 1)) kd ip port) (atL (R.take k) kd 0 port) a6 n6 a2 n2 G6 G2 h' ∧ h'.get g.next = some (.row [.int .u8 x.2.kind, .int .u32 x.2.ip, .int .u16 x.2.port, .bool x.2.share] 1 false)
          | _ => False, ?_, ?_⟩
        · refine ⟨x.2.ip, by simp (disch := (first | omega | (simp only [Hp.alloc_next, Hp.set_next] <;> omega) | (simp (disch := (first | omega | (simp only [Hp.alloc_next, Hp.set_next] <;> omega) | fail)) only [Hp.get_set_self, Hp.get_set_ne, Hp.get_alloc_self, Hp.get_alloc_ne, Hp.get_alloc_at, Hp.get_set_at, Hp.set_next, Hp.alloc_next, c3]; done) | fail)) only [Hp.st, Hp.ld, Hp.lda, splice, ble_eq', if_true, if_false, ite_true, ite_false, cond_true, cond_false, decide_true, decide_false, List.length_cons, List.length_nil, List.take_zero, List.take_succ_cons, List.nil_append, List.cons_append, List.append_nil, List.drop_succ_cons, List.drop_zero, List.drop_nil, List.getElem?_cons_succ, List.getElem?_cons_zero, Nat.reduceAdd, Nat.reduceLeDiff, Nat.reduceEqDiff, Nat.zero_add, Nat.add_zero, Nat.le_refl, Nat.zero_le, Nat.succ_ne_self, Nat.mul_one, Int.toNat_natCast, Option.some.injEq, Option.isNone_some, Option.isNone_none, V.int.injEq, V.str.injEq, V.bool.injEq, V.ptr.injEq, V.slc.injEq, V.map.injEq, V.agg.injEq, V.tup.injEq, List.cons.injEq, Prod.mk.injEq, onS, true_and, and_true, and_assoc, exists_and_left, exists_eq_left', forall_eq, heq_eq_eq, reduceCtorEq, Bool.not_true, Bool.not_false, eq_self, not_false_eq_true, Nat.left_eq_add, Nat.add_eq_left, Nat.add_left_cancel_iff, Nat.add_right_cancel_iff, Nat.reduceEqDiff, Nat.one_ne_zero, Hp.get_set_self, Hp.get_set_ne, Hp.get_alloc_self, Hp.get_alloc_ne, Hp.get_alloc_at, Hp.get_set_at, Hp.set_next, Hp.alloc_next, Option.some_ne_none, V.tup.injEq, Option.isSome_some, Option.isSome_none, exists_eq_left, exists_eq, Nat.mul_zero, c3], ip, by simp (disch := (first | omega | (simp only [Hp.alloc_next, Hp.set_next] <;> omega) | (simp (disch := (first | omega | (simp only [Hp.alloc_next, Hp.set_next] <;> omega) | fail)) only [Hp.get_set_self, Hp.get_set_ne, Hp.get_alloc_self, Hp.get_alloc_ne, Hp.get_alloc_at, Hp.get_set_at, Hp.set_next, Hp.alloc_next, a3]; done) | fail)) only [Hp.st, Hp.ld, Hp.lda, splice, ble_eq', if_true, if_false, ite_true, ite_false, cond_true, cond_false, decide_true, decide_false, List.length_cons, List.length_nil, List.take_zero, List.take_succ_cons, List.nil_append, List.cons_append, List.append_nil, List.drop_succ_cons, List.drop_zero, List.drop_nil, List.getElem?_cons_succ, List.getElem?_cons_zero, Nat.reduceAdd, Nat.reduceLeDiff, Nat.reduceEqDiff, Nat.zero_add, Nat.add_zero, Nat.le_refl, Nat.zero_le, Nat.succ_ne_self, Nat.mul_one, Int.toNat_natCast, Option.some.injEq, Option.isNone_some, Option.isNone_none, V.int.injEq, V.str.injEq, V.bool.injEq, V.ptr.injEq, V.slc.injEq, V.map.injEq, V.agg.injEq, V.tup.injEq, List.cons.injEq, Prod.mk.injEq, onS, true_and, and_true, and_assoc, exists_and_left, exists_eq_left', forall_eq, heq_eq_eq, reduceCtorEq, Bool.not_true, Bool.not_false, eq_self, not_false_eq_true, Nat.left_eq_add, Nat.add_eq_left, Nat.add_left_cancel_iff, Nat.add_right_cancel_iff, Nat.reduceEqDiff, Nat.one_ne_zero, Hp.get_set_self, Hp.get_set_ne, Hp.get_alloc_self, Hp.get_alloc_ne, Hp.get_alloc_at, Hp.get_set_at, Hp.set_next, Hp.alloc_next, Option.some_ne_none, V.tup.injEq, Option.isSome_some, Option.isSome_none, exists_eq_left, exists_eq, Nat.mul_zero, a3], ?_⟩
          cases ci : x.2.ip == ip with
          | false =>
            rw [ci] at e1
            exact ⟨rfl, G1, by rw [e1]; simpa using w3, c3⟩
          | true =>
            rw [ci] at e1
            refine ⟨some (q', o'), R.length, f', by simp (disch := (first | omega | (simp only [Hp.alloc_next, Hp.set_next] <;> omega) | (simp (disch := (first | omega | (simp only [Hp.alloc_next, Hp.set_next] <;> omega) | fail)) only [Hp.get_set_self, Hp.get_set_ne, Hp.get_alloc_self, Hp.get_alloc_ne, Hp.get_alloc_at, Hp.get_set_at, Hp.set_next, Hp.alloc_next, hg3]; done) | fail)) only [Hp.st, Hp.ld, Hp.lda, splice, ble_eq', if_true, if_false, ite_true, ite_false, cond_true, cond_false, decide_true, decide_false, List.length_cons, List.length_nil, List.take_zero, List.take_succ_cons, List.nil_append, List.cons_append, List.append_nil, List.drop_succ_cons, List.drop_zero, List.drop_nil, List.getElem?_cons_succ, List.getElem?_cons_zero, Nat.reduceAdd, Nat.reduceLeDiff, Nat.reduceEqDiff, Nat.zero_add, Nat.add_zero, Nat.le_refl, Nat.zero_le, Nat.succ_ne_self, Nat.mul_one, Int.toNat_natCast, Option.some.injEq, Option.isNone_some, Option.isNone_none, V.int.injEq, V.str.injEq, V.bool.injEq, V.ptr.injEq, V.slc.injEq, V.map.injEq, V.agg.injEq, V.tup.injEq, List.cons.injEq, Prod.mk.injEq, onS, true_and, and_true, and_assoc, exists_and_left, exists_eq_left', forall_eq, heq_eq_eq, reduceCtorEq, Bool.not_true, Bool.not_false, eq_self, not_false_eq_true, Nat.left_eq_add, Nat.add_eq_left, Nat.add_left_cancel_iff, Nat.add_right_cancel_iff, Nat.reduceEqDiff, Nat.one_ne_zero, Hp.get_set_self, Hp.get_set_ne, Hp.get_alloc_self, Hp.get_alloc_ne, Hp.get_alloc_at, Hp.get_set_at, Hp.set_next, Hp.alloc_next, Option.some_ne_none, V.tup.injEq, Option.isSome_some, Option.isSome_none, exists_eq_left, exists_eq, Nat.mul_zero, hg3], ⟨by omega, hi⟩, x.1, hl3, ?_⟩
            rintro g4 rfl
            obtain ⟨a6, G6, g5, hx5, w5, u5⟩ := w3.app1 (s := x.1) (f := f1) (by omega)
            refine ⟨_, _, _, _, hx5, rfl, G6, by rw [e1]; exact w5, ?_⟩
            rw [u5.same _ hgl fun hG => by have := hG1 _ hG; omega]
            exact c3
        rintro bs2 a6 n6 f6 g5 ⟨G6, w5, c5⟩
        refine ⟨x.2.ip, by simp (disch := (first | omega | (simp only [Hp.alloc_next, Hp.set_next] <;> omega) | (simp (disch := (first | omega | (simp only [Hp.alloc_next, Hp.set_next] <;> omega) | fail)) only [Hp.get_set_self, Hp.get_set_ne, Hp.get_alloc_self, Hp.get_alloc_ne, Hp.get_alloc_at, Hp.get_set_at, Hp.set_next, Hp.alloc_next, c5]; done) | fail)) only [Hp.st, Hp.ld, Hp.lda, splice, ble_eq', if_true, if_false, ite_true, ite_false, cond_true, cond_false, decide_true, decide_false, List.length_cons, List.length_nil, List.take_zero, List.take_succ_cons, List.nil_append, List.cons_append, List.append_nil, List.drop_succ_cons, List.drop_zero, List.drop_nil, List.getElem?_cons_succ, List.getElem?_cons_zero, Nat.reduceAdd, Nat.reduceLeDiff, Nat.reduceEqDiff, Nat.zero_add, Nat.add_zero, Nat.le_refl, Nat.zero_le, Nat.succ_ne_self, Nat.mul_one, Int.toNat_natCast, Option.some.injEq, Option.isNone_some, Option.isNone_none, V.int.injEq, V.str.injEq, V.bool.injEq, V.ptr.injEq, V.slc.injEq, V.map.injEq, V.agg.injEq, V.tup.injEq, List.cons.injEq, Prod.mk.injEq, onS, true_and, and_true, and_assoc, exists_and_left, exists_eq_left', forall_eq, heq_eq_eq, reduceCtorEq, Bool.not_true, Bool.not_false, eq_self, not_false_eq_true, Nat.left_eq_add, Nat.add_eq_left, Nat.add_left_cancel_iff, Nat.add_right_cancel_iff, Nat.reduceEqDiff, Nat.one_ne_zero, Hp.get_set_self, Hp.get_set_ne, Hp.get_alloc_self, Hp.get_alloc_ne, Hp.get_alloc_at, Hp.get_set_at, Hp.set_next, Hp.alloc_next, Option.some_ne_none, V.tup.injEq, Option.isSome_some, Option.isSome_none, exists_eq_left, exists_eq, Nat.mul_zero, c5], ?_⟩
        cases cz : x.2.ip == 0 with
        | false =>
          rw [cz] at e2
          exact ⟨rfl, ⟨k + 1, G6, G2, rfl, hk', by rw [e2]; simpa using w5⟩, by simp only [Int.toNat_natCast]; omega⟩
        | true =>
          rw [cz] at e2
          obtain ⟨a'', f'', hg5, hel5⟩ := (r.quiet hw w5.q).hd
          obtain ⟨q'', o'', ha'', hl5, _⟩ := hel5 k x hx
          subst ha''
          refine ⟨some (q'', o''), R.length, f'', by simp (disch := (first | omega | (simp only [Hp.alloc_next, Hp.set_next] <;> omega) | (simp (disch := (first | omega | (simp only [Hp.alloc_next, Hp.set_next] <;> omega) | fail)) only [Hp.get_set_self, Hp.get_set_ne, Hp.get_alloc_self, Hp.get_alloc_ne, Hp.get_alloc_at, Hp.get_set_at, Hp.set_next, Hp.alloc_next, hg5]; done) | fail)) only [Hp.st, Hp.ld, Hp.lda, splice, ble_eq', if_true, if_false, ite_true, ite_false, cond_true, cond_false, decide_true, decide_false, List.length_cons, List.length_nil, List.take_zero, List.take_succ_cons, List.nil_append, List.cons_append, List.append_nil, List.drop_succ_cons, List.drop_zero, List.drop_nil, List.getElem?_cons_succ, List.getElem?_cons_zero, Nat.reduceAdd, Nat.reduceLeDiff, Nat.reduceEqDiff, Nat.zero_add, Nat.add_zero, Nat.le_refl, Nat.zero_le, Nat.succ_ne_self, Nat.mul_one, Int.toNat_natCast, Option.some.injEq, Option.isNone_some, Option.isNone_none, V.int.injEq, V.str.injEq, V.bool.injEq, V.ptr.injEq, V.slc.injEq, V.map.injEq, V.agg.injEq, V.tup.injEq, List.cons.injEq, Prod.mk.injEq, onS, true_and, and_true, and_assoc, exists_and_left, exists_eq_left', forall_eq, heq_eq_eq, reduceCtorEq, Bool.not_true, Bool.not_false, eq_self, not_false_eq_true, Nat.left_eq_add, Nat.add_eq_left, Nat.add_left_cancel_iff, Nat.add_right_cancel_iff, Nat.reduceEqDiff, Nat.one_ne_zero, Hp.get_set_self, Hp.get_set_ne, Hp.get_alloc_self, Hp.get_alloc_ne, Hp.get_alloc_at, Hp.get_set_at, Hp.set_next, Hp.alloc_next, Option.some_ne_none, V.tup.injEq, Option.isSome_some, Option.isSome_none, exists_eq_left, exists_eq, Nat.mul_zero, hg5], ⟨by omega, hi⟩, x.1, hl5, ?_⟩
          rintro g6 rfl
          obtain ⟨a7, G7, g7, hx7, w7, u7⟩ := w5.swap.app1 (s := x.1) (f := f2) (by omega)
          refine ⟨_, _, _, _, hx7, rfl, ⟨k + 1, G6, G7, rfl, hk', ?_⟩, by simp only [Int.toNat_natCast]; omega⟩
          have w8 := w7.swap
          rw [e2]; exact w8

/-! ### Both hold the same -/

structure St (L R : List (Int × Bd)) : Prop where
  perm : L.Perm R
  rise : R.Pairwise fun x y => x.1 < y.1
  len : R.length ≤ 1024

theorem St.nodup {L R : List (Int × Bd)} (s : St L R) : (R.map Prod.fst).Nodup := by
  rw [List.nodup_iff_pairwise_ne, List.pairwise_map]
  exact s.rise.imp fun h => by omega

theorem St.nodupL {L R : List (Int × Bd)} (s : St L R) : (L.map Prod.fst).Nodup := (s.perm.map Prod.fst).nodup_iff.2 s.nodup

theorem St.llen {L R : List (Int × Bd)} (s : St L R) : L.length = R.length := s.perm.length_eq

theorem mget_isSome {L : List (Int × Bd)} {s : Int} : (mget L s).isSome = true ↔ ∃ x ∈ L, x.1 = s := by
  unfold mget
  rw [Option.isSome_map, List.find?_isSome]
  constructor
  · rintro ⟨x, hx, e⟩; exact ⟨x, hx, (of_decide_eq_true e).symm⟩
  · rintro ⟨x, hx, e⟩; exact ⟨x, hx, decide_eq_true e.symm⟩

theorem isSome_perm {L R : List (Int × Bd)} (p : L.Perm R) (s : Int) : (mget L s).isSome = (mget R s).isSome := by
  have : (mget L s).isSome = true ↔ (mget R s).isSome = true := by
    rw [mget_isSome, mget_isSome]
    constructor
    · rintro ⟨x, hx, e⟩; exact ⟨x, p.mem_iff.1 hx, e⟩
    · rintro ⟨x, hx, e⟩; exact ⟨x, p.mem_iff.2 hx, e⟩
  cases h1 : (mget L s).isSome <;> cases h2 : (mget R s).isSome <;> simp_all

theorem may_perm {L R : List (Int × Bd)} (p : L.Perm R) (s : Int) (b : Bd) (c : Bool) : mayCode L s b c = mayCode R s b c := by
  unfold mayCode
  rw [isSome_perm p, p.length_eq]

theorem bind_perm {L R : List (Int × Bd)} (p : L.Perm R) (s : Int) (b : Bd) : bindCode L s b = bindCode R s b := by
  unfold bindCode
  rw [may_perm p, p.any_eq]

theorem free_perm {L R : List (Int × Bd)} (p : L.Perm R) (b : Bd) : freeB L b = freeB R b := by
  unfold freeB; rw [p.all_eq]

theorem ins_perm (R : List (Int × Bd)) (s : Int) (b : Bd) : (R ++ [(s, b)]).Perm (insK R s b) := by
  unfold insK
  have h1 : (R ++ [(s, b)]).Perm ((s, b) :: R) := List.perm_append_comm
  have h2 : ((s, b) :: (R.takeWhile (fun x => decide (x.1 < s)) ++ R.dropWhile (fun x => decide (x.1 < s)))).Perm (R.takeWhile (fun x => decide (x.1 < s)) ++ (s, b) :: R.dropWhile (fun x => decide (x.1 < s))) := List.perm_middle.symm
  rw [List.takeWhile_append_dropWhile] at h2
  exact h1.trans h2

theorem ins_rise {R : List (Int × Bd)} {s : Int} {b : Bd} (h : R.Pairwise fun x y => x.1 < y.1) (hg : ∀ x ∈ R, x.1 ≠ s) : (insK R s b).Pairwise fun x y => x.1 < y.1 := by
  unfold insK
  induction R with
  | nil => simp
  | cons y R ih =>
    rw [List.pairwise_cons] at h
    by_cases c : y.1 < s
    · have c' : decide (y.1 < s) = true := decide_eq_true c
      rw [List.takeWhile_cons, List.dropWhile_cons, c']
      simp only [if_true, List.cons_append, List.pairwise_cons]
      refine ⟨fun z hz => ?_, ih h.2 fun x hx => hg x (by simp [hx])⟩
      have : z ∈ R ++ [(s, b)] := (ins_perm R s b).mem_iff.2 hz
      rcases List.mem_append.1 this with hz | hz
      · exact h.1 z hz
      · rw [List.mem_singleton] at hz; subst hz; exact c
    · have c' : decide (y.1 < s) = false := decide_eq_false c
      rw [List.takeWhile_cons, List.dropWhile_cons, c']
      have := hg y (by simp)
      simp only [Bool.false_eq_true, if_false, List.nil_append, List.pairwise_cons, List.mem_cons]
      refine ⟨fun z hz => ?_, h.1, h.2⟩
      rcases hz with rfl | hz
      · show s < z.1; omega
      · have := h.1 z hz; show s < z.1; omega

theorem St.ins {L R : List (Int × Bd)} {s : Int} {b : Bd} (st : St L R) (hg : mget L s = none) (hl : L.length < 1024) : St (L ++ [(s, b)]) (insK R s b) := by
  have hno : ∀ x ∈ R, x.1 ≠ s := fun x hx e => by
    have := mget_isSome.2 ⟨x, st.perm.mem_iff.2 hx, e⟩
    rw [hg] at this; cases this
  refine ⟨(st.perm.append_right _).trans (ins_perm R s b), ins_rise st.rise hno, ?_⟩
  rw [← (ins_perm R s b).length_eq, List.length_append, ← st.llen]; simp; omega

theorem St.bind {L R : List (Int × Bd)} {s : Int} {b : Bd} (st : St L R) : St (if bindCode L s b = 0 then L ++ [(s, b)] else L) (if bindCode R s b = 0 then insK R s b else R) := by
  rw [bind_perm st.perm]
  split
  · rename_i h
    rw [← bind_perm st.perm] at h
    have hm : mayCode L s b true = 0 := by
      unfold bindCode at h
      split at h <;> omega
    obtain ⟨h1, h2⟩ := may_get hm
    exact st.ins h1 h2
  · exact st

theorem St.lend {L R L' R' : List (Int × Bd)} {s draw c1 c2 p1 p2 : Int} {b : Bd} (st : St L R) (h1 : LendR L s b draw c1 p1 L') (h2 : RLendR R s b draw c2 p2 R') : c1 = c2 ∧ p1 = p2 ∧ St L' R' := by
  have em := may_perm st.perm s b false
  have ef := fun x => free_perm st.perm x
  rcases h1 with ⟨a1, rfl, rfl, rfl⟩ | ⟨a1, i, hi, a2, a3, rfl, rfl, rfl⟩ | ⟨a1, a2, rfl, rfl, rfl⟩
  · rcases h2 with ⟨b1, rfl, rfl, rfl⟩ | ⟨b1, _⟩ | ⟨b1, _⟩
    · exact ⟨em, rfl, st⟩
    · rw [em] at a1; exact absurd b1 a1
    · rw [em] at a1; exact absurd b1 a1
  · rcases h2 with ⟨b1, _⟩ | ⟨b1, j, hj, b2, b3, rfl, rfl, rfl⟩ | ⟨b1, b2, _⟩
    · rw [em] at a1; exact absurd a1 b1
    · have : i = j := by
        rcases Nat.lt_trichotomy i j with h | h | h
        · have := b2 i h; rw [← ef, a3] at this; cases this
        · exact h
        · have := a2 j h; rw [ef, b3] at this; cases this
      subst this
      obtain ⟨g1, g2⟩ := may_get a1
      exact ⟨rfl, rfl, st.ins g1 g2⟩
    · have := b2 i hi; rw [← ef, a3] at this; cases this
  · rcases h2 with ⟨b1, _⟩ | ⟨b1, j, hj, b2, b3, rfl, rfl, rfl⟩ | ⟨b1, b2, rfl, rfl, rfl⟩
    · rw [em] at a1; exact absurd a1 b1
    · have := a2 j hj; rw [ef, b3] at this; cases this
    · exact ⟨rfl, rfl, st⟩

theorem St.without {L R : List (Int × Bd)} (st : St L R) (xs : List Int) : St (without L xs) (Ports.without R xs) :=
  ⟨st.perm.filter _, st.rise.sublist List.filter_sublist, Nat.le_trans (List.length_filter_le _ _) st.len⟩

theorem without_two (L : List (Int × Bd)) (x y : Int) : without L [x, y] = without (without L [x]) [y] := by
  unfold without
  rw [List.filter_filter]
  apply List.filter_congr
  intro z hz
  by_cases h1 : z.1 = x <;> by_cases h2 : z.1 = y <;> simp [h1, h2]

theorem St.who {L R : List (Int × Bd)} {l : List Int} {k ip port : Int} (st : St L R) (hp : l.Perm (whoL L k ip port)) (hs : l.Pairwise fun x y => x ≤ y) : l = whoL R k ip port := by
  have ha : ∀ i, (atL L k i port).Perm (atL R k i port) := fun i => (st.perm.filter _).map _
  have hw : (whoL L k ip port).Perm (whoL R k ip port) := by
    unfold whoL
    by_cases h : atL L k ip port = []
    · have h' : atL R k ip port = [] := by have := ha ip; rw [h] at this; exact this.nil_eq.symm
      rw [if_pos h, if_pos h']; exact ha 0
    · have h' : atL R k ip port ≠ [] := fun e => h (by have := ha ip; rw [e] at this; exact this.eq_nil)
      rw [if_neg h, if_neg h']; exact ha ip
  have hr : ∀ i, (atL R k i port).Pairwise fun x y => x ≤ y := fun i => by
    unfold atL
    rw [List.pairwise_map]
    exact (st.rise.sublist List.filter_sublist).imp fun h => by omega
  have hrw : (whoL R k ip port).Pairwise fun x y => x ≤ y := by
    unfold whoL; split <;> exact hr _
  exact (hp.trans hw).eq_of_pairwise (fun a b _ _ h1 h2 => Int.le_antisymm h1 h2) hs hrw

theorem St.get {L R : List (Int × Bd)} {s : Int} {b : Bd} {k : Nat} (st : St L R) (h : R[k]? = some (s, b)) : mget L s = some b := by
  have hx : (s, b) ∈ L := st.perm.mem_iff.2 (List.mem_of_getElem? h)
  have hs : (mget L s).isSome = true := mget_isSome.2 ⟨_, hx, rfl⟩
  obtain ⟨b', hb⟩ := Option.isSome_iff_exists.1 hs
  rw [hb]
  unfold mget at hb
  rw [Option.map_eq_some_iff] at hb
  obtain ⟨x, h1, rfl⟩ := hb
  have h2 := List.find?_some h1
  have h2 := of_decide_eq_true h2
  have h3 := List.mem_of_find?_eq_some h1
  have : x = (s, b) := inj_nodup (f := Prod.fst) st.nodupL h3 hx h2.symm
  rw [this]

/-! ### The frame -/

structure PJ (h0 : Hp) (p q r : Nat) (L R : List (Int × Bd)) (F : List Nat) (g : Hp) : Prop where
  po : PortsR p L g [p, q]
  re : RefP r R g F
  dis : p ∉ F ∧ q ∉ F
  lo : h0.next ≤ p ∧ h0.next ≤ q ∧ ∀ j ∈ F, h0.next ≤ j
  same : ∀ j, j < h0.next → g.get j = h0.get j
  wf : g.wf
  le : h0.next ≤ g.next

section
variable {h0 g g' : Hp} {p q r : Nat} {L L' R R' : List (Int × Bd)} {F F' : List Nat}

theorem PJ.ports (i : PJ h0 p q r L R F g) (u : Upd g g' [p, q] [p, q]) (po : PortsR p L' g' [p, q]) (w : g'.wf) : PJ h0 p q r L' R F g' := by
  have hF := fun j hj => (RefP.rep _ _).lt i.wf i.re (j := j) hj
  obtain ⟨d1, d2⟩ := i.dis
  obtain ⟨l1, l2, l3⟩ := i.lo
  have hl := i.le
  refine ⟨po, (RefP.rep _ _).loc _ _ _ (fun j hj => u.same j (hF j hj) ?_) i.re, i.dis, i.lo, fun j hj => ?_, w, Nat.le_trans i.le u.le⟩
  · intro h
    rcases List.mem_cons.1 h with rfl | h
    · exact d1 hj
    · rw [List.mem_singleton] at h; subst h; exact d2 hj
  · rw [u.same j (by omega) (by simp; omega)]; exact i.same j hj

theorem PJ.ref (i : PJ h0 p q r L R F g) (u : Upd g g' F F') (re : RefP r R' g' F') (w : g'.wf) : PJ h0 p q r L R' F' g' := by
  obtain ⟨d1, d2⟩ := i.dis
  obtain ⟨l1, l2, l3⟩ := i.lo
  have hl := i.le
  have hp := (PortsR.rep _ _).lt i.wf i.po (j := p) (by simp)
  have hq := (PortsR.rep _ _).lt i.wf i.po (j := q) (by simp)
  have hn : ∀ j, j < g.next → j ∉ F → j ∉ F' := fun j hj hF h => by
    rcases u.new j h with h | h
    · exact hF h
    · omega
  refine ⟨(PortsR.rep _ _).loc _ _ _ (fun j hj => ?_) i.po, re, ⟨hn p hp d1, hn q hq d2⟩, ⟨l1, l2, fun j hj => ?_⟩, fun j hj => ?_, w, Nat.le_trans i.le u.le⟩
  · rcases List.mem_cons.1 hj with rfl | hj
    · exact u.same _ hp d1
    · rw [List.mem_singleton] at hj; subst hj; exact u.same _ hq d2
  · rcases u.new j hj with h | h
    · exact l3 j h
    · omega
  · rw [u.same j (by omega) (fun h => by have := l3 j h; omega)]; exact i.same j hj

theorem PJ.quiet (i : PJ h0 p q r L R F g) (qq : Quiet g g') : PJ h0 p q r L R F g' := by
  have hl := i.le
  exact ⟨i.po.quiet i.wf qq, i.re.quiet i.wf qq, i.dis, i.lo, fun j hj => by rw [qq.same j (by omega)]; exact i.same j hj, qq.wf, Nat.le_trans i.le qq.le⟩

theorem PJ.out (i : PJ h0 p q r L R F g) : ∀ j, g.next ≤ j → j ∉ F ∧ j ∉ [p, q] := fun j hj => by
  have hp := (PortsR.rep _ _).lt i.wf i.po (j := p) (by simp)
  have hq := (PortsR.rep _ _).lt i.wf i.po (j := q) (by simp)
  exact ⟨fun h => by have := (RefP.rep _ _).lt i.wf i.re h; omega, by simp; omega⟩

theorem PJ.outF (u : Upd g g' F F') {j : Nat} (hj : j < g.next) (hF : j ∉ F) : j ∉ F' := fun h => by
  rcases u.new j h with h | h
  · exact hF h
  · omega
end

/-! ### does -/

theorem does_spec {h0 h : Hp} {p q r : Nat} {L R : List (Int × Bd)} {F : List Nat} {dow w ow bk bi bp dr : Int} {bsh : Bool} (i : PJ h0 p q r L R F h) (st : St L R) (hd : 0 ≤ dr ∧ dr < 65536) :
    XCalls Try.prog 10 [.ptr (some (p, 0)), .ptr (some (r, 0)), .agg [.int .i64 dow, .int .u64 w, .int .u64 ow, .int .u8 bk, .int .u32 bi, .int .u16 bp, .bool bsh, .int .u16 dr]] h fun v h' => v = .bool true ∧ ∃ L' R' F', PJ h0 p q r L' R' F' h' ∧ St L' R' := by
  refine XCalls.cps fun K hK => ?_
  apply x10; unfold X10
  rintro g1 rfl
  have q1 := Quiet.alloc i.wf (.row [.int .i64 dow, .int .u64 w, .int .u64 ow, .int .u8 bk, .int .u32 bi, .int .u16 bp, .bool bsh, .int .u16 dr] 1 false)
  have c1 : (h.alloc (.row [.int .i64 dow, .int .u64 w, .int .u64 ow, .int .u8 bk, .int .u32 bi, .int .u16 bp, .bool bsh, .int .u16 dr] 1 false)).get h.next = some (.row [.int .i64 dow, .int .u64 w, .int .u64 ow, .int .u8 bk, .int .u32 bi, .int .u16 bp, .bool bsh, .int .u16 dr] 1 false) := Hp.get_alloc_self
  generalize h.alloc (.row [.int .i64 dow, .int .u64 w, .int .u64 ow, .int .u8 bk, .int .u32 bi, .int .u16 bp, .bool bsh, .int .u16 dr] 1 false) = g1 at *
  have i1 := i.quiet q1
  have n1 := q1.wf.lt c1
  obtain ⟨oF, oP⟩ := i.out h.next (Nat.le_refl _)
  have hbV : V.agg [.int .u8 bk, .int .u32 bi, .int .u16 bp, .bool bsh] = bV ⟨bk, bi, bp, bsh⟩ := rfl
  refine ⟨dow, by simp (disch := (first | omega | (simp only [Hp.alloc_next, Hp.set_next] <;> omega) | (simp (disch := (first | omega | (simp only [Hp.alloc_next, Hp.set_next] <;> omega) | fail)) only [Hp.get_set_self, Hp.get_set_ne, Hp.get_alloc_self, Hp.get_alloc_ne, Hp.get_alloc_at, Hp.get_set_at, Hp.set_next, Hp.alloc_next, c1]; done) | fail)) only [Hp.st, Hp.ld, Hp.lda, splice, ble_eq', if_true, if_false, ite_true, ite_false, cond_true, cond_false, decide_true, decide_false, List.length_cons, List.length_nil, List.take_zero, List.take_succ_cons, List.nil_append, List.cons_append, List.append_nil, List.drop_succ_cons, List.drop_zero, List.drop_nil, List.getElem?_cons_succ, List.getElem?_cons_zero, Nat.reduceAdd, Nat.reduceLeDiff, Nat.reduceEqDiff, Nat.zero_add, Nat.add_zero, Nat.le_refl, Nat.zero_le, Nat.succ_ne_self, Nat.mul_one, Int.toNat_natCast, Option.some.injEq, Option.isNone_some, Option.isNone_none, V.int.injEq, V.str.injEq, V.bool.injEq, V.ptr.injEq, V.slc.injEq, V.map.injEq, V.agg.injEq, V.tup.injEq, List.cons.injEq, Prod.mk.injEq, onS, true_and, and_true, and_assoc, exists_and_left, exists_eq_left', forall_eq, heq_eq_eq, reduceCtorEq, Bool.not_true, Bool.not_false, eq_self, not_false_eq_true, Nat.left_eq_add, Nat.add_eq_left, Nat.add_left_cancel_iff, Nat.add_right_cancel_iff, Nat.reduceEqDiff, Nat.one_ne_zero, Hp.get_set_self, Hp.get_set_ne, Hp.get_alloc_self, Hp.get_alloc_ne, Hp.get_alloc_at, Hp.get_set_at, Hp.set_next, Hp.alloc_next, Option.some_ne_none, V.tup.injEq, Option.isSome_some, Option.isSome_none, exists_eq_left, exists_eq, Nat.mul_zero, c1], ?_⟩
  by_cases d0 : dow = 0
  · have c : (dow == 0) = true := by simp [d0]
    rw [c]
    refine ⟨w, by simp (disch := (first | omega | (simp only [Hp.alloc_next, Hp.set_next] <;> omega) | (simp (disch := (first | omega | (simp only [Hp.alloc_next, Hp.set_next] <;> omega) | fail)) only [Hp.get_set_self, Hp.get_set_ne, Hp.get_alloc_self, Hp.get_alloc_ne, Hp.get_alloc_at, Hp.get_set_at, Hp.set_next, Hp.alloc_next, c1]; done) | fail)) only [Hp.st, Hp.ld, Hp.lda, splice, ble_eq', if_true, if_false, ite_true, ite_false, cond_true, cond_false, decide_true, decide_false, List.length_cons, List.length_nil, List.take_zero, List.take_succ_cons, List.nil_append, List.cons_append, List.append_nil, List.drop_succ_cons, List.drop_zero, List.drop_nil, List.getElem?_cons_succ, List.getElem?_cons_zero, Nat.reduceAdd, Nat.reduceLeDiff, Nat.reduceEqDiff, Nat.zero_add, Nat.add_zero, Nat.le_refl, Nat.zero_le, Nat.succ_ne_self, Nat.mul_one, Int.toNat_natCast, Option.some.injEq, Option.isNone_some, Option.isNone_none, V.int.injEq, V.str.injEq, V.bool.injEq, V.ptr.injEq, V.slc.injEq, V.map.injEq, V.agg.injEq, V.tup.injEq, List.cons.injEq, Prod.mk.injEq, onS, true_and, and_true, and_assoc, exists_and_left, exists_eq_left', forall_eq, heq_eq_eq, reduceCtorEq, Bool.not_true, Bool.not_false, eq_self, not_false_eq_true, Nat.left_eq_add, Nat.add_eq_left, Nat.add_left_cancel_iff, Nat.add_right_cancel_iff, Nat.reduceEqDiff, Nat.one_ne_zero, Hp.get_set_self, Hp.get_set_ne, Hp.get_alloc_self, Hp.get_alloc_ne, Hp.get_alloc_at, Hp.get_set_at, Hp.set_next, Hp.alloc_next, Option.some_ne_none, V.tup.injEq, Option.isSome_some, Option.isSome_none, exists_eq_left, exists_eq, Nat.mul_zero, c1], bk, bi, bp, bsh, by simp (disch := (first | omega | (simp only [Hp.alloc_next, Hp.set_next] <;> omega) | (simp (disch := (first | omega | (simp only [Hp.alloc_next, Hp.set_next] <;> omega) | fail)) only [Hp.get_set_self, Hp.get_set_ne, Hp.get_alloc_self, Hp.get_alloc_ne, Hp.get_alloc_at, Hp.get_set_at, Hp.set_next, Hp.alloc_next, c1]; done) | fail)) only [Hp.st, Hp.ld, Hp.lda, splice, ble_eq', if_true, if_false, ite_true, ite_false, cond_true, cond_false, decide_true, decide_false, List.length_cons, List.length_nil, List.take_zero, List.take_succ_cons, List.nil_append, List.cons_append, List.append_nil, List.drop_succ_cons, List.drop_zero, List.drop_nil, List.getElem?_cons_succ, List.getElem?_cons_zero, Nat.reduceAdd, Nat.reduceLeDiff, Nat.reduceEqDiff, Nat.zero_add, Nat.add_zero, Nat.le_refl, Nat.zero_le, Nat.succ_ne_self, Nat.mul_one, Int.toNat_natCast, Option.some.injEq, Option.isNone_some, Option.isNone_none, V.int.injEq, V.str.injEq, V.bool.injEq, V.ptr.injEq, V.slc.injEq, V.map.injEq, V.agg.injEq, V.tup.injEq, List.cons.injEq, Prod.mk.injEq, onS, true_and, and_true, and_assoc, exists_and_left, exists_eq_left', forall_eq, heq_eq_eq, reduceCtorEq, Bool.not_true, Bool.not_false, eq_self, not_false_eq_true, Nat.left_eq_add, Nat.add_eq_left, Nat.add_left_cancel_iff, Nat.add_right_cancel_iff, Nat.reduceEqDiff, Nat.one_ne_zero, Hp.get_set_self, Hp.get_set_ne, Hp.get_alloc_self, Hp.get_alloc_ne, Hp.get_alloc_at, Hp.get_set_at, Hp.set_next, Hp.alloc_next, Option.some_ne_none, V.tup.injEq, Option.isSome_some, Option.isSome_none, exists_eq_left, exists_eq, Nat.mul_zero, c1], w, by simp (disch := (first | omega | (simp only [Hp.alloc_next, Hp.set_next] <;> omega) | (simp (disch := (first | omega | (simp only [Hp.alloc_next, Hp.set_next] <;> omega) | fail)) only [Hp.get_set_self, Hp.get_set_ne, Hp.get_alloc_self, Hp.get_alloc_ne, Hp.get_alloc_at, Hp.get_set_at, Hp.set_next, Hp.alloc_next, c1]; done) | fail)) only [Hp.st, Hp.ld, Hp.lda, splice, ble_eq', if_true, if_false, ite_true, ite_false, cond_true, cond_false, decide_true, decide_false, List.length_cons, List.length_nil, List.take_zero, List.take_succ_cons, List.nil_append, List.cons_append, List.append_nil, List.drop_succ_cons, List.drop_zero, List.drop_nil, List.getElem?_cons_succ, List.getElem?_cons_zero, Nat.reduceAdd, Nat.reduceLeDiff, Nat.reduceEqDiff, Nat.zero_add, Nat.add_zero, Nat.le_refl, Nat.zero_le, Nat.succ_ne_self, Nat.mul_one, Int.toNat_natCast, Option.some.injEq, Option.isNone_some, Option.isNone_none, V.int.injEq, V.str.injEq, V.bool.injEq, V.ptr.injEq, V.slc.injEq, V.map.injEq, V.agg.injEq, V.tup.injEq, List.cons.injEq, Prod.mk.injEq, onS, true_and, and_true, and_assoc, exists_and_left, exists_eq_left', forall_eq, heq_eq_eq, reduceCtorEq, Bool.not_true, Bool.not_false, eq_self, not_false_eq_true, Nat.left_eq_add, Nat.add_eq_left, Nat.add_left_cancel_iff, Nat.add_right_cancel_iff, Nat.reduceEqDiff, Nat.one_ne_zero, Hp.get_set_self, Hp.get_set_ne, Hp.get_alloc_self, Hp.get_alloc_ne, Hp.get_alloc_at, Hp.get_set_at, Hp.set_next, Hp.alloc_next, Option.some_ne_none, V.tup.injEq, Option.isSome_some, Option.isSome_none, exists_eq_left, exists_eq, Nat.mul_zero, c1], bk, bi, bp, bsh, by simp (disch := (first | omega | (simp only [Hp.alloc_next, Hp.set_next] <;> omega) | (simp (disch := (first | omega | (simp only [Hp.alloc_next, Hp.set_next] <;> omega) | fail)) only [Hp.get_set_self, Hp.get_set_ne, Hp.get_alloc_self, Hp.get_alloc_ne, Hp.get_alloc_at, Hp.get_set_at, Hp.set_next, Hp.alloc_next, c1]; done) | fail)) only [Hp.st, Hp.ld, Hp.lda, splice, ble_eq', if_true, if_false, ite_true, ite_false, cond_true, cond_false, decide_true, decide_false, List.length_cons, List.length_nil, List.take_zero, List.take_succ_cons, List.nil_append, List.cons_append, List.append_nil, List.drop_succ_cons, List.drop_zero, List.drop_nil, List.getElem?_cons_succ, List.getElem?_cons_zero, Nat.reduceAdd, Nat.reduceLeDiff, Nat.reduceEqDiff, Nat.zero_add, Nat.add_zero, Nat.le_refl, Nat.zero_le, Nat.succ_ne_self, Nat.mul_one, Int.toNat_natCast, Option.some.injEq, Option.isNone_some, Option.isNone_none, V.int.injEq, V.str.injEq, V.bool.injEq, V.ptr.injEq, V.slc.injEq, V.map.injEq, V.agg.injEq, V.tup.injEq, List.cons.injEq, Prod.mk.injEq, onS, true_and, and_true, and_assoc, exists_and_left, exists_eq_left', forall_eq, heq_eq_eq, reduceCtorEq, Bool.not_true, Bool.not_false, eq_self, not_false_eq_true, Nat.left_eq_add, Nat.add_eq_left, Nat.add_left_cancel_iff, Nat.add_right_cancel_iff, Nat.reduceEqDiff, Nat.one_ne_zero, Hp.get_set_self, Hp.get_set_ne, Hp.get_alloc_self, Hp.get_alloc_ne, Hp.get_alloc_at, Hp.get_set_at, Hp.set_next, Hp.alloc_next, Option.some_ne_none, V.tup.injEq, Option.isSome_some, Option.isSome_none, exists_eq_left, exists_eq, Nat.mul_zero, c1], ?_⟩
    rw [hbV]
    refine (bind_spec i1.wf i1.po).mono ?_
    rintro _ g2 ⟨rfl, r2, u2, w2⟩
    have c2 : g2.get h.next = _ := (u2.same _ n1 oP).trans c1
    have i2 := i1.ports u2 r2 w2
    refine ⟨_, rfl, ⟨bk, bi, bp, bsh, by simp (disch := (first | omega | (simp only [Hp.alloc_next, Hp.set_next] <;> omega) | (simp (disch := (first | omega | (simp only [Hp.alloc_next, Hp.set_next] <;> omega) | fail)) only [Hp.get_set_self, Hp.get_set_ne, Hp.get_alloc_self, Hp.get_alloc_ne, Hp.get_alloc_at, Hp.get_set_at, Hp.set_next, Hp.alloc_next, c2]; done) | fail)) only [Hp.st, Hp.ld, Hp.lda, splice, ble_eq', if_true, if_false, ite_true, ite_false, cond_true, cond_false, decide_true, decide_false, List.length_cons, List.length_nil, List.take_zero, List.take_succ_cons, List.nil_append, List.cons_append, List.append_nil, List.drop_succ_cons, List.drop_zero, List.drop_nil, List.getElem?_cons_succ, List.getElem?_cons_zero, Nat.reduceAdd, Nat.reduceLeDiff, Nat.reduceEqDiff, Nat.zero_add, Nat.add_zero, Nat.le_refl, Nat.zero_le, Nat.succ_ne_self, Nat.mul_one, Int.toNat_natCast, Option.some.injEq, Option.isNone_some, Option.isNone_none, V.int.injEq, V.str.injEq, V.bool.injEq, V.ptr.injEq, V.slc.injEq, V.map.injEq, V.agg.injEq, V.tup.injEq, List.cons.injEq, Prod.mk.injEq, onS, true_and, and_true, and_assoc, exists_and_left, exists_eq_left', forall_eq, heq_eq_eq, reduceCtorEq, Bool.not_true, Bool.not_false, eq_self, not_false_eq_true, Nat.left_eq_add, Nat.add_eq_left, Nat.add_left_cancel_iff, Nat.add_right_cancel_iff, Nat.reduceEqDiff, Nat.one_ne_zero, Hp.get_set_self, Hp.get_set_ne, Hp.get_alloc_self, Hp.get_alloc_ne, Hp.get_alloc_at, Hp.get_set_at, Hp.set_next, Hp.alloc_next, Option.some_ne_none, V.tup.injEq, Option.isSome_some, Option.isSome_none, exists_eq_left, exists_eq, Nat.mul_zero, c2], rfl⟩, (by trivial), ⟨w, by simp (disch := (first | omega | (simp only [Hp.alloc_next, Hp.set_next] <;> omega) | (simp (disch := (first | omega | (simp only [Hp.alloc_next, Hp.set_next] <;> omega) | fail)) only [Hp.get_set_self, Hp.get_set_ne, Hp.get_alloc_self, Hp.get_alloc_ne, Hp.get_alloc_at, Hp.get_set_at, Hp.set_next, Hp.alloc_next, c2]; done) | fail)) only [Hp.st, Hp.ld, Hp.lda, splice, ble_eq', if_true, if_false, ite_true, ite_false, cond_true, cond_false, decide_true, decide_false, List.length_cons, List.length_nil, List.take_zero, List.take_succ_cons, List.nil_append, List.cons_append, List.append_nil, List.drop_succ_cons, List.drop_zero, List.drop_nil, List.getElem?_cons_succ, List.getElem?_cons_zero, Nat.reduceAdd, Nat.reduceLeDiff, Nat.reduceEqDiff, Nat.zero_add, Nat.add_zero, Nat.le_refl, Nat.zero_le, Nat.succ_ne_self, Nat.mul_one, Int.toNat_natCast, Option.some.injEq, Option.isNone_some, Option.isNone_none, V.int.injEq, V.str.injEq, V.bool.injEq, V.ptr.injEq, V.slc.injEq, V.map.injEq, V.agg.injEq, V.tup.injEq, List.cons.injEq, Prod.mk.injEq, onS, true_and, and_true, and_assoc, exists_and_left, exists_eq_left', forall_eq, heq_eq_eq, reduceCtorEq, Bool.not_true, Bool.not_false, eq_self, not_false_eq_true, Nat.left_eq_add, Nat.add_eq_left, Nat.add_left_cancel_iff, Nat.add_right_cancel_iff, Nat.reduceEqDiff, Nat.one_ne_zero, Hp.get_set_self, Hp.get_set_ne, Hp.get_alloc_self, Hp.get_alloc_ne, Hp.get_alloc_at, Hp.get_set_at, Hp.set_next, Hp.alloc_next, Option.some_ne_none, V.tup.injEq, Option.isSome_some, Option.isSome_none, exists_eq_left, exists_eq, Nat.mul_zero, c2], rfl⟩, (by trivial), (by trivial), ?_⟩
    refine (rbind_spec w2 i2.re st.len).mono ?_
    rintro _ g3 ⟨rfl, F', r3, u3, w3⟩
    refine ⟨_, rfl, ?_⟩
    rw [bind_perm st.perm, beq_self_eq_true]
    have s2 := st.bind (s := w) (b := ⟨bk, bi, bp, bsh⟩)
    rw [bind_perm st.perm] at s2
    have i3 := i2.ref u3 r3 w3
    rw [bind_perm st.perm] at i3
    exact hK _ _ ⟨rfl, _, _, F', i3, s2⟩
  have c : (dow == 0) = false := by simp [d0]
  rw [c]
  by_cases d1 : dow = 1
  · have c : (dow == 1) = true := by simp [d1]
    simp only [c, cond_true, cond_false]
    refine ⟨w, by simp (disch := (first | omega | (simp only [Hp.alloc_next, Hp.set_next] <;> omega) | (simp (disch := (first | omega | (simp only [Hp.alloc_next, Hp.set_next] <;> omega) | fail)) only [Hp.get_set_self, Hp.get_set_ne, Hp.get_alloc_self, Hp.get_alloc_ne, Hp.get_alloc_at, Hp.get_set_at, Hp.set_next, Hp.alloc_next, c1]; done) | fail)) only [Hp.st, Hp.ld, Hp.lda, splice, ble_eq', if_true, if_false, ite_true, ite_false, cond_true, cond_false, decide_true, decide_false, List.length_cons, List.length_nil, List.take_zero, List.take_succ_cons, List.nil_append, List.cons_append, List.append_nil, List.drop_succ_cons, List.drop_zero, List.drop_nil, List.getElem?_cons_succ, List.getElem?_cons_zero, Nat.reduceAdd, Nat.reduceLeDiff, Nat.reduceEqDiff, Nat.zero_add, Nat.add_zero, Nat.le_refl, Nat.zero_le, Nat.succ_ne_self, Nat.mul_one, Int.toNat_natCast, Option.some.injEq, Option.isNone_some, Option.isNone_none, V.int.injEq, V.str.injEq, V.bool.injEq, V.ptr.injEq, V.slc.injEq, V.map.injEq, V.agg.injEq, V.tup.injEq, List.cons.injEq, Prod.mk.injEq, onS, true_and, and_true, and_assoc, exists_and_left, exists_eq_left', forall_eq, heq_eq_eq, reduceCtorEq, Bool.not_true, Bool.not_false, eq_self, not_false_eq_true, Nat.left_eq_add, Nat.add_eq_left, Nat.add_left_cancel_iff, Nat.add_right_cancel_iff, Nat.reduceEqDiff, Nat.one_ne_zero, Hp.get_set_self, Hp.get_set_ne, Hp.get_alloc_self, Hp.get_alloc_ne, Hp.get_alloc_at, Hp.get_set_at, Hp.set_next, Hp.alloc_next, Option.some_ne_none, V.tup.injEq, Option.isSome_some, Option.isSome_none, exists_eq_left, exists_eq, Nat.mul_zero, c1], bk, bi, bp, bsh, by simp (disch := (first | omega | (simp only [Hp.alloc_next, Hp.set_next] <;> omega) | (simp (disch := (first | omega | (simp only [Hp.alloc_next, Hp.set_next] <;> omega) | fail)) only [Hp.get_set_self, Hp.get_set_ne, Hp.get_alloc_self, Hp.get_alloc_ne, Hp.get_alloc_at, Hp.get_set_at, Hp.set_next, Hp.alloc_next, c1]; done) | fail)) only [Hp.st, Hp.ld, Hp.lda, splice, ble_eq', if_true, if_false, ite_true, ite_false, cond_true, cond_false, decide_true, decide_false, List.length_cons, List.length_nil, List.take_zero, List.take_succ_cons, List.nil_append, List.cons_append, List.append_nil, List.drop_succ_cons, List.drop_zero, List.drop_nil, List.getElem?_cons_succ, List.getElem?_cons_zero, Nat.reduceAdd, Nat.reduceLeDiff, Nat.reduceEqDiff, Nat.zero_add, Nat.add_zero, Nat.le_refl, Nat.zero_le, Nat.succ_ne_self, Nat.mul_one, Int.toNat_natCast, Option.some.injEq, Option.isNone_some, Option.isNone_none, V.int.injEq, V.str.injEq, V.bool.injEq, V.ptr.injEq, V.slc.injEq, V.map.injEq, V.agg.injEq, V.tup.injEq, List.cons.injEq, Prod.mk.injEq, onS, true_and, and_true, and_assoc, exists_and_left, exists_eq_left', forall_eq, heq_eq_eq, reduceCtorEq, Bool.not_true, Bool.not_false, eq_self, not_false_eq_true, Nat.left_eq_add, Nat.add_eq_left, Nat.add_left_cancel_iff, Nat.add_right_cancel_iff, Nat.reduceEqDiff, Nat.one_ne_zero, Hp.get_set_self, Hp.get_set_ne, Hp.get_alloc_self, Hp.get_alloc_ne, Hp.get_alloc_at, Hp.get_set_at, Hp.set_next, Hp.alloc_next, Option.some_ne_none, V.tup.injEq, Option.isSome_some, Option.isSome_none, exists_eq_left, exists_eq, Nat.mul_zero, c1], dr, by simp (disch := (first | omega | (simp only [Hp.alloc_next, Hp.set_next] <;> omega) | (simp (disch := (first | omega | (simp only [Hp.alloc_next, Hp.set_next] <;> omega) | fail)) only [Hp.get_set_self, Hp.get_set_ne, Hp.get_alloc_self, Hp.get_alloc_ne, Hp.get_alloc_at, Hp.get_set_at, Hp.set_next, Hp.alloc_next, c1]; done) | fail)) only [Hp.st, Hp.ld, Hp.lda, splice, ble_eq', if_true, if_false, ite_true, ite_false, cond_true, cond_false, decide_true, decide_false, List.length_cons, List.length_nil, List.take_zero, List.take_succ_cons, List.nil_append, List.cons_append, List.append_nil, List.drop_succ_cons, List.drop_zero, List.drop_nil, List.getElem?_cons_succ, List.getElem?_cons_zero, Nat.reduceAdd, Nat.reduceLeDiff, Nat.reduceEqDiff, Nat.zero_add, Nat.add_zero, Nat.le_refl, Nat.zero_le, Nat.succ_ne_self, Nat.mul_one, Int.toNat_natCast, Option.some.injEq, Option.isNone_some, Option.isNone_none, V.int.injEq, V.str.injEq, V.bool.injEq, V.ptr.injEq, V.slc.injEq, V.map.injEq, V.agg.injEq, V.tup.injEq, List.cons.injEq, Prod.mk.injEq, onS, true_and, and_true, and_assoc, exists_and_left, exists_eq_left', forall_eq, heq_eq_eq, reduceCtorEq, Bool.not_true, Bool.not_false, eq_self, not_false_eq_true, Nat.left_eq_add, Nat.add_eq_left, Nat.add_left_cancel_iff, Nat.add_right_cancel_iff, Nat.reduceEqDiff, Nat.one_ne_zero, Hp.get_set_self, Hp.get_set_ne, Hp.get_alloc_self, Hp.get_alloc_ne, Hp.get_alloc_at, Hp.get_set_at, Hp.set_next, Hp.alloc_next, Option.some_ne_none, V.tup.injEq, Option.isSome_some, Option.isSome_none, exists_eq_left, exists_eq, Nat.mul_zero, c1], ?_⟩
    rw [hbV]
    refine (lend_spec i1.wf i1.po hd).mono ?_
    rintro _ g2 ⟨code, port, L', rfl, hl, r2, u2, w2⟩
    have c2 : g2.get h.next = _ := (u2.same _ n1 oP).trans c1
    have i2 := i1.ports u2 r2 w2
    refine ⟨_, _, rfl, w, by simp (disch := (first | omega | (simp only [Hp.alloc_next, Hp.set_next] <;> omega) | (simp (disch := (first | omega | (simp only [Hp.alloc_next, Hp.set_next] <;> omega) | fail)) only [Hp.get_set_self, Hp.get_set_ne, Hp.get_alloc_self, Hp.get_alloc_ne, Hp.get_alloc_at, Hp.get_set_at, Hp.set_next, Hp.alloc_next, c2]; done) | fail)) only [Hp.st, Hp.ld, Hp.lda, splice, ble_eq', if_true, if_false, ite_true, ite_false, cond_true, cond_false, decide_true, decide_false, List.length_cons, List.length_nil, List.take_zero, List.take_succ_cons, List.nil_append, List.cons_append, List.append_nil, List.drop_succ_cons, List.drop_zero, List.drop_nil, List.getElem?_cons_succ, List.getElem?_cons_zero, Nat.reduceAdd, Nat.reduceLeDiff, Nat.reduceEqDiff, Nat.zero_add, Nat.add_zero, Nat.le_refl, Nat.zero_le, Nat.succ_ne_self, Nat.mul_one, Int.toNat_natCast, Option.some.injEq, Option.isNone_some, Option.isNone_none, V.int.injEq, V.str.injEq, V.bool.injEq, V.ptr.injEq, V.slc.injEq, V.map.injEq, V.agg.injEq, V.tup.injEq, List.cons.injEq, Prod.mk.injEq, onS, true_and, and_true, and_assoc, exists_and_left, exists_eq_left', forall_eq, heq_eq_eq, reduceCtorEq, Bool.not_true, Bool.not_false, eq_self, not_false_eq_true, Nat.left_eq_add, Nat.add_eq_left, Nat.add_left_cancel_iff, Nat.add_right_cancel_iff, Nat.reduceEqDiff, Nat.one_ne_zero, Hp.get_set_self, Hp.get_set_ne, Hp.get_alloc_self, Hp.get_alloc_ne, Hp.get_alloc_at, Hp.get_set_at, Hp.set_next, Hp.alloc_next, Option.some_ne_none, V.tup.injEq, Option.isSome_some, Option.isSome_none, exists_eq_left, exists_eq, Nat.mul_zero, c2], bk, bi, bp, bsh, by simp (disch := (first | omega | (simp only [Hp.alloc_next, Hp.set_next] <;> omega) | (simp (disch := (first | omega | (simp only [Hp.alloc_next, Hp.set_next] <;> omega) | fail)) only [Hp.get_set_self, Hp.get_set_ne, Hp.get_alloc_self, Hp.get_alloc_ne, Hp.get_alloc_at, Hp.get_set_at, Hp.set_next, Hp.alloc_next, c2]; done) | fail)) only [Hp.st, Hp.ld, Hp.lda, splice, ble_eq', if_true, if_false, ite_true, ite_false, cond_true, cond_false, decide_true, decide_false, List.length_cons, List.length_nil, List.take_zero, List.take_succ_cons, List.nil_append, List.cons_append, List.append_nil, List.drop_succ_cons, List.drop_zero, List.drop_nil, List.getElem?_cons_succ, List.getElem?_cons_zero, Nat.reduceAdd, Nat.reduceLeDiff, Nat.reduceEqDiff, Nat.zero_add, Nat.add_zero, Nat.le_refl, Nat.zero_le, Nat.succ_ne_self, Nat.mul_one, Int.toNat_natCast, Option.some.injEq, Option.isNone_some, Option.isNone_none, V.int.injEq, V.str.injEq, V.bool.injEq, V.ptr.injEq, V.slc.injEq, V.map.injEq, V.agg.injEq, V.tup.injEq, List.cons.injEq, Prod.mk.injEq, onS, true_and, and_true, and_assoc, exists_and_left, exists_eq_left', forall_eq, heq_eq_eq, reduceCtorEq, Bool.not_true, Bool.not_false, eq_self, not_false_eq_true, Nat.left_eq_add, Nat.add_eq_left, Nat.add_left_cancel_iff, Nat.add_right_cancel_iff, Nat.reduceEqDiff, Nat.one_ne_zero, Hp.get_set_self, Hp.get_set_ne, Hp.get_alloc_self, Hp.get_alloc_ne, Hp.get_alloc_at, Hp.get_set_at, Hp.set_next, Hp.alloc_next, Option.some_ne_none, V.tup.injEq, Option.isSome_some, Option.isSome_none, exists_eq_left, exists_eq, Nat.mul_zero, c2], dr, by simp (disch := (first | omega | (simp only [Hp.alloc_next, Hp.set_next] <;> omega) | (simp (disch := (first | omega | (simp only [Hp.alloc_next, Hp.set_next] <;> omega) | fail)) only [Hp.get_set_self, Hp.get_set_ne, Hp.get_alloc_self, Hp.get_alloc_ne, Hp.get_alloc_at, Hp.get_set_at, Hp.set_next, Hp.alloc_next, c2]; done) | fail)) only [Hp.st, Hp.ld, Hp.lda, splice, ble_eq', if_true, if_false, ite_true, ite_false, cond_true, cond_false, decide_true, decide_false, List.length_cons, List.length_nil, List.take_zero, List.take_succ_cons, List.nil_append, List.cons_append, List.append_nil, List.drop_succ_cons, List.drop_zero, List.drop_nil, List.getElem?_cons_succ, List.getElem?_cons_zero, Nat.reduceAdd, Nat.reduceLeDiff, Nat.reduceEqDiff, Nat.zero_add, Nat.add_zero, Nat.le_refl, Nat.zero_le, Nat.succ_ne_self, Nat.mul_one, Int.toNat_natCast, Option.some.injEq, Option.isNone_some, Option.isNone_none, V.int.injEq, V.str.injEq, V.bool.injEq, V.ptr.injEq, V.slc.injEq, V.map.injEq, V.agg.injEq, V.tup.injEq, List.cons.injEq, Prod.mk.injEq, onS, true_and, and_true, and_assoc, exists_and_left, exists_eq_left', forall_eq, heq_eq_eq, reduceCtorEq, Bool.not_true, Bool.not_false, eq_self, not_false_eq_true, Nat.left_eq_add, Nat.add_eq_left, Nat.add_left_cancel_iff, Nat.add_right_cancel_iff, Nat.reduceEqDiff, Nat.one_ne_zero, Hp.get_set_self, Hp.get_set_ne, Hp.get_alloc_self, Hp.get_alloc_ne, Hp.get_alloc_at, Hp.get_set_at, Hp.set_next, Hp.alloc_next, Option.some_ne_none, V.tup.injEq, Option.isSome_some, Option.isSome_none, exists_eq_left, exists_eq, Nat.mul_zero, c2], ?_⟩
    rw [hbV]
    refine (rlend_spec w2 i2.re st.len hd).mono ?_
    rintro _ g3 ⟨code', port', R', F', rfl, hl', r3, u3, w3⟩
    obtain ⟨rfl, rfl, s2⟩ := st.lend hl hl'
    refine ⟨_, _, rfl, ?_⟩
    simp only [beq_self_eq_true, cond_true]
    exact hK _ _ ⟨rfl, _, _, F', i2.ref u3 r3 w3, s2⟩
  have c : (dow == 1) = false := by simp [d1]
  simp only [c, cond_false]
  refine ⟨w, by simp (disch := (first | omega | (simp only [Hp.alloc_next, Hp.set_next] <;> omega) | (simp (disch := (first | omega | (simp only [Hp.alloc_next, Hp.set_next] <;> omega) | fail)) only [Hp.get_set_self, Hp.get_set_ne, Hp.get_alloc_self, Hp.get_alloc_ne, Hp.get_alloc_at, Hp.get_set_at, Hp.set_next, Hp.alloc_next, c1]; done) | fail)) only [Hp.st, Hp.ld, Hp.lda, splice, ble_eq', if_true, if_false, ite_true, ite_false, cond_true, cond_false, decide_true, decide_false, List.length_cons, List.length_nil, List.take_zero, List.take_succ_cons, List.nil_append, List.cons_append, List.append_nil, List.drop_succ_cons, List.drop_zero, List.drop_nil, List.getElem?_cons_succ, List.getElem?_cons_zero, Nat.reduceAdd, Nat.reduceLeDiff, Nat.reduceEqDiff, Nat.zero_add, Nat.add_zero, Nat.le_refl, Nat.zero_le, Nat.succ_ne_self, Nat.mul_one, Int.toNat_natCast, Option.some.injEq, Option.isNone_some, Option.isNone_none, V.int.injEq, V.str.injEq, V.bool.injEq, V.ptr.injEq, V.slc.injEq, V.map.injEq, V.agg.injEq, V.tup.injEq, List.cons.injEq, Prod.mk.injEq, onS, true_and, and_true, and_assoc, exists_and_left, exists_eq_left', forall_eq, heq_eq_eq, reduceCtorEq, Bool.not_true, Bool.not_false, eq_self, not_false_eq_true, Nat.left_eq_add, Nat.add_eq_left, Nat.add_left_cancel_iff, Nat.add_right_cancel_iff, Nat.reduceEqDiff, Nat.one_ne_zero, Hp.get_set_self, Hp.get_set_ne, Hp.get_alloc_self, Hp.get_alloc_ne, Hp.get_alloc_at, Hp.get_set_at, Hp.set_next, Hp.alloc_next, Option.some_ne_none, V.tup.injEq, Option.isSome_some, Option.isSome_none, exists_eq_left, exists_eq, Nat.mul_zero, c1], ow, by simp (disch := (first | omega | (simp only [Hp.alloc_next, Hp.set_next] <;> omega) | (simp (disch := (first | omega | (simp only [Hp.alloc_next, Hp.set_next] <;> omega) | fail)) only [Hp.get_set_self, Hp.get_set_ne, Hp.get_alloc_self, Hp.get_alloc_ne, Hp.get_alloc_at, Hp.get_set_at, Hp.set_next, Hp.alloc_next, c1]; done) | fail)) only [Hp.st, Hp.ld, Hp.lda, splice, ble_eq', if_true, if_false, ite_true, ite_false, cond_true, cond_false, decide_true, decide_false, List.length_cons, List.length_nil, List.take_zero, List.take_succ_cons, List.nil_append, List.cons_append, List.append_nil, List.drop_succ_cons, List.drop_zero, List.drop_nil, List.getElem?_cons_succ, List.getElem?_cons_zero, Nat.reduceAdd, Nat.reduceLeDiff, Nat.reduceEqDiff, Nat.zero_add, Nat.add_zero, Nat.le_refl, Nat.zero_le, Nat.succ_ne_self, Nat.mul_one, Int.toNat_natCast, Option.some.injEq, Option.isNone_some, Option.isNone_none, V.int.injEq, V.str.injEq, V.bool.injEq, V.ptr.injEq, V.slc.injEq, V.map.injEq, V.agg.injEq, V.tup.injEq, List.cons.injEq, Prod.mk.injEq, onS, true_and, and_true, and_assoc, exists_and_left, exists_eq_left', forall_eq, heq_eq_eq, reduceCtorEq, Bool.not_true, Bool.not_false, eq_self, not_false_eq_true, Nat.left_eq_add, Nat.add_eq_left, Nat.add_left_cancel_iff, Nat.add_right_cancel_iff, Nat.reduceEqDiff, Nat.one_ne_zero, Hp.get_set_self, Hp.get_set_ne, Hp.get_alloc_self, Hp.get_alloc_ne, Hp.get_alloc_at, Hp.get_set_at, Hp.set_next, Hp.alloc_next, Option.some_ne_none, V.tup.injEq, Option.isSome_some, Option.isSome_none, exists_eq_left, exists_eq, Nat.mul_zero, c1], ?_⟩
  rintro g2 rfl
  have q2 := Quiet.alloc q1.wf (.row [.int .u64 w, .int .u64 ow] 1 false)
  have c2 : (g1.alloc (.row [.int .u64 w, .int .u64 ow] 1 false)).get h.next = _ := (q2.same _ n1).trans c1
  have n2 := q2.wf.lt c2
  have i2 := i1.quiet q2
  obtain ⟨oF2, oP2⟩ := i1.out g1.next (Nat.le_refl _)
  have rd : Rd (some (g1.next, 0)) 2 [w, ow] (g1.alloc (.row [.int .u64 w, .int .u64 ow] 1 false)) := ⟨rfl, fun _ => ⟨_, _, _, _, _, rfl, Hp.get_alloc_self, fun k hk => match k, hk with
    | 0, _ => rfl
    | 1, _ => rfl⟩⟩
  refine (give_spec (xs := [w, ow]) q2.wf i2.po st.nodupL (by have := st.llen; have := st.len; omega) rd (by omega) (fun qq o e => by cases e; exact oP2)).mono ?_
  rintro _ g3 ⟨rfl, r3, u3, w3⟩
  have c3 : g3.get h.next = _ := (u3.same _ n2 oP).trans c2
  have n3 := w3.lt c3
  have i3 := i2.ports u3 r3 w3
  refine ⟨_, rfl, w, by simp (disch := (first | omega | (simp only [Hp.alloc_next, Hp.set_next] <;> omega) | (simp (disch := (first | omega | (simp only [Hp.alloc_next, Hp.set_next] <;> omega) | fail)) only [Hp.get_set_self, Hp.get_set_ne, Hp.get_alloc_self, Hp.get_alloc_ne, Hp.get_alloc_at, Hp.get_set_at, Hp.set_next, Hp.alloc_next, c3]; done) | fail)) only [Hp.st, Hp.ld, Hp.lda, splice, ble_eq', if_true, if_false, ite_true, ite_false, cond_true, cond_false, decide_true, decide_false, List.length_cons, List.length_nil, List.take_zero, List.take_succ_cons, List.nil_append, List.cons_append, List.append_nil, List.drop_succ_cons, List.drop_zero, List.drop_nil, List.getElem?_cons_succ, List.getElem?_cons_zero, Nat.reduceAdd, Nat.reduceLeDiff, Nat.reduceEqDiff, Nat.zero_add, Nat.add_zero, Nat.le_refl, Nat.zero_le, Nat.succ_ne_self, Nat.mul_one, Int.toNat_natCast, Option.some.injEq, Option.isNone_some, Option.isNone_none, V.int.injEq, V.str.injEq, V.bool.injEq, V.ptr.injEq, V.slc.injEq, V.map.injEq, V.agg.injEq, V.tup.injEq, List.cons.injEq, Prod.mk.injEq, onS, true_and, and_true, and_assoc, exists_and_left, exists_eq_left', forall_eq, heq_eq_eq, reduceCtorEq, Bool.not_true, Bool.not_false, eq_self, not_false_eq_true, Nat.left_eq_add, Nat.add_eq_left, Nat.add_left_cancel_iff, Nat.add_right_cancel_iff, Nat.reduceEqDiff, Nat.one_ne_zero, Hp.get_set_self, Hp.get_set_ne, Hp.get_alloc_self, Hp.get_alloc_ne, Hp.get_alloc_at, Hp.get_set_at, Hp.set_next, Hp.alloc_next, Option.some_ne_none, V.tup.injEq, Option.isSome_some, Option.isSome_none, exists_eq_left, exists_eq, Nat.mul_zero, c3], ?_⟩
  refine (rgive_spec w3 i3.re st.len st.nodup).mono ?_
  rintro _ g4 ⟨rfl, F4, r4, u4, w4⟩
  have c4 : g4.get h.next = _ := (u4.same _ n3 oF).trans c3
  have n4 := w4.lt c4
  have i4 := i3.ref u4 r4 w4
  refine ⟨_, rfl, ow, by simp (disch := (first | omega | (simp only [Hp.alloc_next, Hp.set_next] <;> omega) | (simp (disch := (first | omega | (simp only [Hp.alloc_next, Hp.set_next] <;> omega) | fail)) only [Hp.get_set_self, Hp.get_set_ne, Hp.get_alloc_self, Hp.get_alloc_ne, Hp.get_alloc_at, Hp.get_set_at, Hp.set_next, Hp.alloc_next, c4]; done) | fail)) only [Hp.st, Hp.ld, Hp.lda, splice, ble_eq', if_true, if_false, ite_true, ite_false, cond_true, cond_false, decide_true, decide_false, List.length_cons, List.length_nil, List.take_zero, List.take_succ_cons, List.nil_append, List.cons_append, List.append_nil, List.drop_succ_cons, List.drop_zero, List.drop_nil, List.getElem?_cons_succ, List.getElem?_cons_zero, Nat.reduceAdd, Nat.reduceLeDiff, Nat.reduceEqDiff, Nat.zero_add, Nat.add_zero, Nat.le_refl, Nat.zero_le, Nat.succ_ne_self, Nat.mul_one, Int.toNat_natCast, Option.some.injEq, Option.isNone_some, Option.isNone_none, V.int.injEq, V.str.injEq, V.bool.injEq, V.ptr.injEq, V.slc.injEq, V.map.injEq, V.agg.injEq, V.tup.injEq, List.cons.injEq, Prod.mk.injEq, onS, true_and, and_true, and_assoc, exists_and_left, exists_eq_left', forall_eq, heq_eq_eq, reduceCtorEq, Bool.not_true, Bool.not_false, eq_self, not_false_eq_true, Nat.left_eq_add, Nat.add_eq_left, Nat.add_left_cancel_iff, Nat.add_right_cancel_iff, Nat.reduceEqDiff, Nat.one_ne_zero, Hp.get_set_self, Hp.get_set_ne, Hp.get_alloc_self, Hp.get_alloc_ne, Hp.get_alloc_at, Hp.get_set_at, Hp.set_next, Hp.alloc_next, Option.some_ne_none, V.tup.injEq, Option.isSome_some, Option.isSome_none, exists_eq_left, exists_eq, Nat.mul_zero, c4], ?_⟩
  have s4 := st.without [w]
  refine (rgive_spec w4 i4.re s4.len s4.nodup).mono ?_
  rintro _ g5 ⟨rfl, F5, r5, u5, w5⟩
  refine ⟨_, rfl, ?_⟩
  have s5 := s4.without [ow]
  have h1 := st.llen
  have h2 := s4.llen
  have h3 := s5.llen
  have l1 := st.len
  have l2 : (without R [w]).length ≤ R.length := List.length_filter_le _ _
  have l3 : (without (without R [w]) [ow]).length ≤ (without R [w]).length := List.length_filter_le _ _
  have e : (L.length : Int) - (without L [w, ow]).length = IntKind.i64.wrap ((R.length : Int) - (without R [w]).length + ((without R [w]).length - (without (without R [w]) [ow]).length)) := by
    rw [without_two, wr (by omega) (by omega)]; omega
  rw [e, beq_self_eq_true]
  refine hK _ _ ⟨rfl, _, _, F5, i4.ref u5 r5 w5, ?_⟩
  rw [without_two]; exact s5

end Go.Vex.Ports
