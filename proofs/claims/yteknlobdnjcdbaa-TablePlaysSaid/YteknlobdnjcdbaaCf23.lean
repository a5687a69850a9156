/-
  The table's contracts (layer 23): Rest, Listen, New, pair.
-/
import Derived.Test.YteknlobdnjcdbaaVexFF
import Derived.Test.YteknlobdnjcdbaaVexGG
import Derived.Test.YteknlobdnjcdbaaTab23
import Derived.Test.YteknlobdnjcdbaaXa23
import Derived.Test.YteknlobdnjcdbaaCa23
import Derived.Test.YteknlobdnjcdbaaCb23
import Derived.Test.YteknlobdnjcdbaaCc23
import Derived.Test.YteknlobdnjcdbaaXb23
import Derived.Test.YteknlobdnjcdbaaCe23
set_option linter.unusedVariables false
set_option linter.unusedSimpArgs false
namespace Go.Vex.Tbl
open Go.Proofs

section
variable {t : Nat} {S : TS} {h : Hp} {F : List Nat}

theorem TabR.lt (r : TabR t S h F) (hw : h.wf) : ∀ j ∈ F, j < h.next := fun j hj => (TabR.rep _ _).lt hw r hj
theorem TabR.tF (r : TabR t S h F) : t ∈ F := by obtain ⟨_, _, _, _, _, _, _, _, rfl, _⟩ := r; simp

theorem TabR.shard (r : TabR t S h F) (p : Pr) : ∃ m, h.ld t (0 + ((shard p : Nat) : Int).toNat * 1) = some (.map (some m)) ∧ xlook T h 65 (.map (some m)) p.v true = some (.tup [enV ((look S p).getD (0, 0)), .bool (look S p).isSome]) := by
  obtain ⟨m, o, hld, hmg, hmo, hmF, hmt, hback⟩ := r.map (shard_lt p)
  have hlk := hmo.look2 mtE p h m hmg
  rw [lookV_getD] at hlk
  exact ⟨m, hld, hlk⟩

theorem TabR.xput (r : TabR t S h F) (hw : h.wf) (p : Pr) (e : Int × Int) {m : Nat} (hm : h.ld t (0 + ((Tbl.shard p : Nat) : Int).toNat * 1) = some (.map (some m))) : ∃ h', Vex.xput T h 65 (.map (some m)) p.v (enV e) = some h' ∧ TabR t (S.put p e) h' F ∧ h'.wf ∧ h'.next = h.next ∧ ∀ j, j ∉ F → h'.get j = h.get j := by
  obtain ⟨m', o, hld, hmg, hmo, hmF, hmt, hback⟩ := r.map (shard_lt p)
  rw [hld] at hm
  cases hm
  obtain ⟨o', hmo', hput⟩ := hmo.put mtE p e
  refine ⟨_, hput h m hmg, ?_, hw.set (r.lt hw m hmF), rfl, fun j hj => Hp.get_set_ne (fun e => hj (by rw [e]; exact hmF))⟩
  have := hback (h.set m o') (mput (S.ms (Tbl.shard p)) p e) o' hmo' Hp.get_set_self (fun j hj hne => Hp.get_set_ne hne)
  refine Eq.mp ?_ this
  congr 1
  unfold TS.put
  congr 1
  funext j
  by_cases e : j = Tbl.shard p
  · subst e; simp
  · simp [e]

/-- what stays of the place of the table's maps -/
theorem TabR.ldk (r : TabR t S h F) {h' : Hp} (hs : h'.get t = h.get t) (k : Nat) : h'.ld t k = h.ld t k := by
  obtain ⟨L, e, oe, h1, h2, _⟩ := r
  rw [Hp.ld_of h2, Hp.ld_of (by rw [hs]; exact h2)]

/-- what Rest does -/
def restF (S : TS) (p : Pr) (u : Int) : Int × TS :=
  if ((look S p).isSome && ((look S p).getD (0, 0)).1 == 0) = true then (0, S.put p (0, if u < ((look S p).getD (0, 0)).2 then ((look S p).getD (0, 0)).2 else u))
  else if ¬ S.rests < 1024 then (6, S)
  else if (look S p).isSome = true then (0, ({ S with conns := IntKind.i64.wrap (S.conns - 1), rests := IntKind.i64.wrap (S.rests + 1) } : TS).put p (0, u))
  else (0, ({ S with rests := IntKind.i64.wrap (S.rests + 1) } : TS).put p (0, u))

theorem rest_spec (hw : h.wf) (r : TabR t S h F) (p : Pr) (u : Int) : XCalls Try.prog 11 [.ptr (some (t, 0)), p.v, .int .i64 u] h fun v h' => v = .int .i64 (restF S p u).1 ∧ TabR t (restF S p u).2 h' F ∧ Upd h h' F F ∧ h'.wf := by
  refine XCalls.cps fun K hK => ?_
  apply x11; unfold X11
  rintro h1 rfl
  have q1 := Quiet.alloc hw (.row [.int .u32 p.a, .int .u16 p.b, .int .u32 p.c, .int .u16 p.d] 1 false)
  have g1 : (h.alloc (.row [.int .u32 p.a, .int .u16 p.b, .int .u32 p.c, .int .u16 p.d] 1 false)).get h.next = some (.row [.int .u32 p.a, .int .u16 p.b, .int .u32 p.c, .int .u16 p.d] 1 false) := Hp.get_alloc_self
  have r1 := r.quiet hw q1
  have n1 : (h.alloc (.row [.int .u32 p.a, .int .u16 p.b, .int .u32 p.c, .int .u16 p.d] 1 false)).next = h.next + 1 := Hp.alloc_next _ _
  generalize h.alloc (.row [.int .u32 p.a, .int .u16 p.b, .int .u32 p.c, .int .u16 p.d] 1 false) = h1 at *
  have hFl := r.lt hw
  have htF := r.tF
  have hNF : h.next ∉ F := fun hh => by have := hFl _ hh; omega
  refine (made_spec r1).mono ?_
  rintro _ h2 ⟨rfl, rfl⟩
  refine ⟨_, rfl, p.a, p.b, p.c, p.d, by simp (disch := (first | omega | (simp only [Hp.alloc_next, Hp.set_next] <;> omega) | (simp (disch := (first | omega | (simp only [Hp.alloc_next, Hp.set_next] <;> omega) | fail)) only [Hp.get_set_self, Hp.get_set_ne, Hp.get_alloc_self, Hp.get_alloc_ne, Hp.get_alloc_at, Hp.get_set_at, Hp.set_next, Hp.alloc_next, g1]; done) | fail)) only [Hp.st, Hp.ld, Hp.lda, splice, ble_eq', if_true, if_false, ite_true, ite_false, cond_true, cond_false, decide_true, decide_false, List.length_cons, List.length_nil, List.take_zero, List.take_succ_cons, List.nil_append, List.cons_append, List.append_nil, List.drop_succ_cons, List.drop_zero, List.drop_nil, List.getElem?_cons_succ, List.getElem?_cons_zero, Nat.reduceAdd, Nat.reduceLeDiff, Nat.reduceEqDiff, Nat.zero_add, Nat.add_zero, Nat.le_refl, Nat.zero_le, Nat.succ_ne_self, Nat.mul_one, Int.toNat_natCast, Option.some.injEq, Option.isNone_some, Option.isNone_none, V.int.injEq, V.str.injEq, V.bool.injEq, V.ptr.injEq, V.slc.injEq, V.map.injEq, V.agg.injEq, V.tup.injEq, List.cons.injEq, Prod.mk.injEq, onS, true_and, and_true, and_assoc, exists_and_left, exists_eq_left', forall_eq, heq_eq_eq, reduceCtorEq, Bool.not_true, Bool.not_false, eq_self, not_false_eq_true, Nat.left_eq_add, Nat.add_eq_left, Nat.add_left_cancel_iff, Nat.add_right_cancel_iff, Nat.reduceEqDiff, Nat.one_ne_zero, Hp.get_set_self, Hp.get_set_ne, Hp.get_alloc_self, Hp.get_alloc_ne, Hp.get_alloc_at, Hp.get_set_at, Hp.set_next, Hp.alloc_next, Option.some_ne_none, V.tup.injEq, Option.isSome_some, Option.isSome_none, exists_eq_left, exists_eq, Nat.mul_zero, g1], ?_⟩
  refine (shard_spec p).mono ?_
  rintro _ h3 ⟨rfl, rfl⟩
  have hsl := shard_lt p
  obtain ⟨m, hld, hlk⟩ := r1.shard p
  refine ⟨_, rfl, rfl, rfl, rfl, ⟨by omega, by omega⟩, some m, hld, p.a, p.b, p.c, p.d, by simp (disch := (first | omega | (simp only [Hp.alloc_next, Hp.set_next] <;> omega) | (simp (disch := (first | omega | (simp only [Hp.alloc_next, Hp.set_next] <;> omega) | fail)) only [Hp.get_set_self, Hp.get_set_ne, Hp.get_alloc_self, Hp.get_alloc_ne, Hp.get_alloc_at, Hp.get_set_at, Hp.set_next, Hp.alloc_next, g1]; done) | fail)) only [Hp.st, Hp.ld, Hp.lda, splice, ble_eq', if_true, if_false, ite_true, ite_false, cond_true, cond_false, decide_true, decide_false, List.length_cons, List.length_nil, List.take_zero, List.take_succ_cons, List.nil_append, List.cons_append, List.append_nil, List.drop_succ_cons, List.drop_zero, List.drop_nil, List.getElem?_cons_succ, List.getElem?_cons_zero, Nat.reduceAdd, Nat.reduceLeDiff, Nat.reduceEqDiff, Nat.zero_add, Nat.add_zero, Nat.le_refl, Nat.zero_le, Nat.succ_ne_self, Nat.mul_one, Int.toNat_natCast, Option.some.injEq, Option.isNone_some, Option.isNone_none, V.int.injEq, V.str.injEq, V.bool.injEq, V.ptr.injEq, V.slc.injEq, V.map.injEq, V.agg.injEq, V.tup.injEq, List.cons.injEq, Prod.mk.injEq, onS, true_and, and_true, and_assoc, exists_and_left, exists_eq_left', forall_eq, heq_eq_eq, reduceCtorEq, Bool.not_true, Bool.not_false, eq_self, not_false_eq_true, Nat.left_eq_add, Nat.add_eq_left, Nat.add_left_cancel_iff, Nat.add_right_cancel_iff, Nat.reduceEqDiff, Nat.one_ne_zero, Hp.get_set_self, Hp.get_set_ne, Hp.get_alloc_self, Hp.get_alloc_ne, Hp.get_alloc_at, Hp.get_set_at, Hp.set_next, Hp.alloc_next, Option.some_ne_none, V.tup.injEq, Option.isSome_some, Option.isSome_none, exists_eq_left, exists_eq, Nat.mul_zero, g1], ((look S p).getD (0, 0)).1, ((look S p).getD (0, 0)).2, _, hlk, ?_⟩
  rintro h4 rfl
  refine ⟨_, Hp.st_of Hp.get_alloc_self (Nat.le_of_ble_eq_true rfl), ?_⟩
  obtain ⟨h5, hh5⟩ : ∃ h5, h5 = (h3.alloc (.row [.int .u64 0, .int .i64 0] 1 false)).set h3.next (.row (splice [.int .u64 0, .int .i64 0] 0 [.int .u64 ((look S p).getD (0, 0)).1, .int .i64 ((look S p).getD (0, 0)).2]) 1 false) := ⟨_, rfl⟩
  rw [← hh5]
  have c5 : h5.get h3.next = some (.row [.int .u64 ((look S p).getD (0, 0)).1, .int .i64 ((look S p).getD (0, 0)).2] 1 false) := by rw [hh5, Hp.get_set_self]; rfl
  have q5 : Quiet h3 h5 := by rw [hh5]; exact ⟨fun j hj => by rw [Hp.get_set_ne (by omega), Hp.get_alloc_ne (by omega)], by simp [Hp.alloc_next], q1.wf.alloc.set (Nat.lt_succ_self _)⟩
  clear hh5
  have q := q1.trans q5
  have r5 := r.quiet hw q
  have g5 : h5.get h.next = some (.row [.int .u32 p.a, .int .u16 p.b, .int .u32 p.c, .int .u16 p.d] 1 false) := by rw [q5.same _ (by omega)]; exact g1
  have ld5 : h5.ld t (0 + ((shard p : Nat) : Int).toNat * 1) = some (.map (some m)) := by rw [r1.ldk (q5.same t (by have := hFl t htF; omega))]; exact hld
  have hup : ∀ {h' : Hp}, h5.next ≤ h'.next → (∀ j, j ∉ F → h'.get j = h5.get j) → Upd h h' F F := fun {h'} hl hs => ⟨fun j hj hF => by rw [hs j hF, q.same j hj], fun j hj => .inl hj, by have := q.le; omega⟩
  generalize hx : look S p = x at *
  obtain ⟨s, w⟩ : Int × Int := x.getD (0, 0)
  refine ⟨fun vs h' => match vs with
    | [.bool b] => h' = h5 ∧ b = (x.isSome && (x.getD (0, 0)).1 == 0)
    | _ => False, ?_, ?_⟩
  · cases hs : x.isSome with
    | true => exact ⟨_, by simp (disch := (first | omega | (simp only [Hp.alloc_next, Hp.set_next] <;> omega) | (simp (disch := (first | omega | (simp only [Hp.alloc_next, Hp.set_next] <;> omega) | fail)) only [Hp.get_set_self, Hp.get_set_ne, Hp.get_alloc_self, Hp.get_alloc_ne, Hp.get_alloc_at, Hp.get_set_at, Hp.set_next, Hp.alloc_next, c5]; done) | fail)) only [Hp.st, Hp.ld, Hp.lda, splice, ble_eq', if_true, if_false, ite_true, ite_false, cond_true, cond_false, decide_true, decide_false, List.length_cons, List.length_nil, List.take_zero, List.take_succ_cons, List.nil_append, List.cons_append, List.append_nil, List.drop_succ_cons, List.drop_zero, List.drop_nil, List.getElem?_cons_succ, List.getElem?_cons_zero, Nat.reduceAdd, Nat.reduceLeDiff, Nat.reduceEqDiff, Nat.zero_add, Nat.add_zero, Nat.le_refl, Nat.zero_le, Nat.succ_ne_self, Nat.mul_one, Int.toNat_natCast, Option.some.injEq, Option.isNone_some, Option.isNone_none, V.int.injEq, V.str.injEq, V.bool.injEq, V.ptr.injEq, V.slc.injEq, V.map.injEq, V.agg.injEq, V.tup.injEq, List.cons.injEq, Prod.mk.injEq, onS, true_and, and_true, and_assoc, exists_and_left, exists_eq_left', forall_eq, heq_eq_eq, reduceCtorEq, Bool.not_true, Bool.not_false, eq_self, not_false_eq_true, Nat.left_eq_add, Nat.add_eq_left, Nat.add_left_cancel_iff, Nat.add_right_cancel_iff, Nat.reduceEqDiff, Nat.one_ne_zero, Hp.get_set_self, Hp.get_set_ne, Hp.get_alloc_self, Hp.get_alloc_ne, Hp.get_alloc_at, Hp.get_set_at, Hp.set_next, Hp.alloc_next, Option.some_ne_none, V.tup.injEq, Option.isSome_some, Option.isSome_none, exists_eq_left, exists_eq, Nat.mul_zero, c5], rfl, rfl, rfl⟩
    | false => exact ⟨rfl, rfl, rfl⟩
  rintro bs b h6 ⟨rfl, hb⟩
  cases b with
  | true =>
    simp only [Bool.not_true, cond_false, cond_true]
    obtain ⟨h7, hp7, r7, w7, n7, s7⟩ := r5.xput q.wf p (0, if u < (x.getD (0, 0)).2 then (x.getD (0, 0)).2 else u) ld5
    have e1 : (bif ltI u (x.getD (0, 0)).2 then (x.getD (0, 0)).2 else u) = if u < (x.getD (0, 0)).2 then (x.getD (0, 0)).2 else u := by
      cases c : ltI u (x.getD (0, 0)).2 with
      | true => rw [ltI_eq, decide_eq_true_eq] at c; rw [if_pos c]; rfl
      | false => rw [ltI_eq, decide_eq_false_iff_not] at c; rw [if_neg c]; rfl
    refine ⟨(x.getD (0, 0)).2, by simp (disch := (first | omega | (simp only [Hp.alloc_next, Hp.set_next] <;> omega) | (simp (disch := (first | omega | (simp only [Hp.alloc_next, Hp.set_next] <;> omega) | fail)) only [Hp.get_set_self, Hp.get_set_ne, Hp.get_alloc_self, Hp.get_alloc_ne, Hp.get_alloc_at, Hp.get_set_at, Hp.set_next, Hp.alloc_next, c5]; done) | fail)) only [Hp.st, Hp.ld, Hp.lda, splice, ble_eq', if_true, if_false, ite_true, ite_false, cond_true, cond_false, decide_true, decide_false, List.length_cons, List.length_nil, List.take_zero, List.take_succ_cons, List.nil_append, List.cons_append, List.append_nil, List.drop_succ_cons, List.drop_zero, List.drop_nil, List.getElem?_cons_succ, List.getElem?_cons_zero, Nat.reduceAdd, Nat.reduceLeDiff, Nat.reduceEqDiff, Nat.zero_add, Nat.add_zero, Nat.le_refl, Nat.zero_le, Nat.succ_ne_self, Nat.mul_one, Int.toNat_natCast, Option.some.injEq, Option.isNone_some, Option.isNone_none, V.int.injEq, V.str.injEq, V.bool.injEq, V.ptr.injEq, V.slc.injEq, V.map.injEq, V.agg.injEq, V.tup.injEq, List.cons.injEq, Prod.mk.injEq, onS, true_and, and_true, and_assoc, exists_and_left, exists_eq_left', forall_eq, heq_eq_eq, reduceCtorEq, Bool.not_true, Bool.not_false, eq_self, not_false_eq_true, Nat.left_eq_add, Nat.add_eq_left, Nat.add_left_cancel_iff, Nat.add_right_cancel_iff, Nat.reduceEqDiff, Nat.one_ne_zero, Hp.get_set_self, Hp.get_set_ne, Hp.get_alloc_self, Hp.get_alloc_ne, Hp.get_alloc_at, Hp.get_set_at, Hp.set_next, Hp.alloc_next, Option.some_ne_none, V.tup.injEq, Option.isSome_some, Option.isSome_none, exists_eq_left, exists_eq, Nat.mul_zero, c5], p.a, p.b, p.c, p.d, by simp (disch := (first | omega | (simp only [Hp.alloc_next, Hp.set_next] <;> omega) | (simp (disch := (first | omega | (simp only [Hp.alloc_next, Hp.set_next] <;> omega) | fail)) only [Hp.get_set_self, Hp.get_set_ne, Hp.get_alloc_self, Hp.get_alloc_ne, Hp.get_alloc_at, Hp.get_set_at, Hp.set_next, Hp.alloc_next, g5]; done) | fail)) only [Hp.st, Hp.ld, Hp.lda, splice, ble_eq', if_true, if_false, ite_true, ite_false, cond_true, cond_false, decide_true, decide_false, List.length_cons, List.length_nil, List.take_zero, List.take_succ_cons, List.nil_append, List.cons_append, List.append_nil, List.drop_succ_cons, List.drop_zero, List.drop_nil, List.getElem?_cons_succ, List.getElem?_cons_zero, Nat.reduceAdd, Nat.reduceLeDiff, Nat.reduceEqDiff, Nat.zero_add, Nat.add_zero, Nat.le_refl, Nat.zero_le, Nat.succ_ne_self, Nat.mul_one, Int.toNat_natCast, Option.some.injEq, Option.isNone_some, Option.isNone_none, V.int.injEq, V.str.injEq, V.bool.injEq, V.ptr.injEq, V.slc.injEq, V.map.injEq, V.agg.injEq, V.tup.injEq, List.cons.injEq, Prod.mk.injEq, onS, true_and, and_true, and_assoc, exists_and_left, exists_eq_left', forall_eq, heq_eq_eq, reduceCtorEq, Bool.not_true, Bool.not_false, eq_self, not_false_eq_true, Nat.left_eq_add, Nat.add_eq_left, Nat.add_left_cancel_iff, Nat.add_right_cancel_iff, Nat.reduceEqDiff, Nat.one_ne_zero, Hp.get_set_self, Hp.get_set_ne, Hp.get_alloc_self, Hp.get_alloc_ne, Hp.get_alloc_at, Hp.get_set_at, Hp.set_next, Hp.alloc_next, Option.some_ne_none, V.tup.injEq, Option.isSome_some, Option.isSome_none, exists_eq_left, exists_eq, Nat.mul_zero, g5], h7, by rw [e1]; exact hp7, hK _ _ ?_⟩
    rw [restF, hx, if_pos hb.symm]
    exact ⟨rfl, r7, hup (by omega) s7, w7⟩
  | false =>
    simp only [Bool.not_false, cond_false, cond_true]
    have hb' : ¬ (x.isSome && (x.getD (0, 0)).1 == 0) = true := by rw [← hb]; exact Bool.false_ne_true
    refine ⟨S.rests, r5.ld10, ?_⟩
    cases hc : ltI S.rests 1024 with
    | false =>
      rw [ltI_eq, decide_eq_false_iff_not] at hc
      refine hK _ _ ?_
      rw [restF, hx, if_neg hb', if_pos hc]
      exact ⟨rfl, r5, q.upd F, q.wf⟩
    | true =>
    rw [ltI_eq, decide_eq_true_eq] at hc
    cases hs : x.isSome with
    | true =>
      obtain ⟨h7, hst7, r7, u7, w7, s7⟩ := r5.st9 q.wf (IntKind.i64.wrap (S.conns - 1))
      obtain ⟨h8, hst8, r8, u8, w8, s8⟩ := r7.st10 w7 (IntKind.i64.wrap (S.rests + 1))
      have hlt8 : ∀ {h' : Hp}, TabR t S h' F → True := fun _ => trivial
      have g8 : h8.get h.next = some (.row [.int .u32 p.a, .int .u16 p.b, .int .u32 p.c, .int .u16 p.d] 1 false) := by rw [s8 _ hNF, s7 _ hNF]; exact g5
      have n7 := u7.le
      have n8 := u8.le
      obtain ⟨m8, hld8, _⟩ := r8.shard p
      have hm8 : m8 = m := by
        obtain ⟨L, e, oe, e1, e2, _⟩ := r5
        obtain ⟨L8, e8, oe8, f1, f2, _⟩ := r8
        have h7' := hst7
        rw [Hp.st_of e2 (by rw [tRow_len e1]; exact Nat.le_of_ble_eq_true rfl), tRow_s9 e1] at h7'
        cases h7'
        have h8' := hst8
        rw [Hp.st_of Hp.get_set_self (by rw [tRow_len e1]; exact Nat.le_of_ble_eq_true rfl), tRow_s10 e1] at h8'
        cases h8'
        rw [Hp.ld_of Hp.get_set_self] at hld8
        rw [Hp.ld_of e2] at ld5
        simp only [Int.toNat_natCast, Nat.mul_one, Nat.zero_add] at hld8 ld5
        obtain ⟨mm, hmm⟩ : ∃ mm, L[Tbl.shard p]? = some mm := ⟨_, List.getElem?_eq_getElem (by omega)⟩
        rw [tRow_k hmm] at hld8 ld5
        rw [ld5] at hld8
        simpa using hld8.symm
      subst hm8
      obtain ⟨h9, hp9, r9, w9, n9, s9⟩ := r8.xput w8 p (0, u) hld8
      refine ⟨S.conns, r5.ld9, h7, hst7, S.rests, r7.ld10, h8, hst8, p.a, p.b, p.c, p.d, by simp (disch := (first | omega | (simp only [Hp.alloc_next, Hp.set_next] <;> omega) | (simp (disch := (first | omega | (simp only [Hp.alloc_next, Hp.set_next] <;> omega) | fail)) only [Hp.get_set_self, Hp.get_set_ne, Hp.get_alloc_self, Hp.get_alloc_ne, Hp.get_alloc_at, Hp.get_set_at, Hp.set_next, Hp.alloc_next, g8]; done) | fail)) only [Hp.st, Hp.ld, Hp.lda, splice, ble_eq', if_true, if_false, ite_true, ite_false, cond_true, cond_false, decide_true, decide_false, List.length_cons, List.length_nil, List.take_zero, List.take_succ_cons, List.nil_append, List.cons_append, List.append_nil, List.drop_succ_cons, List.drop_zero, List.drop_nil, List.getElem?_cons_succ, List.getElem?_cons_zero, Nat.reduceAdd, Nat.reduceLeDiff, Nat.reduceEqDiff, Nat.zero_add, Nat.add_zero, Nat.le_refl, Nat.zero_le, Nat.succ_ne_self, Nat.mul_one, Int.toNat_natCast, Option.some.injEq, Option.isNone_some, Option.isNone_none, V.int.injEq, V.str.injEq, V.bool.injEq, V.ptr.injEq, V.slc.injEq, V.map.injEq, V.agg.injEq, V.tup.injEq, List.cons.injEq, Prod.mk.injEq, onS, true_and, and_true, and_assoc, exists_and_left, exists_eq_left', forall_eq, heq_eq_eq, reduceCtorEq, Bool.not_true, Bool.not_false, eq_self, not_false_eq_true, Nat.left_eq_add, Nat.add_eq_left, Nat.add_left_cancel_iff, Nat.add_right_cancel_iff, Nat.reduceEqDiff, Nat.one_ne_zero, Hp.get_set_self, Hp.get_set_ne, Hp.get_alloc_self, Hp.get_alloc_ne, Hp.get_alloc_at, Hp.get_set_at, Hp.set_next, Hp.alloc_next, Option.some_ne_none, V.tup.injEq, Option.isSome_some, Option.isSome_none, exists_eq_left, exists_eq, Nat.mul_zero, g8], h9, hp9, hK _ _ ?_⟩
      rw [restF, hx, if_neg hb', if_neg (by omega), if_pos hs]
      exact ⟨rfl, r9, hup (by omega) fun j hj => by rw [s9 j hj, s8 j hj, s7 j hj], w9⟩
    | false =>
      obtain ⟨h8, hst8, r8, u8, w8, s8⟩ := r5.st10 q.wf (IntKind.i64.wrap (S.rests + 1))
      have g8 : h8.get h.next = some (.row [.int .u32 p.a, .int .u16 p.b, .int .u32 p.c, .int .u16 p.d] 1 false) := by rw [s8 _ hNF]; exact g5
      have n8 := u8.le
      obtain ⟨m8, hld8, _⟩ := r8.shard p
      have hm8 : m8 = m := by
        obtain ⟨L, e, oe, e1, e2, _⟩ := r5
        have h8' := hst8
        rw [Hp.st_of e2 (by rw [tRow_len e1]; exact Nat.le_of_ble_eq_true rfl), tRow_s10 e1] at h8'
        cases h8'
        rw [Hp.ld_of Hp.get_set_self] at hld8
        rw [Hp.ld_of e2] at ld5
        simp only [Int.toNat_natCast, Nat.mul_one, Nat.zero_add] at hld8 ld5
        obtain ⟨mm, hmm⟩ : ∃ mm, L[Tbl.shard p]? = some mm := ⟨_, List.getElem?_eq_getElem (by omega)⟩
        rw [tRow_k hmm] at hld8 ld5
        rw [ld5] at hld8
        simpa using hld8.symm
      subst hm8
      obtain ⟨h9, hp9, r9, w9, n9, s9⟩ := r8.xput w8 p (0, u) hld8
      refine ⟨S.rests, r5.ld10, h8, hst8, p.a, p.b, p.c, p.d, by simp (disch := (first | omega | (simp only [Hp.alloc_next, Hp.set_next] <;> omega) | (simp (disch := (first | omega | (simp only [Hp.alloc_next, Hp.set_next] <;> omega) | fail)) only [Hp.get_set_self, Hp.get_set_ne, Hp.get_alloc_self, Hp.get_alloc_ne, Hp.get_alloc_at, Hp.get_set_at, Hp.set_next, Hp.alloc_next, g8]; done) | fail)) only [Hp.st, Hp.ld, Hp.lda, splice, ble_eq', if_true, if_false, ite_true, ite_false, cond_true, cond_false, decide_true, decide_false, List.length_cons, List.length_nil, List.take_zero, List.take_succ_cons, List.nil_append, List.cons_append, List.append_nil, List.drop_succ_cons, List.drop_zero, List.drop_nil, List.getElem?_cons_succ, List.getElem?_cons_zero, Nat.reduceAdd, Nat.reduceLeDiff, Nat.reduceEqDiff, Nat.zero_add, Nat.add_zero, Nat.le_refl, Nat.zero_le, Nat.succ_ne_self, Nat.mul_one, Int.toNat_natCast, Option.some.injEq, Option.isNone_some, Option.isNone_none, V.int.injEq, V.str.injEq, V.bool.injEq, V.ptr.injEq, V.slc.injEq, V.map.injEq, V.agg.injEq, V.tup.injEq, List.cons.injEq, Prod.mk.injEq, onS, true_and, and_true, and_assoc, exists_and_left, exists_eq_left', forall_eq, heq_eq_eq, reduceCtorEq, Bool.not_true, Bool.not_false, eq_self, not_false_eq_true, Nat.left_eq_add, Nat.add_eq_left, Nat.add_left_cancel_iff, Nat.add_right_cancel_iff, Nat.reduceEqDiff, Nat.one_ne_zero, Hp.get_set_self, Hp.get_set_ne, Hp.get_alloc_self, Hp.get_alloc_ne, Hp.get_alloc_at, Hp.get_set_at, Hp.set_next, Hp.alloc_next, Option.some_ne_none, V.tup.injEq, Option.isSome_some, Option.isSome_none, exists_eq_left, exists_eq, Nat.mul_zero, g8], h9, hp9, hK _ _ ?_⟩
      rw [restF, hx, if_neg hb', if_neg (by omega), if_neg (by rw [hs]; exact Bool.false_ne_true)]
      exact ⟨rfl, r9, hup (by omega) fun j hj => by rw [s9 j hj, s8 j hj], w9⟩

/-- what Listen does -/
def listenF (S : TS) (s : Int) (a : Ad) : Int × TS := if s = 0 then (2, S) else if (mget S.ears s).isSome = true then (7, S) else (0, { S with ears := mput S.ears s a })

theorem listen_spec (hw : h.wf) (r : TabR t S h F) (s : Int) (a : Ad) : XCalls Try.prog 13 [.ptr (some (t, 0)), .int .u64 s, adV a] h fun v h' => v = .int .i64 (listenF S s a).1 ∧ TabR t (listenF S s a).2 h' F ∧ Upd h h' F F ∧ h'.wf := by
  refine XCalls.cps fun K hK => ?_
  apply x13; unfold X13
  rintro h1 rfl
  have q1 := Quiet.alloc hw (.row [.int .u32 a.ip, .int .u16 a.port] 1 false)
  have g1 : (h.alloc (.row [.int .u32 a.ip, .int .u16 a.port] 1 false)).get h.next = some (.row [.int .u32 a.ip, .int .u16 a.port] 1 false) := Hp.get_alloc_self
  have r1 := r.quiet hw q1
  have n1 : (h.alloc (.row [.int .u32 a.ip, .int .u16 a.port] 1 false)).next = h.next + 1 := Hp.alloc_next _ _
  generalize h.alloc (.row [.int .u32 a.ip, .int .u16 a.port] 1 false) = h1 at *
  have hFl := r.lt hw
  refine (made_spec r1).mono ?_
  rintro _ h2 ⟨rfl, rfl⟩
  obtain ⟨e, oe, hld, hge, hmo, heF, het, hback⟩ := r1.ears
  have hlk := hmo.look2 mtA s h2 e hge
  rw [lookV_getD] at hlk
  refine ⟨_, rfl, some e, hld, ((mget S.ears s).getD ⟨0, 0⟩).ip, ((mget S.ears s).getD ⟨0, 0⟩).port, _, hlk, ?_⟩
  rintro h4 rfl
  refine ⟨_, Hp.st_of Hp.get_alloc_self (Nat.le_of_ble_eq_true rfl), ?_⟩
  obtain ⟨h5, hh5⟩ : ∃ h5, h5 = (h2.alloc (.row [.int .u32 0, .int .u16 0] 1 false)).set h2.next (.row (splice [.int .u32 0, .int .u16 0] 0 [.int .u32 ((mget S.ears s).getD ⟨0, 0⟩).ip, .int .u16 ((mget S.ears s).getD ⟨0, 0⟩).port]) 1 false) := ⟨_, rfl⟩
  rw [← hh5]
  have q5 : Quiet h2 h5 := by rw [hh5]; exact ⟨fun j hj => by rw [Hp.get_set_ne (by omega), Hp.get_alloc_ne (by omega)], by simp [Hp.alloc_next], q1.wf.alloc.set (Nat.lt_succ_self _)⟩
  clear hh5
  have q := q1.trans q5
  have r5 := r.quiet hw q
  have stop : ∀ c, listenF S s a = (c, S) → K (.int .i64 c) h5 := fun c hc => hK _ _ (by rw [hc]; exact ⟨rfl, r5, q.upd F, q.wf⟩)
  by_cases hs0 : s = 0
  · subst hs0
    exact stop 2 (by rw [listenF, if_pos rfl])
  have c0 : (s == 0) = false := by rw [beq_eq_false_iff_ne]; exact hs0
  rw [c0]
  cases hl : (mget S.ears s).isSome with
  | true => exact stop 7 (by rw [listenF, if_neg hs0, if_pos hl])
  | false =>
  have g5 : h5.get h.next = some (.row [.int .u32 a.ip, .int .u16 a.port] 1 false) := by rw [q5.same _ (by omega)]; exact g1
  have hel := hFl e heF
  have ht := hFl t r.tF
  obtain ⟨o', hmo', hput⟩ := hmo.put mtA s a
  have hge5 : h5.get e = some oe := by rw [q5.same e (by omega)]; exact hge
  refine ⟨some e, by rw [r1.ldk (q5.same t (by omega))]; exact hld, a.ip, a.port, by simp (disch := (first | omega | (simp only [Hp.alloc_next, Hp.set_next] <;> omega) | (simp (disch := (first | omega | (simp only [Hp.alloc_next, Hp.set_next] <;> omega) | fail)) only [Hp.get_set_self, Hp.get_set_ne, Hp.get_alloc_self, Hp.get_alloc_ne, Hp.get_alloc_at, Hp.get_set_at, Hp.set_next, Hp.alloc_next, g5]; done) | fail)) only [Hp.st, Hp.ld, Hp.lda, splice, ble_eq', if_true, if_false, ite_true, ite_false, cond_true, cond_false, decide_true, decide_false, List.length_cons, List.length_nil, List.take_zero, List.take_succ_cons, List.nil_append, List.cons_append, List.append_nil, List.drop_succ_cons, List.drop_zero, List.drop_nil, List.getElem?_cons_succ, List.getElem?_cons_zero, Nat.reduceAdd, Nat.reduceLeDiff, Nat.reduceEqDiff, Nat.zero_add, Nat.add_zero, Nat.le_refl, Nat.zero_le, Nat.succ_ne_self, Nat.mul_one, Int.toNat_natCast, Option.some.injEq, Option.isNone_some, Option.isNone_none, V.int.injEq, V.str.injEq, V.bool.injEq, V.ptr.injEq, V.slc.injEq, V.map.injEq, V.agg.injEq, V.tup.injEq, List.cons.injEq, Prod.mk.injEq, onS, true_and, and_true, and_assoc, exists_and_left, exists_eq_left', forall_eq, heq_eq_eq, reduceCtorEq, Bool.not_true, Bool.not_false, eq_self, not_false_eq_true, Nat.left_eq_add, Nat.add_eq_left, Nat.add_left_cancel_iff, Nat.add_right_cancel_iff, Nat.reduceEqDiff, Nat.one_ne_zero, Hp.get_set_self, Hp.get_set_ne, Hp.get_alloc_self, Hp.get_alloc_ne, Hp.get_alloc_at, Hp.get_set_at, Hp.set_next, Hp.alloc_next, Option.some_ne_none, V.tup.injEq, Option.isSome_some, Option.isSome_none, exists_eq_left, exists_eq, Nat.mul_zero, g5], _, hput h5 e hge5, hK _ _ ?_⟩
  rw [listenF, if_neg hs0, if_neg (by rw [hl]; exact Bool.false_ne_true)]
  refine ⟨rfl, hback _ _ o' hmo' Hp.get_set_self (fun j hj hne => by rw [Hp.get_set_ne hne, q5.same j (by have := hFl j hj; omega)]), ⟨fun j hj hjF => ?_, fun j hj => .inl hj, q.le⟩, q.wf.set (by have := q.le; omega)⟩
  rw [Hp.get_set_ne (fun e' => hjF (by rw [e']; exact heF)), q.same j hj]
end

/-! ### New -/

def newS : TS := ⟨fun _ => [], [], 0, 0⟩

def nRow (L : List Nat) (e : Nat) : List V := L.map (fun x => V.map (some x)) ++ (List.replicate (8 - L.length) (V.map none) ++ [.map (some e), .int .i64 0, .int .i64 0])

theorem new_spec {h : Hp} (hw : h.wf) : XCalls Try.prog 9 [] h fun v h' => v = .ptr (some (h.next + 1, 0)) ∧ ∃ F, TabR (h.next + 1) newS h' F ∧ Quiet h h' ∧ ∀ j ∈ F, h.next ≤ j := by
  refine XCalls.cps fun K hK => ?_
  apply x9; unfold X9
  rintro h1 rfl h2 rfl
  have n1 : (h.alloc (.map [] 0)).next = h.next + 1 := Hp.alloc_next _ _
  have q1 := Quiet.alloc hw (.map [] 0)
  have q2 := Quiet.alloc q1.wf (.row [.map none, .map none, .map none, .map none, .map none, .map none, .map none, .map none, .map (some h.next), .int .i64 0, .int .i64 0] 1 false)
  rw [n1]
  refine ⟨fun vs h' => match vs with
    | [.int _ k] => ∃ L : List Nat, k = L.length ∧ L.length ≤ 8 ∧ h'.get (h.next + 1) = some (.row (nRow L h.next) 1 false) ∧ h'.get h.next = some (.map [] 0) ∧ (∀ m ∈ L, h.next + 1 < m ∧ h'.get m = some (.map [] 0)) ∧ L.Nodup ∧ (∀ j, j < h.next → h'.get j = h.get j) ∧ h'.wf ∧ h.next + 1 < h'.next
    | _ => False, fun vs _ => match vs with
    | [.int _ k] => 8 - k.toNat
    | _ => 0, ⟨by trivial, [], rfl, by simp, ?_, ?_, by simp, by simp, fun j hj => ?_, q2.wf, by simp [Hp.alloc_next]⟩, ?_⟩
  · rw [← n1, Hp.get_alloc_self]; rfl
  · rw [Hp.get_alloc_ne (by omega)]; exact Hp.get_alloc_self
  · rw [q2.same j (by omega), q1.same j hj]
  rintro bs k h3 ⟨L, rfl, hL, g1, ge, gm, nd, s3, w3, n3⟩
  cases hi : ltI (↑L.length) 8 with
  | false =>
    rw [ltI_eq, decide_eq_false_iff_not] at hi
    have h8 : L.length = 8 := by omega
    refine hK _ _ ⟨rfl, (h.next + 1) :: h.next :: L, ⟨L, h.next, _, h8, ?_, ge, MO.nil _ _, fun k m hk => ⟨_, (gm m (List.mem_of_getElem? hk)).2, MO.nil _ _⟩, rfl, ?_⟩, ⟨s3, by omega, w3⟩, fun j hj => ?_⟩
    · rw [g1]; simp [nRow, tRow, h8, newS]
    · refine List.nodup_cons.2 ⟨fun hh => ?_, List.nodup_cons.2 ⟨fun hh => ?_, nd⟩⟩
      · rcases List.mem_cons.1 hh with hh | hh
        · omega
        · have := (gm _ hh).1; omega
      · have := (gm _ hh).1; omega
    · rcases List.mem_cons.1 hj with rfl | hj
      · omega
      rcases List.mem_cons.1 hj with rfl | hj
      · omega
      · have := (gm _ hj).1; omega
  | true =>
    rw [ltI_eq, decide_eq_true_eq] at hi
    have hl : L.length < 8 := by omega
    have hwk : IntKind.i64.wrap ((L.length : Int) + 1) = ((L.length + 1 : Nat) : Int) := by rw [wr (by omega) (by omega)]; rfl
    rintro h4 rfl
    have q4 := Quiet.alloc w3 (.map [] 0)
    have n4 : (h3.alloc (.map [] 0)).next = h3.next + 1 := Hp.alloc_next _ _
    have gn : (h3.alloc (.map [] 0)).get h3.next = some (.map [] 0) := Hp.get_alloc_self
    have g4 : (h3.alloc (.map [] 0)).get (h.next + 1) = some (.row (nRow L h.next) 1 false) := by rw [q4.same _ n3]; exact g1
    generalize h3.alloc (.map [] 0) = h4 at *
    have hsp : splice (nRow L h.next) (0 + ((L.length : Nat) : Int).toNat * 1) [.map (some h3.next)] = nRow (L ++ [h3.next]) h.next := by
      have e : List.replicate (8 - L.length) (V.map none) = [.map none] ++ List.replicate (8 - (L.length + 1)) (V.map none) := by
        have : 8 - L.length = (8 - (L.length + 1)) + 1 := by omega
        rw [this, List.replicate_succ]; rfl
      unfold nRow
      rw [e, List.append_assoc]
      have hlen : (L.map (fun x => V.map (some x))).length = 0 + ((L.length : Nat) : Int).toNat * 1 := by simp
      rw [← hlen, splice_at (L.map (fun x => V.map (some x))) [.map none] _ [.map (some h3.next)] rfl]
      simp
    have hnl : (nRow L h.next).length = 11 := by simp [nRow]; omega
    refine ⟨⟨by omega, by omega⟩, _, Hp.st_of g4 (by rw [hnl]; simp only [Int.toNat_natCast, List.length_singleton]; omega), rfl, ?_, ?_⟩
    · rw [hwk, hsp]
      refine ⟨L ++ [h3.next], by simp, by simp; omega, Hp.get_set_self, by rw [Hp.get_set_ne (by omega), q4.same _ (by omega)]; exact ge, fun m hm => ?_, ?_, fun j hj => by rw [Hp.get_set_ne (by omega), q4.same j (by omega)]; exact s3 j hj, q4.wf.set (by omega), by simp only [Hp.set_next]; omega⟩
      · rcases List.mem_append.1 hm with hm | hm
        · have := gm m hm
          have hmlt := w3.lt this.2
          exact ⟨this.1, by rw [Hp.get_set_ne (by omega), q4.same m hmlt]; exact this.2⟩
        · rw [List.mem_singleton] at hm; subst hm
          exact ⟨n3, by rw [Hp.get_set_ne (by omega)]; exact gn⟩
      · rw [List.nodup_append]
        exact ⟨nd, by simp, fun x hx y hy => by
          rw [List.mem_singleton] at hy; subst hy
          have := w3.lt (gm x hx).2; omega⟩
    · rw [hwk]; simp only [Int.toNat_natCast]; omega

theorem pair_new {h : Hp} (a b : Int) : XCalls Try.prog 27 [.int .u16 a, .int .u16 b] h fun v h' => v = Pr.v ⟨1, a, 2, b⟩ ∧ h' = h := by
  refine XCalls.aside rfl (fun v hv => by subst hv; rfl) ?_
  apply x27; unfold X27
  rintro h1 rfl
  refine ⟨_, Hp.st_of Hp.get_alloc_self (Nat.le_of_ble_eq_true rfl), 1, a, 2, b, ?_, rfl⟩
  rw [Hp.lda_of Hp.get_set_self (Nat.le_of_ble_eq_true rfl)]; rfl
end Go.Vex.Tbl
