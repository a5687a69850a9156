/-
  The table's contracts (layer 23): entries that go while a map is ranged over; Old.
-/
import Derived.Test.YteknlobdnjcdbaaVexFF
import Derived.Test.YteknlobdnjcdbaaVexGG
import Derived.Test.YteknlobdnjcdbaaTab23
import Derived.Test.YteknlobdnjcdbaaXa23
import Derived.Test.YteknlobdnjcdbaaCa23
import Derived.Test.YteknlobdnjcdbaaCb23
import Derived.Test.YteknlobdnjcdbaaCc23
import Derived.Test.YteknlobdnjcdbaaXb23
import Derived.Test.YteknlobdnjcdbaaCe23
import Derived.Test.YteknlobdnjcdbaaCf23
set_option linter.unusedVariables false
set_option linter.unusedSimpArgs false
namespace Go.Vex.Tbl
open Go.Proofs

section
variable {κ β : Type} [DecidableEq κ] {kV : κ → V} {vV : β → V} {cur : List ((κ × β) × Nat)} {m it : Nat} {sn : List Nat} {h : Hp}

/-- how many are still to come -/
def toCome (m it : Nat) (h : Hp) : Nat := match h.get it, h.get m with
  | some (.miter _ _ sn _), some (.map es _) => (es.filter fun e => !sn.contains e.born).length
  | _, _ => 0

omit [DecidableEq κ] in
theorem toCome_eq (i : MapIter kV vV cur m it sn h) : toCome m it h = (rem cur sn).length := by
  obtain ⟨_, clk, e1, _, e3⟩ := i
  unfold toCome
  rw [e3, e1]
  simp only
  have : ((cur.map (mkE kV vV)).filter fun e => !sn.contains e.born) = (rem cur sn).map (mkE kV vV) := by
    unfold rem; rw [List.filter_map]; rfl
  rw [this, List.length_map]

/-- an entry goes while the map is ranged over -/
theorem iter_del {T : TT} {t kt et : TypeId} {ti : TI} (K : KL T kt kV) (ht : T t = some ti) (hd : ti.d = .map kt et) (i : MapIter kV vV cur m it sn h) (hmi : m ≠ it) (k : κ) :
    ∃ h' cur', xdel T h t (.map (some m)) (kV k) = some h' ∧ MapIter kV vV cur' m it sn h' ∧ cur'.Sublist cur ∧ cur'.map Prod.fst = mdel (cur.map Prod.fst) k ∧ (∀ j, j ≠ m → h'.get j = h.get j) ∧ h'.next = h.next := by
  obtain ⟨hn, clk, hg, hb, hi⟩ := i
  have h1 : (cur.map (mkE kV vV)).map Ent.key = (cur.map Prod.fst).map (fun x => kV x.1) := by rw [List.map_map, List.map_map]; rfl
  rw [mdel_midx k (cur.map Prod.fst) 0]
  have hx := xfind_of K k (cur.map (mkE kV vV)) (cur.map Prod.fst) 0 h1
  cases hj : midx k (cur.map Prod.fst) 0 with
  | none =>
    refine ⟨h.set m (.map (cur.map (mkE kV vV)) clk), cur, ?_, ⟨hn, clk, Hp.get_set_self, hb, by rw [Hp.get_set_ne (Ne.symm hmi)]; exact hi⟩, List.Sublist.refl _, rfl, fun j hj => Hp.get_set_ne hj, rfl⟩
    simp [xdel, ht, hd, hg, K.key, hx, hj]
  | some j =>
    refine ⟨h.set m (.map ((cur.eraseIdx j).map (mkE kV vV)) clk), cur.eraseIdx j, ?_, ⟨hn.sublist ((List.eraseIdx_sublist _ _).map _), clk, Hp.get_set_self, fun z hz => hb z (List.mem_of_mem_eraseIdx hz), by rw [Hp.get_set_ne (Ne.symm hmi)]; exact hi⟩, List.eraseIdx_sublist _ _, ?_, fun j hj => Hp.get_set_ne hj, rfl⟩
    · simp [xdel, ht, hd, hg, K.key, hx, hj, map_eraseIdx']
    · simp [map_eraseIdx']
end

/-- has it rested long enough? -/
def oldB (now : Int) (e : Int × Int) : Bool := e.1 == 0 && !ltI now e.2

section
variable {t : Nat} {S : TS} {h : Hp} {F : List Nat}

theorem clo_spec (hw : h.wf) (r : TabR t S h F) (p : Pr) (e : Int × Int) {now : Int} {a b : Nat} (ha : h.get a = some (.row [.int .i64 now] 1 false)) (hb : h.get b = some (.row [.ptr (some (t, 0))] 1 false)) :
    XCalls Try.prog 30 [p.v, enV e, .ptr (some (a, 0)), .ptr (some (b, 0))] h fun v h' => v = .bool (oldB now e) ∧ TabR t (if oldB now e = true then { S with rests := IntKind.i64.wrap (S.rests - 1) } else S) h' F ∧ (∀ j, j < h.next → j ≠ t → h'.get j = h.get j) ∧ h.next ≤ h'.next ∧ h'.wf ∧ (∀ k, k < 8 → h'.ld t (0 + ((k : Nat) : Int).toNat * 1) = h.ld t (0 + ((k : Nat) : Int).toNat * 1)) := by
  refine XCalls.cps fun K hK => ?_
  apply x30; unfold X30
  rintro h1 rfl h2 rfl
  have q1 := Quiet.alloc hw (.row [.int .u32 p.a, .int .u16 p.b, .int .u32 p.c, .int .u16 p.d] 1 false)
  have n1 : (h.alloc (.row [.int .u32 p.a, .int .u16 p.b, .int .u32 p.c, .int .u16 p.d] 1 false)).next = h.next + 1 := Hp.alloc_next _ _
  generalize h.alloc (.row [.int .u32 p.a, .int .u16 p.b, .int .u32 p.c, .int .u16 p.d] 1 false) = h1 at *
  have q2 := Quiet.alloc q1.wf (.row [.int .u64 e.1, .int .i64 e.2] 1 false)
  have g2 : (h1.alloc (.row [.int .u64 e.1, .int .i64 e.2] 1 false)).get h1.next = some (.row [.int .u64 e.1, .int .i64 e.2] 1 false) := Hp.get_alloc_self
  generalize h1.alloc (.row [.int .u64 e.1, .int .i64 e.2] 1 false) = h2 at *
  have q := q1.trans q2
  have r2 := r.quiet hw q
  have hal := hw.lt ha
  have hbl := hw.lt hb
  have ha2 : h2.get a = some (.row [.int .i64 now] 1 false) := by rw [q.same a hal]; exact ha
  have hb2 : h2.get b = some (.row [.ptr (some (t, 0))] 1 false) := by rw [q.same b hbl]; exact hb
  refine ⟨fun vs h' => match vs with
    | [.bool x] => h' = h2 ∧ x = oldB now e
    | _ => False, ?_, ?_⟩
  · refine ⟨e.1, by simp (disch := (first | omega | (simp only [Hp.alloc_next, Hp.set_next] <;> omega) | (simp (disch := (first | omega | (simp only [Hp.alloc_next, Hp.set_next] <;> omega) | fail)) only [Hp.get_set_self, Hp.get_set_ne, Hp.get_alloc_self, Hp.get_alloc_ne, Hp.get_alloc_at, Hp.get_set_at, Hp.set_next, Hp.alloc_next, g2]; done) | fail)) only [Hp.st, Hp.ld, Hp.lda, splice, ble_eq', if_true, if_false, ite_true, ite_false, cond_true, cond_false, decide_true, decide_false, List.length_cons, List.length_nil, List.take_zero, List.take_succ_cons, List.nil_append, List.cons_append, List.append_nil, List.drop_succ_cons, List.drop_zero, List.drop_nil, List.getElem?_cons_succ, List.getElem?_cons_zero, Nat.reduceAdd, Nat.reduceLeDiff, Nat.reduceEqDiff, Nat.zero_add, Nat.add_zero, Nat.le_refl, Nat.zero_le, Nat.succ_ne_self, Nat.mul_one, Int.toNat_natCast, Option.some.injEq, Option.isNone_some, Option.isNone_none, V.int.injEq, V.str.injEq, V.bool.injEq, V.ptr.injEq, V.slc.injEq, V.map.injEq, V.agg.injEq, V.tup.injEq, List.cons.injEq, Prod.mk.injEq, onS, true_and, and_true, and_assoc, exists_and_left, exists_eq_left', forall_eq, heq_eq_eq, reduceCtorEq, Bool.not_true, Bool.not_false, eq_self, not_false_eq_true, Nat.left_eq_add, Nat.add_eq_left, Nat.add_left_cancel_iff, Nat.add_right_cancel_iff, Nat.reduceEqDiff, Nat.one_ne_zero, Hp.get_set_self, Hp.get_set_ne, Hp.get_alloc_self, Hp.get_alloc_ne, Hp.get_alloc_at, Hp.get_set_at, Hp.set_next, Hp.alloc_next, Option.some_ne_none, V.tup.injEq, Option.isSome_some, Option.isSome_none, exists_eq_left, exists_eq, Nat.mul_zero, g2], ?_⟩
    unfold oldB
    cases e.1 == 0 with
    | true => exact ⟨e.2, by simp (disch := (first | omega | (simp only [Hp.alloc_next, Hp.set_next] <;> omega) | (simp (disch := (first | omega | (simp only [Hp.alloc_next, Hp.set_next] <;> omega) | fail)) only [Hp.get_set_self, Hp.get_set_ne, Hp.get_alloc_self, Hp.get_alloc_ne, Hp.get_alloc_at, Hp.get_set_at, Hp.set_next, Hp.alloc_next, g2]; done) | fail)) only [Hp.st, Hp.ld, Hp.lda, splice, ble_eq', if_true, if_false, ite_true, ite_false, cond_true, cond_false, decide_true, decide_false, List.length_cons, List.length_nil, List.take_zero, List.take_succ_cons, List.nil_append, List.cons_append, List.append_nil, List.drop_succ_cons, List.drop_zero, List.drop_nil, List.getElem?_cons_succ, List.getElem?_cons_zero, Nat.reduceAdd, Nat.reduceLeDiff, Nat.reduceEqDiff, Nat.zero_add, Nat.add_zero, Nat.le_refl, Nat.zero_le, Nat.succ_ne_self, Nat.mul_one, Int.toNat_natCast, Option.some.injEq, Option.isNone_some, Option.isNone_none, V.int.injEq, V.str.injEq, V.bool.injEq, V.ptr.injEq, V.slc.injEq, V.map.injEq, V.agg.injEq, V.tup.injEq, List.cons.injEq, Prod.mk.injEq, onS, true_and, and_true, and_assoc, exists_and_left, exists_eq_left', forall_eq, heq_eq_eq, reduceCtorEq, Bool.not_true, Bool.not_false, eq_self, not_false_eq_true, Nat.left_eq_add, Nat.add_eq_left, Nat.add_left_cancel_iff, Nat.add_right_cancel_iff, Nat.reduceEqDiff, Nat.one_ne_zero, Hp.get_set_self, Hp.get_set_ne, Hp.get_alloc_self, Hp.get_alloc_ne, Hp.get_alloc_at, Hp.get_set_at, Hp.set_next, Hp.alloc_next, Option.some_ne_none, V.tup.injEq, Option.isSome_some, Option.isSome_none, exists_eq_left, exists_eq, Nat.mul_zero, g2], now, by simp (disch := (first | omega | (simp only [Hp.alloc_next, Hp.set_next] <;> omega) | (simp (disch := (first | omega | (simp only [Hp.alloc_next, Hp.set_next] <;> omega) | fail)) only [Hp.get_set_self, Hp.get_set_ne, Hp.get_alloc_self, Hp.get_alloc_ne, Hp.get_alloc_at, Hp.get_set_at, Hp.set_next, Hp.alloc_next, ha2]; done) | fail)) only [Hp.st, Hp.ld, Hp.lda, splice, ble_eq', if_true, if_false, ite_true, ite_false, cond_true, cond_false, decide_true, decide_false, List.length_cons, List.length_nil, List.take_zero, List.take_succ_cons, List.nil_append, List.cons_append, List.append_nil, List.drop_succ_cons, List.drop_zero, List.drop_nil, List.getElem?_cons_succ, List.getElem?_cons_zero, Nat.reduceAdd, Nat.reduceLeDiff, Nat.reduceEqDiff, Nat.zero_add, Nat.add_zero, Nat.le_refl, Nat.zero_le, Nat.succ_ne_self, Nat.mul_one, Int.toNat_natCast, Option.some.injEq, Option.isNone_some, Option.isNone_none, V.int.injEq, V.str.injEq, V.bool.injEq, V.ptr.injEq, V.slc.injEq, V.map.injEq, V.agg.injEq, V.tup.injEq, List.cons.injEq, Prod.mk.injEq, onS, true_and, and_true, and_assoc, exists_and_left, exists_eq_left', forall_eq, heq_eq_eq, reduceCtorEq, Bool.not_true, Bool.not_false, eq_self, not_false_eq_true, Nat.left_eq_add, Nat.add_eq_left, Nat.add_left_cancel_iff, Nat.add_right_cancel_iff, Nat.reduceEqDiff, Nat.one_ne_zero, Hp.get_set_self, Hp.get_set_ne, Hp.get_alloc_self, Hp.get_alloc_ne, Hp.get_alloc_at, Hp.get_set_at, Hp.set_next, Hp.alloc_next, Option.some_ne_none, V.tup.injEq, Option.isSome_some, Option.isSome_none, exists_eq_left, exists_eq, Nat.mul_zero, ha2], rfl, rfl, rfl⟩
    | false => exact ⟨rfl, rfl, rfl⟩
  rintro bs x h3 ⟨rfl, rfl⟩
  cases ho : oldB now e with
  | false => exact hK _ _ ⟨by rw [ho], by rw [ho, if_neg (by simp)]; exact r2, fun j hj _ => q.same j hj, q.le, q.wf, fun k _ => r.ldk (q.same t (r.lt hw t r.tF)) _⟩
  | true =>
    obtain ⟨h4, hst, r4, u4, w4, s4⟩ := r2.st10 q.wf (IntKind.i64.wrap (S.rests - 1))
    have hch : ∀ j, j ≠ t → h4.get j = h3.get j := fun j hj => by
      obtain ⟨L, e', oe, h1', h2', _⟩ := r2
      rw [Hp.st_of h2' (by rw [tRow_len h1']; exact Nat.le_of_ble_eq_true rfl)] at hst
      cases hst
      exact Hp.get_set_ne hj
    have hld : ∀ k, k < 8 → h4.ld t (0 + ((k : Nat) : Int).toNat * 1) = h.ld t (0 + ((k : Nat) : Int).toNat * 1) := fun k hk => by
      rw [← r.ldk (q.same t (r.lt hw t r.tF))]
      obtain ⟨L, e', oe, h1', h2', _⟩ := r2
      rw [Hp.st_of h2' (by rw [tRow_len h1']; exact Nat.le_of_ble_eq_true rfl), tRow_s10 h1'] at hst
      cases hst
      rw [Hp.ld_of Hp.get_set_self, Hp.ld_of h2']
      simp only [Int.toNat_natCast, Nat.mul_one, Nat.zero_add]
      obtain ⟨mm, hmm⟩ : ∃ mm, L[k]? = some mm := ⟨_, List.getElem?_eq_getElem (by omega)⟩
      rw [tRow_k hmm, tRow_k hmm]
    refine ⟨some (t, 0), by simp (disch := (first | omega | (simp only [Hp.alloc_next, Hp.set_next] <;> omega) | (simp (disch := (first | omega | (simp only [Hp.alloc_next, Hp.set_next] <;> omega) | fail)) only [Hp.get_set_self, Hp.get_set_ne, Hp.get_alloc_self, Hp.get_alloc_ne, Hp.get_alloc_at, Hp.get_set_at, Hp.set_next, Hp.alloc_next, hb2]; done) | fail)) only [Hp.st, Hp.ld, Hp.lda, splice, ble_eq', if_true, if_false, ite_true, ite_false, cond_true, cond_false, decide_true, decide_false, List.length_cons, List.length_nil, List.take_zero, List.take_succ_cons, List.nil_append, List.cons_append, List.append_nil, List.drop_succ_cons, List.drop_zero, List.drop_nil, List.getElem?_cons_succ, List.getElem?_cons_zero, Nat.reduceAdd, Nat.reduceLeDiff, Nat.reduceEqDiff, Nat.zero_add, Nat.add_zero, Nat.le_refl, Nat.zero_le, Nat.succ_ne_self, Nat.mul_one, Int.toNat_natCast, Option.some.injEq, Option.isNone_some, Option.isNone_none, V.int.injEq, V.str.injEq, V.bool.injEq, V.ptr.injEq, V.slc.injEq, V.map.injEq, V.agg.injEq, V.tup.injEq, List.cons.injEq, Prod.mk.injEq, onS, true_and, and_true, and_assoc, exists_and_left, exists_eq_left', forall_eq, heq_eq_eq, reduceCtorEq, Bool.not_true, Bool.not_false, eq_self, not_false_eq_true, Nat.left_eq_add, Nat.add_eq_left, Nat.add_left_cancel_iff, Nat.add_right_cancel_iff, Nat.reduceEqDiff, Nat.one_ne_zero, Hp.get_set_self, Hp.get_set_ne, Hp.get_alloc_self, Hp.get_alloc_ne, Hp.get_alloc_at, Hp.get_set_at, Hp.set_next, Hp.alloc_next, Option.some_ne_none, V.tup.injEq, Option.isSome_some, Option.isSome_none, exists_eq_left, exists_eq, Nat.mul_zero, hb2], S.rests, ?_, h4, ?_, hK _ _ ⟨by rw [ho], by rw [ho, if_pos rfl]; exact r4, fun j hj hne => by rw [hch j hne, q.same j hj], ?_, w4, hld⟩⟩
    · simp only [Nat.zero_add]; exact r2.ld10
    · simp only [Nat.zero_add]; exact hst
    · have := u4.le; have := q.le; omega

theorem mget_of_mem {l : List (Pr × (Int × Int))} (hn : (l.map Prod.fst).Nodup) {z : Pr × (Int × Int)} (hz : z ∈ l) : mget l z.1 = some z.2 := by
  induction l with
  | nil => cases hz
  | cons x l ih =>
    rw [List.map_cons, List.nodup_cons] at hn
    rw [mget_cons]
    rcases List.mem_cons.1 hz with rfl | hz
    · rw [if_pos rfl]
    · have : z.1 ≠ x.1 := fun e => hn.1 (by rw [← e]; exact List.mem_map_of_mem hz)
      rw [if_neg this]; exact ih hn.2 hz

/-- one shard turned, and the count of those that rest -/
def TS.shardS (S : TS) (k : Nat) (M : List (Pr × (Int × Int))) (r : Int) : TS := { S with ms := fun j => if j = k then M else S.ms j, rests := r }

theorem born_eq {α : Type} {cur : List (α × Nat)} (hn : (cur.map Prod.snd).Nodup) {y z : α × Nat} (hy : y ∈ cur) (hz : z ∈ cur) (h : y.2 = z.2) : y = z := by
  induction cur with
  | nil => cases hy
  | cons x r ih =>
    rw [List.map_cons, List.nodup_cons] at hn
    rcases List.mem_cons.1 hy with hy1 | hy2
    · rcases List.mem_cons.1 hz with hz1 | hz2
      · rw [hy1, hz1]
      · exact absurd (by rw [← hy1, h]; exact List.mem_map_of_mem hz2) hn.1
    · rcases List.mem_cons.1 hz with hz1 | hz2
      · exact absurd (by rw [← hz1, ← h]; exact List.mem_map_of_mem hy2) hn.1
      · exact ih hn.2 hy2 hz2

/-- what is left of a shard -/
structure Left (now : Int) (L M : List (Pr × (Int × Int))) : Prop where
  sub : M.Sublist L
  get : ∀ p, mget M p = match mget L p with
    | some x => if oldB now x = true then none else some x
    | none => none

theorem del_spec (hw : h.wf) (r : TabR t S h F) {k : Nat} (hk : k < 8) {m : Nat} (hm : h.ld t (0 + ((k : Nat) : Int).toNat * 1) = some (.map (some m))) {now : Int} {a b : Nat} (ha : h.get a = some (.row [.int .i64 now] 1 false)) (hb : h.get b = some (.row [.ptr (some (t, 0))] 1 false)) (haF : a ∉ F) (hbF : b ∉ F)
    (hn : ((S.ms k).map Prod.fst).Nodup) (hlen : (S.ms k).length ≤ 1000000) (hrs : -1000000000 ≤ S.rests ∧ S.rests ≤ 1000000000) :
    XCalls Try.prog 29 [.map (some m), .fn (.func 30) [] [.ptr (some (a, 0)), .ptr (some (b, 0))]] h fun v h' => ∃ M, v = .tup [] ∧ Left now (S.ms k) M ∧ TabR t (S.shardS k M (S.rests - ((S.ms k).length - M.length))) h' F ∧ Upd h h' F F ∧ h'.wf ∧ (∀ j, j < 8 → h'.ld t (0 + ((j : Nat) : Int).toNat * 1) = h.ld t (0 + ((j : Nat) : Int).toNat * 1)) := by
  refine XCalls.cps fun K hK => ?_
  have hFl := r.lt hw
  obtain ⟨m', o, hld, hmg, hmo, hmF, hmt, hback⟩ := r.map hk
  rw [hld] at hm; cases hm
  have hml := hFl m hmF
  have hal := hw.lt ha
  have hbl := hw.lt hb
  have htl := hFl t r.tF
  obtain ⟨ti, kt, et, ei, ht, hd, he, hz0, KLp⟩ := mtE.ex
  apply x29; unfold X29
  obtain ⟨h1, cur, hx, i1, hcur, s1, n1, w1⟩ := (hmo.is hmg).range hw ht hd
  have hmi : m ≠ h.next := by omega
  refine ⟨h1, hx, fun vs h' => match vs with
    | [] => ∃ (cur : List ((Pr × (Int × Int)) × Nat)) (sn : List Nat) (D : List Pr), MapIter Pr.v enV cur m h.next sn h' ∧ TabR t (S.shardS k (cur.map Prod.fst) (S.rests - ((S.ms k).length - (cur.map Prod.fst).length))) h' F ∧ (cur.map Prod.fst).Sublist (S.ms k) ∧
        (∀ p, mget (cur.map Prod.fst) p = if p ∈ D then none else mget (S.ms k) p) ∧ (∀ p ∈ D, ∃ x, mget (S.ms k) p = some x ∧ oldB now x = true) ∧ (∀ z ∈ cur, z.2 ∈ sn → oldB now z.1.2 = false) ∧ (∀ j, j < h.next → j ∉ F → h'.get j = h.get j) ∧ h'.wf ∧ h.next < h'.next ∧ (∀ j, j < 8 → h'.ld t (0 + ((j : Nat) : Int).toNat * 1) = h.ld t (0 + ((j : Nat) : Int).toNat * 1))
    | _ => False, fun _ h' => toCome m h.next h', ⟨by trivial, cur, [], [], i1, ?_, by rw [hcur]; exact List.Sublist.refl _, by rw [hcur]; simp, by simp, by simp, fun j hj _ => s1 j (by omega), w1, by omega, fun j _ => r.ldk (s1 t (by omega)) _⟩, ?_⟩
  · rw [hcur]
    have e : S.shardS k (S.ms k) (S.rests - ((S.ms k).length - (S.ms k).length)) = S := by
      unfold TS.shardS
      have e1 : (fun j => if j = k then S.ms k else S.ms j) = S.ms := by
        funext j; by_cases e : j = k
        · subst e; simp
        · simp [e]
      have e2 : S.rests - (((S.ms k).length : Int) - (S.ms k).length) = S.rests := by omega
      rw [e1, e2]
    rw [e]
    exact (TabR.rep _ _).loc _ _ _ (fun j hj => s1 j (by have := hFl j hj; omega)) r
  rintro bs g ⟨cur, sn, D, i, rg, hsub, hget, hD, hsn, same, gw, gn, gldA⟩
  obtain ⟨l, hl, hend, hforms, hstep⟩ := i.next hmi
  have hnd : ((cur.map Prod.fst).map Prod.fst).Nodup := hn.sublist (hsub.map _)
  have hcl := hsub.length_le
  refine ⟨l, hl, fun hmem => ?_, hforms, ?_⟩
  · have hrem := hend hmem
    refine hK _ _ ⟨cur.map Prod.fst, rfl, ⟨hsub, fun p => ?_⟩, rg, ⟨same, fun j hj => .inl hj, by omega⟩, gw, gldA⟩
    rw [hget]
    by_cases hp : p ∈ D
    · obtain ⟨x, hx1, hx2⟩ := hD p hp
      rw [if_pos hp, hx1]; simp [hx2]
    · rw [if_neg hp]
      cases hx : mget (S.ms k) p with
      | none => rfl
      | some x =>
        have hc : mget (cur.map Prod.fst) p = some x := by rw [hget, if_neg hp]; exact hx
        obtain ⟨z, hz, hze⟩ := List.mem_map.1 (mget_in hc)
        have hzs : z.2 ∈ sn := by
          by_cases hh : z.2 ∈ sn
          · exact hh
          · have : z ∈ rem cur sn := List.mem_filter.2 ⟨hz, by simpa using hh⟩
            rw [hrem] at this; cases this
        have := hsn z hz hzs
        rw [hze] at this
        show some x = if oldB now x = true then none else some x
        have this : oldB now x = false := this
        rw [this]; rfl
  · intro x y g2 hmem
    obtain ⟨z, hz, rfl, rfl, i2, hent, s2, n2⟩ := hstep x y g2 hmem
    have hzc : z ∈ cur := (List.mem_filter.1 hz).1
    have hrs := rem_step i.nodup hz
    have hcnt : (rem cur (sn ++ [z.2])).length < (rem cur sn).length := by have := hrs.length_eq; simp at this; omega
    have g2w : g2.wf := fun q o' hq => by
      rw [n2]
      by_cases e : q = h.next
      · omega
      · rw [s2 q e] at hq; exact gw q o' hq
    refine ⟨z.1.1.a, z.1.1.b, z.1.1.c, z.1.1.d, z.1.2.1, z.1.2.2, hent, ?_⟩
    rintro g3 rfl g4 rfl
    have q3 := Quiet.alloc g2w (.row [.int .u32 0, .int .u16 0, .int .u32 0, .int .u16 0] 1 false)
    have k3 : (g2.alloc (.row [.int .u32 0, .int .u16 0, .int .u32 0, .int .u16 0] 1 false)).get g2.next = some (.row [.int .u32 0, .int .u16 0, .int .u32 0, .int .u16 0] 1 false) := Hp.get_alloc_self
    have m3 : (g2.alloc (.row [.int .u32 0, .int .u16 0, .int .u32 0, .int .u16 0] 1 false)).next = g2.next + 1 := Hp.alloc_next _ _
    generalize g2.alloc (.row [.int .u32 0, .int .u16 0, .int .u32 0, .int .u16 0] 1 false) = g3 at *
    have q4 := Quiet.alloc q3.wf (.row [.int .u64 0, .int .i64 0] 1 false)
    have k4 : (g3.alloc (.row [.int .u64 0, .int .i64 0] 1 false)).get g3.next = some (.row [.int .u64 0, .int .i64 0] 1 false) := Hp.get_alloc_self
    have m4 : (g3.alloc (.row [.int .u64 0, .int .i64 0] 1 false)).next = g3.next + 1 := Hp.alloc_next _ _
    have k43 : (g3.alloc (.row [.int .u64 0, .int .i64 0] 1 false)).get g2.next = some (.row [.int .u32 0, .int .u16 0, .int .u32 0, .int .u16 0] 1 false) := by rw [q4.same _ (by omega)]; exact k3
    generalize g3.alloc (.row [.int .u64 0, .int .i64 0] 1 false) = g4 at *
    have k5 : (g4.set g2.next (.row (splice [.int .u32 0, .int .u16 0, .int .u32 0, .int .u16 0] 0 [.int .u32 z.1.1.a, .int .u16 z.1.1.b, .int .u32 z.1.1.c, .int .u16 z.1.1.d]) 1 false)).get g3.next = some (.row [.int .u64 0, .int .i64 0] 1 false) := by rw [Hp.get_set_ne (by omega)]; exact k4
    refine ⟨_, Hp.st_of k43 (Nat.le_of_ble_eq_true rfl), _, Hp.st_of k5 (Nat.le_of_ble_eq_true rfl), ?_⟩
    obtain ⟨g6, hg6⟩ : ∃ g6, g6 = (g4.set g2.next (.row (splice [.int .u32 0, .int .u16 0, .int .u32 0, .int .u16 0] 0 [.int .u32 z.1.1.a, .int .u16 z.1.1.b, .int .u32 z.1.1.c, .int .u16 z.1.1.d]) 1 false)).set g3.next (.row (splice [.int .u64 0, .int .i64 0] 0 [.int .u64 z.1.2.1, .int .i64 z.1.2.2]) 1 false) := ⟨_, rfl⟩
    rw [← hg6]
    have c1 : g6.get g2.next = some (.row [.int .u32 z.1.1.a, .int .u16 z.1.1.b, .int .u32 z.1.1.c, .int .u16 z.1.1.d] 1 false) := by rw [hg6, Hp.get_set_ne (by omega), Hp.get_set_self]; rfl
    have c2 : g6.get g3.next = some (.row [.int .u64 z.1.2.1, .int .i64 z.1.2.2] 1 false) := by rw [hg6, Hp.get_set_self]; rfl
    have q6 : Quiet g2 g6 := by rw [hg6]; exact ⟨fun j hj => by rw [Hp.get_set_ne (by omega), Hp.get_set_ne (by omega), q4.same j (by omega), q3.same j hj], by simp only [Hp.set_next]; omega, (q4.wf.set (by omega)).set (by simp only [Hp.set_next]; omega)⟩
    clear hg6 k5 k43 k4 k3
    have s6 : ∀ j, j ≠ h.next → j < g.next → g6.get j = g.get j := fun j hj hlt => by rw [q6.same j (by omega), s2 j hj]
    have r6 : TabR t (S.shardS k (cur.map Prod.fst) (S.rests - ((S.ms k).length - (cur.map Prod.fst).length))) g6 F := (TabR.rep _ _).loc _ _ _ (fun j hj => s6 j (by have := hFl j hj; omega) (by have := hFl j hj; omega)) rg
    have i6 : MapIter Pr.v enV cur m h.next (sn ++ [z.2]) g6 := i2.keep (q6.same m (by omega)) (q6.same _ (by omega))
    have ha6 : g6.get a = some (.row [.int .i64 now] 1 false) := by rw [s6 a (by omega) (by omega), same a hal haF]; exact ha
    have hb6 : g6.get b = some (.row [.ptr (some (t, 0))] 1 false) := by rw [s6 b (by omega) (by omega), same b hbl hbF]; exact hb
    refine ⟨z.1.1.a, z.1.1.b, z.1.1.c, z.1.1.d, by simp (disch := (first | omega | (simp only [Hp.alloc_next, Hp.set_next] <;> omega) | (simp (disch := (first | omega | (simp only [Hp.alloc_next, Hp.set_next] <;> omega) | fail)) only [Hp.get_set_self, Hp.get_set_ne, Hp.get_alloc_self, Hp.get_alloc_ne, Hp.get_alloc_at, Hp.get_set_at, Hp.set_next, Hp.alloc_next, c1]; done) | fail)) only [Hp.st, Hp.ld, Hp.lda, splice, ble_eq', if_true, if_false, ite_true, ite_false, cond_true, cond_false, decide_true, decide_false, List.length_cons, List.length_nil, List.take_zero, List.take_succ_cons, List.nil_append, List.cons_append, List.append_nil, List.drop_succ_cons, List.drop_zero, List.drop_nil, List.getElem?_cons_succ, List.getElem?_cons_zero, Nat.reduceAdd, Nat.reduceLeDiff, Nat.reduceEqDiff, Nat.zero_add, Nat.add_zero, Nat.le_refl, Nat.zero_le, Nat.succ_ne_self, Nat.mul_one, Int.toNat_natCast, Option.some.injEq, Option.isNone_some, Option.isNone_none, V.int.injEq, V.str.injEq, V.bool.injEq, V.ptr.injEq, V.slc.injEq, V.map.injEq, V.agg.injEq, V.tup.injEq, List.cons.injEq, Prod.mk.injEq, onS, true_and, and_true, and_assoc, exists_and_left, exists_eq_left', forall_eq, heq_eq_eq, reduceCtorEq, Bool.not_true, Bool.not_false, eq_self, not_false_eq_true, Nat.left_eq_add, Nat.add_eq_left, Nat.add_left_cancel_iff, Nat.add_right_cancel_iff, Nat.reduceEqDiff, Nat.one_ne_zero, Hp.get_set_self, Hp.get_set_ne, Hp.get_alloc_self, Hp.get_alloc_ne, Hp.get_alloc_at, Hp.get_set_at, Hp.set_next, Hp.alloc_next, Option.some_ne_none, V.tup.injEq, Option.isSome_some, Option.isSome_none, exists_eq_left, exists_eq, Nat.mul_zero, c1], z.1.2.1, z.1.2.2, by simp (disch := (first | omega | (simp only [Hp.alloc_next, Hp.set_next] <;> omega) | (simp (disch := (first | omega | (simp only [Hp.alloc_next, Hp.set_next] <;> omega) | fail)) only [Hp.get_set_self, Hp.get_set_ne, Hp.get_alloc_self, Hp.get_alloc_ne, Hp.get_alloc_at, Hp.get_set_at, Hp.set_next, Hp.alloc_next, c2]; done) | fail)) only [Hp.st, Hp.ld, Hp.lda, splice, ble_eq', if_true, if_false, ite_true, ite_false, cond_true, cond_false, decide_true, decide_false, List.length_cons, List.length_nil, List.take_zero, List.take_succ_cons, List.nil_append, List.cons_append, List.append_nil, List.drop_succ_cons, List.drop_zero, List.drop_nil, List.getElem?_cons_succ, List.getElem?_cons_zero, Nat.reduceAdd, Nat.reduceLeDiff, Nat.reduceEqDiff, Nat.zero_add, Nat.add_zero, Nat.le_refl, Nat.zero_le, Nat.succ_ne_self, Nat.mul_one, Int.toNat_natCast, Option.some.injEq, Option.isNone_some, Option.isNone_none, V.int.injEq, V.str.injEq, V.bool.injEq, V.ptr.injEq, V.slc.injEq, V.map.injEq, V.agg.injEq, V.tup.injEq, List.cons.injEq, Prod.mk.injEq, onS, true_and, and_true, and_assoc, exists_and_left, exists_eq_left', forall_eq, heq_eq_eq, reduceCtorEq, Bool.not_true, Bool.not_false, eq_self, not_false_eq_true, Nat.left_eq_add, Nat.add_eq_left, Nat.add_left_cancel_iff, Nat.add_right_cancel_iff, Nat.reduceEqDiff, Nat.one_ne_zero, Hp.get_set_self, Hp.get_set_ne, Hp.get_alloc_self, Hp.get_alloc_ne, Hp.get_alloc_at, Hp.get_set_at, Hp.set_next, Hp.alloc_next, Option.some_ne_none, V.tup.injEq, Option.isSome_some, Option.isSome_none, exists_eq_left, exists_eq, Nat.mul_zero, c2], ?_⟩
    refine (clo_spec q6.wf r6 z.1.1 z.1.2 (now := now) ha6 hb6).mono ?_
    rintro _ g7 ⟨rfl, r7, s7, n7, w7, ld7⟩
    have q6l := q6.le
    have gldA7 : ∀ j, j < 8 → g7.ld t (0 + ((j : Nat) : Int).toNat * 1) = h.ld t (0 + ((j : Nat) : Int).toNat * 1) := fun j hj => by rw [ld7 j hj, rg.ldk (s6 t (by omega) (by omega))]; exact gldA j hj
    have gld7 : g7.ld t (0 + ((k : Nat) : Int).toNat * 1) = some (.map (some m)) := by rw [gldA7 k hk]; exact hld
    have i7 : MapIter Pr.v enV cur m h.next (sn ++ [z.2]) g7 := i6.keep (s7 m (by omega) hmt) (s7 _ (by omega) (by omega))
    have same7 : ∀ j, j < h.next → j ∉ F → g7.get j = h.get j := fun j hj hF => by rw [s7 j (by omega) (fun e => hF (by rw [e]; exact r.tF)), s6 j (by omega) (by omega)]; exact same j hj hF
    have hzk : mget (cur.map Prod.fst) z.1.1 = some z.1.2 := mget_of_mem hnd (List.mem_map_of_mem hzc)
    have hzD : z.1.1 ∉ D := fun hh => by rw [hget, if_pos hh] at hzk; cases hzk
    have hzL : mget (S.ms k) z.1.1 = some z.1.2 := by rw [hget, if_neg hzD] at hzk; exact hzk
    refine ⟨_, rfl, ?_⟩
    cases ho : oldB now z.1.2 with
    | false =>
      rw [ho, if_neg (by simp)] at r7
      refine ⟨by trivial, ⟨cur, sn ++ [z.2], D, i7, r7, hsub, hget, hD, fun y hy hys => ?_, same7, w7, by omega, gldA7⟩, ?_⟩
      · rcases List.mem_append.1 hys with hys | hys
        · exact hsn y hy hys
        · rw [List.mem_singleton] at hys
          have : mget (cur.map Prod.fst) y.1.1 = some y.1.2 := mget_of_mem hnd (List.mem_map_of_mem hy)
          have e : y = z := born_eq i.nodup hy hzc hys
          rw [e]; exact ho
      · show toCome m h.next g7 < toCome m h.next g
        rw [toCome_eq i7, toCome_eq i]; exact hcnt
    | true =>
      rw [ho, if_pos rfl] at r7
      have c17 : g7.get g2.next = some (.row [.int .u32 z.1.1.a, .int .u16 z.1.1.b, .int .u32 z.1.1.c, .int .u16 z.1.1.d] 1 false) := by rw [s7 _ (by have := q6.wf.lt c1; omega) (by omega)]; exact c1
      obtain ⟨g8, cur', hxd, i8, hsub', hmap', s8, n8⟩ := iter_del KLp ht hd i7 hmi z.1.1
      obtain ⟨m9, o9, hld9, hmg9, hmo9, hmF9, hmt9, hback9⟩ := r7.map hk
      have : m9 = m := by rw [gld7] at hld9; simpa using hld9.symm
      subst this
      obtain ⟨o', hmo', hdel⟩ := hmo9.del mtE z.1.1
      have hxd' := hdel g7 m9 hmg9
      have hg8 : g8 = g7.set m9 o' := by rw [hxd] at hxd'; exact Option.some.inj hxd'
      have hms : ({ S.shardS k (cur.map Prod.fst) (S.rests - ((S.ms k).length - (cur.map Prod.fst).length)) with rests := IntKind.i64.wrap ((S.shardS k (cur.map Prod.fst) (S.rests - ((S.ms k).length - (cur.map Prod.fst).length))).rests - 1) } : TS).ms k = cur.map Prod.fst := by simp [TS.shardS]
      have r8 := hback9 g8 _ o' hmo' (by rw [hg8, Hp.get_set_self]) (fun j hj hne => by rw [hg8, Hp.get_set_ne hne])
      rw [hms] at r8
      have hdl := mdel_len (cur.map Prod.fst) z.1.1 (by rw [hzk]; simp)
      have w8 : g8.wf := by rw [hg8]; exact w7.set (by omega)
      refine ⟨z.1.1.a, z.1.1.b, z.1.1.c, z.1.1.d, by simp (disch := (first | omega | (simp only [Hp.alloc_next, Hp.set_next] <;> omega) | (simp (disch := (first | omega | (simp only [Hp.alloc_next, Hp.set_next] <;> omega) | fail)) only [Hp.get_set_self, Hp.get_set_ne, Hp.get_alloc_self, Hp.get_alloc_ne, Hp.get_alloc_at, Hp.get_set_at, Hp.set_next, Hp.alloc_next, c17]; done) | fail)) only [Hp.st, Hp.ld, Hp.lda, splice, ble_eq', if_true, if_false, ite_true, ite_false, cond_true, cond_false, decide_true, decide_false, List.length_cons, List.length_nil, List.take_zero, List.take_succ_cons, List.nil_append, List.cons_append, List.append_nil, List.drop_succ_cons, List.drop_zero, List.drop_nil, List.getElem?_cons_succ, List.getElem?_cons_zero, Nat.reduceAdd, Nat.reduceLeDiff, Nat.reduceEqDiff, Nat.zero_add, Nat.add_zero, Nat.le_refl, Nat.zero_le, Nat.succ_ne_self, Nat.mul_one, Int.toNat_natCast, Option.some.injEq, Option.isNone_some, Option.isNone_none, V.int.injEq, V.str.injEq, V.bool.injEq, V.ptr.injEq, V.slc.injEq, V.map.injEq, V.agg.injEq, V.tup.injEq, List.cons.injEq, Prod.mk.injEq, onS, true_and, and_true, and_assoc, exists_and_left, exists_eq_left', forall_eq, heq_eq_eq, reduceCtorEq, Bool.not_true, Bool.not_false, eq_self, not_false_eq_true, Nat.left_eq_add, Nat.add_eq_left, Nat.add_left_cancel_iff, Nat.add_right_cancel_iff, Nat.reduceEqDiff, Nat.one_ne_zero, Hp.get_set_self, Hp.get_set_ne, Hp.get_alloc_self, Hp.get_alloc_ne, Hp.get_alloc_at, Hp.get_set_at, Hp.set_next, Hp.alloc_next, Option.some_ne_none, V.tup.injEq, Option.isSome_some, Option.isSome_none, exists_eq_left, exists_eq, Nat.mul_zero, c17], g8, hxd, by trivial, ⟨cur', sn ++ [z.2], z.1.1 :: D, i8, ?_, ?_, fun p => ?_, fun p hp => ?_, fun y hy hys => ?_, fun j hj hF => ?_, w8, by omega, ?_⟩, ?_⟩
      · rw [hmap']
        refine Eq.mp ?_ r8
        congr 1
        unfold TS.shardS
        simp only
        congr 1
        · funext j; by_cases e : j = k
          · subst e; simp
          · simp [e]
        · rw [wr (by omega) (by omega)]; omega
      · exact (hsub'.map _).trans hsub
      · rw [hmap']
        by_cases e : p = z.1.1
        · subst e
          rw [mget_self _ _ hnd, if_pos (by simp)]
        · rw [mget_mdel _ _ _ e, hget]
          by_cases hp : p ∈ D
          · rw [if_pos hp, if_pos (by simp [hp])]
          · rw [if_neg hp, if_neg (by simp [hp, e])]
      · rcases List.mem_cons.1 hp with rfl | hp
        · exact ⟨z.1.2, hzL, ho⟩
        · exact hD p hp
      · have hyc := hsub'.subset hy
        rcases List.mem_append.1 hys with hys | hys
        · exact hsn y hyc hys
        · rw [List.mem_singleton] at hys
          have e : y = z := born_eq i.nodup hyc hzc hys
          subst e
          have h1 : y.1 ∈ mdel (cur.map Prod.fst) y.1.1 := by rw [← hmap']; exact List.mem_map_of_mem hy
          have h2 := (mget_mem (mdel (cur.map Prod.fst) y.1.1) y.1.1).2 (List.mem_map_of_mem h1)
          rw [mget_self _ _ hnd] at h2
          exact absurd rfl h2
      · rw [s8 j (fun e => hF (by rw [e]; exact hmF))]; exact same7 j hj hF
      · intro j hj; rw [r7.ldk (s8 t (Ne.symm hmt))]; exact gldA7 j hj
      · show toCome m9 h.next g8 < toCome m9 h.next g
        rw [toCome_eq i8, toCome_eq i]
        have : (rem cur' (sn ++ [z.2])).length ≤ (rem cur (sn ++ [z.2])).length := (hsub'.filter _).length_le
        omega

/-- the table once those that have rested are gone -/
structure OldR (now : Int) (S S' : TS) (n : Int) : Prop where
  ms : ∀ j, j < 8 → Left now (S.ms j) (S'.ms j)
  ears : S'.ears = S.ears
  conns : S'.conns = S.conns
  rests : S'.rests = S.rests - n

/-- how many entries of the first k shards are gone -/
def gone (S S' : TS) : Nat → Int
  | 0 => 0
  | k + 1 => gone S S' k + (((S.ms k).length : Int) - (S'.ms k).length)

theorem gone_congr {S S' S2 : TS} : ∀ k, (∀ j, j < k → S'.ms j = S2.ms j) → gone S S' k = gone S S2 k
  | 0, _ => rfl
  | k + 1, h => by
    show gone S S' k + _ = gone S S2 k + _
    rw [gone_congr k (fun j hj => h j (by omega)), h k (by omega)]

theorem old_spec (hw : h.wf) (r : TabR t S h F) (now : Int) (hn : ∀ k, k < 8 → ((S.ms k).map Prod.fst).Nodup) (hlen : ∀ k, k < 8 → (S.ms k).length ≤ 1000000) (hrs : -100000000 ≤ S.rests ∧ S.rests ≤ 100000000) :
    XCalls Try.prog 12 [.ptr (some (t, 0)), .int .i64 now] h fun v h' => ∃ S', v = .int .i64 (gone S S' 8) ∧ OldR now S S' (gone S S' 8) ∧ TabR t S' h' F ∧ Upd h h' F F ∧ h'.wf := by
  refine XCalls.cps fun K hK => ?_
  apply x12; unfold X12
  rintro h1 rfl h2 rfl
  have q1 := Quiet.alloc hw (.row [.ptr (some (t, 0))] 1 false)
  have n1 : (h.alloc (.row [.ptr (some (t, 0))] 1 false)).next = h.next + 1 := Hp.alloc_next _ _
  have g1 : (h.alloc (.row [.ptr (some (t, 0))] 1 false)).get h.next = some (.row [.ptr (some (t, 0))] 1 false) := Hp.get_alloc_self
  generalize h.alloc (.row [.ptr (some (t, 0))] 1 false) = h1 at *
  have q2 := Quiet.alloc q1.wf (.row [.int .i64 now] 1 false)
  have n2 : (h1.alloc (.row [.int .i64 now] 1 false)).next = h1.next + 1 := Hp.alloc_next _ _
  have g2 : (h1.alloc (.row [.int .i64 now] 1 false)).get h1.next = some (.row [.int .i64 now] 1 false) := Hp.get_alloc_self
  generalize h1.alloc (.row [.int .i64 now] 1 false) = h2 at *
  have q := q1.trans q2
  have r2 := r.quiet hw q
  have gt2 : h2.get h.next = some (.row [.ptr (some (t, 0))] 1 false) := by rw [q2.same _ (by omega)]; exact g1
  have hFl := r.lt hw
  refine ⟨some (t, 0), by simp (disch := (first | omega | (simp only [Hp.alloc_next, Hp.set_next] <;> omega) | (simp (disch := (first | omega | (simp only [Hp.alloc_next, Hp.set_next] <;> omega) | fail)) only [Hp.get_set_self, Hp.get_set_ne, Hp.get_alloc_self, Hp.get_alloc_ne, Hp.get_alloc_at, Hp.get_set_at, Hp.set_next, Hp.alloc_next, gt2]; done) | fail)) only [Hp.st, Hp.ld, Hp.lda, splice, ble_eq', if_true, if_false, ite_true, ite_false, cond_true, cond_false, decide_true, decide_false, List.length_cons, List.length_nil, List.take_zero, List.take_succ_cons, List.nil_append, List.cons_append, List.append_nil, List.drop_succ_cons, List.drop_zero, List.drop_nil, List.getElem?_cons_succ, List.getElem?_cons_zero, Nat.reduceAdd, Nat.reduceLeDiff, Nat.reduceEqDiff, Nat.zero_add, Nat.add_zero, Nat.le_refl, Nat.zero_le, Nat.succ_ne_self, Nat.mul_one, Int.toNat_natCast, Option.some.injEq, Option.isNone_some, Option.isNone_none, V.int.injEq, V.str.injEq, V.bool.injEq, V.ptr.injEq, V.slc.injEq, V.map.injEq, V.agg.injEq, V.tup.injEq, List.cons.injEq, Prod.mk.injEq, onS, true_and, and_true, and_assoc, exists_and_left, exists_eq_left', forall_eq, heq_eq_eq, reduceCtorEq, Bool.not_true, Bool.not_false, eq_self, not_false_eq_true, Nat.left_eq_add, Nat.add_eq_left, Nat.add_left_cancel_iff, Nat.add_right_cancel_iff, Nat.reduceEqDiff, Nat.one_ne_zero, Hp.get_set_self, Hp.get_set_ne, Hp.get_alloc_self, Hp.get_alloc_ne, Hp.get_alloc_at, Hp.get_set_at, Hp.set_next, Hp.alloc_next, Option.some_ne_none, V.tup.injEq, Option.isSome_some, Option.isSome_none, exists_eq_left, exists_eq, Nat.mul_zero, gt2], ?_⟩
  refine (made_spec r2).mono ?_
  rintro _ h3 ⟨rfl, rfl⟩
  refine ⟨_, rfl, some (t, 0), by simp (disch := (first | omega | (simp only [Hp.alloc_next, Hp.set_next] <;> omega) | (simp (disch := (first | omega | (simp only [Hp.alloc_next, Hp.set_next] <;> omega) | fail)) only [Hp.get_set_self, Hp.get_set_ne, Hp.get_alloc_self, Hp.get_alloc_ne, Hp.get_alloc_at, Hp.get_set_at, Hp.set_next, Hp.alloc_next, gt2]; done) | fail)) only [Hp.st, Hp.ld, Hp.lda, splice, ble_eq', if_true, if_false, ite_true, ite_false, cond_true, cond_false, decide_true, decide_false, List.length_cons, List.length_nil, List.take_zero, List.take_succ_cons, List.nil_append, List.cons_append, List.append_nil, List.drop_succ_cons, List.drop_zero, List.drop_nil, List.getElem?_cons_succ, List.getElem?_cons_zero, Nat.reduceAdd, Nat.reduceLeDiff, Nat.reduceEqDiff, Nat.zero_add, Nat.add_zero, Nat.le_refl, Nat.zero_le, Nat.succ_ne_self, Nat.mul_one, Int.toNat_natCast, Option.some.injEq, Option.isNone_some, Option.isNone_none, V.int.injEq, V.str.injEq, V.bool.injEq, V.ptr.injEq, V.slc.injEq, V.map.injEq, V.agg.injEq, V.tup.injEq, List.cons.injEq, Prod.mk.injEq, onS, true_and, and_true, and_assoc, exists_and_left, exists_eq_left', forall_eq, heq_eq_eq, reduceCtorEq, Bool.not_true, Bool.not_false, eq_self, not_false_eq_true, Nat.left_eq_add, Nat.add_eq_left, Nat.add_left_cancel_iff, Nat.add_right_cancel_iff, Nat.reduceEqDiff, Nat.one_ne_zero, Hp.get_set_self, Hp.get_set_ne, Hp.get_alloc_self, Hp.get_alloc_ne, Hp.get_alloc_at, Hp.get_set_at, Hp.set_next, Hp.alloc_next, Option.some_ne_none, V.tup.injEq, Option.isSome_some, Option.isSome_none, exists_eq_left, exists_eq, Nat.mul_zero, gt2], S.rests, by simp only [Nat.zero_add]; exact r2.ld10, some (t, 0), by simp (disch := (first | omega | (simp only [Hp.alloc_next, Hp.set_next] <;> omega) | (simp (disch := (first | omega | (simp only [Hp.alloc_next, Hp.set_next] <;> omega) | fail)) only [Hp.get_set_self, Hp.get_set_ne, Hp.get_alloc_self, Hp.get_alloc_ne, Hp.get_alloc_at, Hp.get_set_at, Hp.set_next, Hp.alloc_next, gt2]; done) | fail)) only [Hp.st, Hp.ld, Hp.lda, splice, ble_eq', if_true, if_false, ite_true, ite_false, cond_true, cond_false, decide_true, decide_false, List.length_cons, List.length_nil, List.take_zero, List.take_succ_cons, List.nil_append, List.cons_append, List.append_nil, List.drop_succ_cons, List.drop_zero, List.drop_nil, List.getElem?_cons_succ, List.getElem?_cons_zero, Nat.reduceAdd, Nat.reduceLeDiff, Nat.reduceEqDiff, Nat.zero_add, Nat.add_zero, Nat.le_refl, Nat.zero_le, Nat.succ_ne_self, Nat.mul_one, Int.toNat_natCast, Option.some.injEq, Option.isNone_some, Option.isNone_none, V.int.injEq, V.str.injEq, V.bool.injEq, V.ptr.injEq, V.slc.injEq, V.map.injEq, V.agg.injEq, V.tup.injEq, List.cons.injEq, Prod.mk.injEq, onS, true_and, and_true, and_assoc, exists_and_left, exists_eq_left', forall_eq, heq_eq_eq, reduceCtorEq, Bool.not_true, Bool.not_false, eq_self, not_false_eq_true, Nat.left_eq_add, Nat.add_eq_left, Nat.add_left_cancel_iff, Nat.add_right_cancel_iff, Nat.reduceEqDiff, Nat.one_ne_zero, Hp.get_set_self, Hp.get_set_ne, Hp.get_alloc_self, Hp.get_alloc_ne, Hp.get_alloc_at, Hp.get_set_at, Hp.set_next, Hp.alloc_next, Option.some_ne_none, V.tup.injEq, Option.isSome_some, Option.isSome_none, exists_eq_left, exists_eq, Nat.mul_zero, gt2], ?_⟩
  have r2' := r2
  obtain ⟨L, e, oe, f1, f2, _⟩ := r2'
  obtain ⟨m0, m1, m2, m3, m4, m5, m6, m7, rfl⟩ : ∃ m0 m1 m2 m3 m4 m5 m6 m7, L = [m0, m1, m2, m3, m4, m5, m6, m7] := by
    match L, f1 with
    | [a, b, c, d, e, f, g, h], _ => exact ⟨a, b, c, d, e, f, g, h, rfl⟩
  have places : ∀ k m, [m0, m1, m2, m3, m4, m5, m6, m7][k]? = some m → h3.ld t (0 + ((k : Nat) : Int).toNat * 1) = some (.map (some m)) := fun k m hk => by
    rw [Hp.ld_of f2]; simp only [Int.toNat_natCast, Nat.mul_one, Nat.zero_add]; exact tRow_k hk
  refine ⟨some m0, some m1, some m2, some m3, some m4, some m5, some m6, some m7, ?_, fun vs h' => match vs with
    | [.int _ k] => ∃ (k' : Nat) (S' : TS), k = k' ∧ k' ≤ 8 ∧ (∀ j, j < k' → Left now (S.ms j) (S'.ms j)) ∧ (∀ j, k' ≤ j → S'.ms j = S.ms j) ∧ S'.ears = S.ears ∧ S'.conns = S.conns ∧ S'.rests = S.rests - gone S S' k' ∧ 0 ≤ gone S S' k' ∧ gone S S' k' ≤ 1000000 * k' ∧ TabR t S' h' F ∧ Upd h3 h' F F ∧ h'.wf ∧ (∀ j, j < 8 → h'.ld t (0 + ((j : Nat) : Int).toNat * 1) = h3.ld t (0 + ((j : Nat) : Int).toNat * 1))
    | _ => False, fun vs _ => match vs with
    | [.int _ k] => 8 - k.toNat
    | _ => 0, ⟨by trivial, 0, S, rfl, by omega, fun j hj => absurd hj (by omega), fun _ _ => rfl, rfl, rfl, by simp [gone], by simp [gone], by simp [gone], r2, Upd.refl _ _, q.wf, fun _ _ => rfl⟩, ?_⟩
  · rw [Hp.lda_of f2 (by rw [tRow_len f1]; exact Nat.le_of_ble_eq_true rfl)]; rfl
  rintro bs k h4 ⟨k, S4, rfl, hk, hL4, hS4, he4, hc4, hr4, hg4, hg4', r4, u4, w4, ld4⟩
  have ul := u4.le
  have hNF : h.next ∉ F := fun hh => by have := hFl _ hh; omega
  have hNF1 : h1.next ∉ F := fun hh => by have := hFl _ hh; omega
  have gt4 : h4.get h.next = some (.row [.ptr (some (t, 0))] 1 false) := by rw [u4.same _ (by omega) hNF]; exact gt2
  have gn4 : h4.get h1.next = some (.row [.int .i64 now] 1 false) := by rw [u4.same _ (by omega) hNF1]; exact g2
  cases hi : ltI (↑k) 8 with
  | false =>
    rw [ltI_eq, decide_eq_false_iff_not] at hi
    obtain rfl : k = 8 := by omega
    refine ⟨some (t, 0), by simp (disch := (first | omega | (simp only [Hp.alloc_next, Hp.set_next] <;> omega) | (simp (disch := (first | omega | (simp only [Hp.alloc_next, Hp.set_next] <;> omega) | fail)) only [Hp.get_set_self, Hp.get_set_ne, Hp.get_alloc_self, Hp.get_alloc_ne, Hp.get_alloc_at, Hp.get_set_at, Hp.set_next, Hp.alloc_next, gt4]; done) | fail)) only [Hp.st, Hp.ld, Hp.lda, splice, ble_eq', if_true, if_false, ite_true, ite_false, cond_true, cond_false, decide_true, decide_false, List.length_cons, List.length_nil, List.take_zero, List.take_succ_cons, List.nil_append, List.cons_append, List.append_nil, List.drop_succ_cons, List.drop_zero, List.drop_nil, List.getElem?_cons_succ, List.getElem?_cons_zero, Nat.reduceAdd, Nat.reduceLeDiff, Nat.reduceEqDiff, Nat.zero_add, Nat.add_zero, Nat.le_refl, Nat.zero_le, Nat.succ_ne_self, Nat.mul_one, Int.toNat_natCast, Option.some.injEq, Option.isNone_some, Option.isNone_none, V.int.injEq, V.str.injEq, V.bool.injEq, V.ptr.injEq, V.slc.injEq, V.map.injEq, V.agg.injEq, V.tup.injEq, List.cons.injEq, Prod.mk.injEq, onS, true_and, and_true, and_assoc, exists_and_left, exists_eq_left', forall_eq, heq_eq_eq, reduceCtorEq, Bool.not_true, Bool.not_false, eq_self, not_false_eq_true, Nat.left_eq_add, Nat.add_eq_left, Nat.add_left_cancel_iff, Nat.add_right_cancel_iff, Nat.reduceEqDiff, Nat.one_ne_zero, Hp.get_set_self, Hp.get_set_ne, Hp.get_alloc_self, Hp.get_alloc_ne, Hp.get_alloc_at, Hp.get_set_at, Hp.set_next, Hp.alloc_next, Option.some_ne_none, V.tup.injEq, Option.isSome_some, Option.isSome_none, exists_eq_left, exists_eq, Nat.mul_zero, gt4], S4.rests, by simp only [Nat.zero_add]; exact r4.ld10, ?_⟩
    have e : IntKind.i64.wrap (S.rests - S4.rests) = gone S S4 8 := by rw [wr (by omega) (by omega)]; omega
    rw [e]
    exact hK _ _ ⟨S4, rfl, ⟨hL4, he4, hc4, hr4⟩, r4, (q.upd F).trans u4, w4⟩
  | true =>
  rw [ltI_eq, decide_eq_true_eq] at hi
  have hk' : k < 8 := by omega
  have hwk : IntKind.i64.wrap ((k : Int) + 1) = ((k + 1 : Nat) : Int) := by rw [wr (by omega) (by omega)]; rfl
  have hSk : S4.ms k = S.ms k := hS4 k (Nat.le_refl _)
  have step : ∀ (j m : Nat), [m0, m1, m2, m3, m4, m5, m6, m7][j]? = some m → (k : Int) = j → XCalls Try.prog 29 [.map (some m), .fn (.func 30) [] [.ptr (some (h1.next, 0)), .ptr (some (h.next, 0))]] h4 fun v h' => (∃ (k' : Nat) (S' : TS), IntKind.i64.wrap ((k : Int) + 1) = k' ∧ k' ≤ 8 ∧ (∀ j, j < k' → Left now (S.ms j) (S'.ms j)) ∧ (∀ j, k' ≤ j → S'.ms j = S.ms j) ∧ S'.ears = S.ears ∧ S'.conns = S.conns ∧ S'.rests = S.rests - gone S S' k' ∧ 0 ≤ gone S S' k' ∧ gone S S' k' ≤ 1000000 * k' ∧ TabR t S' h' F ∧ Upd h3 h' F F ∧ h'.wf ∧ (∀ j, j < 8 → h'.ld t (0 + ((j : Nat) : Int).toNat * 1) = h3.ld t (0 + ((j : Nat) : Int).toNat * 1))) ∧ 8 - (IntKind.i64.wrap ((k : Int) + 1)).toNat < 8 - ((k : Int)).toNat := fun j m hm hj => by
    have : j = k := by omega
    subst this
    refine (del_spec w4 r4 hk' (m := m) (by rw [ld4 j hk']; exact places j m hm) gn4 gt4 hNF1 hNF (by rw [hSk]; exact hn j hk') (by rw [hSk]; exact hlen j hk') (by omega)).mono ?_
    rintro _ h5 ⟨M, rfl, hM, r5, u5, w5, ld5⟩
    rw [hSk] at hM r5
    have hml := hM.sub.length_le
    have hll := hlen j hk'
    have hcong : gone S (S4.shardS j M (S4.rests - ((S.ms j).length - M.length))) j = gone S S4 j := gone_congr j fun i hi => by simp [TS.shardS, show i ≠ j by omega]
    have hgs : gone S (S4.shardS j M (S4.rests - ((S.ms j).length - M.length))) (j + 1) = gone S S4 j + (((S.ms j).length : Int) - M.length) := by
      show gone S _ j + (((S.ms j).length : Int) - ((S4.shardS j M (S4.rests - ((S.ms j).length - M.length))).ms j).length) = _
      rw [hcong]; simp [TS.shardS]
    rw [hwk]
    refine ⟨⟨j + 1, S4.shardS j M (S4.rests - ((S.ms j).length - M.length)), rfl, by omega, fun i hi => ?_, fun i hi => ?_, he4, hc4, ?_, ?_, ?_, r5, u4.trans u5, w5, fun i hi => by rw [ld5 i hi]; exact ld4 i hi⟩, by simp only [Int.toNat_natCast]; omega⟩
    · by_cases e : i = j
      · subst e; simp only [TS.shardS, if_true]; exact hM
      · simp only [TS.shardS, if_neg e]; exact hL4 i (by omega)
    · simp only [TS.shardS, if_neg (show i ≠ j by omega)]; exact hS4 i (by omega)
    · rw [hgs]; show S4.rests - _ = _; omega
    · rw [hgs]; omega
    · rw [hgs]; push_cast; omega
  refine ⟨⟨by omega, by omega⟩, ⟨⟨⟨⟨⟨⟨⟨⟨trivial, fun hj => ?_⟩, fun hj => ?_⟩, fun hj => ?_⟩, fun hj => ?_⟩, fun hj => ?_⟩, fun hj => ?_⟩, fun hj => ?_⟩, fun hj => ?_⟩⟩
  · exact (step 0 m0 rfl hj).mono fun v h' hh => ⟨by trivial, hh.1, hh.2⟩
  · exact (step 1 m1 rfl hj).mono fun v h' hh => ⟨by trivial, hh.1, hh.2⟩
  · exact (step 2 m2 rfl hj).mono fun v h' hh => ⟨by trivial, hh.1, hh.2⟩
  · exact (step 3 m3 rfl hj).mono fun v h' hh => ⟨by trivial, hh.1, hh.2⟩
  · exact (step 4 m4 rfl hj).mono fun v h' hh => ⟨by trivial, hh.1, hh.2⟩
  · exact (step 5 m5 rfl hj).mono fun v h' hh => ⟨by trivial, hh.1, hh.2⟩
  · exact (step 6 m6 rfl hj).mono fun v h' hh => ⟨by trivial, hh.1, hh.2⟩
  · exact (step 7 m7 rfl hj).mono fun v h' hh => ⟨by trivial, hh.1, hh.2⟩
end
end Go.Vex.Tbl
