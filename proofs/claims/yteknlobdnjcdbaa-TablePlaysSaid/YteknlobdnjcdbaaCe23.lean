/-
  The table's contracts (layer 23): New, Put, Rest, Listen, Conns, Rests.
-/
import Derived.Test.YteknlobdnjcdbaaVexFF
import Derived.Test.YteknlobdnjcdbaaVexGG
import Derived.Test.YteknlobdnjcdbaaTab23
import Derived.Test.YteknlobdnjcdbaaXa23
import Derived.Test.YteknlobdnjcdbaaCa23
import Derived.Test.YteknlobdnjcdbaaCb23
import Derived.Test.YteknlobdnjcdbaaCc23
import Derived.Test.YteknlobdnjcdbaaXb23
set_option linter.unusedVariables false
set_option linter.unusedSimpArgs false
namespace Go.Vex.Tbl
open Go.Proofs

structure Ad where
  ip : Int
  port : Int
deriving DecidableEq

def adV (a : Ad) : V := .agg [.int .u32 a.ip, .int .u16 a.port]
def enV (e : Int × Int) : V := .agg [.int .u64 e.1, .int .i64 e.2]
abbrev kU : Int → V := fun n => .int .u64 n

theorem klP : KL T 33 Pr.v where
  key := fun _ => rfl
  eq := fun a b => by
    have e : veq T 12 33 (Pr.v a) (Pr.v b) = both (both (some (a.a == b.a)) (both (some (a.b == b.b)) (some true))) (both (both (some (a.c == b.c)) (both (some (a.d == b.d)) (some true))) (some true)) := rfl
    rw [e]
    simp only [both_some]
    congr 1
    obtain ⟨a1, a2, a3, a4⟩ := a
    obtain ⟨b1, b2, b3, b4⟩ := b
    rw [Bool.eq_iff_iff]
    simp [and_assoc]
  peq := fun a => by simp [Go.Vex.peq, Pr.v, peqs, peq1]

theorem mtE : MT T 65 Pr.v (enV (0, 0)) := ⟨(T 65).get rfl, 33, 70, (T 70).get rfl, rfl, rfl, rfl, rfl, klP⟩
theorem mtA : MT T 64 kU (adV ⟨0, 0⟩) := ⟨(T 64).get rfl, 34, 31, (T 31).get rfl, rfl, rfl, rfl, rfl, KL.int (ti := (T 34).get rfl) rfl rfl⟩

structure TS where
  ms : Nat → List (Pr × (Int × Int))
  ears : List (Int × Ad)
  conns : Int
  rests : Int

def look (S : TS) (p : Pr) : Option (Int × Int) := mget (S.ms (shard p)) p
def TS.put (S : TS) (p : Pr) (e : Int × Int) : TS := { S with ms := fun j => if j = shard p then mput (S.ms j) p e else S.ms j }

theorem look_put (S : TS) (p : Pr) (e : Int × Int) (q : Pr) : look (S.put p e) q = if q = p then some e else look S q := by
  unfold look TS.put
  by_cases hs : shard q = shard p
  · simp only [hs, if_true, mget_mput]
  · have : q ≠ p := fun h => hs (by rw [h])
    simp only [if_neg hs, if_neg this]

def tRow (L : List Nat) (e : Nat) (c r : Int) : List V := L.map (fun x => V.map (some x)) ++ [.map (some e), .int .i64 c, .int .i64 r]

def TabR (t : Nat) (S : TS) (h : Hp) (F : List Nat) : Prop :=
  ∃ (L : List Nat) (e : Nat) (oe : O), L.length = 8 ∧ h.get t = some (.row (tRow L e S.conns S.rests) 1 false) ∧ h.get e = some oe ∧ MO kU adV S.ears oe ∧ (∀ k m, L[k]? = some m → ∃ o, h.get m = some o ∧ MO Pr.v enV (S.ms k) o) ∧ F = t :: e :: L ∧ F.Nodup

theorem TabR.rep (t : Nat) (S : TS) : Rep (TabR t S) where
  loc := fun h h' F hs ⟨L, e, oe, h1, h2, h3, h4, h5, h6, h7⟩ => by
    subst h6
    exact ⟨L, e, oe, h1, by rw [hs t (by simp)]; exact h2, by rw [hs e (by simp)]; exact h3, h4, fun k m hk => by
      obtain ⟨o, ho, hm⟩ := h5 k m hk
      exact ⟨o, by rw [hs m (by simp [List.mem_of_getElem? hk])]; exact ho, hm⟩, rfl, h7⟩
  dom := fun h F ⟨L, e, oe, h1, h2, h3, h4, h5, h6, h7⟩ j hj => by
    subst h6
    rcases List.mem_cons.1 hj with rfl | hj
    · exact ⟨_, h2, rfl⟩
    rcases List.mem_cons.1 hj with rfl | hj
    · exact ⟨_, h3, h4.rw⟩
    · obtain ⟨k, hk⟩ := List.mem_iff_getElem?.1 hj
      obtain ⟨o, ho, hm⟩ := h5 k j hk
      exact ⟨o, ho, hm.rw⟩

theorem TabR.quiet {t : Nat} {S : TS} {h h' : Hp} {F : List Nat} (r : TabR t S h F) (hw : h.wf) (q : Quiet h h') : TabR t S h' F := (TabR.rep _ _).stay hw r q.same

theorem Quiet.upd {h h' : Hp} (q : Quiet h h') (F : List Nat) : Upd h h' F F := Upd.quiet F q.same q.le

theorem tRow_len {L : List Nat} (h : L.length = 8) (e : Nat) (c r : Int) : (tRow L e c r).length = 11 := by simp [tRow, h]
theorem tRow_k {L : List Nat} {e : Nat} {c r : Int} {k m : Nat} (h : L[k]? = some m) : (tRow L e c r)[k]? = some (.map (some m)) := by
  have := (List.getElem?_eq_some_iff.1 h).1
  unfold tRow
  rw [List.getElem?_append_left (by simpa using this), List.getElem?_map, h]; rfl
theorem tRow_8 {L : List Nat} (h : L.length = 8) (e : Nat) (c r : Int) : (tRow L e c r)[8]? = some (.map (some e)) := by
  unfold tRow; rw [List.getElem?_append_right (by simp [h])]; simp [h]
theorem tRow_9 {L : List Nat} (h : L.length = 8) (e : Nat) (c r : Int) : (tRow L e c r)[9]? = some (.int .i64 c) := by
  unfold tRow; rw [List.getElem?_append_right (by simp [h])]; simp [h]
theorem tRow_10 {L : List Nat} (h : L.length = 8) (e : Nat) (c r : Int) : (tRow L e c r)[10]? = some (.int .i64 r) := by
  unfold tRow; rw [List.getElem?_append_right (by simp [h])]; simp [h]
theorem tRow_s9 {L : List Nat} (h : L.length = 8) (e : Nat) (c r v : Int) : splice (tRow L e c r) 9 [.int .i64 v] = tRow L e v r := by
  have e1 : tRow L e c r = (L.map (fun x => V.map (some x)) ++ [.map (some e)]) ++ ([.int .i64 c] ++ [.int .i64 r]) := by simp [tRow]
  have e2 : (L.map (fun x => V.map (some x)) ++ [V.map (some e)]).length = 9 := by simp [h]
  rw [e1]
  have := splice_at (L.map (fun x => V.map (some x)) ++ [V.map (some e)]) [.int .i64 c] [.int .i64 r] [.int .i64 v] rfl
  rw [e2] at this
  rw [this]; simp [tRow]
theorem tRow_s10 {L : List Nat} (h : L.length = 8) (e : Nat) (c r v : Int) : splice (tRow L e c r) 10 [.int .i64 v] = tRow L e c v := by
  have e1 : tRow L e c r = (L.map (fun x => V.map (some x)) ++ [.map (some e), .int .i64 c]) ++ ([.int .i64 r] ++ []) := by simp [tRow]
  have e2 : (L.map (fun x => V.map (some x)) ++ [V.map (some e), .int .i64 c]).length = 10 := by simp [h]
  rw [e1]
  have := splice_at (L.map (fun x => V.map (some x)) ++ [V.map (some e), .int .i64 c]) [.int .i64 r] [] [.int .i64 v] rfl
  rw [e2] at this
  rw [this]; simp [tRow]

section
variable {t : Nat} {S : TS} {h : Hp} {F : List Nat}

theorem TabR.ld9 (r : TabR t S h F) : h.ld t 9 = some (.int .i64 S.conns) := by
  obtain ⟨L, e, oe, h1, h2, _⟩ := r
  rw [Hp.ld_of h2]; exact tRow_9 h1 _ _ _
theorem TabR.ld10 (r : TabR t S h F) : h.ld t 10 = some (.int .i64 S.rests) := by
  obtain ⟨L, e, oe, h1, h2, _⟩ := r
  rw [Hp.ld_of h2]; exact tRow_10 h1 _ _ _

theorem TabR.st9 (r : TabR t S h F) (hw : h.wf) (v : Int) : ∃ h', h.st t 9 [.int .i64 v] = some h' ∧ TabR t { S with conns := v } h' F ∧ Upd h h' F F ∧ h'.wf ∧ (∀ j, j ∉ F → h'.get j = h.get j) := by
  obtain ⟨L, e, oe, h1, h2, h3, h4, h5, h6, h7⟩ := r
  have hlt := hw.lt h2
  subst h6
  have hd := List.nodup_cons.1 h7
  refine ⟨_, Hp.st_of h2 (by rw [tRow_len h1]; exact Nat.le_of_ble_eq_true rfl), ⟨L, e, oe, h1, ?_, ?_, h4, fun k m hk => ?_, rfl, h7⟩, ⟨fun j hj hF => ?_, fun j hj => .inl hj, by simp⟩, hw.set hlt, fun j hF => ?_⟩
  · rw [Hp.get_set_self, tRow_s9 h1]
  · rw [Hp.get_set_ne (fun e' => hd.1 (by simp [← e']))]; exact h3
  · obtain ⟨o, ho, hm⟩ := h5 k m hk
    exact ⟨o, by rw [Hp.get_set_ne (fun e' => hd.1 (by simp [← e', List.mem_of_getElem? hk]))]; exact ho, hm⟩
  · rw [Hp.get_set_ne (fun e' => hF (by simp [e']))]
  · rw [Hp.get_set_ne (fun e' => hF (by simp [e']))]

theorem TabR.st10 (r : TabR t S h F) (hw : h.wf) (v : Int) : ∃ h', h.st t 10 [.int .i64 v] = some h' ∧ TabR t { S with rests := v } h' F ∧ Upd h h' F F ∧ h'.wf ∧ (∀ j, j ∉ F → h'.get j = h.get j) := by
  obtain ⟨L, e, oe, h1, h2, h3, h4, h5, h6, h7⟩ := r
  have hlt := hw.lt h2
  subst h6
  have hd := List.nodup_cons.1 h7
  refine ⟨_, Hp.st_of h2 (by rw [tRow_len h1]; exact Nat.le_of_ble_eq_true rfl), ⟨L, e, oe, h1, ?_, ?_, h4, fun k m hk => ?_, rfl, h7⟩, ⟨fun j hj hF => ?_, fun j hj => .inl hj, by simp⟩, hw.set hlt, fun j hF => ?_⟩
  · rw [Hp.get_set_self, tRow_s10 h1]
  · rw [Hp.get_set_ne (fun e' => hd.1 (by simp [← e']))]; exact h3
  · obtain ⟨o, ho, hm⟩ := h5 k m hk
    exact ⟨o, by rw [Hp.get_set_ne (fun e' => hd.1 (by simp [← e', List.mem_of_getElem? hk]))]; exact ho, hm⟩
  · rw [Hp.get_set_ne (fun e' => hF (by simp [e']))]
  · rw [Hp.get_set_ne (fun e' => hF (by simp [e']))]

theorem TabR.ears (r : TabR t S h F) : ∃ e oe, h.ld t 8 = some (.map (some e)) ∧ h.get e = some oe ∧ MO kU adV S.ears oe ∧ e ∈ F ∧ e ≠ t ∧
    ∀ (h' : Hp) (ears' : List (Int × Ad)) (o' : O), MO kU adV ears' o' → h'.get e = some o' → (∀ j ∈ F, j ≠ e → h'.get j = h.get j) → TabR t { S with ears := ears' } h' F := by
  obtain ⟨L, e, oe, h1, h2, h3, h4, h5, h6, h7⟩ := r
  subst h6
  have hd := List.nodup_cons.1 h7
  have hd2 := List.nodup_cons.1 hd.2
  have het : e ≠ t := fun e' => hd.1 (by simp [e'])
  refine ⟨e, oe, by rw [Hp.ld_of h2]; exact tRow_8 h1 _ _ _, h3, h4, by simp, het, fun h' ears' o' hm hg hs => ⟨L, e, o', h1, by rw [hs t (by simp) (Ne.symm het)]; exact h2, hg, hm, fun k m hk => ?_, rfl, h7⟩⟩
  obtain ⟨o, ho, hm⟩ := h5 k m hk
  have hmL := List.mem_of_getElem? hk
  exact ⟨o, by rw [hs m (by simp [hmL]) (fun e' => hd2.1 (e' ▸ hmL))]; exact ho, hm⟩

theorem TabR.map (r : TabR t S h F) {k : Nat} (hk : k < 8) : ∃ m o, h.ld t (0 + ((k : Nat) : Int).toNat * 1) = some (.map (some m)) ∧ h.get m = some o ∧ MO Pr.v enV (S.ms k) o ∧ m ∈ F ∧ m ≠ t ∧
    ∀ (h' : Hp) (l' : List (Pr × (Int × Int))) (o' : O), MO Pr.v enV l' o' → h'.get m = some o' → (∀ j ∈ F, j ≠ m → h'.get j = h.get j) → TabR t { S with ms := fun j => if j = k then l' else S.ms j } h' F := by
  obtain ⟨L, e, oe, h1, h2, h3, h4, h5, h6, h7⟩ := r
  subst h6
  have hd := List.nodup_cons.1 h7
  have hd2 := List.nodup_cons.1 hd.2
  obtain ⟨m, hm⟩ : ∃ m, L[k]? = some m := ⟨_, List.getElem?_eq_getElem (by omega)⟩
  have hmL := List.mem_of_getElem? hm
  obtain ⟨o, ho, hmo⟩ := h5 k m hm
  have hmt : m ≠ t := fun e' => hd.1 (by simp [← e', hmL])
  have hme : m ≠ e := fun e' => hd2.1 (e' ▸ hmL)
  refine ⟨m, o, by rw [Hp.ld_of h2]; simp only [Int.toNat_natCast, Nat.mul_one, Nat.zero_add]; exact tRow_k hm, ho, hmo, by simp [hmL], hmt, fun h' l' o' hm' hg hs => ⟨L, e, oe, h1, by rw [hs t (by simp) (Ne.symm hmt)]; exact h2, by rw [hs e (by simp) (Ne.symm hme)]; exact h3, h4, fun j m2 hj => ?_, rfl, h7⟩⟩
  by_cases e : j = k
  · subst e
    rw [hm] at hj; cases hj
    exact ⟨o', hg, by simpa using hm'⟩
  · obtain ⟨o2, ho2, hm2⟩ := h5 j m2 hj
    have hne : m2 ≠ m := fun e' => by
      subst e'
      exact e ((List.getElem?_inj (List.getElem?_eq_some_iff.1 hj).1 hd2.2).1 (hj.trans hm.symm))
    exact ⟨o2, by rw [hs m2 (by simp [List.mem_of_getElem? hj]) hne]; exact ho2, by simpa [e] using hm2⟩

theorem made_spec (r : TabR t S h F) : XCalls Try.prog 28 [.ptr (some (t, 0))] h fun v h' => v = .bool true ∧ h' = h := by
  obtain ⟨e, oe, h1, _⟩ := r.ears
  apply x28; unfold X28
  exact ⟨some e, h1, rfl, rfl⟩

theorem conns_spec (r : TabR t S h F) : XCalls Try.prog 24 [.ptr (some (t, 0))] h fun v h' => v = .int .i64 S.conns ∧ h' = h := by
  apply x24; unfold X24
  exact ⟨_, r.ld9, rfl, rfl⟩

theorem rests_spec (r : TabR t S h F) : XCalls Try.prog 25 [.ptr (some (t, 0))] h fun v h' => v = .int .i64 S.rests ∧ h' = h := by
  apply x25; unfold X25
  exact ⟨_, r.ld10, rfl, rfl⟩

/-- what Put does -/
def putF (S : TS) (p : Pr) (s : Int) : Int × TS := if s = 0 then (2, S) else if (look S p).isSome = true then (7, S) else if ¬ S.conns < 1024 then (6, S) else (0, { S.put p (s, 0) with conns := IntKind.i64.wrap (S.conns + 1) })

theorem put_spec (hw : h.wf) (r : TabR t S h F) (p : Pr) (s : Int) : XCalls Try.prog 10 [.ptr (some (t, 0)), p.v, .int .u64 s] h fun v h' => v = .int .i64 (putF S p s).1 ∧ TabR t (putF S p s).2 h' F ∧ Upd h h' F F ∧ h'.wf := by
  refine XCalls.cps fun K hK => ?_
  apply x10; unfold X10
  rintro h1 rfl
  have q1 := Quiet.alloc hw (.row [.int .u32 p.a, .int .u16 p.b, .int .u32 p.c, .int .u16 p.d] 1 false)
  have g1 : (h.alloc (.row [.int .u32 p.a, .int .u16 p.b, .int .u32 p.c, .int .u16 p.d] 1 false)).get h.next = some (.row [.int .u32 p.a, .int .u16 p.b, .int .u32 p.c, .int .u16 p.d] 1 false) := Hp.get_alloc_self
  have r1 := r.quiet hw q1
  have n1 : (h.alloc (.row [.int .u32 p.a, .int .u16 p.b, .int .u32 p.c, .int .u16 p.d] 1 false)).next = h.next + 1 := Hp.alloc_next _ _
  generalize h.alloc (.row [.int .u32 p.a, .int .u16 p.b, .int .u32 p.c, .int .u16 p.d] 1 false) = h1 at *
  refine (made_spec r1).mono ?_
  rintro _ h2 ⟨rfl, rfl⟩
  refine ⟨_, rfl, p.a, p.b, p.c, p.d, by simp (disch := (first | omega | (simp only [Hp.alloc_next, Hp.set_next] <;> omega) | (simp (disch := (first | omega | (simp only [Hp.alloc_next, Hp.set_next] <;> omega) | fail)) only [Hp.get_set_self, Hp.get_set_ne, Hp.get_alloc_self, Hp.get_alloc_ne, Hp.get_alloc_at, Hp.get_set_at, Hp.set_next, Hp.alloc_next, g1]; done) | fail)) only [Hp.st, Hp.ld, Hp.lda, splice, ble_eq', if_true, if_false, ite_true, ite_false, cond_true, cond_false, decide_true, decide_false, List.length_cons, List.length_nil, List.take_zero, List.take_succ_cons, List.nil_append, List.cons_append, List.append_nil, List.drop_succ_cons, List.drop_zero, List.drop_nil, List.getElem?_cons_succ, List.getElem?_cons_zero, Nat.reduceAdd, Nat.reduceLeDiff, Nat.reduceEqDiff, Nat.zero_add, Nat.add_zero, Nat.le_refl, Nat.zero_le, Nat.succ_ne_self, Nat.mul_one, Int.toNat_natCast, Option.some.injEq, Option.isNone_some, Option.isNone_none, V.int.injEq, V.str.injEq, V.bool.injEq, V.ptr.injEq, V.slc.injEq, V.map.injEq, V.agg.injEq, V.tup.injEq, List.cons.injEq, Prod.mk.injEq, onS, true_and, and_true, and_assoc, exists_and_left, exists_eq_left', forall_eq, heq_eq_eq, reduceCtorEq, Bool.not_true, Bool.not_false, eq_self, not_false_eq_true, Nat.left_eq_add, Nat.add_eq_left, Nat.add_left_cancel_iff, Nat.add_right_cancel_iff, Nat.reduceEqDiff, Nat.one_ne_zero, Hp.get_set_self, Hp.get_set_ne, Hp.get_alloc_self, Hp.get_alloc_ne, Hp.get_alloc_at, Hp.get_set_at, Hp.set_next, Hp.alloc_next, Option.some_ne_none, V.tup.injEq, Option.isSome_some, Option.isSome_none, exists_eq_left, exists_eq, Nat.mul_zero, g1], ?_⟩
  refine (shard_spec p).mono ?_
  rintro _ h3 ⟨rfl, rfl⟩
  have hsl := shard_lt p
  obtain ⟨m, o, hld, hmg, hmo, hmF, hmt, hback⟩ := r1.map hsl
  have hFl : ∀ j ∈ F, j < h.next := fun j hj => (TabR.rep _ _).lt hw r hj
  have hlk := hmo.look2 mtE p h3 m hmg
  rw [lookV_getD] at hlk
  refine ⟨_, rfl, rfl, rfl, rfl, ⟨by omega, by omega⟩, some m, hld, p.a, p.b, p.c, p.d, by simp (disch := (first | omega | (simp only [Hp.alloc_next, Hp.set_next] <;> omega) | (simp (disch := (first | omega | (simp only [Hp.alloc_next, Hp.set_next] <;> omega) | fail)) only [Hp.get_set_self, Hp.get_set_ne, Hp.get_alloc_self, Hp.get_alloc_ne, Hp.get_alloc_at, Hp.get_set_at, Hp.set_next, Hp.alloc_next, g1]; done) | fail)) only [Hp.st, Hp.ld, Hp.lda, splice, ble_eq', if_true, if_false, ite_true, ite_false, cond_true, cond_false, decide_true, decide_false, List.length_cons, List.length_nil, List.take_zero, List.take_succ_cons, List.nil_append, List.cons_append, List.append_nil, List.drop_succ_cons, List.drop_zero, List.drop_nil, List.getElem?_cons_succ, List.getElem?_cons_zero, Nat.reduceAdd, Nat.reduceLeDiff, Nat.reduceEqDiff, Nat.zero_add, Nat.add_zero, Nat.le_refl, Nat.zero_le, Nat.succ_ne_self, Nat.mul_one, Int.toNat_natCast, Option.some.injEq, Option.isNone_some, Option.isNone_none, V.int.injEq, V.str.injEq, V.bool.injEq, V.ptr.injEq, V.slc.injEq, V.map.injEq, V.agg.injEq, V.tup.injEq, List.cons.injEq, Prod.mk.injEq, onS, true_and, and_true, and_assoc, exists_and_left, exists_eq_left', forall_eq, heq_eq_eq, reduceCtorEq, Bool.not_true, Bool.not_false, eq_self, not_false_eq_true, Nat.left_eq_add, Nat.add_eq_left, Nat.add_left_cancel_iff, Nat.add_right_cancel_iff, Nat.reduceEqDiff, Nat.one_ne_zero, Hp.get_set_self, Hp.get_set_ne, Hp.get_alloc_self, Hp.get_alloc_ne, Hp.get_alloc_at, Hp.get_set_at, Hp.set_next, Hp.alloc_next, Option.some_ne_none, V.tup.injEq, Option.isSome_some, Option.isSome_none, exists_eq_left, exists_eq, Nat.mul_zero, g1], ((mget (S.ms (shard p)) p).getD (0, 0)).1, ((mget (S.ms (shard p)) p).getD (0, 0)).2, _, hlk, ?_⟩
  rintro h4 rfl
  refine ⟨_, Hp.st_of Hp.get_alloc_self (Nat.le_of_ble_eq_true rfl), ?_⟩
  obtain ⟨h5, hh5⟩ : ∃ h5, h5 = (h3.alloc (.row [.int .u64 0, .int .i64 0] 1 false)).set h3.next (.row (splice [.int .u64 0, .int .i64 0] 0 [.int .u64 ((mget (S.ms (shard p)) p).getD (0, 0)).1, .int .i64 ((mget (S.ms (shard p)) p).getD (0, 0)).2]) 1 false) := ⟨_, rfl⟩
  rw [← hh5]
  have q5 : Quiet h3 h5 := by rw [hh5]; exact ⟨fun j hj => by rw [Hp.get_set_ne (by omega), Hp.get_alloc_ne (by omega)], by simp [Hp.alloc_next], q1.wf.alloc.set (Nat.lt_succ_self _)⟩
  clear hh5
  have q := q1.trans q5
  have r5 := r.quiet hw q
  have stop : ∀ c, putF S p s = (c, S) → K (.int .i64 c) h5 := fun c hc => hK _ _ (by rw [hc]; exact ⟨rfl, r5, q.upd F, q.wf⟩)
  by_cases hs0 : s = 0
  · subst hs0
    exact stop 2 (by rw [putF, if_pos rfl])
  have c0 : (s == 0) = false := by rw [beq_eq_false_iff_ne]; exact hs0
  rw [c0]
  cases hl : (mget (S.ms (shard p)) p).isSome with
  | true => exact stop 7 (by rw [putF, if_neg hs0, if_pos (show (look S p).isSome = true from hl)])
  | false =>
  refine ⟨S.conns, r5.ld9, ?_⟩
  cases hc : ltI S.conns 1024 with
  | false =>
    rw [ltI_eq, decide_eq_false_iff_not] at hc
    exact stop 6 (by rw [putF, if_neg hs0, if_neg (by rw [look, hl]; exact Bool.false_ne_true), if_pos hc])
  | true =>
  rw [ltI_eq, decide_eq_true_eq] at hc
  have g5 : h5.get h.next = some (.row [.int .u32 p.a, .int .u16 p.b, .int .u32 p.c, .int .u16 p.d] 1 false) := by rw [q5.same _ (by omega)]; exact g1
  obtain ⟨o', hmo', hput⟩ := hmo.put mtE p ((s, 0) : Int × Int)
  have hmg5 : h5.get m = some o := by rw [q5.same m (by have := hFl m hmF; omega)]; exact hmg
  have hp := hput h5 m hmg5
  refine ⟨p.a, p.b, p.c, p.d, by simp (disch := (first | omega | (simp only [Hp.alloc_next, Hp.set_next] <;> omega) | (simp (disch := (first | omega | (simp only [Hp.alloc_next, Hp.set_next] <;> omega) | fail)) only [Hp.get_set_self, Hp.get_set_ne, Hp.get_alloc_self, Hp.get_alloc_ne, Hp.get_alloc_at, Hp.get_set_at, Hp.set_next, Hp.alloc_next, g5]; done) | fail)) only [Hp.st, Hp.ld, Hp.lda, splice, ble_eq', if_true, if_false, ite_true, ite_false, cond_true, cond_false, decide_true, decide_false, List.length_cons, List.length_nil, List.take_zero, List.take_succ_cons, List.nil_append, List.cons_append, List.append_nil, List.drop_succ_cons, List.drop_zero, List.drop_nil, List.getElem?_cons_succ, List.getElem?_cons_zero, Nat.reduceAdd, Nat.reduceLeDiff, Nat.reduceEqDiff, Nat.zero_add, Nat.add_zero, Nat.le_refl, Nat.zero_le, Nat.succ_ne_self, Nat.mul_one, Int.toNat_natCast, Option.some.injEq, Option.isNone_some, Option.isNone_none, V.int.injEq, V.str.injEq, V.bool.injEq, V.ptr.injEq, V.slc.injEq, V.map.injEq, V.agg.injEq, V.tup.injEq, List.cons.injEq, Prod.mk.injEq, onS, true_and, and_true, and_assoc, exists_and_left, exists_eq_left', forall_eq, heq_eq_eq, reduceCtorEq, Bool.not_true, Bool.not_false, eq_self, not_false_eq_true, Nat.left_eq_add, Nat.add_eq_left, Nat.add_left_cancel_iff, Nat.add_right_cancel_iff, Nat.reduceEqDiff, Nat.one_ne_zero, Hp.get_set_self, Hp.get_set_ne, Hp.get_alloc_self, Hp.get_alloc_ne, Hp.get_alloc_at, Hp.get_set_at, Hp.set_next, Hp.alloc_next, Option.some_ne_none, V.tup.injEq, Option.isSome_some, Option.isSome_none, exists_eq_left, exists_eq, Nat.mul_zero, g5], _, hp, S.conns, ?_⟩
  have hml : m < h5.next := by have := hFl m hmF; have := q.le; omega
  have r6 : TabR t (S.put p (s, 0)) (h5.set m o') F := by
    obtain ⟨m2, o2, hld2, hmg2, hmo2, hmF2, hmt2, hback2⟩ := r5.map hsl
    have : m2 = m := by
      have e1 : h5.ld t (0 + ((shard p : Nat) : Int).toNat * 1) = h3.ld t (0 + ((shard p : Nat) : Int).toNat * 1) := by
        obtain ⟨L, e, oe, h1, h2, _⟩ := r1
        have hlt := hFl t (by obtain ⟨_, _, _, _, _, _, _, _, rfl, _⟩ := r; simp)
        rw [Hp.ld_of h2, Hp.ld_of (by rw [q5.same t (by omega)]; exact h2)]
      rw [hld2, hld] at e1
      simpa using e1
    subst this
    have := hback2 (h5.set m2 o') (mput (S.ms (shard p)) p (s, 0)) o' hmo' Hp.get_set_self (fun j hj hne => Hp.get_set_ne hne)
    refine Eq.mp ?_ this
    congr 1
    unfold TS.put
    congr 1
    funext j
    by_cases e : j = shard p
    · subst e; simp
    · simp [e]
  obtain ⟨h7, hst, r7, u7, w7, s7⟩ := r6.st9 (q.wf.set hml) (IntKind.i64.wrap (S.conns + 1))
  refine ⟨r6.ld9, h7, hst, hK _ _ ?_⟩
  rw [putF, if_neg hs0, if_neg (by rw [look, hl]; exact Bool.false_ne_true), if_neg (by omega)]
  refine ⟨rfl, r7, ⟨fun j hj hjF => ?_, fun j hj => .inl hj, ?_⟩, w7⟩
  · rw [s7 j hjF, Hp.get_set_ne (fun e => hjF (by rw [e]; exact hmF)), q.same j hj]
  · have h8 : h5.next ≤ h7.next := u7.le
    have := q.le; omega
end
end Go.Vex.Tbl
