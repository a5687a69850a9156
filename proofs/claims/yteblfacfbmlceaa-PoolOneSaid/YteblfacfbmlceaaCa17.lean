/-
  Contracts of a pool of buffers (layer 17).
-/
import Derived.Test.YteblfacfbmlceaaVexAA
import Derived.Test.YteblfacfbmlceaaTab17
import Derived.Test.YteblfacfbmlceaaXa17
set_option linter.unusedVariables false
set_option linter.unusedSimpArgs false
namespace Go.Vex
open Go.Proofs

structure Buf where
  id : Int
  who : List UInt8
  text : List UInt8
  o : Nat

def Buf.row (x : Buf) : O := .row [.int .u64 x.id, .str x.who, .str x.text] 1 false

def poolRow (most last : Int) (m : Nat) : O := .row [.int .i64 most, .int .u64 last, .map (some m)] 1 false

def kI : Int → V := fun n => .int .u64 n
def vP : Nat → V := fun o => .ptr (some (o, 0))

def PoolR (p : Nat) (most last : Int) (L : List Buf) (h : Hp) (F : List Nat) : Prop :=
  ∃ m, h.get p = some (poolRow most last m) ∧ MapIs kI vP (L.map fun x => (x.id, x.o)) m h [m] ∧ (∀ x ∈ L, h.get x.o = some x.row) ∧ F = p :: m :: L.map Buf.o ∧ F.Nodup

theorem PoolR.rep (p : Nat) (most last : Int) (L : List Buf) : Rep (PoolR p most last L) where
  loc := fun h h' F hs ⟨m, h1, h2, h3, h4, h5⟩ => by
    subst h4
    exact ⟨m, by rw [hs p (by simp)]; exact h1, (MapIs.rep _ _ _ m).loc h h' _ (fun j hj => hs j (by simp at hj; simp [hj])) h2, fun x hx => by rw [hs x.o (by simp; exact .inr (.inr ⟨x, hx, rfl⟩))]; exact h3 x hx, rfl, h5⟩
  dom := fun h F ⟨m, h1, h2, h3, h4, h5⟩ j hj => by
    subst h4
    rcases List.mem_cons.1 hj with rfl | hj
    · exact ⟨_, h1, rfl⟩
    · rcases List.mem_cons.1 hj with rfl | hj
      · exact (MapIs.rep _ _ _ _).dom h _ h2 _ (by simp)
      · obtain ⟨x, hx, rfl⟩ := List.mem_map.1 hj
        exact ⟨_, h3 x hx, rfl⟩

theorem t58 : ∃ ti, T 58 = some ti ∧ ti.d = .map 28 61 := ⟨_, rfl, rfl⟩
theorem t61 : ∃ ei, T 61 = some ei ∧ ei.zero = some (.ptr none) := ⟨_, rfl, rfl⟩
theorem kI28 : KL T 28 kI := KL.int (ti := (T 28).get rfl) rfl rfl

def bfind (L : List Buf) (id : Int) : Option Buf := L.find? fun x => decide (id = x.id)

theorem mget_buf (L : List Buf) (id : Int) : mget (L.map fun x => (x.id, x.o)) id = (bfind L id).map Buf.o := by
  unfold mget bfind
  rw [List.find?_map, Option.map_map]
  rfl

theorem bfind_mem {L : List Buf} {id : Int} {x : Buf} (h : bfind L id = some x) : x ∈ L ∧ id = x.id := by
  unfold bfind at h
  exact ⟨List.mem_of_find?_eq_some h, by simpa using List.find?_some h⟩

/-- the parts of a pool at hand -/
theorem PoolR.look {p : Nat} {most last : Int} {L : List Buf} {h : Hp} {F : List Nat} {m : Nat} (h2 : MapIs kI vP (L.map fun x => (x.id, x.o)) m h [m]) (id : Int) :
    xlook T h 58 (.map (some m)) (.int .u64 id) false = some (.ptr ((bfind L id).map fun x => (x.o, 0))) := by
  obtain ⟨ti, ht, hd⟩ := t58
  obtain ⟨ei, he, hz⟩ := t61
  have := h2.look kI28 ht hd he hz id false
  rw [mget_buf] at this
  rw [show V.int .u64 id = kI id from rfl, this]
  cases bfind L id <;> rfl

theorem new_spec {h : Hp} {most : Int} (hm : 1 ≤ most ∧ most ≤ 4096) :
    XCalls Try.prog 8 [.int .i64 most] h fun v h' => v = .tup [.ptr (some (h.next + 1, 0)), .int .i64 0] ∧ PoolR (h.next + 1) most 0 [] h' [h.next + 1, h.next] ∧ Upd h h' [] [h.next + 1, h.next] := by
  apply x8
  unfold X8
  have c1 : ltI most 1 = false := by rw [ltI_eq, decide_eq_false_iff_not]; omega
  have c2 : ltI 4096 most = false := by rw [ltI_eq, decide_eq_false_iff_not]; omega
  simp only [c1, c2, cond_false]
  rintro h1 rfl h2 rfl
  refine ⟨rfl, ⟨h.next, by simp only [Hp.st, Hp.ld, Hp.lda, Hp.get_set, Hp.get_alloc, Hp.get_kill, Hp.next_alloc, Hp.next_set, Hp.next_kill, splice, ble_eq', if_true, if_false, ite_true, ite_false, cond_true, cond_false, decide_true, decide_false, List.length_cons, List.length_nil, List.take_zero, List.take_succ_cons, List.nil_append, List.cons_append, List.append_nil, List.drop_succ_cons, List.drop_zero, List.drop_nil, List.getElem?_cons_succ, List.getElem?_cons_zero, Nat.reduceAdd, Nat.reduceLeDiff, Nat.reduceEqDiff, Nat.zero_add, Nat.add_zero, Nat.le_refl, Nat.zero_le, Nat.succ_ne_self, Nat.mul_one, Int.toNat_natCast, Option.some.injEq, Option.isNone_some, Option.isNone_none, V.int.injEq, V.str.injEq, V.bool.injEq, V.ptr.injEq, V.slc.injEq, V.map.injEq, V.agg.injEq, V.tup.injEq, List.cons.injEq, Prod.mk.injEq, onS, true_and, and_true, and_assoc, exists_and_left, exists_eq_left', forall_eq, heq_eq_eq, reduceCtorEq, Bool.not_true, Bool.not_false, eq_self, not_false_eq_true, Nat.left_eq_add, Nat.add_eq_left, Nat.add_left_cancel_iff, Nat.add_right_cancel_iff, Nat.reduceEqDiff, Nat.one_ne_zero]; rfl, ?_, by simp, rfl, by simp⟩, fun j hj _ => ?_, fun j hj => ?_, by simp only [Hp.st, Hp.ld, Hp.lda, Hp.get_set, Hp.get_alloc, Hp.get_kill, Hp.next_alloc, Hp.next_set, Hp.next_kill, splice, ble_eq', if_true, if_false, ite_true, ite_false, cond_true, cond_false, decide_true, decide_false, List.length_cons, List.length_nil, List.take_zero, List.take_succ_cons, List.nil_append, List.cons_append, List.append_nil, List.drop_succ_cons, List.drop_zero, List.drop_nil, List.getElem?_cons_succ, List.getElem?_cons_zero, Nat.reduceAdd, Nat.reduceLeDiff, Nat.reduceEqDiff, Nat.zero_add, Nat.add_zero, Nat.le_refl, Nat.zero_le, Nat.succ_ne_self, Nat.mul_one, Int.toNat_natCast, Option.some.injEq, Option.isNone_some, Option.isNone_none, V.int.injEq, V.str.injEq, V.bool.injEq, V.ptr.injEq, V.slc.injEq, V.map.injEq, V.agg.injEq, V.tup.injEq, List.cons.injEq, Prod.mk.injEq, onS, true_and, and_true, and_assoc, exists_and_left, exists_eq_left', forall_eq, heq_eq_eq, reduceCtorEq, Bool.not_true, Bool.not_false, eq_self, not_false_eq_true, Nat.left_eq_add, Nat.add_eq_left, Nat.add_left_cancel_iff, Nat.add_right_cancel_iff, Nat.reduceEqDiff, Nat.one_ne_zero]; omega⟩
  · exact (MapIs.rep _ _ _ _).loc _ _ _ (fun j hj => by rw [List.mem_singleton] at hj; subst hj; simp only [Hp.st, Hp.ld, Hp.lda, Hp.get_set, Hp.get_alloc, Hp.get_kill, Hp.next_alloc, Hp.next_set, Hp.next_kill, splice, ble_eq', if_true, if_false, ite_true, ite_false, cond_true, cond_false, decide_true, decide_false, List.length_cons, List.length_nil, List.take_zero, List.take_succ_cons, List.nil_append, List.cons_append, List.append_nil, List.drop_succ_cons, List.drop_zero, List.drop_nil, List.getElem?_cons_succ, List.getElem?_cons_zero, Nat.reduceAdd, Nat.reduceLeDiff, Nat.reduceEqDiff, Nat.zero_add, Nat.add_zero, Nat.le_refl, Nat.zero_le, Nat.succ_ne_self, Nat.mul_one, Int.toNat_natCast, Option.some.injEq, Option.isNone_some, Option.isNone_none, V.int.injEq, V.str.injEq, V.bool.injEq, V.ptr.injEq, V.slc.injEq, V.map.injEq, V.agg.injEq, V.tup.injEq, List.cons.injEq, Prod.mk.injEq, onS, true_and, and_true, and_assoc, exists_and_left, exists_eq_left', forall_eq, heq_eq_eq, reduceCtorEq, Bool.not_true, Bool.not_false, eq_self, not_false_eq_true, Nat.left_eq_add, Nat.add_eq_left, Nat.add_left_cancel_iff, Nat.add_right_cancel_iff, Nat.reduceEqDiff, Nat.one_ne_zero]) (MapIs.nil kI vP h)
  · simp only [Hp.st, Hp.ld, Hp.lda, Hp.get_set, Hp.get_alloc, Hp.get_kill, Hp.next_alloc, Hp.next_set, Hp.next_kill, splice, ble_eq', if_true, if_false, ite_true, ite_false, cond_true, cond_false, decide_true, decide_false, List.length_cons, List.length_nil, List.take_zero, List.take_succ_cons, List.nil_append, List.cons_append, List.append_nil, List.drop_succ_cons, List.drop_zero, List.drop_nil, List.getElem?_cons_succ, List.getElem?_cons_zero, Nat.reduceAdd, Nat.reduceLeDiff, Nat.reduceEqDiff, Nat.zero_add, Nat.add_zero, Nat.le_refl, Nat.zero_le, Nat.succ_ne_self, Nat.mul_one, Int.toNat_natCast, Option.some.injEq, Option.isNone_some, Option.isNone_none, V.int.injEq, V.str.injEq, V.bool.injEq, V.ptr.injEq, V.slc.injEq, V.map.injEq, V.agg.injEq, V.tup.injEq, List.cons.injEq, Prod.mk.injEq, onS, true_and, and_true, and_assoc, exists_and_left, exists_eq_left', forall_eq, heq_eq_eq, reduceCtorEq, Bool.not_true, Bool.not_false, eq_self, not_false_eq_true, Nat.left_eq_add, Nat.add_eq_left, Nat.add_left_cancel_iff, Nat.add_right_cancel_iff, Nat.reduceEqDiff, Nat.one_ne_zero, show j ≠ h.next by omega, show j ≠ h.next + 1 by omega]
  · simp at hj; exact .inr (by omega)

/-- what 'of' says -/
def ofCode (L : List Buf) (id : Int) (who : List UInt8) : Int :=
  match bfind L id with
  | none => 5
  | some x => if x.who = who then 0 else 3

theorem of_spec {h : Hp} {F : List Nat} {p : Nat} {most last id : Int} {who : List UInt8} {L : List Buf} (r : PoolR p most last L h F) :
    XCalls Try.prog 21 [.ptr (some (p, 0)), .int .u64 id, .str who] h fun v h' => h' = h ∧ ∃ a, v = .tup [.ptr a, .int .i64 (ofCode L id who)] ∧
      (ofCode L id who = 0 → ∃ x, bfind L id = some x ∧ a = some (x.o, 0)) := by
  obtain ⟨m, h1, h2, h3, rfl, h5⟩ := r
  apply x21
  unfold X21
  refine ⟨some m, by rw [Hp.ld_of h1]; rfl, ?_⟩
  simp only [Option.isNone_some, cond_false]
  refine ⟨some m, by rw [Hp.ld_of h1]; rfl, _, PoolR.look (p := p) (most := most) (last := last) (F := []) h2 id, ?_⟩
  unfold ofCode
  cases hb : bfind L id with
  | none => exact ⟨trivial, _, rfl, fun h => by cases h⟩
  | some x =>
    obtain ⟨hx, rfl⟩ := bfind_mem hb
    simp only [Option.map_some, Option.isNone_some, cond_false]
    refine ⟨x.who, by rw [Hp.ld_of (h3 x hx)]; rfl, ?_⟩
    by_cases hw : x.who = who
    · have : (x.who == who) = true := by simp [hw]
      simp only [this, Bool.not_true, cond_false, if_pos hw]
      exact ⟨trivial, _, rfl, fun _ => ⟨x, rfl, rfl⟩⟩
    · have : (x.who == who) = false := by simp [hw]
      simp only [this, Bool.not_false, cond_true, if_neg hw]
      exact ⟨trivial, _, rfl, fun h => by cases h⟩

theorem free_spec {h : Hp} {F : List Nat} {p : Nat} {most last : Int} {L : List Buf} (r : PoolR p most last L h F) (hm : 0 ≤ most ∧ most ≤ 4096 ∧ (L.length : Int) ≤ most) :
    XCalls Try.prog 13 [.ptr (some (p, 0))] h fun v h' => v = .int .i64 (most - L.length) ∧ h' = h := by
  obtain ⟨m, h1, h2, h3, rfl, h5⟩ := r
  obtain ⟨ti, ht, hd⟩ := t58
  apply x13
  unfold X13
  refine ⟨most, by rw [Hp.ld_of h1]; rfl, some m, by rw [Hp.ld_of h1]; rfl, _, h2.len ht hd, ?_⟩
  rw [List.length_map, wrap_of (by simp [IntKind.min, IntKind.max, IntKind.signed, IntKind.bits]; omega)]
  exact ⟨rfl, rfl⟩

theorem nodup_inj {α γ : Type} {f : α → γ} : ∀ {l : List α}, (l.map f).Nodup → ∀ {x y : α}, x ∈ l → y ∈ l → f x = f y → x = y
  | [], _, _, _, h, _, _ => by cases h
  | z :: l, hn, x, y, hx, hy, e => by
    rw [List.map_cons, List.nodup_cons] at hn
    rcases List.mem_cons.1 hx with hx' | hx'
    · rcases List.mem_cons.1 hy with hy' | hy'
      · rw [hx', hy']
      · subst hx'
        exact absurd (by rw [e]; exact List.mem_map_of_mem hy') hn.1
    · rcases List.mem_cons.1 hy with hy' | hy'
      · subst hy'
        exact absurd (by rw [← e]; exact List.mem_map_of_mem hx') hn.1
      · exact nodup_inj hn.2 hx' hy' e

/-- the buffer of a number turned -/
def bset (L : List Buf) (id : Int) (f : Buf → Buf) : List Buf := L.map fun x => if x.id = id then f x else x

theorem bset_ids (L : List Buf) (id : Int) (f : Buf → Buf) (hf : ∀ x, (f x).id = x.id ∧ (f x).o = x.o) : (bset L id f).map (fun x => (x.id, x.o)) = L.map fun x => (x.id, x.o) := by
  unfold bset
  rw [List.map_map]
  apply List.map_congr_left
  intro x _
  simp only [Function.comp]
  split
  · rw [(hf x).1, (hf x).2]
  · rfl

/-- one buffer's row is written -/
theorem PoolR.setBuf {h : Hp} {F : List Nat} {p : Nat} {most last : Int} {L : List Buf} (r : PoolR p most last L h F) (hid : (L.map Buf.id).Nodup) {x : Buf} (hx : x ∈ L) (f : Buf → Buf) (hf : ∀ x, (f x).id = x.id ∧ (f x).o = x.o) :
    PoolR p most last (bset L x.id f) (h.set x.o (f x).row) F ∧ Upd h (h.set x.o (f x).row) F F := by
  obtain ⟨m, h1, h2, h3, rfl, h5⟩ := r
  have hxo : x.o ∈ L.map Buf.o := List.mem_map_of_mem hx
  have hpm : p ≠ x.o := fun e => by rw [List.nodup_cons] at h5; exact h5.1 (by rw [e]; simp only [List.mem_cons]; exact .inr hxo)
  have hmm : m ≠ x.o := fun e => by rw [List.nodup_cons, List.nodup_cons] at h5; exact h5.2.1 (by rw [e]; exact hxo)
  have hnd : (L.map Buf.o).Nodup := by rw [List.nodup_cons, List.nodup_cons] at h5; exact h5.2.2
  have hos : (bset L x.id f).map Buf.o = L.map Buf.o := by
    have := congrArg (List.map Prod.snd) (bset_ids L x.id f hf)
    rw [List.map_map, List.map_map] at this
    exact this
  refine ⟨⟨m, by rw [Hp.get_set_ne hpm]; exact h1, ?_, ?_, by rw [hos], h5⟩, fun j hj hF => Hp.get_set_ne fun e => hF (by rw [e]; simp only [List.mem_cons]; exact .inr (.inr hxo)), fun j hj => .inl hj, Nat.le_refl _⟩
  · rw [bset_ids L x.id f hf]
    exact (MapIs.rep _ _ _ _).loc _ _ _ (fun j hj => by rw [List.mem_singleton] at hj; subst hj; exact Hp.get_set_ne hmm) h2
  · intro y hy
    unfold bset at hy
    obtain ⟨z, hz, rfl⟩ := List.mem_map.1 hy
    by_cases e : z.id = x.id
    · have : z = x := by
        exact nodup_inj hid hz hx e
      subst this
      simp only [if_true, (hf z).2]
      exact Hp.get_set_self
    · simp only [if_neg e]
      rw [Hp.get_set_ne]
      · exact h3 z hz
      · intro eo
        exact e (by rw [nodup_inj hnd hz hx eo])

theorem mput_new {κ β : Type} [DecidableEq κ] : ∀ (l : List (κ × β)) (k : κ) (v : β), (∀ x ∈ l, x.1 ≠ k) → mput l k v = l ++ [(k, v)]
  | [], _, _, _ => rfl
  | x :: l, k, v, h => by
    simp only [mput]
    rw [if_neg (fun e => h x (by simp) e.symm), mput_new l k v fun y hy => h y (by simp [hy])]
    rfl

/-- what Take says -/
def takeCode (most : Int) (n : Nat) (who text : List UInt8) : Int :=
  if who = [] then 2 else if 65549 < text.length then 4 else if most ≤ n then 6 else 0

theorem take_spec {h : Hp} {F : List Nat} {p : Nat} {most last : Int} {who text : List UInt8} {L : List Buf} (hw : h.wf) (r : PoolR p most last L h F) (hl : ∀ x ∈ L, 1 ≤ x.id ∧ x.id ≤ last) (hb : 0 ≤ last ∧ last + 1 < 2 ^ 64) :
    XCalls Try.prog 10 [.ptr (some (p, 0)), .str who, .str text] h fun v h' => ∃ F', Upd h h' F F' ∧
      if takeCode most L.length who text = 0 then v = .tup [.int .u64 (last + 1), .int .i64 0] ∧ ∃ o, PoolR p most (last + 1) (L ++ [⟨last + 1, who, text, o⟩]) h' F'
      else v = .tup [.int .u64 0, .int .i64 (takeCode most L.length who text)] ∧ PoolR p most last L h' F' := by
  have r0 := r
  obtain ⟨m, h1, h2, h3, rfl, h5⟩ := r
  obtain ⟨ti, ht, hd⟩ := t58
  have hlen := h2.len ht hd
  rw [List.length_map] at hlen
  have hpF : p ∉ m :: L.map Buf.o := (List.nodup_cons.1 h5).1
  have hpm : p ≠ m := fun e => hpF (by simp [e])
  refine XCalls.cps fun K hK => ?_
  apply x10
  unfold X10
  have quiet : ∀ e : Int, takeCode most L.length who text = e → e ≠ 0 → K (.tup [.int .u64 0, .int .i64 e]) h := fun e he h0 => by
    refine hK _ _ ⟨_, Upd.refl h _, ?_⟩
    rw [if_neg (by rw [he]; exact h0), he]
    exact ⟨rfl, r0⟩
  refine ⟨some m, by rw [Hp.ld_of h1]; rfl, ?_⟩
  simp only [Option.isNone_some, cond_false]
  by_cases c1 : who = []
  · have : (who == []) = true := by simp [c1]
    simp only [this, cond_true]
    exact quiet 2 (by simp [takeCode, c1]) (by omega)
  have e1 : (who == []) = false := by simp [c1]
  simp only [e1, cond_false]
  by_cases c2 : 65549 < text.length
  · have : ltI 65549 (↑text.length) = true := by rw [ltI_eq, decide_eq_true_eq]; omega
    simp only [this, cond_true]
    exact quiet 4 (by simp [takeCode, c1, c2]) (by omega)
  have e2 : ltI 65549 (↑text.length) = false := by rw [ltI_eq, decide_eq_false_iff_not]; omega
  simp only [e2, cond_false]
  refine ⟨some m, by rw [Hp.ld_of h1]; rfl, _, hlen, most, by rw [Hp.ld_of h1]; rfl, ?_⟩
  by_cases c3 : most ≤ L.length
  · have : ltI (↑L.length) most = false := by rw [ltI_eq, decide_eq_false_iff_not]; omega
    simp only [this, Bool.not_false, cond_true]
    exact quiet 6 (by simp [takeCode, c1, c2, c3]) (by omega)
  have e3 : ltI (↑L.length) most = true := by rw [ltI_eq, decide_eq_true_eq]; omega
  simp only [e3, Bool.not_true, cond_false]
  have hwr : IntKind.u64.wrap (last + 1) = last + 1 := wrap_of (by simp [IntKind.min, IntKind.max, IntKind.signed, IntKind.bits]; omega)
  refine ⟨last, by rw [Hp.ld_of h1]; rfl, _, Hp.st_of h1 (Nat.le_of_ble_eq_true rfl), ?_⟩
  generalize hg1 : h.set p (.row (splice [.int .i64 most, .int .u64 last, .map (some m)] 1 [.int .u64 (IntKind.u64.wrap (last + 1))]) 1 false) = g1
  have hp1 : g1.get p = some (poolRow most (last + 1) m) := by rw [← hg1, hwr]; exact Hp.get_set_self
  have hs1 : ∀ j, j ≠ p → g1.get j = h.get j := fun j hj => by rw [← hg1]; exact Hp.get_set_ne hj
  have hn1 : g1.next = h.next := by rw [← hg1]; rfl
  have hw1 : g1.wf := by rw [← hg1]; exact hw.set (hw.lt h1)
  clear hg1
  refine ⟨some m, by rw [Hp.ld_of hp1]; rfl, last + 1, by rw [Hp.ld_of hp1]; rfl, last + 1, by rw [Hp.ld_of hp1]; rfl, ?_⟩
  rintro g2 rfl
  have hp2 := hw1.get_alloc (o := .row [.int .u64 (last + 1), .str who, .str text] 1 false) hp1
  refine ⟨⟨last + 1, by rw [Hp.ld_of hp2]; rfl, rfl⟩, (by trivial), (by trivial), (by trivial), ⟨some m, by rw [Hp.ld_of hp2]; rfl, rfl⟩, (by trivial), (by trivial), (by trivial), ?_⟩
  have hmlt : m < h.next := (PoolR.rep p most last L).lt hw r0 (by simp)
  have hplt : p < h.next := hw.lt h1
  have h2' : MapIs kI vP (L.map fun x => (x.id, x.o)) m (g1.alloc (.row [.int .u64 (last + 1), .str who, .str text] 1 false)) [m] :=
    (MapIs.rep _ _ _ _).loc _ _ _ (fun j hj => by
      rw [List.mem_singleton] at hj; subst hj
      rw [Hp.get_alloc_ne (by omega), hs1 _ hpm.symm]) h2
  obtain ⟨g3, hx3, hm3, hs3, hn3⟩ := h2'.put kI28 ht hd (last + 1) g1.next
  refine ⟨g3, hx3, ?_⟩
  have hp3 : g3.get p = some (poolRow most (last + 1) m) := by rw [hs3 p hpm]; exact hp2
  refine ⟨last + 1, by rw [Hp.ld_of hp3]; rfl, ?_⟩
  have holt : ∀ x ∈ L, x.o < h.next := fun x hx => hw.lt (h3 x hx)
  refine hK _ _ ⟨p :: m :: (L.map Buf.o ++ [g1.next]), ⟨fun j hj hF => ?_, fun j hj => ?_, ?_⟩, ?_⟩
  · have g1' : j ≠ p := fun e => hF (by simp [e])
    have g2' : j ≠ m := fun e => hF (by simp [e])
    rw [hs3 j g2', Hp.get_alloc_ne (by omega), hs1 j g1']
  · simp only [List.mem_cons, List.mem_append, List.mem_singleton] at hj ⊢
    rcases hj with hj | hj | hj | hj
    · exact .inl (.inl hj)
    · exact .inl (.inr (.inl hj))
    · exact .inl (.inr (.inr hj))
    · rcases hj with hj | hj
      · exact .inr (by omega)
      · cases hj
  · rw [hn3]; simp; omega
  · have hc : takeCode most L.length who text = 0 := by simp [takeCode, c1, c2, c3]
    rw [if_pos hc]
    refine ⟨rfl, g1.next, m, hp3, ?_, ?_, by simp, ?_⟩
    · rw [List.map_append]
      rw [mput_new] at hm3
      · exact hm3
      · intro x hx
        obtain ⟨y, hy, rfl⟩ := List.mem_map.1 hx
        have := hl y hy
        simp only; omega
    · intro x hx
      rcases List.mem_append.1 hx with hx | hx
      · have hxm : x.o ≠ m := fun e => by
          have h6 := (List.nodup_cons.1 (List.nodup_cons.1 h5).2).1
          exact h6 (by rw [← e]; exact List.mem_map_of_mem hx)
        have hxp : x.o ≠ p := fun e => hpF (by rw [← e]; simp only [List.mem_cons]; exact .inr (List.mem_map_of_mem hx))
        have := holt x hx
        rw [hs3 _ hxm, Hp.get_alloc_ne (by omega), hs1 _ hxp]
        exact h3 x hx
      · rw [List.mem_singleton] at hx
        subst hx
        rw [hs3 _ (by simp only; omega)]
        exact Hp.get_alloc_self
    · have : ∀ j ∈ p :: m :: L.map Buf.o, j < h.next := fun j hj => (PoolR.rep p most last L).lt hw r0 hj
      rw [show p :: m :: (L.map Buf.o ++ [g1.next]) = (p :: m :: L.map Buf.o) ++ [g1.next] by simp]
      rw [List.nodup_append]
      refine ⟨h5, by simp, ?_⟩
      intro a ha b hb
      rw [List.mem_singleton] at hb
      have := this a ha
      omega

theorem bfind_self {L : List Buf} (hid : (L.map Buf.id).Nodup) {x : Buf} (hx : x ∈ L) : bfind L x.id = some x := by
  cases hb : bfind L x.id with
  | none =>
    unfold bfind at hb
    exact absurd (List.find?_eq_none.1 hb x hx) (by simp)
  | some y =>
    obtain ⟨hy, e⟩ := bfind_mem hb
    rw [nodup_inj hid hy hx e.symm]

def Buf.give (to : List UInt8) (x : Buf) : Buf := { x with who := to }
def Buf.write (t : List UInt8) (x : Buf) : Buf := { x with text := t }

/-- Move -/
theorem move_spec {h : Hp} {F : List Nat} {p : Nat} {most last id : Int} {who to : List UInt8} {L : List Buf} (r : PoolR p most last L h F) (hid : (L.map Buf.id).Nodup) :
    XCalls Try.prog 11 [.ptr (some (p, 0)), .int .u64 id, .str who, .str to] h fun v h' => Upd h h' F F ∧ v = .int .i64 (if to = [] then 2 else ofCode L id who) ∧
      PoolR p most last (if to ≠ [] ∧ ofCode L id who = 0 then bset L id (Buf.give to) else L) h' F := by
  have r0 := r
  obtain ⟨m, h1, h2, h3, e, h5⟩ := r
  apply x11
  unfold X11
  refine ⟨some m, by rw [Hp.ld_of h1]; rfl, ?_⟩
  simp only [Option.isNone_some, Bool.not_false, cond_true]
  by_cases c : to = []
  · have : (to == []) = true := by simp [c]
    simp only [this, cond_true, if_pos c]
    exact ⟨Upd.refl h F, (by trivial), by simpa [c] using r0⟩
  · have : (to == []) = false := by simp [c]
    simp only [this, cond_false, if_neg c]
    refine (of_spec r0).mono ?_
    rintro _ h1' ⟨rfl, a, rfl, ho⟩
    refine ⟨a, _, rfl, ?_⟩
    by_cases hz : ofCode L id who = 0
    · obtain ⟨x, hx, rfl⟩ := ho hz
      obtain ⟨hxm, rfl⟩ := bfind_mem hx
      have hzb : (ofCode L x.id who == 0) = true := by simp [hz]
      simp only [hzb, cond_true, onS]
      obtain ⟨hr, u⟩ := r0.setBuf hid hxm (Buf.give to) (fun _ => ⟨rfl, rfl⟩)
      refine ⟨_, Hp.st_of (h3 x hxm) (Nat.le_of_ble_eq_true rfl), u, (by trivial), ?_⟩
      rw [if_pos ⟨c, hz⟩]
      exact hr
    · have hzb : (ofCode L id who == 0) = false := by simp [hz]
      simp only [hzb, cond_false]
      refine ⟨Upd.refl _ F, (by trivial), ?_⟩
      rw [if_neg (fun h => hz h.2)]
      exact r0
end Go.Vex
