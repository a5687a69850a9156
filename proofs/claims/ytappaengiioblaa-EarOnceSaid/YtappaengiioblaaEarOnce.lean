/-
  EarOnce of layer 28: however many, whatever the script, the law returns true and leaves the input as it was. No condition.
-/
import Derived.Test.YtappaengiioblaaVexFF
import Derived.Test.YtappaengiioblaaTab28
import Derived.Test.YtappaengiioblaaXe28
import Derived.Test.YtappaengiioblaaCe28
import Derived.Test.YtappaengiioblaaRows
import Derived.WalkKit
import Derived.ProofKit
import Derived.OpenShut
import Derived.KernelRfl
set_option linter.unusedVariables false
set_option linter.unusedSimpArgs false
namespace Go.Vex.EarOnce
open Go.Proofs Go.Vex.Ear

set_option maxRecDepth 100000 in
theorem works_ev : (ev Vex.T Vex.F (fun _ => []) 100000).call 9 [] h0 isT = true := by kernel_rfl

theorem works_spec {h : Hp} {K : V → Hp → Prop} (hk : ∀ h', K (.bool true) h') : XCalls Try.prog 9 [] h K :=
  (XCalls.fresh (K := fun v => v = .bool true) rfl (fun v hv => by subst hv; rfl) (XCalls.ev tok fok mixed (fun _ => []) 100000 works_ev fun _ _ hv => isT_spec hv)).mono fun v h' hv => by rw [hv.1]; exact hk h'

def stepZ : List V := [.bool false, .bool false, .bool false, .int .u8 0, .int .u64 0]

theorem step_form {r : List V} (h : shpBs stepZ r = true) : ∃ a b c p w, r = [.bool a, .bool b, .bool c, .int .u8 p, .int .u64 w] :=
  allSs_spec stepZ r (k := fun r => ∃ a b c p w, r = [.bool a, .bool b, .bool c, .int .u8 p, .int .u64 w]) (fun a b c p w => ⟨a, b, c, p, w, rfl⟩) h

/-! ### lists -/

section
variable {κ β : Type} [DecidableEq κ]

theorem mget_cons (x : κ × β) (l : List (κ × β)) (k : κ) : mget (x :: l) k = if k = x.1 then some x.2 else mget l k := by
  unfold mget
  by_cases h : k = x.1 <;> simp [h]

theorem mget_mput : ∀ (l : List (κ × β)) (k : κ) (v : β) (k' : κ), mget (mput l k v) k' = if k' = k then some v else mget l k'
  | [], k, v, k' => by simp only [mput, mget_cons]
  | x :: l, k, v, k' => by
    simp only [mput]
    by_cases h : k = x.1
    · rw [if_pos h, mget_cons, mget_cons]
      by_cases h2 : k' = x.1
      · simp [h2, h]
      · have : k' ≠ k := by rw [h]; exact h2
        simp [h2, this]
    · rw [if_neg h, mget_cons, mget_cons, mget_mput l k v k']
      by_cases h2 : k' = x.1
      · have : k' ≠ k := fun e => h (e ▸ h2)
        simp [h2, this, Ne.symm h]
      · simp [h2]

theorem mput_none : ∀ (l : List (κ × β)) (k : κ) (v : β), mget l k = none → mput l k v = l ++ [(k, v)]
  | [], k, v, _ => rfl
  | x :: l, k, v, h => by
    rw [mget_cons] at h
    by_cases e : k = x.1
    · simp [e] at h
    · simp only [e, if_false] at h
      simp only [mput, if_neg e, mput_none l k v h, List.cons_append]

theorem mput_some : ∀ (l : List (κ × β)) (k : κ) (v : β), mget l k ≠ none → (mput l k v).map Prod.fst = l.map Prod.fst
  | [], k, v, h => absurd rfl h
  | x :: l, k, v, h => by
    rw [mget_cons] at h
    by_cases e : k = x.1
    · simp [mput, e]
    · simp only [e, if_false] at h
      simp only [mput, if_neg e, List.map_cons, mput_some l k v h]

theorem mget_mem : ∀ (l : List (κ × β)) (k : κ), mget l k ≠ none ↔ k ∈ l.map Prod.fst
  | [], k => by simp [mget]
  | x :: l, k => by
    rw [mget_cons, List.map_cons, List.mem_cons, ← mget_mem l k]
    by_cases e : k = x.1 <;> simp [e]

theorem mdel_sub : ∀ (l : List (κ × β)) (k : κ), List.Sublist (mdel l k) l
  | [], k => .slnil
  | x :: l, k => by
    simp only [mdel]
    split
    · exact List.sublist_cons_self x l
    · exact (mdel_sub l k).cons_cons x

theorem mget_mdel : ∀ (l : List (κ × β)) (k k' : κ), k' ≠ k → mget (mdel l k) k' = mget l k'
  | [], k, k', _ => rfl
  | x :: l, k, k', h => by
    simp only [mdel]
    by_cases e : k = x.1
    · rw [if_pos e, mget_cons, if_neg (by rw [← e]; exact h)]
    · rw [if_neg e, mget_cons, mget_cons, mget_mdel l k k' h]

theorem mdel_len : ∀ (l : List (κ × β)) (k : κ), mget l k ≠ none → (mdel l k).length + 1 = l.length
  | [], k, h => absurd rfl h
  | x :: l, k, h => by
    rw [mget_cons] at h
    simp only [mdel]
    by_cases e : k = x.1
    · rw [if_pos e]; rfl
    · simp only [e, if_false] at h
      rw [if_neg e, List.length_cons, List.length_cons, mdel_len l k h]
end

theorem filter_len {D : List Int} (h : D.Nodup) (s : Int) : (s ∈ D → (D.filter fun x => decide (x ≠ s)).length + 1 = D.length) ∧ (s ∉ D → D.filter (fun x => decide (x ≠ s)) = D) := by
  have e : D.filter (fun x => decide (x ≠ s)) = D.erase s := by
    rw [h.erase_eq_filter]; apply List.filter_congr; intro x _; rw [Bool.eq_iff_iff]; simp
  constructor
  · intro hs
    rw [e, List.length_erase_of_mem hs]
    have := List.length_pos_of_mem hs
    omega
  · intro hs
    rw [e, List.erase_of_not_mem hs]

/-! ### what holds -/

structure Inv (bk : Int) (A : List (Int × Ch)) (D : List Int) : Prop where
  nA : (A.map Prod.fst).Nodup
  nD : D.Nodup
  sub : ∀ x ∈ D, ∃ p, mget A x = some (p, true)
  op : (A.length : Int) - D.length ≤ bk
  dn : (D.length : Int) ≤ bk

section
variable {bk s : Int} {A : List (Int × Ch)} {D : List Int} {p : Pr}

theorem Inv.le (i : Inv bk A D) : D.length ≤ A.length := by
  have := i.nD.length_le_of_subset (l₂ := A.map Prod.fst) fun x hx => by
    obtain ⟨p, hp⟩ := i.sub x hx
    exact (mget_mem A x).1 (by rw [hp]; simp)
  simpa using this

theorem Inv.done (i : Inv bk A D) (hg : mget A s = some (p, false)) (hl : (D.length : Int) < bk) : Inv bk (mput A s (p, true)) (D ++ [s]) := by
  have hk := mput_some A s (p, true) (by rw [hg]; simp)
  have hlen : (mput A s (p, true)).length = A.length := by have := congrArg List.length hk; simpa using this
  have hs : s ∉ D := fun h => by
    obtain ⟨p', hp⟩ := i.sub s h
    rw [hg] at hp; cases hp
  refine ⟨by rw [hk]; exact i.nA, ?_, fun x hx => ?_, ?_, ?_⟩
  · rw [List.nodup_append]
    exact ⟨i.nD, by simp, fun a ha b hb => by rw [List.mem_singleton] at hb; subst hb; exact fun e => hs (e ▸ ha)⟩
  · rw [mget_mput]
    by_cases e : x = s
    · exact ⟨p, by rw [if_pos e]⟩
    · rw [if_neg e]
      rcases List.mem_append.1 hx with hx | hx
      · exact i.sub x hx
      · exact absurd (List.mem_singleton.1 hx) e
  · have := i.op; rw [hlen]; simp; omega
  · simp; omega

theorem Inv.gone (i : Inv bk A D) (hg : (mget A s).isSome = true) : Inv bk (mdel A s) (D.filter fun x => decide (x ≠ s)) := by
  have hl := mdel_len A s (by intro e; rw [e] at hg; cases hg)
  obtain ⟨f1, f2⟩ := filter_len i.nD s
  have hop := i.op
  have hdn := i.dn
  refine ⟨i.nA.sublist ((mdel_sub A s).map _), i.nD.sublist List.filter_sublist, fun x hx => ?_, ?_, ?_⟩
  · obtain ⟨h1, h2⟩ := List.mem_filter.1 hx
    rw [mget_mdel A s x (of_decide_eq_true h2)]
    exact i.sub x h1
  · by_cases hs : s ∈ D
    · have := f1 hs; omega
    · rw [f2 hs]; omega
  · by_cases hs : s ∈ D
    · have := f1 hs; omega
    · rw [f2 hs]; omega

theorem Inv.not (i : Inv bk A D) (hg : (mget A s).isSome = false) : D.filter (fun x => decide (x ≠ s)) = D :=
  (filter_len i.nD s).2 fun h => by
    obtain ⟨p, hp⟩ := i.sub s h
    rw [hp] at hg; cases hg

theorem Inv.child (i : Inv bk A D) (hg : mget A s = none) (hl : (A.length : Int) - D.length < bk) : Inv bk (mput A s (p, false)) D := by
  rw [mput_none A s _ hg]
  refine ⟨?_, i.nD, fun x hx => ?_, ?_, i.dn⟩
  · rw [List.map_append, List.nodup_append]
    refine ⟨i.nA, by simp, fun a ha b hb => ?_⟩
    simp only [List.map_cons, List.map_nil, List.mem_singleton] at hb
    subst hb
    exact fun e => (mget_mem A a).2 ha (e ▸ hg)
  · rw [← mput_none A s (p, false) hg, mget_mput]
    have : x ≠ s := fun e => by
      obtain ⟨p', hp⟩ := i.sub x hx
      rw [e, hg] at hp; cases hp
    rw [if_neg this]
    exact i.sub x hx
  · simp; omega
end

/-! ### the frame -/

structure EJ (h0 : Hp) (r : Nat) (bk : Int) (A : List (Int × Ch)) (Ps : List (Pr × Int)) (D Dr : List Int) (F : List Nat) (a : Option (Nat × Nat)) (G : List Nat) (g : Hp) : Prop where
  er : EarR r bk A Ps D g F
  ow : Own 1 a Dr.length (sing (uL Dr)) g G
  dis : ∀ j ∈ F, j ∉ G
  lo : ∀ j, j ∈ F ∨ j ∈ G → h0.next ≤ j
  same : ∀ j, j < h0.next → g.get j = h0.get j
  wf : g.wf
  le : h0.next ≤ g.next

section
variable {h0 g g' : Hp} {r : Nat} {bk : Int} {A A' : List (Int × Ch)} {Ps Ps' : List (Pr × Int)} {D D' Dr Dr' : List Int} {F F' G G' : List Nat} {a a' : Option (Nat × Nat)}

theorem EJ.ear (i : EJ h0 r bk A Ps D Dr F a G g) (u : Upd g g' F F') (er : EarR r bk A' Ps' D' g' F') (w : g'.wf) : EJ h0 r bk A' Ps' D' Dr F' a G g' := by
  have hl := i.le
  have hG := fun j hj => (Own.rep _ _ _ _).lt i.wf i.ow (j := j) hj
  refine ⟨er, (Own.rep _ _ _ _).loc _ _ _ (fun j hj => u.same j (hG j hj) fun h => i.dis j h hj) i.ow, fun j hj hg => ?_, fun j hj => ?_, fun j hj => ?_, w, Nat.le_trans i.le u.le⟩
  · rcases u.new j hj with h | h
    · exact i.dis j h hg
    · have := hG j hg; omega
  · rcases hj with hj | hj
    · rcases u.new j hj with h | h
      · exact i.lo j (.inl h)
      · omega
    · exact i.lo j (.inr hj)
  · rw [u.same j (by omega) (fun h => by have := i.lo j (.inl h); omega)]; exact i.same j hj

theorem EJ.row (i : EJ h0 r bk A Ps D Dr F a G g) (u : Upd g g' G G') (ow : Own 1 a' Dr'.length (sing (uL Dr')) g' G') (w : g'.wf) : EJ h0 r bk A Ps D Dr' F a' G' g' := by
  have hl := i.le
  have hF := fun j hj => (EarR.rep _ _ _ _ _).lt i.wf i.er (j := j) hj
  refine ⟨(EarR.rep _ _ _ _ _).loc _ _ _ (fun j hj => u.same j (hF j hj) (i.dis j hj)) i.er, ow, fun j hj hg => ?_, fun j hj => ?_, fun j hj => ?_, w, Nat.le_trans i.le u.le⟩
  · rcases u.new j hg with h | h
    · exact i.dis j hj h
    · have := hF j hj; omega
  · rcases hj with hj | hj
    · exact i.lo j (.inl hj)
    · rcases u.new j hj with h | h
      · exact i.lo j (.inr h)
      · omega
  · rw [u.same j (by omega) (fun h => by have := i.lo j (.inr h); omega)]; exact i.same j hj

theorem EJ.quiet (i : EJ h0 r bk A Ps D Dr F a G g) (q : Quiet g g') : EJ h0 r bk A Ps D Dr F a G g' := by
  have hl := i.le
  exact ⟨i.er.quiet i.wf q, (Own.rep _ _ _ _).stay i.wf i.ow q.same, i.dis, i.lo, fun j hj => by rw [q.same j (by omega)]; exact i.same j hj, q.wf, Nat.le_trans i.le q.le⟩
end

def St (h0 : Hp) (r : Nat) (bk : Int) (a : Option (Nat × Nat)) (n : Nat) (g : Hp) : Prop :=
  ∃ A Ps D F G, n = D.length ∧ EJ h0 r bk A Ps D D F a G g ∧ Inv bk A D

theorem law_calls (backlog : Int) (w0 : (Lit.int .u8 backlog).wf = true) {h : Hp} {a : Option (Nat × Nat)} {n : Nat} {f : Bool} {rows : List (List V)} (ha : RoSlc h a n rows 5)
    (hr0 : ∀ r ∈ rows, shpBs stepZ r = true ∧ ∀ v ∈ r, v.fits) (hbz : n * Try.prog.bytesOf 31 ≤ reachBytes) : XCalls Try.prog 3 [.int .u8 backlog, .slc a n f] h fun v _ => v = .bool true := by
  have hr : ∀ r ∈ rows, shpBs stepZ r = true := fun r h => (hr0 r h).1
  have hz : ∀ r ∈ rows, r.length = 5 := fun r h => shpBs_length (hr r h)
  refine XCalls.ofWf fun hw => ?_
  refine XCalls.cps fun K hK => ?_
  have KT : ∀ h', K (.bool true) h' := fun h' => hK _ _ rfl
  have hb := lit_bnd w0
  simp [IntKind.min, IntKind.max, IntKind.signed, IntKind.bits] at hb
  apply x3; unfold X3
  cases c0 : ltI 300 (↑n) with
  | true => exact works_spec fun _ => ⟨_, rfl, KT _⟩
  | false =>
  rw [ltI_eq, decide_eq_false_iff_not] at c0
  simp only [cond_false]
  obtain ⟨bk, hbk, hbk1⟩ : ∃ bk : Int, IntKind.i64.wrap ((IntKind.i64.wrap backlog).tmod 128 + 1) = bk ∧ 1 ≤ bk ∧ bk ≤ 128 := by
    have t1 : backlog.tmod 128 = backlog % 128 := Int.tmod_eq_emod_of_nonneg (by omega)
    refine ⟨backlog % 128 + 1, ?_, by omega, by omega⟩
    rw [wr (x := backlog) (by omega) (by omega), t1, wr (by omega) (by omega)]
  rw [hbk]
  refine ⟨by decide, ?_⟩
  refine (new_spec hw hbk1).mono ?_
  rintro _ g1 ⟨rfl, er1, q1⟩
  refine ⟨_, _, rfl, ?_⟩
  simp only [bne_self_eq_false, cond_false, Option.isNone_some]
  have st0 : St h (h.next + 2) bk none 0 g1 := ⟨[], [], [], _, [], rfl, ⟨er1, Own.nil _ _, by simp, fun j hj => by simp at hj; omega, q1.same, q1.wf, q1.le⟩, ⟨by simp, by simp, by simp, by simp; omega, by simp; omega⟩⟩
  generalize hrr : h.next + 2 = r at *
  refine ⟨fun vs g => match vs with
    | [.slc a n' _, .int _ i] => ∃ k : Nat, i = k ∧ k ≤ n ∧ St h r bk a n' g
    | _ => False, fun vs _ => match vs with
    | [_, .int _ i] => n - i.toNat
    | _ => 0, ⟨by trivial, 0, rfl, by omega, st0⟩, ?_⟩
  rintro bs a2 n2 f2 i g ⟨k, rfl, hkn, A, Ps, D, F, G, rfl, j1, v1⟩
  cases hi : ltI (↑k) (↑n) with
  | false => exact works_spec fun _ => ⟨true, rfl, KT _⟩
  | true =>
  rw [ltI_eq, decide_eq_true_eq] at hi
  have hkn' : k < n := by omega
  have hAD := v1.le
  have hop := v1.op
  have hdn := v1.dn
  have keeps : h.keeps g := fun j c e hq => by rw [j1.same j (hw.lt hq)]; exact hq
  obtain ⟨qa, row, rfl, hrow, hld, hlda⟩ := ha.ld keeps hkn' hz
  obtain ⟨b1, b2, b3, kp, w, rfl⟩ := step_form (hr row (List.mem_of_getElem? hrow))
  have hw1 : IntKind.i64.wrap ((k : Int) + 1) = ((k + 1 : Nat) : Int) := wrap_succ (n := n) (by omega) (by omega)
  refine ⟨⟨by omega, hi⟩, b1, b2, b3, kp, w, hlda, ?_⟩
  rintro g9 rfl
  refine ⟨_, Hp.st_of Hp.get_alloc_self (Nat.le_of_ble_eq_true rfl), ?_⟩
  obtain ⟨g3, hg3⟩ : ∃ g3, g3 = (g.alloc (.row [.bool false, .bool false, .bool false, .int .u8 0, .int .u64 0] 1 false)).set g.next (.row (splice [.bool false, .bool false, .bool false, .int .u8 0, .int .u64 0] 0 [.bool b1, .bool b2, .bool b3, .int .u8 kp, .int .u64 w]) 1 false) := ⟨_, rfl⟩
  rw [← hg3]
  have c3 : g3.get g.next = some (.row [.bool b1, .bool b2, .bool b3, .int .u8 kp, .int .u64 w] 1 false) := by rw [hg3, Hp.get_set_self]; rfl
  have q3 : Quiet g g3 := by rw [hg3]; exact ⟨fun j hj => by simp (disch := (first | omega | (simp only [Hp.alloc_next, Hp.set_next] <;> omega) | (simp (disch := (first | omega | (simp only [Hp.alloc_next, Hp.set_next] <;> omega) | fail)) only [Hp.get_set_self, Hp.get_set_ne, Hp.get_alloc_self, Hp.get_alloc_ne, Hp.get_alloc_at, Hp.get_set_at, Hp.set_next, Hp.alloc_next]; done) | fail)) only [Hp.st, Hp.ld, Hp.lda, splice, ble_eq', if_true, if_false, ite_true, ite_false, cond_true, cond_false, decide_true, decide_false, List.length_cons, List.length_nil, List.take_zero, List.take_succ_cons, List.nil_append, List.cons_append, List.append_nil, List.drop_succ_cons, List.drop_zero, List.drop_nil, List.getElem?_cons_succ, List.getElem?_cons_zero, Nat.reduceAdd, Nat.reduceLeDiff, Nat.reduceEqDiff, Nat.zero_add, Nat.add_zero, Nat.le_refl, Nat.zero_le, Nat.succ_ne_self, Nat.mul_one, Int.toNat_natCast, Option.some.injEq, Option.isNone_some, Option.isNone_none, V.int.injEq, V.str.injEq, V.bool.injEq, V.ptr.injEq, V.slc.injEq, V.map.injEq, V.agg.injEq, V.tup.injEq, List.cons.injEq, Prod.mk.injEq, onS, true_and, and_true, and_assoc, exists_and_left, exists_eq_left', forall_eq, heq_eq_eq, reduceCtorEq, Bool.not_true, Bool.not_false, eq_self, not_false_eq_true, Nat.left_eq_add, Nat.add_eq_left, Nat.add_left_cancel_iff, Nat.add_right_cancel_iff, Nat.reduceEqDiff, Nat.one_ne_zero, Hp.get_set_self, Hp.get_set_ne, Hp.get_alloc_self, Hp.get_alloc_ne, Hp.get_alloc_at, Hp.get_set_at, Hp.set_next, Hp.alloc_next, Option.some_ne_none, V.tup.injEq, Option.isSome_some, Option.isSome_none, exists_eq_left, exists_eq, Nat.mul_zero], by simp (disch := (first | omega | (simp only [Hp.alloc_next, Hp.set_next] <;> omega) | (simp (disch := (first | omega | (simp only [Hp.alloc_next, Hp.set_next] <;> omega) | fail)) only [Hp.get_set_self, Hp.get_set_ne, Hp.get_alloc_self, Hp.get_alloc_ne, Hp.get_alloc_at, Hp.get_set_at, Hp.set_next, Hp.alloc_next]; done) | fail)) only [Hp.st, Hp.ld, Hp.lda, splice, ble_eq', if_true, if_false, ite_true, ite_false, cond_true, cond_false, decide_true, decide_false, List.length_cons, List.length_nil, List.take_zero, List.take_succ_cons, List.nil_append, List.cons_append, List.append_nil, List.drop_succ_cons, List.drop_zero, List.drop_nil, List.getElem?_cons_succ, List.getElem?_cons_zero, Nat.reduceAdd, Nat.reduceLeDiff, Nat.reduceEqDiff, Nat.zero_add, Nat.add_zero, Nat.le_refl, Nat.zero_le, Nat.succ_ne_self, Nat.mul_one, Int.toNat_natCast, Option.some.injEq, Option.isNone_some, Option.isNone_none, V.int.injEq, V.str.injEq, V.bool.injEq, V.ptr.injEq, V.slc.injEq, V.map.injEq, V.agg.injEq, V.tup.injEq, List.cons.injEq, Prod.mk.injEq, onS, true_and, and_true, and_assoc, exists_and_left, exists_eq_left', forall_eq, heq_eq_eq, reduceCtorEq, Bool.not_true, Bool.not_false, eq_self, not_false_eq_true, Nat.left_eq_add, Nat.add_eq_left, Nat.add_left_cancel_iff, Nat.add_right_cancel_iff, Nat.reduceEqDiff, Nat.one_ne_zero, Hp.get_set_self, Hp.get_set_ne, Hp.get_alloc_self, Hp.get_alloc_ne, Hp.get_alloc_at, Hp.get_set_at, Hp.set_next, Hp.alloc_next, Option.some_ne_none, V.tup.injEq, Option.isSome_some, Option.isSome_none, exists_eq_left, exists_eq, Nat.mul_zero]; omega, j1.wf.alloc.set (Nat.lt_succ_self _)⟩
  clear hg3
  have j3 := j1.quiet q3
  have hF := fun j hj => (EarR.rep _ _ _ _ _).lt j1.wf j1.er (j := j) hj
  have hG := fun j hj => (Own.rep _ _ _ _).lt j1.wf j1.ow (j := j) hj
  have l3 := j3.wf.lt c3
  refine ⟨fun vs g => match vs with
    | [.slc a n' _] => St h r bk a n' g
    | _ => False, ?_, ?_⟩
  · refine ⟨b1, by simp (disch := (first | omega | (simp only [Hp.alloc_next, Hp.set_next] <;> omega) | (simp (disch := (first | omega | (simp only [Hp.alloc_next, Hp.set_next] <;> omega) | fail)) only [Hp.get_set_self, Hp.get_set_ne, Hp.get_alloc_self, Hp.get_alloc_ne, Hp.get_alloc_at, Hp.get_set_at, Hp.set_next, Hp.alloc_next, c3]; done) | fail)) only [Hp.st, Hp.ld, Hp.lda, splice, ble_eq', if_true, if_false, ite_true, ite_false, cond_true, cond_false, decide_true, decide_false, List.length_cons, List.length_nil, List.take_zero, List.take_succ_cons, List.nil_append, List.cons_append, List.append_nil, List.drop_succ_cons, List.drop_zero, List.drop_nil, List.getElem?_cons_succ, List.getElem?_cons_zero, Nat.reduceAdd, Nat.reduceLeDiff, Nat.reduceEqDiff, Nat.zero_add, Nat.add_zero, Nat.le_refl, Nat.zero_le, Nat.succ_ne_self, Nat.mul_one, Int.toNat_natCast, Option.some.injEq, Option.isNone_some, Option.isNone_none, V.int.injEq, V.str.injEq, V.bool.injEq, V.ptr.injEq, V.slc.injEq, V.map.injEq, V.agg.injEq, V.tup.injEq, List.cons.injEq, Prod.mk.injEq, onS, true_and, and_true, and_assoc, exists_and_left, exists_eq_left', forall_eq, heq_eq_eq, reduceCtorEq, Bool.not_true, Bool.not_false, eq_self, not_false_eq_true, Nat.left_eq_add, Nat.add_eq_left, Nat.add_left_cancel_iff, Nat.add_right_cancel_iff, Nat.reduceEqDiff, Nat.one_ne_zero, Hp.get_set_self, Hp.get_set_ne, Hp.get_alloc_self, Hp.get_alloc_ne, Hp.get_alloc_at, Hp.get_set_at, Hp.set_next, Hp.alloc_next, Option.some_ne_none, V.tup.injEq, Option.isSome_some, Option.isSome_none, exists_eq_left, exists_eq, Nat.mul_zero, c3], ?_⟩
    cases b1 with
    | true =>
      refine ⟨w, by simp (disch := (first | omega | (simp only [Hp.alloc_next, Hp.set_next] <;> omega) | (simp (disch := (first | omega | (simp only [Hp.alloc_next, Hp.set_next] <;> omega) | fail)) only [Hp.get_set_self, Hp.get_set_ne, Hp.get_alloc_self, Hp.get_alloc_ne, Hp.get_alloc_at, Hp.get_set_at, Hp.set_next, Hp.alloc_next, c3]; done) | fail)) only [Hp.st, Hp.ld, Hp.lda, splice, ble_eq', if_true, if_false, ite_true, ite_false, cond_true, cond_false, decide_true, decide_false, List.length_cons, List.length_nil, List.take_zero, List.take_succ_cons, List.nil_append, List.cons_append, List.append_nil, List.drop_succ_cons, List.drop_zero, List.drop_nil, List.getElem?_cons_succ, List.getElem?_cons_zero, Nat.reduceAdd, Nat.reduceLeDiff, Nat.reduceEqDiff, Nat.zero_add, Nat.add_zero, Nat.le_refl, Nat.zero_le, Nat.succ_ne_self, Nat.mul_one, Int.toNat_natCast, Option.some.injEq, Option.isNone_some, Option.isNone_none, V.int.injEq, V.str.injEq, V.bool.injEq, V.ptr.injEq, V.slc.injEq, V.map.injEq, V.agg.injEq, V.tup.injEq, List.cons.injEq, Prod.mk.injEq, onS, true_and, and_true, and_assoc, exists_and_left, exists_eq_left', forall_eq, heq_eq_eq, reduceCtorEq, Bool.not_true, Bool.not_false, eq_self, not_false_eq_true, Nat.left_eq_add, Nat.add_eq_left, Nat.add_left_cancel_iff, Nat.add_right_cancel_iff, Nat.reduceEqDiff, Nat.one_ne_zero, Hp.get_set_self, Hp.get_set_ne, Hp.get_alloc_self, Hp.get_alloc_ne, Hp.get_alloc_at, Hp.get_set_at, Hp.set_next, Hp.alloc_next, Option.some_ne_none, V.tup.injEq, Option.isSome_some, Option.isSome_none, exists_eq_left, exists_eq, Nat.mul_zero, c3], ?_⟩
      refine (done_spec (s := w) j3.wf j3.er (by omega)).mono ?_
      rintro _ g4 ⟨rfl, hd, w4⟩
      refine ⟨_, rfl, ?_⟩
      by_cases h0 : doneCode bk A D w = 0
      · rw [if_pos h0] at hd
        obtain ⟨p, F', hgm, er4, u4⟩ := hd
        have cc : (doneCode bk A D w == 0) = true := by simp [h0]
        rw [cc]
        have j4 := j3.ear u4 er4 w4
        have c4 : g4.get g.next = some (.row [.bool true, .bool b2, .bool b3, .int .u8 kp, .int .u64 w] 1 false) := by rw [u4.same _ l3 (fun hj => by have := hF _ hj; omega)]; exact c3
        refine ⟨w, by simp (disch := (first | omega | (simp only [Hp.alloc_next, Hp.set_next] <;> omega) | (simp (disch := (first | omega | (simp only [Hp.alloc_next, Hp.set_next] <;> omega) | fail)) only [Hp.get_set_self, Hp.get_set_ne, Hp.get_alloc_self, Hp.get_alloc_ne, Hp.get_alloc_at, Hp.get_set_at, Hp.set_next, Hp.alloc_next, c4]; done) | fail)) only [Hp.st, Hp.ld, Hp.lda, splice, ble_eq', if_true, if_false, ite_true, ite_false, cond_true, cond_false, decide_true, decide_false, List.length_cons, List.length_nil, List.take_zero, List.take_succ_cons, List.nil_append, List.cons_append, List.append_nil, List.drop_succ_cons, List.drop_zero, List.drop_nil, List.getElem?_cons_succ, List.getElem?_cons_zero, Nat.reduceAdd, Nat.reduceLeDiff, Nat.reduceEqDiff, Nat.zero_add, Nat.add_zero, Nat.le_refl, Nat.zero_le, Nat.succ_ne_self, Nat.mul_one, Int.toNat_natCast, Option.some.injEq, Option.isNone_some, Option.isNone_none, V.int.injEq, V.str.injEq, V.bool.injEq, V.ptr.injEq, V.slc.injEq, V.map.injEq, V.agg.injEq, V.tup.injEq, List.cons.injEq, Prod.mk.injEq, onS, true_and, and_true, and_assoc, exists_and_left, exists_eq_left', forall_eq, heq_eq_eq, reduceCtorEq, Bool.not_true, Bool.not_false, eq_self, not_false_eq_true, Nat.left_eq_add, Nat.add_eq_left, Nat.add_left_cancel_iff, Nat.add_right_cancel_iff, Nat.reduceEqDiff, Nat.one_ne_zero, Hp.get_set_self, Hp.get_set_ne, Hp.get_alloc_self, Hp.get_alloc_ne, Hp.get_alloc_at, Hp.get_set_at, Hp.set_next, Hp.alloc_next, Option.some_ne_none, V.tup.injEq, Option.isSome_some, Option.isSome_none, exists_eq_left, exists_eq, Nat.mul_zero, c4], ?_⟩
        rintro g5 rfl
        obtain ⟨g6, hx6, ho6, u6, w6⟩ := put_ow (s := w) (f := f2) j4.ow.ow w4 (by omega)
        refine ⟨_, _, _, _, hx6, by trivial, ?_⟩
        have hlt : (D.length : Int) < bk := by
          unfold doneCode at h0
          rw [hgm] at h0
          simp only at h0
          split at h0
          · assumption
          · omega
        have hlen : (D ++ [w]).length = D.length + 1 := by simp
        exact ⟨_, _, D ++ [w], _, _, hlen.symm, j4.row u6 (by rw [hlen]; exact ho6) w6, v1.done hgm hlt⟩
      · rw [if_neg h0] at hd
        have cc : (doneCode bk A D w == 0) = false := by simp [h0]
        rw [cc]
        exact ⟨by trivial, _, _, D, _, _, rfl, j3.ear hd.2 hd.1 w4, v1⟩
    | false =>
      refine ⟨b2, by simp (disch := (first | omega | (simp only [Hp.alloc_next, Hp.set_next] <;> omega) | (simp (disch := (first | omega | (simp only [Hp.alloc_next, Hp.set_next] <;> omega) | fail)) only [Hp.get_set_self, Hp.get_set_ne, Hp.get_alloc_self, Hp.get_alloc_ne, Hp.get_alloc_at, Hp.get_set_at, Hp.set_next, Hp.alloc_next, c3]; done) | fail)) only [Hp.st, Hp.ld, Hp.lda, splice, ble_eq', if_true, if_false, ite_true, ite_false, cond_true, cond_false, decide_true, decide_false, List.length_cons, List.length_nil, List.take_zero, List.take_succ_cons, List.nil_append, List.cons_append, List.append_nil, List.drop_succ_cons, List.drop_zero, List.drop_nil, List.getElem?_cons_succ, List.getElem?_cons_zero, Nat.reduceAdd, Nat.reduceLeDiff, Nat.reduceEqDiff, Nat.zero_add, Nat.add_zero, Nat.le_refl, Nat.zero_le, Nat.succ_ne_self, Nat.mul_one, Int.toNat_natCast, Option.some.injEq, Option.isNone_some, Option.isNone_none, V.int.injEq, V.str.injEq, V.bool.injEq, V.ptr.injEq, V.slc.injEq, V.map.injEq, V.agg.injEq, V.tup.injEq, List.cons.injEq, Prod.mk.injEq, onS, true_and, and_true, and_assoc, exists_and_left, exists_eq_left', forall_eq, heq_eq_eq, reduceCtorEq, Bool.not_true, Bool.not_false, eq_self, not_false_eq_true, Nat.left_eq_add, Nat.add_eq_left, Nat.add_left_cancel_iff, Nat.add_right_cancel_iff, Nat.reduceEqDiff, Nat.one_ne_zero, Hp.get_set_self, Hp.get_set_ne, Hp.get_alloc_self, Hp.get_alloc_ne, Hp.get_alloc_at, Hp.get_set_at, Hp.set_next, Hp.alloc_next, Option.some_ne_none, V.tup.injEq, Option.isSome_some, Option.isSome_none, exists_eq_left, exists_eq, Nat.mul_zero, c3], ?_⟩
      cases b2 with
      | true =>
        refine ⟨w, by simp (disch := (first | omega | (simp only [Hp.alloc_next, Hp.set_next] <;> omega) | (simp (disch := (first | omega | (simp only [Hp.alloc_next, Hp.set_next] <;> omega) | fail)) only [Hp.get_set_self, Hp.get_set_ne, Hp.get_alloc_self, Hp.get_alloc_ne, Hp.get_alloc_at, Hp.get_set_at, Hp.set_next, Hp.alloc_next, c3]; done) | fail)) only [Hp.st, Hp.ld, Hp.lda, splice, ble_eq', if_true, if_false, ite_true, ite_false, cond_true, cond_false, decide_true, decide_false, List.length_cons, List.length_nil, List.take_zero, List.take_succ_cons, List.nil_append, List.cons_append, List.append_nil, List.drop_succ_cons, List.drop_zero, List.drop_nil, List.getElem?_cons_succ, List.getElem?_cons_zero, Nat.reduceAdd, Nat.reduceLeDiff, Nat.reduceEqDiff, Nat.zero_add, Nat.add_zero, Nat.le_refl, Nat.zero_le, Nat.succ_ne_self, Nat.mul_one, Int.toNat_natCast, Option.some.injEq, Option.isNone_some, Option.isNone_none, V.int.injEq, V.str.injEq, V.bool.injEq, V.ptr.injEq, V.slc.injEq, V.map.injEq, V.agg.injEq, V.tup.injEq, List.cons.injEq, Prod.mk.injEq, onS, true_and, and_true, and_assoc, exists_and_left, exists_eq_left', forall_eq, heq_eq_eq, reduceCtorEq, Bool.not_true, Bool.not_false, eq_self, not_false_eq_true, Nat.left_eq_add, Nat.add_eq_left, Nat.add_left_cancel_iff, Nat.add_right_cancel_iff, Nat.reduceEqDiff, Nat.one_ne_zero, Hp.get_set_self, Hp.get_set_ne, Hp.get_alloc_self, Hp.get_alloc_ne, Hp.get_alloc_at, Hp.get_set_at, Hp.set_next, Hp.alloc_next, Option.some_ne_none, V.tup.injEq, Option.isSome_some, Option.isSome_none, exists_eq_left, exists_eq, Nat.mul_zero, c3], ?_⟩
        refine (gone_spec (s := w) j3.wf j3.er (by omega)).mono ?_
        rintro _ g4 ⟨rfl, hd, u4, w4⟩
        refine ⟨_, rfl, ?_⟩
        have c4 : g4.get g.next = some (.row [.bool false, .bool true, .bool b3, .int .u8 kp, .int .u64 w] 1 false) := by rw [u4.same _ l3 (fun hj => by have := hF _ hj; omega)]; exact c3
        have l4 := w4.lt c4
        obtain ⟨A', Ps', j4, v4⟩ : ∃ A' Ps', EJ h r bk A' Ps' (D.filter fun x => decide (x ≠ w)) D F a2 G g4 ∧ Inv bk A' (D.filter fun x => decide (x ≠ w)) := by
          cases his : (mget A w).isSome with
          | true => rw [if_pos his] at hd; exact ⟨_, _, j3.ear u4 hd w4, v1.gone his⟩
          | false =>
            rw [if_neg (by rw [his]; simp)] at hd
            rw [v1.not his]
            exact ⟨_, _, j3.ear u4 hd w4, v1⟩
        refine ⟨fun vs g' => match vs with
          | [.slc a3 n3 _, .int _ i] => ∃ (k : Nat) (G3 : List Nat), i = k ∧ k ≤ D.length ∧ n3 = ((D.take k).filter fun x => decide (x ≠ w)).length ∧ Quiet g4 g' ∧ Own 1 a3 ((D.take k).filter fun x => decide (x ≠ w)).length (sing (uL ((D.take k).filter fun x => decide (x ≠ w)))) g' G3 ∧ ∀ j ∈ G3, g4.next ≤ j
          | _ => False, fun vs _ => match vs with
          | [_, .int _ i] => D.length - i.toNat
          | _ => 0, ⟨by trivial, 0, [], rfl, by omega, by simp, Quiet.refl w4, Own.nil _ _, by simp⟩, ?_⟩
        rintro bs2 a3 n3 f3 i2 g5 ⟨k2, G3, rfl, hk2, rfl, q5, ow5, hG3⟩
        cases hi2 : ltI (↑k2) (↑D.length) with
        | false =>
          rw [ltI_eq, decide_eq_false_iff_not] at hi2
          rw [List.take_of_length_le (by omega)] at ow5 ⊢
          have j5 := j4.quiet q5
          have hF4 := fun j hj => (EarR.rep _ _ _ _ _).lt j4.wf j4.er (j := j) hj
          have hle4 := j4.le
          exact ⟨by trivial, A', Ps', _, F, G3, rfl, ⟨j5.er, ow5, fun j hj hg => by have := hF4 j hj; have := hG3 j hg; omega, fun j hj => by
            rcases hj with hj | hj
            · exact j5.lo j (.inl hj)
            · have := hG3 j hj; omega, j5.same, j5.wf, j5.le⟩, v4⟩
        | true =>
          rw [ltI_eq, decide_eq_true_eq] at hi2
          have hk' : k2 < D.length := by omega
          have hx : D[k2]? = some D[k2] := List.getElem?_eq_getElem hk'
          have j5 := j4.quiet q5
          obtain ⟨qq, oo, rfl, hl5⟩ := j5.ow.ow.ld1 (uL_get hx)
          have c5 : g5.get g.next = some (.row [.bool false, .bool true, .bool b3, .int .u8 kp, .int .u64 w] 1 false) := by rw [q5.same _ l4]; exact c4
          refine ⟨⟨by omega, hi2⟩, D[k2], hl5, w, by simp (disch := (first | omega | (simp only [Hp.alloc_next, Hp.set_next] <;> omega) | (simp (disch := (first | omega | (simp only [Hp.alloc_next, Hp.set_next] <;> omega) | fail)) only [Hp.get_set_self, Hp.get_set_ne, Hp.get_alloc_self, Hp.get_alloc_ne, Hp.get_alloc_at, Hp.get_set_at, Hp.set_next, Hp.alloc_next, c5]; done) | fail)) only [Hp.st, Hp.ld, Hp.lda, splice, ble_eq', if_true, if_false, ite_true, ite_false, cond_true, cond_false, decide_true, decide_false, List.length_cons, List.length_nil, List.take_zero, List.take_succ_cons, List.nil_append, List.cons_append, List.append_nil, List.drop_succ_cons, List.drop_zero, List.drop_nil, List.getElem?_cons_succ, List.getElem?_cons_zero, Nat.reduceAdd, Nat.reduceLeDiff, Nat.reduceEqDiff, Nat.zero_add, Nat.add_zero, Nat.le_refl, Nat.zero_le, Nat.succ_ne_self, Nat.mul_one, Int.toNat_natCast, Option.some.injEq, Option.isNone_some, Option.isNone_none, V.int.injEq, V.str.injEq, V.bool.injEq, V.ptr.injEq, V.slc.injEq, V.map.injEq, V.agg.injEq, V.tup.injEq, List.cons.injEq, Prod.mk.injEq, onS, true_and, and_true, and_assoc, exists_and_left, exists_eq_left', forall_eq, heq_eq_eq, reduceCtorEq, Bool.not_true, Bool.not_false, eq_self, not_false_eq_true, Nat.left_eq_add, Nat.add_eq_left, Nat.add_left_cancel_iff, Nat.add_right_cancel_iff, Nat.reduceEqDiff, Nat.one_ne_zero, Hp.get_set_self, Hp.get_set_ne, Hp.get_alloc_self, Hp.get_alloc_ne, Hp.get_alloc_at, Hp.get_set_at, Hp.set_next, Hp.alloc_next, Option.some_ne_none, V.tup.injEq, Option.isSome_some, Option.isSome_none, exists_eq_left, exists_eq, Nat.mul_zero, c5], ?_⟩
          have hwk := wrap_succ hk' (show D.length ≤ 9223372036854775807 by omega)
          have htk := List.take_succ_eq_append_getElem hk'
          rw [hwk]
          by_cases e : D[k2] = w
          · have cc : (D[k2] != w) = false := by simp [e]
            have hf : (D.take (k2 + 1)).filter (fun x => decide (x ≠ w)) = (D.take k2).filter fun x => decide (x ≠ w) := by rw [htk, List.filter_append, e]; simp
            rw [cc]
            exact ⟨by trivial, ⟨k2 + 1, G3, rfl, by omega, by rw [hf], q5, by rw [hf]; exact ow5, hG3⟩, by simp only [Int.toNat_natCast]; omega⟩
          · have cc : (D[k2] != w) = true := by simp [e]
            have hf : (D.take (k2 + 1)).filter (fun x => decide (x ≠ w)) = ((D.take k2).filter fun x => decide (x ≠ w)) ++ [D[k2]] := by rw [htk, List.filter_append]; simp [e]
            have hflen : ((D.take (k2 + 1)).filter (fun x => decide (x ≠ w))).length = ((D.take k2).filter fun x => decide (x ≠ w)).length + 1 := by rw [hf]; simp
            have hfl : ((D.take k2).filter fun x => decide (x ≠ w)).length ≤ D.length := Nat.le_trans (List.length_filter_le _ _) (by rw [List.length_take]; omega)
            rw [cc]
            refine ⟨⟨by omega, hi2⟩, D[k2], hl5, ?_⟩
            rintro g6 rfl
            obtain ⟨g7, hx7, ho7, u7, w7⟩ := put_ow (s := D[k2]) (f := f3) ow5.ow j5.wf (by omega)
            have n45 := q5.le
            have n57 := u7.le
            refine ⟨_, _, _, _, hx7, by trivial, ⟨k2 + 1, _, rfl, by omega, hflen.symm, ⟨fun j hj => ?_, by omega, w7⟩, by rw [hflen, hf]; exact ho7, fun j hj => by rw [List.mem_singleton] at hj; omega⟩, by simp only [Int.toNat_natCast]; omega⟩
            rw [u7.same j (by omega) (fun hg => by have := hG3 j hg; omega)]; exact q5.same j hj
      | false =>
        refine ⟨b3, by simp (disch := (first | omega | (simp only [Hp.alloc_next, Hp.set_next] <;> omega) | (simp (disch := (first | omega | (simp only [Hp.alloc_next, Hp.set_next] <;> omega) | fail)) only [Hp.get_set_self, Hp.get_set_ne, Hp.get_alloc_self, Hp.get_alloc_ne, Hp.get_alloc_at, Hp.get_set_at, Hp.set_next, Hp.alloc_next, c3]; done) | fail)) only [Hp.st, Hp.ld, Hp.lda, splice, ble_eq', if_true, if_false, ite_true, ite_false, cond_true, cond_false, decide_true, decide_false, List.length_cons, List.length_nil, List.take_zero, List.take_succ_cons, List.nil_append, List.cons_append, List.append_nil, List.drop_succ_cons, List.drop_zero, List.drop_nil, List.getElem?_cons_succ, List.getElem?_cons_zero, Nat.reduceAdd, Nat.reduceLeDiff, Nat.reduceEqDiff, Nat.zero_add, Nat.add_zero, Nat.le_refl, Nat.zero_le, Nat.succ_ne_self, Nat.mul_one, Int.toNat_natCast, Option.some.injEq, Option.isNone_some, Option.isNone_none, V.int.injEq, V.str.injEq, V.bool.injEq, V.ptr.injEq, V.slc.injEq, V.map.injEq, V.agg.injEq, V.tup.injEq, List.cons.injEq, Prod.mk.injEq, onS, true_and, and_true, and_assoc, exists_and_left, exists_eq_left', forall_eq, heq_eq_eq, reduceCtorEq, Bool.not_true, Bool.not_false, eq_self, not_false_eq_true, Nat.left_eq_add, Nat.add_eq_left, Nat.add_left_cancel_iff, Nat.add_right_cancel_iff, Nat.reduceEqDiff, Nat.one_ne_zero, Hp.get_set_self, Hp.get_set_ne, Hp.get_alloc_self, Hp.get_alloc_ne, Hp.get_alloc_at, Hp.get_set_at, Hp.set_next, Hp.alloc_next, Option.some_ne_none, V.tup.injEq, Option.isSome_some, Option.isSome_none, exists_eq_left, exists_eq, Nat.mul_zero, c3], ?_⟩
        cases b3 with
        | true =>
          refine (accept_spec j3.wf j3.er (by omega)).mono ?_
          rintro _ g4 ⟨w4, u4, hm⟩
          cases D with
          | nil =>
            obtain ⟨rfl, er4⟩ := hm
            refine ⟨_, _, _, _, _, _, rfl, ?_⟩
            rintro g5 rfl
            refine ⟨_, Hp.st_of Hp.get_alloc_self (Nat.le_of_ble_eq_true rfl), ?_⟩
            have q5 : ∀ x, Quiet g4 ((g4.alloc (.row [.int .u32 0, .int .u16 0, .int .u32 0, .int .u16 0] 1 false)).set g4.next x) := fun x => ⟨fun j hj => by simp (disch := (first | omega | (simp only [Hp.alloc_next, Hp.set_next] <;> omega) | (simp (disch := (first | omega | (simp only [Hp.alloc_next, Hp.set_next] <;> omega) | fail)) only [Hp.get_set_self, Hp.get_set_ne, Hp.get_alloc_self, Hp.get_alloc_ne, Hp.get_alloc_at, Hp.get_set_at, Hp.set_next, Hp.alloc_next]; done) | fail)) only [Hp.st, Hp.ld, Hp.lda, splice, ble_eq', if_true, if_false, ite_true, ite_false, cond_true, cond_false, decide_true, decide_false, List.length_cons, List.length_nil, List.take_zero, List.take_succ_cons, List.nil_append, List.cons_append, List.append_nil, List.drop_succ_cons, List.drop_zero, List.drop_nil, List.getElem?_cons_succ, List.getElem?_cons_zero, Nat.reduceAdd, Nat.reduceLeDiff, Nat.reduceEqDiff, Nat.zero_add, Nat.add_zero, Nat.le_refl, Nat.zero_le, Nat.succ_ne_self, Nat.mul_one, Int.toNat_natCast, Option.some.injEq, Option.isNone_some, Option.isNone_none, V.int.injEq, V.str.injEq, V.bool.injEq, V.ptr.injEq, V.slc.injEq, V.map.injEq, V.agg.injEq, V.tup.injEq, List.cons.injEq, Prod.mk.injEq, onS, true_and, and_true, and_assoc, exists_and_left, exists_eq_left', forall_eq, heq_eq_eq, reduceCtorEq, Bool.not_true, Bool.not_false, eq_self, not_false_eq_true, Nat.left_eq_add, Nat.add_eq_left, Nat.add_left_cancel_iff, Nat.add_right_cancel_iff, Nat.reduceEqDiff, Nat.one_ne_zero, Hp.get_set_self, Hp.get_set_ne, Hp.get_alloc_self, Hp.get_alloc_ne, Hp.get_alloc_at, Hp.get_set_at, Hp.set_next, Hp.alloc_next, Option.some_ne_none, V.tup.injEq, Option.isSome_some, Option.isSome_none, exists_eq_left, exists_eq, Nat.mul_zero], by simp (disch := (first | omega | (simp only [Hp.alloc_next, Hp.set_next] <;> omega) | (simp (disch := (first | omega | (simp only [Hp.alloc_next, Hp.set_next] <;> omega) | fail)) only [Hp.get_set_self, Hp.get_set_ne, Hp.get_alloc_self, Hp.get_alloc_ne, Hp.get_alloc_at, Hp.get_set_at, Hp.set_next, Hp.alloc_next]; done) | fail)) only [Hp.st, Hp.ld, Hp.lda, splice, ble_eq', if_true, if_false, ite_true, ite_false, cond_true, cond_false, decide_true, decide_false, List.length_cons, List.length_nil, List.take_zero, List.take_succ_cons, List.nil_append, List.cons_append, List.append_nil, List.drop_succ_cons, List.drop_zero, List.drop_nil, List.getElem?_cons_succ, List.getElem?_cons_zero, Nat.reduceAdd, Nat.reduceLeDiff, Nat.reduceEqDiff, Nat.zero_add, Nat.add_zero, Nat.le_refl, Nat.zero_le, Nat.succ_ne_self, Nat.mul_one, Int.toNat_natCast, Option.some.injEq, Option.isNone_some, Option.isNone_none, V.int.injEq, V.str.injEq, V.bool.injEq, V.ptr.injEq, V.slc.injEq, V.map.injEq, V.agg.injEq, V.tup.injEq, List.cons.injEq, Prod.mk.injEq, onS, true_and, and_true, and_assoc, exists_and_left, exists_eq_left', forall_eq, heq_eq_eq, reduceCtorEq, Bool.not_true, Bool.not_false, eq_self, not_false_eq_true, Nat.left_eq_add, Nat.add_eq_left, Nat.add_left_cancel_iff, Nat.add_right_cancel_iff, Nat.reduceEqDiff, Nat.one_ne_zero, Hp.get_set_self, Hp.get_set_ne, Hp.get_alloc_self, Hp.get_alloc_ne, Hp.get_alloc_at, Hp.get_set_at, Hp.set_next, Hp.alloc_next, Option.some_ne_none, V.tup.injEq, Option.isSome_some, Option.isSome_none, exists_eq_left, exists_eq, Nat.mul_zero]; omega, w4.alloc.set (Nat.lt_succ_self _)⟩
            exact ⟨by trivial, A, Ps, [], F, G, rfl, (j3.ear u4 er4 w4).quiet (q5 _), v1⟩
          | cons s D' =>
            obtain ⟨rfl, er4⟩ := hm
            refine ⟨_, _, _, _, _, _, rfl, ?_⟩
            rintro g5 rfl
            refine ⟨_, Hp.st_of Hp.get_alloc_self (Nat.le_of_ble_eq_true rfl), ?_⟩
            generalize hgg : (g4.alloc (.row [.int .u32 0, .int .u16 0, .int .u32 0, .int .u16 0] 1 false)).set g4.next _ = g6
            have q6 : Quiet g4 g6 := by rw [← hgg]; exact ⟨fun j hj => by simp (disch := (first | omega | (simp only [Hp.alloc_next, Hp.set_next] <;> omega) | (simp (disch := (first | omega | (simp only [Hp.alloc_next, Hp.set_next] <;> omega) | fail)) only [Hp.get_set_self, Hp.get_set_ne, Hp.get_alloc_self, Hp.get_alloc_ne, Hp.get_alloc_at, Hp.get_set_at, Hp.set_next, Hp.alloc_next]; done) | fail)) only [Hp.st, Hp.ld, Hp.lda, splice, ble_eq', if_true, if_false, ite_true, ite_false, cond_true, cond_false, decide_true, decide_false, List.length_cons, List.length_nil, List.take_zero, List.take_succ_cons, List.nil_append, List.cons_append, List.append_nil, List.drop_succ_cons, List.drop_zero, List.drop_nil, List.getElem?_cons_succ, List.getElem?_cons_zero, Nat.reduceAdd, Nat.reduceLeDiff, Nat.reduceEqDiff, Nat.zero_add, Nat.add_zero, Nat.le_refl, Nat.zero_le, Nat.succ_ne_self, Nat.mul_one, Int.toNat_natCast, Option.some.injEq, Option.isNone_some, Option.isNone_none, V.int.injEq, V.str.injEq, V.bool.injEq, V.ptr.injEq, V.slc.injEq, V.map.injEq, V.agg.injEq, V.tup.injEq, List.cons.injEq, Prod.mk.injEq, onS, true_and, and_true, and_assoc, exists_and_left, exists_eq_left', forall_eq, heq_eq_eq, reduceCtorEq, Bool.not_true, Bool.not_false, eq_self, not_false_eq_true, Nat.left_eq_add, Nat.add_eq_left, Nat.add_left_cancel_iff, Nat.add_right_cancel_iff, Nat.reduceEqDiff, Nat.one_ne_zero, Hp.get_set_self, Hp.get_set_ne, Hp.get_alloc_self, Hp.get_alloc_ne, Hp.get_alloc_at, Hp.get_set_at, Hp.set_next, Hp.alloc_next, Option.some_ne_none, V.tup.injEq, Option.isSome_some, Option.isSome_none, exists_eq_left, exists_eq, Nat.mul_zero], by simp (disch := (first | omega | (simp only [Hp.alloc_next, Hp.set_next] <;> omega) | (simp (disch := (first | omega | (simp only [Hp.alloc_next, Hp.set_next] <;> omega) | fail)) only [Hp.get_set_self, Hp.get_set_ne, Hp.get_alloc_self, Hp.get_alloc_ne, Hp.get_alloc_at, Hp.get_set_at, Hp.set_next, Hp.alloc_next]; done) | fail)) only [Hp.st, Hp.ld, Hp.lda, splice, ble_eq', if_true, if_false, ite_true, ite_false, cond_true, cond_false, decide_true, decide_false, List.length_cons, List.length_nil, List.take_zero, List.take_succ_cons, List.nil_append, List.cons_append, List.append_nil, List.drop_succ_cons, List.drop_zero, List.drop_nil, List.getElem?_cons_succ, List.getElem?_cons_zero, Nat.reduceAdd, Nat.reduceLeDiff, Nat.reduceEqDiff, Nat.zero_add, Nat.add_zero, Nat.le_refl, Nat.zero_le, Nat.succ_ne_self, Nat.mul_one, Int.toNat_natCast, Option.some.injEq, Option.isNone_some, Option.isNone_none, V.int.injEq, V.str.injEq, V.bool.injEq, V.ptr.injEq, V.slc.injEq, V.map.injEq, V.agg.injEq, V.tup.injEq, List.cons.injEq, Prod.mk.injEq, onS, true_and, and_true, and_assoc, exists_and_left, exists_eq_left', forall_eq, heq_eq_eq, reduceCtorEq, Bool.not_true, Bool.not_false, eq_self, not_false_eq_true, Nat.left_eq_add, Nat.add_eq_left, Nat.add_left_cancel_iff, Nat.add_right_cancel_iff, Nat.reduceEqDiff, Nat.one_ne_zero, Hp.get_set_self, Hp.get_set_ne, Hp.get_alloc_self, Hp.get_alloc_ne, Hp.get_alloc_at, Hp.get_set_at, Hp.set_next, Hp.alloc_next, Option.some_ne_none, V.tup.injEq, Option.isSome_some, Option.isSome_none, exists_eq_left, exists_eq, Nat.mul_zero]; omega, w4.alloc.set (Nat.lt_succ_self _)⟩
            clear hgg
            have his : (mget A s).isSome = true := by
              obtain ⟨p, hp⟩ := v1.sub s (by simp)
              rw [hp]; rfl
            rw [if_pos his] at er4
            have hfil : (s :: D').filter (fun x => decide (x ≠ s)) = D' := by
              have hs : s ∉ D' := (List.nodup_cons.1 v1.nD).1
              rw [List.filter_cons_of_neg (by simp)]
              exact List.filter_eq_self.2 fun x hx => by simp; rintro rfl; exact hs hx
            have v4 := v1.gone his
            rw [hfil] at er4 v4
            have j6 := (j3.ear u4 er4 w4).quiet q6
            have cl : ltI 0 (((s :: D').length : Nat) : Int) = true := by rw [ltI_eq, decide_eq_true_eq]; simp
            rw [cl]
            simp only [beq_self_eq_true, Bool.not_true, cond_false, cond_true]
            obtain ⟨qq, oo, rfl, hl6⟩ := j6.ow.ow.ld1 (k := 0) (v := .int .u64 s) rfl
            refine ⟨⟨by omega, by simp⟩, s, hl6, ?_⟩
            simp only [bne_self_eq_false, cond_false]
            obtain ⟨a7, f7, hx7, ho7⟩ := j6.ow.tail (T := T) (t := 28) (e := 29) (ti := (T 28).get rfl) (ei := (T 29).get rfl) (f := f2) (κ := .i64) rfl rfl rfl rfl (k := 1) (by simp) (.inl (by simp))
            refine ⟨_, _, _, hx7, by trivial, _, _, D', F, G, by simp, ⟨j6.er, ?_, j6.dis, j6.lo, j6.same, j6.wf, j6.le⟩, v4⟩
            have e1 : (s :: D').length - 1 = D'.length := by simp
            have e2 : (sing (uL (s :: D'))).drop 1 = sing (uL D') := by simp [sing, uL]
            rw [e1, e2] at ho7
            exact ho7
        | false =>
          refine ⟨kp, by simp (disch := (first | omega | (simp only [Hp.alloc_next, Hp.set_next] <;> omega) | (simp (disch := (first | omega | (simp only [Hp.alloc_next, Hp.set_next] <;> omega) | fail)) only [Hp.get_set_self, Hp.get_set_ne, Hp.get_alloc_self, Hp.get_alloc_ne, Hp.get_alloc_at, Hp.get_set_at, Hp.set_next, Hp.alloc_next, c3]; done) | fail)) only [Hp.st, Hp.ld, Hp.lda, splice, ble_eq', if_true, if_false, ite_true, ite_false, cond_true, cond_false, decide_true, decide_false, List.length_cons, List.length_nil, List.take_zero, List.take_succ_cons, List.nil_append, List.cons_append, List.append_nil, List.drop_succ_cons, List.drop_zero, List.drop_nil, List.getElem?_cons_succ, List.getElem?_cons_zero, Nat.reduceAdd, Nat.reduceLeDiff, Nat.reduceEqDiff, Nat.zero_add, Nat.add_zero, Nat.le_refl, Nat.zero_le, Nat.succ_ne_self, Nat.mul_one, Int.toNat_natCast, Option.some.injEq, Option.isNone_some, Option.isNone_none, V.int.injEq, V.str.injEq, V.bool.injEq, V.ptr.injEq, V.slc.injEq, V.map.injEq, V.agg.injEq, V.tup.injEq, List.cons.injEq, Prod.mk.injEq, onS, true_and, and_true, and_assoc, exists_and_left, exists_eq_left', forall_eq, heq_eq_eq, reduceCtorEq, Bool.not_true, Bool.not_false, eq_self, not_false_eq_true, Nat.left_eq_add, Nat.add_eq_left, Nat.add_left_cancel_iff, Nat.add_right_cancel_iff, Nat.reduceEqDiff, Nat.one_ne_zero, Hp.get_set_self, Hp.get_set_ne, Hp.get_alloc_self, Hp.get_alloc_ne, Hp.get_alloc_at, Hp.get_set_at, Hp.set_next, Hp.alloc_next, Option.some_ne_none, V.tup.injEq, Option.isSome_some, Option.isSome_none, exists_eq_left, exists_eq, Nat.mul_zero, c3], w, by simp (disch := (first | omega | (simp only [Hp.alloc_next, Hp.set_next] <;> omega) | (simp (disch := (first | omega | (simp only [Hp.alloc_next, Hp.set_next] <;> omega) | fail)) only [Hp.get_set_self, Hp.get_set_ne, Hp.get_alloc_self, Hp.get_alloc_ne, Hp.get_alloc_at, Hp.get_set_at, Hp.set_next, Hp.alloc_next, c3]; done) | fail)) only [Hp.st, Hp.ld, Hp.lda, splice, ble_eq', if_true, if_false, ite_true, ite_false, cond_true, cond_false, decide_true, decide_false, List.length_cons, List.length_nil, List.take_zero, List.take_succ_cons, List.nil_append, List.cons_append, List.append_nil, List.drop_succ_cons, List.drop_zero, List.drop_nil, List.getElem?_cons_succ, List.getElem?_cons_zero, Nat.reduceAdd, Nat.reduceLeDiff, Nat.reduceEqDiff, Nat.zero_add, Nat.add_zero, Nat.le_refl, Nat.zero_le, Nat.succ_ne_self, Nat.mul_one, Int.toNat_natCast, Option.some.injEq, Option.isNone_some, Option.isNone_none, V.int.injEq, V.str.injEq, V.bool.injEq, V.ptr.injEq, V.slc.injEq, V.map.injEq, V.agg.injEq, V.tup.injEq, List.cons.injEq, Prod.mk.injEq, onS, true_and, and_true, and_assoc, exists_and_left, exists_eq_left', forall_eq, heq_eq_eq, reduceCtorEq, Bool.not_true, Bool.not_false, eq_self, not_false_eq_true, Nat.left_eq_add, Nat.add_eq_left, Nat.add_left_cancel_iff, Nat.add_right_cancel_iff, Nat.reduceEqDiff, Nat.one_ne_zero, Hp.get_set_self, Hp.get_set_ne, Hp.get_alloc_self, Hp.get_alloc_ne, Hp.get_alloc_at, Hp.get_set_at, Hp.set_next, Hp.alloc_next, Option.some_ne_none, V.tup.injEq, Option.isSome_some, Option.isSome_none, exists_eq_left, exists_eq, Nat.mul_zero, c3], ?_⟩
          refine (pair_spec j3.wf).mono ?_
          rintro _ g4 ⟨rfl, q4⟩
          have c4 : g4.get g.next = some (.row [.bool false, .bool false, .bool false, .int .u8 kp, .int .u64 w] 1 false) := by rw [q4.same _ l3]; exact c3
          have j4 := j3.quiet q4
          refine ⟨_, _, _, _, rfl, ⟨w, by simp (disch := (first | omega | (simp only [Hp.alloc_next, Hp.set_next] <;> omega) | (simp (disch := (first | omega | (simp only [Hp.alloc_next, Hp.set_next] <;> omega) | fail)) only [Hp.get_set_self, Hp.get_set_ne, Hp.get_alloc_self, Hp.get_alloc_ne, Hp.get_alloc_at, Hp.get_set_at, Hp.set_next, Hp.alloc_next, c4]; done) | fail)) only [Hp.st, Hp.ld, Hp.lda, splice, ble_eq', if_true, if_false, ite_true, ite_false, cond_true, cond_false, decide_true, decide_false, List.length_cons, List.length_nil, List.take_zero, List.take_succ_cons, List.nil_append, List.cons_append, List.append_nil, List.drop_succ_cons, List.drop_zero, List.drop_nil, List.getElem?_cons_succ, List.getElem?_cons_zero, Nat.reduceAdd, Nat.reduceLeDiff, Nat.reduceEqDiff, Nat.zero_add, Nat.add_zero, Nat.le_refl, Nat.zero_le, Nat.succ_ne_self, Nat.mul_one, Int.toNat_natCast, Option.some.injEq, Option.isNone_some, Option.isNone_none, V.int.injEq, V.str.injEq, V.bool.injEq, V.ptr.injEq, V.slc.injEq, V.map.injEq, V.agg.injEq, V.tup.injEq, List.cons.injEq, Prod.mk.injEq, onS, true_and, and_true, and_assoc, exists_and_left, exists_eq_left', forall_eq, heq_eq_eq, reduceCtorEq, Bool.not_true, Bool.not_false, eq_self, not_false_eq_true, Nat.left_eq_add, Nat.add_eq_left, Nat.add_left_cancel_iff, Nat.add_right_cancel_iff, Nat.reduceEqDiff, Nat.one_ne_zero, Hp.get_set_self, Hp.get_set_ne, Hp.get_alloc_self, Hp.get_alloc_ne, Hp.get_alloc_at, Hp.get_set_at, Hp.set_next, Hp.alloc_next, Option.some_ne_none, V.tup.injEq, Option.isSome_some, Option.isSome_none, exists_eq_left, exists_eq, Nat.mul_zero, c4], rfl⟩, by trivial, by trivial, ?_⟩
          refine (child_spec (s := w) j4.wf j4.er (by omega) (by omega)).mono ?_
          rintro _ g5 ⟨rfl, hd, u5, w5⟩
          refine ⟨_, rfl, by trivial, ?_⟩
          split at hd
          · rename_i h0
            unfold childCode at h0
            split at h0
            · omega
            · split at h0
              · omega
              · rename_i hn
                split at h0
                · omega
                · rename_i hnb
                  have hgm : mget A w = none := by
                    cases hq : mget A w with
                    | none => rfl
                    | some _ => exact absurd (.inl (by rw [hq]; rfl)) hn
                  exact ⟨_, _, D, F, G, rfl, j4.ear u5 hd w5, v1.child hgm (by omega)⟩
          · exact ⟨_, _, D, F, G, rfl, j4.ear u5 hd w5, v1⟩
  rintro bs3 a6 n6 f6 g6 ⟨A6, Ps6, D6, F6, G6, rfl, j6, v6⟩
  have h1 := v6.le
  have h2 := v6.op
  have h3 := v6.dn
  refine (len_spec j6.er (by omega) (by omega)).mono ?_
  rintro _ g7 ⟨rfl, rfl⟩
  refine ⟨_, _, rfl, ?_⟩
  have k1 : ltI bk ((A6.length : Int) - D6.length) = false := by rw [ltI_eq, decide_eq_false_iff_not]; omega
  have k2 : ltI bk (D6.length : Int) = false := by rw [ltI_eq, decide_eq_false_iff_not]; omega
  have k3 : ltI ((A6.length : Int) - D6.length) 0 = false := by rw [ltI_eq, decide_eq_false_iff_not]; omega
  rw [k1, k2, k3, hw1]
  simp only [bne_self_eq_false, cond_false]
  exact ⟨by trivial, ⟨k + 1, rfl, by omega, A6, Ps6, D6, F6, G6, rfl, j6, v6⟩, by simp only [Int.toNat_natCast]; omega⟩
end Go.Vex.EarOnce

namespace Go.Proofs.Ytappaengiioblaa.earOnce
open Go.ChangeShapes Go.WideShapes Go.ChangeAt Go.RowKit Go.Vex Go.Vex.EarOnce
open Go.ChangeMaps (open_string shut_string)

theorem own : ownKnob Try.prog.godebug = none := by kernel_rfl

set_option maxRecDepth 100000 in
theorem lifted (os : Os) (started : os.Started) (H : Type) (enc : TypeId × Value → H) :
    ReturnsInHanded {} Try.checked os 3 .any (Rows.earOnceSpec.pre6 enc Try.prog Try.f3 Rows.earOnceRow.domain false) (Rows.earOnceSpec.post enc Try.prog Try.f3 false true false false) := by
  refine returnsInHanded_of_change_sized (C := Try.checked) own started (by kernel_rfl) Try.func3
    (ChangeSpec.witness6 (enc := enc) (C := Try.checked) false ⟨#[], #[.int .u8 0, .slice none 0 0], []⟩ 8 (by kernel_rfl) (by kernel_rfl) (by kernel_rfl) (by kernel_rfl)) ?_
  intro W base args ds gs before hval0 hW hcnd hsz _
  have hval : ∀ (j : Nat) t v, Try.f3.params[j]? = some t → args[j]? = some v → Value.okWide Try.prog W .any base t v := hval0
  have hW' := hW
  obtain ⟨p, q, hA0, hV, rfl, hfz, hnd⟩ := hW
  have hA : DataW.TrodAll enc Try.prog W 0 (fun _ => true) true Try.f3.params.toList args.toList ds p := hA0
  rw [Try.params3] at hA hval hsz
  obtain ⟨v0, vs0, d0, ds0, p0, q0, hargs, rfl, rfl, h0, r0⟩ := trodAll_cons hA
  obtain ⟨v1, vs1, d1, ds1, p1, q1, rfl, rfl, rfl, h1, r1⟩ := trodAll_cons r0
  obtain ⟨rfl, rfl, rfl⟩ := trodAll_nil r1
  obtain rfl : args = #[v0, v1] := by cases args; simp_all
  obtain ⟨rfl, rfl⟩ := trodVars_none hV
  obtain ⟨a0, rfl, rfl, rfl, w0⟩ := open_int Try.underlying5 (hval 0 5 v0 rfl rfl) h0
  obtain ⟨ρ1, hp1, b1, n1, f1, rows1, s1, x1, l1, k1, vr1, ro1, sh1, z1⟩ := arg_slice tok (T := Vex.T) (t := 22) (e := 31) (d := 5) (zs := stepZ) rfl rfl rfl rfl rfl (by decide) (hval 1 22 v1 rfl rfl) h1 (fun m hm => hW'.lt m (by simp [hm])) (fun m hm => by simpa using List.all_eq_true.1 hsz m (DataW.weights_mem_each (j := 1) (t := 22) rfl rfl m hm)) (Sat.none W fun _ => ⟨0, 0, 0, 0⟩)
  refine (XCalls.true' s1 (vs := [.int .u8 a0, .slc b1 n1 f1]) ⟨_, _, rfl, rfl, ⟨_, _, rfl, vr1, rfl⟩⟩ (law_calls a0 w0 ro1 sh1 z1)).mono fun e W' ⟨he, hb⟩ => ?_
  subst he
  exact ⟨_, rfl, post_true (by kernel_rfl) hW' hb rfl (fun gs hg => by subst hg; rfl) (tb := 4) rfl Try.underlying4 (by decide +kernel)⟩

theorem over : Rows.earOnceRow.holds Try.pinned (OpenSpec.ofChange Rows.earOnceSpec) :=
  OpenClaim.holds_of_wide 3 Try.f3 rfl rfl rfl rfl rfl rfl rfl ⟨rfl, rfl, rfl, rfl, rfl⟩ rfl rfl rfl rfl rfl (by kernel_rfl) Try.func3 (by kernel_rfl)
    (of_decide_eq_true (by kernel_rfl)) (by unfold Func.isWrapper; first | (rw [if_pos (by decide +kernel)]; kernel_rfl) | (rw [if_neg (by decide +kernel)]; exact ⟨rfl, rfl⟩))
    (fun os started H enc _ => lifted os started H enc)

theorem proved : Rows.EarOnceSaid :=
  over
#print axioms proved
end Go.Proofs.Ytappaengiioblaa.earOnce

