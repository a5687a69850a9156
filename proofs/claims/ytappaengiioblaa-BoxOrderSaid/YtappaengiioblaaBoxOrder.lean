/-
  BoxOrder of layer 28: whatever may wait and whatever the script, the law returns true and leaves the input as it was. No condition.
-/
import Derived.Test.YtappaengiioblaaVexZ
import Derived.Test.YtappaengiioblaaTab28
import Derived.Test.YtappaengiioblaaXb28
import Derived.Test.YtappaengiioblaaCb28
import Derived.Test.YtappaengiioblaaRows
import Derived.WalkKit
import Derived.ProofKit
import Derived.OpenShut
import Derived.KernelRfl
set_option linter.unusedVariables false
set_option linter.unusedSimpArgs false
namespace Go.Vex.BoxOrder
open Go.Proofs

set_option maxRecDepth 100000 in
theorem works_ev : (ev Vex.T Vex.F (fun _ => []) 100000).call 9 [] h0 isT = true := by kernel_rfl

theorem works_spec {h : Hp} {K : V → Hp → Prop} (hk : ∀ h', K (.bool true) h') : XCalls Try.prog 9 [] h K :=
  (XCalls.fresh (K := fun v => v = .bool true) rfl (fun v hv => by subst hv; rfl) (XCalls.ev tok fok mixed (fun _ => []) 100000 works_ev fun _ _ hv => isT_spec hv)).mono fun v h' hv => by rw [hv.1]; exact hk h'

def stepZ : List V := [.bool false, .bool false, .int .u32 0, .int .u16 0, .str [], .int .u8 0]

theorem step_form {r : List V} (h : shpBs stepZ r = true) : ∃ g a ip port s f, r = [.bool g, .bool a, .int .u32 ip, .int .u16 port, .str s, .int .u8 f] :=
  allSs_spec stepZ r (k := fun r => ∃ g a ip port s f, r = [.bool g, .bool a, .int .u32 ip, .int .u16 port, .str s, .int .u8 f]) (fun g a ip port s f => ⟨g, a, ip, port, s, f, rfl⟩) h

theorem wrap_succ {k n : Nat} (h : k < n) (hn : n ≤ 9223372036854775807) : IntKind.i64.wrap ((k : Int) + 1) = ((k + 1 : Nat) : Int) := by
  rw [wrap_of (by simp [IntKind.min, IntKind.max, IntKind.signed, IntKind.bits]; omega)]; rfl

theorem heavy_spec {h : Hp} {a : Option (Nat × Nat)} {n : Nat} {f : Bool} {rows : List (List V)} (ha : RoSlc h a n rows 6) (hr : ∀ r ∈ rows, shpBs stepZ r = true) :
    XCalls Try.prog 20 [.slc a n f] h fun v h' => h' = h ∧ ∃ b, v = .bool b ∧ (b = false → n ≤ 250) := by
  apply x20
  unfold X20
  refine ⟨fun vs h' => match vs with
    | [.int _ x, .int _ i] => h' = h ∧ ∃ k : Nat, i = k ∧ k ≤ 500 ∧ k ≤ n
    | _ => False, fun vs _ => match vs with
    | [_, .int _ i] => 500 - i.toNat
    | _ => 0, ⟨rfl, rfl, 0, rfl, by omega, by omega⟩, ?_⟩
  rintro bs x i h1 ⟨rfl, k, rfl, hk, hkn⟩
  have fin : (bif ltI 250 (↑n) then (h1 = h1 ∧ ∃ b, V.bool true = .bool b ∧ (b = false → n ≤ 250)) else (h1 = h1 ∧ ∃ b, V.bool (ltI 8192 x) = .bool b ∧ (b = false → n ≤ 250))) := by
    cases hc : ltI 250 (↑n) with
    | true => exact ⟨rfl, true, rfl, fun h => by cases h⟩
    | false => rw [ltI_eq, decide_eq_false_iff_not] at hc; exact ⟨rfl, _, rfl, fun _ => by omega⟩
  cases hi : ltI (↑k) (↑n) with
  | false => exact fin
  | true =>
    cases hj : ltI (↑k) 500 with
    | false => exact fin
    | true =>
      rw [ltI_eq, decide_eq_true_eq] at hi hj
      obtain ⟨q, r, rfl, hrow, hld, _⟩ := ha.ld (Hp.keeps.refl h1) (k := k) (by omega) (fun r h => shpBs_length (hr r h))
      obtain ⟨g, a', ip, port, s, f', rfl⟩ := step_form (hr r (List.mem_of_getElem? hrow))
      have hw1 : IntKind.i64.wrap ((k : Int) + 1) = ((k + 1 : Nat) : Int) := wrap_succ (n := 500) (by omega) (by omega)
      refine ⟨⟨by omega, hi⟩, s, hld 4 (by omega), rfl, ⟨rfl, k + 1, hw1, by omega, by omega⟩, ?_⟩
      show 500 - Int.toNat (IntKind.i64.wrap ((k : Int) + 1)) < 500 - Int.toNat (k : Int)
      rw [hw1]; simp only [Int.toNat_natCast]; omega

def mlen : List V → Int
  | [_, _, .str s] => s.length
  | _ => 0

def tot : List (List V) → Int
  | [] => 0
  | m :: l => mlen m + tot l

theorem tot_append (l : List (List V)) (m : List V) : tot (l ++ [m]) = tot l + mlen m := by
  induction l with
  | nil => simp [tot]
  | cons x l ih => simp [tot, ih]; omega

theorem tot_nonneg (l : List (List V)) : 0 ≤ tot l := by
  induction l with
  | nil => simp [tot]
  | cons x l ih =>
    have : 0 ≤ mlen x := by unfold mlen; split <;> omega
    simp [tot]; omega

def Inv (h : Hp) (b : Nat) (N R : Int) (k : Nat) (a : Option (Nat × Nat)) (n : Nat) (at' : Nat) (h1 : Hp) : Prop :=
  ∃ L lost fails F G, (∀ r ∈ L, ∃ ip port s, r = mailRow ip port s) ∧ at' ≤ L.length ∧ L.length ≤ k ∧ BoxR b lost N R (tot (L.drop at')) fails (L.drop at') h1 F ∧ Own 3 a n L h1 G ∧ (∀ j ∈ F, j ∉ G) ∧
    tot (L.drop at') ≤ R ∧ ((L.length - at' : Nat) : Int) ≤ N ∧ h.keeps h1 ∧ h1.wf

def LI (h : Hp) (b : Nat) (N R : Int) (n : Nat) : List V → Hp → Prop
  | [.slc a2 n2 _, .int _ at', .int _ i], h' => ∃ k m : Nat, i = k ∧ at' = m ∧ k ≤ n ∧ Inv h b N R k a2 n2 m h'
  | _, _ => False

theorem LI.mk {h : Hp} {b : Nat} {N R : Int} {n : Nat} {a2 : Option (Nat × Nat)} {n2 : Nat} {f : Bool} {κ κ' : IntKind} {x y : Int} {h' : Hp} (k m : Nat) (hy : y = k) (hx : x = m) (hk : k ≤ n) (hi : Inv h b N R k a2 n2 m h') :
    LI h b N R n [.slc a2 n2 f, .int κ x, .int κ' y] h' := ⟨k, m, hy, hx, hk, hi⟩

def LQ (h : Hp) (b : Nat) (N R : Int) (k m : Nat) : List V → Hp → Prop
  | [.slc a2 n2 _], h' => Inv h b N R (k + 1) a2 n2 m h'
  | _, _ => False

theorem law_calls (most : Int) (w0 : (Lit.int .u8 most).wf = true) (bytes : Int) (w1 : (Lit.int .u16 bytes).wf = true) {h : Hp} {a : Option (Nat × Nat)} {n : Nat} {f : Bool} {rows : List (List V)} (ha : RoSlc h a n rows 6)
    (hr0 : ∀ r ∈ rows, shpBs stepZ r = true ∧ ∀ v ∈ r, v.fits) : XCalls Try.prog 5 [.int .u8 most, .int .u16 bytes, .slc a n f] h fun v _ => v = .bool true := by
  have hr : ∀ r ∈ rows, shpBs stepZ r = true := fun r h => (hr0 r h).1
  have hz : ∀ r ∈ rows, r.length = 6 := fun r h => shpBs_length (hr r h)
  simp [Lit.wf, IntKind.min, IntKind.max, IntKind.signed, IntKind.bits] at w0 w1
  refine XCalls.ofWf fun hw => ?_
  apply x5
  unfold X5
  refine (heavy_spec ha hr).mono ?_
  rintro _ h1 ⟨rfl, hv, rfl, hn⟩
  refine ⟨hv, rfl, ?_⟩
  cases hv with
  | true => exact works_spec fun _ => ⟨true, rfl, rfl⟩
  | false =>
    have hn := hn rfl
    have e1 : IntKind.i64.wrap most = most := wrap_of (by simp [IntKind.min, IntKind.max, IntKind.signed, IntKind.bits]; omega)
    have e2 : most.tmod 256 = most := Int.tmod_eq_of_lt (by omega) (by omega)
    have e3 : IntKind.i64.wrap (most + 1) = most + 1 := wrap_of (by simp [IntKind.min, IntKind.max, IntKind.signed, IntKind.bits]; omega)
    have e4 : IntKind.i64.wrap bytes = bytes := wrap_of (by simp [IntKind.min, IntKind.max, IntKind.signed, IntKind.bits]; omega)
    have e5 : IntKind.i64.wrap (bytes + 1) = bytes + 1 := wrap_of (by simp [IntKind.min, IntKind.max, IntKind.signed, IntKind.bits]; omega)
    simp only [cond_false, e1, e2, e3, e4, e5]
    refine ⟨by omega, (newBox_spec (by omega) (by omega)).mono' ?_⟩
    rintro _ h2 hle hw2 ⟨rfl, hbox, u2⟩
    refine ⟨_, _, rfl, ?_⟩
    simp only [bne_self_eq_false, cond_false, Option.isNone_some]
    refine ⟨LI h1 h1.next (most + 1) (bytes + 1) n, fun vs _ => match vs with
      | [_, _, .int _ i] => n - i.toNat
      | _ => 0, ⟨trivial, 0, 0, rfl, rfl, Nat.zero_le _, [], 0, 0, [h1.next], [], by simp, Nat.zero_le _, Nat.zero_le _, hbox, Own.nil 3 _, by simp, by simp [tot]; omega, by simp; omega, ?_, hw2⟩, ?_⟩
    · intro q c e hq; rw [u2.same q (hw.lt hq) (by simp)]; exact hq
    rintro bs a2 n2 f2 at' i h3 ⟨k, m, rfl, rfl, hkn, L, lost, fails, F, G, hL, hm, hLk, hbx, hown, hdis, htot, hcnt, hkeep, hw3⟩
    have hLn : L.length = n2 := hown.1
    cases hi : ltI (↑k) (↑n) with
    | false => exact works_spec fun _ => ⟨true, rfl, rfl⟩
    | true =>
      rw [ltI_eq, decide_eq_true_eq] at hi
      have hkn' : k < n := by omega
      obtain ⟨q, r, rfl, hrow, hld, _⟩ := ha.ld hkeep hkn' hz
      obtain ⟨g, a', ip, port, s, f', rfl⟩ := step_form (hr r (List.mem_of_getElem? hrow))
      have hw1 : IntKind.i64.wrap ((k : Int) + 1) = ((k + 1 : Nat) : Int) := wrap_succ (n := n) (by omega) (by omega)
      have hmw : IntKind.i64.wrap ((m : Int) + 1) = ((m + 1 : Nat) : Int) := wrap_succ (n := 1000) (by omega) (by omega)
      have hmeas : n - Int.toNat (IntKind.i64.wrap ((k : Int) + 1)) < n - Int.toNat (k : Int) := by rw [hw1]; simp only [Int.toNat_natCast]; omega
      refine ⟨⟨by omega, hi⟩, g, hld 0 (by omega), ?_⟩
      have hLd : ∀ r ∈ L.drop m, ∃ ip port s, r = mailRow ip port s := fun r h => hL r (List.mem_of_mem_drop h)
      cases g with
      | true =>
        simp only [cond_true]
        refine (get_spec hw3 hbx hLd).mono' ?_
        rintro v h4 hle4 hw4 ⟨F', u4, hres⟩
        obtain ⟨hown4, hdis4⟩ := Upd.frame (Own.rep 3 a2 n2 L) hw3 hown u4 hdis
        have hkeep4 := Upd.keeps (BoxR.rep _ _ _ _ _ _ _) hw3 hbx u4 hkeep
        have hstay : ∀ x, ∀ j, j < h4.next → ((h4.alloc (.row [.int .u32 0, .int .u16 0, .str []] 1 false)).set h4.next x).get j = h4.get j := fun x j hj => by
          simp only [Hp.st, Hp.ld, Hp.lda, Hp.get_set, Hp.get_alloc, Hp.get_kill, Hp.next_alloc, Hp.next_set, Hp.next_kill, splice, ble_eq', if_true, if_false, ite_true, ite_false, cond_true, cond_false, decide_true, decide_false, List.length_cons, List.length_nil, List.take_zero, List.take_succ_cons, List.nil_append, List.cons_append, List.append_nil, List.drop_succ_cons, List.drop_zero, List.drop_nil, List.getElem?_cons_succ, List.getElem?_cons_zero, Nat.reduceAdd, Nat.reduceLeDiff, Nat.reduceEqDiff, Nat.zero_add, Nat.add_zero, Nat.le_refl, Nat.zero_le, Nat.succ_ne_self, Nat.mul_one, Int.toNat_natCast, Option.some.injEq, Option.isNone_some, Option.isNone_none, V.int.injEq, V.str.injEq, V.bool.injEq, V.ptr.injEq, V.slc.injEq, V.map.injEq, V.agg.injEq, V.tup.injEq, List.cons.injEq, Prod.mk.injEq, onS, true_and, and_true, and_assoc, exists_and_left, exists_eq_left', forall_eq, heq_eq_eq, reduceCtorEq, Bool.not_true, Bool.not_false, eq_self, not_false_eq_true, Nat.left_eq_add, Nat.add_eq_left, Nat.add_left_cancel_iff, Nat.add_right_cancel_iff, Nat.reduceEqDiff, Nat.one_ne_zero, show j ≠ h4.next by omega]
        cases hd : L.drop m with
        | nil =>
          rw [hd] at hres
          obtain ⟨rfl, hbx4⟩ := hres
          have hmL : m = L.length := by have := congrArg List.length hd; simp at this; omega
          have hlt : ltI (↑m) (↑n2) = false := by rw [ltI_eq, decide_eq_false_iff_not]; omega
          refine ⟨0, 0, [], false, rfl, ?_⟩
          rintro h5 rfl
          simp only [Hp.st, Hp.ld, Hp.lda, Hp.get_set, Hp.get_alloc, Hp.get_kill, Hp.next_alloc, Hp.next_set, Hp.next_kill, splice, ble_eq', if_true, if_false, ite_true, ite_false, cond_true, cond_false, decide_true, decide_false, List.length_cons, List.length_nil, List.take_zero, List.take_succ_cons, List.nil_append, List.cons_append, List.append_nil, List.drop_succ_cons, List.drop_zero, List.drop_nil, List.getElem?_cons_succ, List.getElem?_cons_zero, Nat.reduceAdd, Nat.reduceLeDiff, Nat.reduceEqDiff, Nat.zero_add, Nat.add_zero, Nat.le_refl, Nat.zero_le, Nat.succ_ne_self, Nat.mul_one, Int.toNat_natCast, Option.some.injEq, Option.isNone_some, Option.isNone_none, V.int.injEq, V.str.injEq, V.bool.injEq, V.ptr.injEq, V.slc.injEq, V.map.injEq, V.agg.injEq, V.tup.injEq, List.cons.injEq, Prod.mk.injEq, onS, true_and, and_true, and_assoc, exists_and_left, exists_eq_left', forall_eq, heq_eq_eq, reduceCtorEq, Bool.not_true, Bool.not_false, eq_self, not_false_eq_true, Nat.left_eq_add, Nat.add_eq_left, Nat.add_left_cancel_iff, Nat.add_right_cancel_iff, Nat.reduceEqDiff, Nat.one_ne_zero, hlt, beq_self_eq_true, mailRow]
          refine ⟨?_, hmeas⟩
          refine LI.mk (k + 1) m hw1 rfl (by omega) ⟨L, lost, fails, F', G, hL, hm, by omega, ?_, ?_, hdis4, htot, hcnt, ?_, ?_⟩
          · rw [hd]; exact (BoxR.rep _ _ _ _ _ _ _).stay hw4 hbx4 (hstay _)
          · exact (Own.rep 3 a2 n2 L).stay hw4 hown4 (hstay _)
          · exact hkeep4.stay hw4 (hstay _)
          · exact hw4.alloc.set (Nat.lt_succ_self _)
        | cons x L' =>
          rw [hd] at hres
          obtain ⟨ip, port, s, rfl, rfl, hbx4⟩ := hres
          have hmL : m < L.length := by have := congrArg List.length hd; simp at this; omega
          have hlt : ltI (↑m) (↑n2) = true := by rw [ltI_eq, decide_eq_true_eq]; omega
          have hLm : L[m]? = some (mailRow ip port s) := by
            have := List.getElem?_drop (xs := L) (i := m) (j := 0)
            rw [hd] at this; simpa using this.symm
          have hd' : L.drop (m + 1) = L' := by rw [← List.drop_drop, hd]; rfl
          have hown6 := fun y => (Own.rep 3 a2 n2 L).stay hw4 hown4 (hstay y)
          have htl : tot (L.drop m) = s.length + tot L' := by rw [hd]; rfl
          have htn := tot_nonneg L'
          have hbw : IntKind.i64.wrap (tot (L.drop m) - s.length) = tot L' := by
            rw [wrap_of (by simp [IntKind.min, IntKind.max, IntKind.signed, IntKind.bits]; omega)]; omega
          have htl' := htl
          rw [hd] at htl hbw
          rw [hbw] at hbx4
          refine ⟨ip, port, s, true, rfl, ?_⟩
          rintro h5 rfl
          simp only [Hp.st, Hp.ld, Hp.lda, Hp.get_set, Hp.get_alloc, Hp.get_kill, Hp.next_alloc, Hp.next_set, Hp.next_kill, splice, ble_eq', if_true, if_false, ite_true, ite_false, cond_true, cond_false, decide_true, decide_false, List.length_cons, List.length_nil, List.take_zero, List.take_succ_cons, List.nil_append, List.cons_append, List.append_nil, List.drop_succ_cons, List.drop_zero, List.drop_nil, List.getElem?_cons_succ, List.getElem?_cons_zero, Nat.reduceAdd, Nat.reduceLeDiff, Nat.reduceEqDiff, Nat.zero_add, Nat.add_zero, Nat.le_refl, Nat.zero_le, Nat.succ_ne_self, Nat.mul_one, Int.toNat_natCast, Option.some.injEq, Option.isNone_some, Option.isNone_none, V.int.injEq, V.str.injEq, V.bool.injEq, V.ptr.injEq, V.slc.injEq, V.map.injEq, V.agg.injEq, V.tup.injEq, List.cons.injEq, Prod.mk.injEq, onS, true_and, and_true, and_assoc, exists_and_left, exists_eq_left', forall_eq, heq_eq_eq, reduceCtorEq, Bool.not_true, Bool.not_false, eq_self, not_false_eq_true, Nat.left_eq_add, Nat.add_eq_left, Nat.add_left_cancel_iff, Nat.add_right_cancel_iff, Nat.reduceEqDiff, Nat.one_ne_zero, hlt, beq_self_eq_true]
          obtain ⟨q2, o2, r2, rfl, hr2, hrl2, hld2, hlda2⟩ := (hown6 (.row [.int .u32 ip, .int .u16 port, .str s] 1 false)).ld (k := m) (by omega)
          rw [hLm] at hr2
          cases hr2
          refine ⟨by omega, by omega, ip, port, s, ?_, ?_⟩
          · have := hlda2; simp only [Hp.lda] at this; simp only [Hp.st, Hp.ld, Hp.lda, Hp.get_set, Hp.get_alloc, Hp.get_kill, Hp.next_alloc, Hp.next_set, Hp.next_kill, splice, ble_eq', if_true, if_false, ite_true, ite_false, cond_true, cond_false, decide_true, decide_false, List.length_cons, List.length_nil, List.take_zero, List.take_succ_cons, List.nil_append, List.cons_append, List.append_nil, List.drop_succ_cons, List.drop_zero, List.drop_nil, List.getElem?_cons_succ, List.getElem?_cons_zero, Nat.reduceAdd, Nat.reduceLeDiff, Nat.reduceEqDiff, Nat.zero_add, Nat.add_zero, Nat.le_refl, Nat.zero_le, Nat.succ_ne_self, Nat.mul_one, Int.toNat_natCast, Option.some.injEq, Option.isNone_some, Option.isNone_none, V.int.injEq, V.str.injEq, V.bool.injEq, V.ptr.injEq, V.slc.injEq, V.map.injEq, V.agg.injEq, V.tup.injEq, List.cons.injEq, Prod.mk.injEq, onS, true_and, and_true, and_assoc, exists_and_left, exists_eq_left', forall_eq, heq_eq_eq, reduceCtorEq, Bool.not_true, Bool.not_false, eq_self, not_false_eq_true, Nat.left_eq_add, Nat.add_eq_left, Nat.add_left_cancel_iff, Nat.add_right_cancel_iff, Nat.reduceEqDiff, Nat.one_ne_zero] at this ⊢; exact this
          simp only [Hp.st, Hp.ld, Hp.lda, Hp.get_set, Hp.get_alloc, Hp.get_kill, Hp.next_alloc, Hp.next_set, Hp.next_kill, splice, ble_eq', if_true, if_false, ite_true, ite_false, cond_true, cond_false, decide_true, decide_false, List.length_cons, List.length_nil, List.take_zero, List.take_succ_cons, List.nil_append, List.cons_append, List.append_nil, List.drop_succ_cons, List.drop_zero, List.drop_nil, List.getElem?_cons_succ, List.getElem?_cons_zero, Nat.reduceAdd, Nat.reduceLeDiff, Nat.reduceEqDiff, Nat.zero_add, Nat.add_zero, Nat.le_refl, Nat.zero_le, Nat.succ_ne_self, Nat.mul_one, Int.toNat_natCast, Option.some.injEq, Option.isNone_some, Option.isNone_none, V.int.injEq, V.str.injEq, V.bool.injEq, V.ptr.injEq, V.slc.injEq, V.map.injEq, V.agg.injEq, V.tup.injEq, List.cons.injEq, Prod.mk.injEq, onS, true_and, and_true, and_assoc, exists_and_left, exists_eq_left', forall_eq, heq_eq_eq, reduceCtorEq, Bool.not_true, Bool.not_false, eq_self, not_false_eq_true, Nat.left_eq_add, Nat.add_eq_left, Nat.add_left_cancel_iff, Nat.add_right_cancel_iff, Nat.reduceEqDiff, Nat.one_ne_zero, beq_self_eq_true, Bool.and_self]
          refine ⟨?_, hmeas⟩
          refine LI.mk (k + 1) (m + 1) hw1 hmw (by omega) ⟨L, lost, fails, F', G, hL, by omega, by omega, ?_, hown6 _, hdis4, by rw [hd']; omega, by omega, ?_, ?_⟩
          · rw [hd']; exact (BoxR.rep _ _ _ _ _ _ _).stay hw4 hbx4 (hstay _)
          · exact hkeep4.stay hw4 (hstay _)
          · exact hw4.alloc.set (Nat.lt_succ_self _)
      | false =>
        simp only [cond_false]
        refine ⟨LQ h1 h1.next (most + 1) (bytes + 1) k m, ?_, ?_⟩
        · have hsub := ha.sub hkeep hkn' hz hrow rfl (o := 2) (l := 3) (by omega)
          have hs : s.length ≤ 9223372036854775807 := by
            have := (hr0 _ (List.mem_of_getElem? hrow)).2 (.str s) (by simp)
            simpa [V.fits, maxLen] using this
          refine ⟨⟨by omega, hi⟩, ip, port, s, hsub, ?_⟩
          have hdl : ((L.drop m).length : Int) = ((L.length - m : Nat) : Int) := by simp
          have htn := tot_nonneg (L.drop m)
          refine (put_spec hw3 hbx (by omega) ⟨htn, htot, by omega⟩ hs).mono' ?_
          rintro v h7 hle7 hw7 ⟨F', u7, hres⟩
          obtain ⟨hown7, hdis7⟩ := Upd.frame (Own.rep 3 a2 n2 L) hw3 hown u7 hdis
          have hkeep7 := Upd.keeps (BoxR.rep _ _ _ _ _ _ _) hw3 hbx u7 hkeep
          split at hres
          · rename_i hc
            obtain ⟨rfl, hbx7⟩ := hres
            refine ⟨0, rfl, ?_⟩
            have hsub7 := ha.sub hkeep7 hkn' hz hrow rfl (o := 2) (l := 3) (by omega)
            simp only [beq_self_eq_true, cond_true]
            refine ⟨⟨by omega, hi⟩, ip, port, s, hsub7, ?_⟩
            rintro h8 rfl
            obtain ⟨ti, ht, hd⟩ := t59
            obtain ⟨ei, he, es, eb, ez⟩ := t61
            have hstay : ∀ x, ∀ j, j < h7.next → (h7.alloc x).get j = h7.get j := fun x j hj => Hp.get_alloc_ne (by omega)
            obtain ⟨h9, hx, ho9, u9, hw9⟩ := ((Own.rep 3 a2 n2 L).stay hw7 hown7 (hstay (.row [.int .u32 ip, .int .u16 port, .str s] 3 false))).app (f := f2) (u := 59) (y := .slc (some (h7.next, 0)) 1 true) (news := [mailRow ip port s]) hw7.alloc ht hd ht (by intro k; rw [hd]; exact fun h => by cases h) he es (by omega) ez
              (xnews_one (by simp only [Hp.st, Hp.ld, Hp.lda, Hp.get_set, Hp.get_alloc, Hp.get_kill, Hp.next_alloc, Hp.next_set, Hp.next_kill, splice, ble_eq', if_true, if_false, ite_true, ite_false, cond_true, cond_false, decide_true, decide_false, List.length_cons, List.length_nil, List.take_zero, List.take_succ_cons, List.nil_append, List.cons_append, List.append_nil, List.drop_succ_cons, List.drop_zero, List.drop_nil, List.getElem?_cons_succ, List.getElem?_cons_zero, Nat.reduceAdd, Nat.reduceLeDiff, Nat.reduceEqDiff, Nat.zero_add, Nat.add_zero, Nat.le_refl, Nat.zero_le, Nat.succ_ne_self, Nat.mul_one, Int.toNat_natCast, Option.some.injEq, Option.isNone_some, Option.isNone_none, V.int.injEq, V.str.injEq, V.bool.injEq, V.ptr.injEq, V.slc.injEq, V.map.injEq, V.agg.injEq, V.tup.injEq, List.cons.injEq, Prod.mk.injEq, onS, true_and, and_true, and_assoc, exists_and_left, exists_eq_left', forall_eq, heq_eq_eq, reduceCtorEq, Bool.not_true, Bool.not_false, eq_self, not_false_eq_true, Nat.left_eq_add, Nat.add_eq_left, Nat.add_left_cancel_iff, Nat.add_right_cancel_iff, Nat.reduceEqDiff, Nat.one_ne_zero, mailRow]) rfl) (by simp [mailRow]) (by simp) (by rw [eb]; simp; omega) (by simp; omega)
            refine ⟨_, _, _, h9, hx, trivial, ?_⟩
            have hF7 := (BoxR.rep h1.next lost (most + 1) (bytes + 1) (tot (L.drop m) + s.length) fails (L.drop m ++ [mailRow ip port s])).stay hw7 hbx7 (hstay (.row [.int .u32 ip, .int .u16 port, .str s] 3 false))
            obtain ⟨hbx9, hdis9⟩ := Upd.frame (BoxR.rep _ _ _ _ _ _ _) hw7.alloc hF7 u9 (fun j hj hF => hdis7 j hF hj)
            have hda : (L ++ [mailRow ip port s]).drop m = L.drop m ++ [mailRow ip port s] := List.drop_append_of_le_length hm
            have hta : tot ((L ++ [mailRow ip port s]).drop m) = tot (L.drop m) + s.length := by rw [hda, tot_append]; rfl
            refine ⟨L ++ [mailRow ip port s], lost, fails, F', [(h7.alloc (.row [.int .u32 ip, .int .u16 port, .str s] 3 false)).next], ?_, by simp; omega, by simp; omega, ?_, by simpa using ho9, fun j hj hG => hdis9 j hG hj, by rw [hta]; omega, by simp; omega, ?_, hw9⟩
            · intro r hr'
              rcases List.mem_append.1 hr' with h | h
              · exact hL r h
              · rw [List.mem_singleton] at h; exact ⟨ip, port, s, h⟩
            · rw [hta, hda]; exact hbx9
            · exact Upd.keeps (Own.rep 3 a2 n2 L) hw7.alloc ((Own.rep 3 a2 n2 L).stay hw7 hown7 (hstay _)) u9 (hkeep7.stay hw7 (hstay _))
          · rename_i hc
            obtain ⟨rfl, hbx7⟩ := hres
            refine ⟨6, rfl, ?_⟩
            simp only [show ((6 : Int) == 0) = false from rfl, cond_false]
            exact ⟨trivial, L, _, fails, F', G, hL, hm, by omega, hbx7, hown7, hdis7, htot, hcnt, hkeep7, hw7⟩
        · rintro bs2 a3 n3 f3 h8 ⟨L2, lost2, fails2, F2, G2, hL2, hm2, hLk2, hbx2, hown2, hdis2, htot2, hcnt2, hkeep2, hw2'⟩
          have hn3 : L2.length = n3 := hown2.1
          refine (len_spec hbx2).mono ?_
          rintro _ h10 ⟨rfl, rfl⟩
          refine ⟨_, _, rfl, ?_⟩
          have c1 : ltI (most + 1) (↑(L2.drop m).length) = false := by rw [ltI_eq, decide_eq_false_iff_not]; simp; omega
          have c2 : ltI (bytes + 1) (tot (L2.drop m)) = false := by rw [ltI_eq, decide_eq_false_iff_not]; omega
          have c3 : IntKind.i64.wrap ((n3 : Int) - (m : Int)) = ((L2.drop m).length : Int) := by
            rw [wrap_of (by simp [IntKind.min, IntKind.max, IntKind.signed, IntKind.bits]; omega)]; simp; omega
          simp only [c1, c2, c3, cond_false, bne_self_eq_false]
          exact ⟨trivial, LI.mk (k + 1) m hw1 rfl (by omega) ⟨L2, lost2, fails2, F2, G2, hL2, hm2, hLk2, hbx2, hown2, hdis2, htot2, hcnt2, hkeep2, hw2'⟩, hmeas⟩
end Go.Vex.BoxOrder

namespace Go.Proofs.Ytappaengiioblaa.boxOrder
open Go.ChangeShapes Go.WideShapes Go.ChangeAt Go.RowKit Go.Vex Go.Vex.BoxOrder
open Go.ChangeMaps (open_string shut_string)

theorem own : ownKnob Try.prog.godebug = none := by kernel_rfl

set_option maxRecDepth 100000 in
theorem lifted (os : Os) (started : os.Started) (H : Type) (enc : TypeId × Value → H) :
    ReturnsInHanded {} Try.checked os 5 .any (Rows.boxOrderSpec.pre6 enc Try.prog Try.f5 Rows.boxOrderRow.domain false) (Rows.boxOrderSpec.post enc Try.prog Try.f5 false true false false) := by
  refine returnsInHanded_of_change (C := Try.checked) own started (by kernel_rfl) Try.func5
    (ChangeSpec.witness6 (enc := enc) (C := Try.checked) false ⟨#[], #[.int .u8 0, .int .u16 0, .slice none 0 0], []⟩ 8 (by kernel_rfl) (by kernel_rfl) (by kernel_rfl) (by kernel_rfl)) ?_
  intro W base args ds gs before hval0 hW hcnd _
  have hval : ∀ (j : Nat) t v, Try.f5.params[j]? = some t → args[j]? = some v → Value.okWide Try.prog W .any base t v := hval0
  have hW' := hW
  obtain ⟨p, q, hA0, hV, rfl, hfz, hnd⟩ := hW
  have hA : DataW.TrodAll enc Try.prog W 0 (fun _ => true) true Try.f5.params.toList args.toList ds p := hA0
  rw [Try.params5] at hA hval
  obtain ⟨v0, vs0, d0, ds0, p0, q0, hargs, rfl, rfl, h0, r0⟩ := trodAll_cons hA
  obtain ⟨v1, vs1, d1, ds1, p1, q1, rfl, rfl, rfl, h1, r1⟩ := trodAll_cons r0
  obtain ⟨v2, vs2, d2, ds2, p2, q2, rfl, rfl, rfl, h2, r2⟩ := trodAll_cons r1
  obtain ⟨rfl, rfl, rfl⟩ := trodAll_nil r2
  obtain rfl : args = #[v0, v1, v2] := by cases args; simp_all
  obtain ⟨rfl, rfl⟩ := trodVars_none hV
  obtain ⟨a0, rfl, rfl, rfl, w0⟩ := open_int Try.underlying5 (hval 0 5 v0 rfl rfl) h0
  obtain ⟨a1, rfl, rfl, rfl, w1⟩ := open_int Try.underlying35 (hval 1 35 v1 rfl rfl) h1
  obtain ⟨ρ2, hp2, b2, n2, f2, rows2, s2, x2, l2, k2, vr2, ro2, sh2⟩ := arg_slice tok (T := Vex.T) (t := 54) (e := 63) (d := 6) (zs := stepZ) rfl rfl rfl rfl rfl (by decide) (hval 2 54 v2 rfl rfl) h2 (fun m hm => hW'.lt m (by simp [hm])) (Sat.none W fun _ => ⟨0, 0, 0, 0⟩)
  refine (XCalls.true' s2 (vs := [.int .u8 a0, .int .u16 a1, .slc b2 n2 f2]) ⟨_, _, rfl, rfl, ⟨_, _, rfl, rfl, ⟨_, _, rfl, vr2, rfl⟩⟩⟩ (law_calls a0 w0 a1 w1 ro2 sh2)).mono fun e W' ⟨he, hb⟩ => ?_
  subst he
  exact ⟨_, rfl, post_true (by kernel_rfl) hW' hb rfl (fun gs hg => by subst hg; rfl) (tb := 4) rfl Try.underlying4 (by decide +kernel)⟩

theorem over : Rows.boxOrderRow.holds Try.pinned (OpenSpec.ofChange Rows.boxOrderSpec) :=
  OpenClaim.holds_of_wide 5 Try.f5 rfl rfl rfl rfl rfl rfl rfl ⟨rfl, rfl, rfl, rfl, rfl⟩ rfl rfl rfl rfl rfl (by kernel_rfl) Try.func5 (by kernel_rfl)
    (of_decide_eq_true (by kernel_rfl)) (by unfold Func.isWrapper; first | (rw [if_pos (by decide +kernel)]; kernel_rfl) | (rw [if_neg (by decide +kernel)]; exact ⟨rfl, rfl⟩))
    (fun os started H enc _ => lifted os started H enc)

theorem proved : Rows.BoxOrderSaid :=
  over
#print axioms proved
end Go.Proofs.Ytappaengiioblaa.boxOrder

