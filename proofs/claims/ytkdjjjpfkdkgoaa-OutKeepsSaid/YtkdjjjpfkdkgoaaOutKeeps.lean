/-
  OutKeeps of layer 26: whatever the number, the most and the script, the law returns true and leaves the input as it was. No condition.
-/
import Derived.Test.YtkdjjjpfkdkgoaaVexAA
import Derived.Test.YtkdjjjpfkdkgoaaTab26
import Derived.Test.YtkdjjjpfkdkgoaaXa26
import Derived.Test.YtkdjjjpfkdkgoaaCa26
import Derived.Test.YtkdjjjpfkdkgoaaCb26
import Derived.Test.YtkdjjjpfkdkgoaaXb26
import Derived.Test.YtkdjjjpfkdkgoaaRows
import Derived.WalkKit
import Derived.ProofKit
import Derived.OpenShut
import Derived.KernelRfl
set_option linter.unusedVariables false
set_option linter.unusedSimpArgs false
namespace Go.Vex.OutKeeps
open Go.Proofs

set_option maxRecDepth 100000 in
theorem works_ev : (ev Vex.T Vex.F (fun _ => []) 100000).call 10 [] h0 isT = true := by kernel_rfl

theorem works_spec {h : Hp} {K : V → Hp → Prop} (hk : ∀ h', K (.bool true) h') : XCalls Try.prog 10 [] h K :=
  (XCalls.fresh (K := fun v => v = .bool true) rfl (fun v hv => by subst hv; rfl) (XCalls.ev tok fok mixed (fun _ => []) 100000 works_ev fun _ _ hv => isT_spec hv)).mono fun v h' hv => by rw [hv.1]; exact hk h'

def stepZ : List V := [.int .i64 0, .str [], .int .u32 0, .int .i64 0]

theorem step_form {r : List V} (h : shpBs stepZ r = true) : ∃ d s a n, r = [.int .i64 d, .str s, .int .u32 a, .int .i64 n] :=
  allSs_spec stepZ r (k := fun r => ∃ d s a n, r = [.int .i64 d, .str s, .int .u32 a, .int .i64 n]) (fun d s a n => ⟨d, s, a, n, rfl⟩) h

theorem wrap_succ {k n : Nat} (h : k < n) (hn : n ≤ 9223372036854775807) : IntKind.i64.wrap ((k : Int) + 1) = ((k + 1 : Nat) : Int) := by
  rw [wrap_of (by simp [IntKind.min, IntKind.max, IntKind.signed, IntKind.bits]; omega)]; rfl

theorem heavy_spec {h : Hp} {a : Option (Nat × Nat)} {n : Nat} {f : Bool} {rows : List (List V)} (ha : RoSlc h a n rows 4) (hr : ∀ r ∈ rows, shpBs stepZ r = true) :
    XCalls Try.prog 9 [.slc a n f] h fun v h' => h' = h ∧ ∃ b, v = .bool b ∧ (b = false → n ≤ 250) := by
  apply x9
  unfold X9
  refine ⟨fun vs h' => match vs with
    | [.int _ x, .int _ i] => h' = h ∧ ∃ k : Nat, i = k ∧ k ≤ 500 ∧ k ≤ n
    | _ => False, fun vs _ => match vs with
    | [_, .int _ i] => 500 - i.toNat
    | _ => 0, ⟨rfl, rfl, 0, rfl, by omega, by omega⟩, ?_⟩
  rintro bs x i h1 ⟨rfl, k, rfl, hk, hkn⟩
  have fin : (bif ltI 250 (↑n) then (h1 = h1 ∧ ∃ b, V.bool true = .bool b ∧ (b = false → n ≤ 250)) else (h1 = h1 ∧ ∃ b, V.bool (ltI 8192 x) = .bool b ∧ (b = false → n ≤ 250))) := by
    cases hc : ltI 250 (↑n) with
    | true => exact ⟨rfl, true, rfl, fun h => by cases h⟩
    | false => rw [ltI_eq, decide_eq_false_iff_not] at hc; exact ⟨rfl, _, rfl, fun _ => by omega⟩
  cases hi : ltI (↑k) (↑n) with
  | false => exact fin
  | true =>
    cases hj : ltI (↑k) 500 with
    | false => exact fin
    | true =>
      rw [ltI_eq, decide_eq_true_eq] at hi hj
      obtain ⟨q, r, rfl, hrow, hld, _⟩ := ha.ld (Hp.keeps.refl h1) (k := k) (by omega) (fun r h => shpBs_length (hr r h))
      obtain ⟨d, s, a', n', rfl⟩ := step_form (hr r (List.mem_of_getElem? hrow))
      have hw1 : IntKind.i64.wrap ((k : Int) + 1) = ((k + 1 : Nat) : Int) := wrap_succ (n := 500) (by omega) (by omega)
      refine ⟨⟨by omega, hi⟩, s, hld 1 (by omega), rfl, ⟨rfl, k + 1, hw1, by omega, by omega⟩, ?_⟩
      show 500 - Int.toNat (IntKind.i64.wrap ((k : Int) + 1)) < 500 - Int.toNat (k : Int)
      rw [hw1]; simp only [Int.toNat_natCast]; omega

theorem u32w (x : Int) : IntKind.u32.wrap x = x % 4294967296 := by simp [IntKind.wrap, IntKind.bits, IntKind.signed]

/-- so much was written, acknowledged, sent -/
structure OI (h0 : Hp) (o : Nat) (from' most : Int) (d t : Nat) (S : List UInt8) (F : List Nat) (h : Hp) : Prop where
  out : OutR o (IntKind.u32.wrap (from' + d)) (t - d) most (S.drop d) h F
  le : d ≤ t ∧ t ≤ S.length
  most : (S.length : Int) - d ≤ most
  keeps : h0.keeps h
  wf : h.wf

theorem OI.stay {h0 h h' : Hp} {o : Nat} {from' most : Int} {d t : Nat} {S : List UInt8} {F : List Nat} (i : OI h0 o from' most d t S F h) (hs : ∀ j, j < h.next → h'.get j = h.get j) (hw : h'.wf) : OI h0 o from' most d t S F h' :=
  ⟨(OutR.rep _ _ _ _ _).stay i.wf i.out hs, i.le, i.most, i.keeps.stay i.wf hs, hw⟩

def LI (h0 : Hp) (o : Nat) (from' most : Int) (n : Nat) : List V → Hp → Prop
  | [.str S, .int _ g, .int _ s, .int _ i], h' => ∃ k d t : Nat, i = k ∧ g = d ∧ s = t ∧ k ≤ n ∧ S.length ≤ k * 16384 ∧ ∃ F, OI h0 o from' most d t S F h'
  | _, _ => False

def LQ (h0 : Hp) (o : Nat) (from' most : Int) (k : Nat) : List V → Hp → Prop
  | [.int _ g, .str S, .int _ s], h' => ∃ d t : Nat, g = d ∧ s = t ∧ S.length ≤ (k + 1) * 16384 ∧ ∃ F, OI h0 o from' most d t S F h'
  | _, _ => False

theorem far_add (from' : Int) (d : Nat) (x : Int) (hx : 0 ≤ x ∧ x < 4294967296) : far (IntKind.u32.wrap (from' + d)) (IntKind.u32.wrap (IntKind.u32.wrap (from' + d) + x)) = x := by
  unfold far
  rw [u32w, u32w, u32w]
  omega

theorem law_calls (from' : Int) (w0 : (Lit.int .u32 from').wf = true) (most : Int) (w1 : (Lit.int .u16 most).wf = true) {h : Hp} {a : Option (Nat × Nat)} {n : Nat} {f : Bool} {rows : List (List V)} (ha : RoSlc h a n rows 4)
    (hr0 : ∀ r ∈ rows, shpBs stepZ r = true ∧ ∀ v ∈ r, v.fits) (hbz : n * Try.prog.bytesOf 34 ≤ reachBytes) : XCalls Try.prog 4 [.int .u32 from', .int .u16 most, .slc a n f] h fun v _ => v = .bool true := by
  have hr : ∀ r ∈ rows, shpBs stepZ r = true := fun r h => (hr0 r h).1
  have hz : ∀ r ∈ rows, r.length = 4 := fun r h => shpBs_length (hr r h)
  simp [Lit.wf, IntKind.min, IntKind.max, IntKind.signed, IntKind.bits] at w0 w1
  refine XCalls.ofWf fun hw => ?_
  apply x4
  unfold X4
  refine (heavy_spec ha hr).mono ?_
  rintro _ h1 ⟨rfl, hv, rfl, hn⟩
  refine ⟨hv, rfl, ?_⟩
  cases hv with
  | true => exact works_spec fun _ => ⟨true, rfl, rfl⟩
  | false =>
    have hn := hn rfl
    simp only [cond_false]
    refine ⟨by decide, ?_⟩
    have hm0 : IntKind.i64.wrap most = most := wrap_of (by simp [IntKind.min, IntKind.max, IntKind.signed, IntKind.bits]; omega)
    obtain ⟨m, hm, hmb⟩ : ∃ m : Int, IntKind.i64.wrap ((IntKind.i64.wrap most).tmod 16384 + 1) = m ∧ 1 ≤ m ∧ m ≤ 16384 := by
      rw [hm0, Int.tmod_eq_emod_of_nonneg (by omega), wrap_of (by simp [IntKind.min, IntKind.max, IntKind.signed, IntKind.bits]; omega)]
      exact ⟨_, rfl, by omega, by omega⟩
    rw [hm]
    refine (newOut_spec (h := h1) hmb).mono' ?_
    rintro _ h2 hle hw2 ⟨rfl, hout, u2⟩
    refine ⟨_, _, rfl, ?_⟩
    simp only [bne_self_eq_false, cond_false, Option.isNone_some]
    have hk2 : h1.keeps h2 := by intro q c e hq; rw [u2.same q (hw.lt hq) (by simp)]; exact hq
    have hfr : IntKind.u32.wrap (from' + (0 : Nat)) = from' := by rw [u32w]; omega
    generalize hoo : h1.next = o at *
    refine ⟨LI h1 o from' m n, fun vs _ => match vs with
      | [_, _, _, .int _ i] => n - i.toNat
      | _ => 0, ⟨(by trivial), 0, 0, 0, rfl, rfl, rfl, Nat.zero_le _, by simp, [o], ?_, by simp, by simp; omega, hk2, hw2⟩, ?_⟩
    · rw [hfr]; exact hout
    rintro bs S g s i g1 ⟨k, d, t, rfl, rfl, rfl, hkn, hSk, F, oi⟩
    cases hi : ltI (↑k) (↑n) with
    | false => exact works_spec fun _ => ⟨true, rfl, rfl⟩
    | true =>
      rw [ltI_eq, decide_eq_true_eq] at hi
      have hkn' : k < n := by omega
      obtain ⟨q, row, rfl, hrow, hld, hlda⟩ := ha.ld oi.keeps hkn' hz
      obtain ⟨dow, s2, at', n', rfl⟩ := step_form (hr row (List.mem_of_getElem? hrow))
      have hfit := (hr0 _ (List.mem_of_getElem? hrow)).2
      have hat := hfit (.int .u32 at') (by simp)
      simp [V.fits, IntKind.min, IntKind.max, IntKind.signed, IntKind.bits] at hat
      have hw1 : IntKind.i64.wrap ((k : Int) + 1) = ((k + 1 : Nat) : Int) := wrap_succ (n := n) (by omega) (by omega)
      refine ⟨⟨by omega, hi⟩, dow, s2, at', n', hlda, ?_⟩
      rintro g9 rfl
      refine ⟨_, Hp.st_of Hp.get_alloc_self (Nat.le_of_ble_eq_true rfl), ?_⟩
      generalize hg10 : (g1.alloc (.row [.int .i64 0, .str [], .int .u32 0, .int .i64 0] 1 false)).set g1.next (.row (splice [.int .i64 0, .str [], .int .u32 0, .int .i64 0] 0 [.int .i64 dow, .str s2, .int .u32 at', .int .i64 n']) 1 false) = g10
      have hs10 : ∀ j, j < g1.next → g10.get j = g1.get j := fun j hj => by rw [← hg10]; simp only [Hp.st, Hp.ld, Hp.lda, Hp.get_set, Hp.get_alloc, Hp.get_kill, Hp.next_alloc, Hp.next_set, Hp.next_kill, splice, ble_eq', if_true, if_false, ite_true, ite_false, cond_true, cond_false, decide_true, decide_false, List.length_cons, List.length_nil, List.take_zero, List.take_succ_cons, List.nil_append, List.cons_append, List.append_nil, List.drop_succ_cons, List.drop_zero, List.drop_nil, List.getElem?_cons_succ, List.getElem?_cons_zero, Nat.reduceAdd, Nat.reduceLeDiff, Nat.reduceEqDiff, Nat.zero_add, Nat.add_zero, Nat.le_refl, Nat.zero_le, Nat.succ_ne_self, Nat.mul_one, Int.toNat_natCast, Option.some.injEq, Option.isNone_some, Option.isNone_none, V.int.injEq, V.str.injEq, V.bool.injEq, V.ptr.injEq, V.slc.injEq, V.map.injEq, V.agg.injEq, V.tup.injEq, List.cons.injEq, Prod.mk.injEq, onS, true_and, and_true, and_assoc, exists_and_left, exists_eq_left', forall_eq, heq_eq_eq, reduceCtorEq, Bool.not_true, Bool.not_false, eq_self, not_false_eq_true, Nat.left_eq_add, Nat.add_eq_left, Nat.add_left_cancel_iff, Nat.add_right_cancel_iff, Nat.reduceEqDiff, Nat.one_ne_zero, show j ≠ g1.next by omega]
      have ht10 : g10.get g1.next = some (.row [.int .i64 dow, .str s2, .int .u32 at', .int .i64 n'] 1 false) := by rw [← hg10]; simp only [Hp.st, Hp.ld, Hp.lda, Hp.get_set, Hp.get_alloc, Hp.get_kill, Hp.next_alloc, Hp.next_set, Hp.next_kill, splice, ble_eq', if_true, if_false, ite_true, ite_false, cond_true, cond_false, decide_true, decide_false, List.length_cons, List.length_nil, List.take_zero, List.take_succ_cons, List.nil_append, List.cons_append, List.append_nil, List.drop_succ_cons, List.drop_zero, List.drop_nil, List.getElem?_cons_succ, List.getElem?_cons_zero, Nat.reduceAdd, Nat.reduceLeDiff, Nat.reduceEqDiff, Nat.zero_add, Nat.add_zero, Nat.le_refl, Nat.zero_le, Nat.succ_ne_self, Nat.mul_one, Int.toNat_natCast, Option.some.injEq, Option.isNone_some, Option.isNone_none, V.int.injEq, V.str.injEq, V.bool.injEq, V.ptr.injEq, V.slc.injEq, V.map.injEq, V.agg.injEq, V.tup.injEq, List.cons.injEq, Prod.mk.injEq, onS, true_and, and_true, and_assoc, exists_and_left, exists_eq_left', forall_eq, heq_eq_eq, reduceCtorEq, Bool.not_true, Bool.not_false, eq_self, not_false_eq_true, Nat.left_eq_add, Nat.add_eq_left, Nat.add_left_cancel_iff, Nat.add_right_cancel_iff, Nat.reduceEqDiff, Nat.one_ne_zero]
      have hw10 : g10.wf := by rw [← hg10]; exact oi.wf.alloc.set (Nat.lt_succ_self _)
      have hn10 : g1.next < g10.next := hw10.lt ht10
      have o10 := oi.stay hs10 hw10
      have hFg : ∀ j ∈ F, j < g1.next := fun j hj => (OutR.rep _ _ _ _ _).lt oi.wf oi.out hj
      clear hg10
      have tmp : ∀ {g' : Hp} {F' : List Nat}, Upd g10 g' F F' → g'.get g1.next = some (.row [.int .i64 dow, .str s2, .int .u32 at', .int .i64 n'] 1 false) := fun u => by
        rw [u.same _ hn10 (fun hF => by have := hFg _ hF; omega)]; exact ht10
      have hdS : (S.drop d).length = S.length - d := List.length_drop
      obtain ⟨hle1, hle2⟩ := o10.le
      have hms := o10.most
      have hSk1 : S.length ≤ (k + 1) * 16384 := Nat.le_trans hSk (Nat.mul_le_mul_right _ (Nat.le_succ k))
      refine ⟨LQ h1 o from' m k, ?_, ?_⟩
      · refine ⟨dow, by rw [Hp.ld_of ht10]; rfl, ?_⟩
        by_cases d0 : dow = 0
        · have c : (dow == 0) = true := by simp [d0]
          simp only [c, cond_true]
          refine ⟨s2, by rw [Hp.ld_of ht10]; rfl, ?_⟩
          refine (write_spec hw10 o10.out ⟨by omega, hmb.2⟩ s2).mono ?_
          rintro _ g11 ⟨rfl, F', o11, u11, w11⟩
          have t11 := tmp u11
          have hk11 := Upd.keeps (OutR.rep _ _ _ _ _) hw10 o10.out u11 o10.keeps
          have ht1 : taken m (S.drop d) s2 ≤ s2.length := by unfold taken; omega
          have ht2 : (taken m (S.drop d) s2 : Int) ≤ m - (S.length - d) := by unfold taken; omega
          generalize taken m (S.drop d) s2 = z at *
          refine ⟨_, rfl, ?_⟩
          have c1 : ltI (↑z) 0 = false := by rw [ltI_eq, decide_eq_false_iff_not]; omega
          have c2 : ltI (↑s2.length) (↑z) = false := by rw [ltI_eq, decide_eq_false_iff_not]; omega
          simp only [c1, cond_false]
          refine ⟨s2, by rw [Hp.ld_of t11]; rfl, ?_⟩
          simp only [c2, cond_false, Int.toNat_natCast, Nat.sub_zero, List.drop_zero]
          have hzl : (s2.take z).length = z := by simp [ht1]
          have hSl : (S ++ s2.take z).length = S.length + z := by rw [List.length_append, hzl]
          refine ⟨s2, by rw [Hp.ld_of t11]; rfl, by omega, ⟨Nat.zero_le _, ht1⟩, by rw [hzl]; omega, (by trivial), d, t, rfl, rfl, by rw [hSl]; omega, F', ?_, ⟨hle1, by rw [hSl]; omega⟩, by rw [hSl]; omega, hk11, w11⟩
          rw [List.drop_append_of_le_length (by omega)]
          exact o11
        · have c : (dow == 0) = false := by simp [d0]
          simp only [c, cond_false]
          by_cases d1 : dow = 1
          · have c : (dow == 1) = true := by simp [d1]
            simp only [c, cond_true]
            refine ⟨at', by rw [Hp.ld_of ht10]; rfl, (una_spec o10.out).mono ?_⟩
            rintro _ g11 ⟨rfl, rfl⟩
            refine ⟨_, rfl, ⟨at', by rw [Hp.ld_of ht10]; rfl, rfl⟩, (by trivial), (by trivial), ?_⟩
            refine (sent_spec hw10 o10.out (by omega) (by omega) _).mono ?_
            rintro _ g12 ⟨rfl, o12, u12, w12⟩
            have t12 := tmp u12
            have hk12 := Upd.keeps (OutR.rep _ _ _ _ _) hw10 o10.out u12 o10.keeps
            unfold sentTo at o12
            rw [far_add from' d at' (by omega), hdS] at *
            refine ⟨_, rfl, ?_⟩
            by_cases hc : at' ≤ (S.length - d : Nat)
            · rw [if_pos hc] at o12 ⊢
              simp only [beq_self_eq_true, cond_true]
              refine ⟨at', by rw [Hp.ld_of t12]; rfl, (by trivial), ?_⟩
              have e1 : IntKind.i64.wrap at' = at' := wrap_of (by simp [IntKind.min, IntKind.max, IntKind.signed, IntKind.bits]; omega)
              have e2 : IntKind.i64.wrap (d + at') = d + at' := wrap_of (by simp [IntKind.min, IntKind.max, IntKind.signed, IntKind.bits]; omega)
              rw [e1, e2]
              by_cases hd : (t : Int) < d + at'
              · have c : ltI (↑t) (↑d + at') = true := by rw [ltI_eq, decide_eq_true_eq]; exact hd
                rw [if_pos (by omega)] at o12
                refine ⟨d, d + at'.toNat, rfl, by rw [c, cond_true]; omega, hSk1, F, ?_, by omega, hms, hk12, w12⟩
                have e : ((d + at'.toNat : Nat) : Int) - d = at' := by omega
                rw [e]; exact o12
              · have c : ltI (↑t) (↑d + at') = false := by rw [ltI_eq, decide_eq_false_iff_not]; exact hd
                rw [if_neg (by omega)] at o12
                exact ⟨d, t, rfl, by rw [c, cond_false], hSk1, F, o12, o10.le, hms, hk12, w12⟩
            · rw [if_neg hc] at o12 ⊢
              have c : ((2 : Int) == 0) = false := rfl
              simp only [c, cond_false]
              exact ⟨(by trivial), d, t, rfl, rfl, hSk1, F, o12, o10.le, hms, hk12, w12⟩
          · have c : (dow == 1) = false := by simp [d1]
            simp only [c, cond_false]
            by_cases d2 : dow = 2
            · have c : (dow == 2) = true := by simp [d2]
              simp only [c, cond_true]
              refine ⟨at', by rw [Hp.ld_of ht10]; rfl, (una_spec o10.out).mono ?_⟩
              rintro _ g11 ⟨rfl, rfl⟩
              refine ⟨_, rfl, ⟨at', by rw [Hp.ld_of ht10]; rfl, rfl⟩, (by trivial), (by trivial), ?_⟩
              refine (ack_spec hw10 o10.out (by omega) (by omega) (by omega) _).mono ?_
              rintro _ g12 ⟨rfl, F', o12, u12, w12⟩
              have t12 := tmp u12
              have hk12 := Upd.keeps (OutR.rep _ _ _ _ _) hw10 o10.out u12 o10.keeps
              have hacks : acks (IntKind.u32.wrap (from' + d)) (t - d) (S.drop d) (IntKind.u32.wrap (IntKind.u32.wrap (from' + d) + at')) = decide (at' ≠ 0 ∧ at' ≤ t - d) := by
                unfold acks
                rw [far_add from' d at' (by omega), hdS]
                congr 1
                apply propext
                omega
              rw [hacks, far_add from' d at' (by omega)] at o12 ⊢
              refine ⟨_, _, rfl, at', by rw [Hp.ld_of t12]; rfl, ?_⟩
              have e1 : IntKind.u64.wrap (IntKind.i64.wrap (t - d)) = t - d := by
                rw [wrap_of (k := .i64) (by simp [IntKind.min, IntKind.max, IntKind.signed, IntKind.bits]; omega)]
                exact wrap_of (by simp [IntKind.min, IntKind.max, IntKind.signed, IntKind.bits]; omega)
              have e2 : IntKind.u64.wrap at' = at' := wrap_of (by simp [IntKind.min, IntKind.max, IntKind.signed, IntKind.bits]; omega)
              have e3 : IntKind.i64.wrap at' = at' := wrap_of (by simp [IntKind.min, IntKind.max, IntKind.signed, IntKind.bits]; omega)
              rw [e1]
              by_cases hc : at' ≠ 0 ∧ at' ≤ t - d
              · have c1 : ltI 0 at' = true := by rw [ltI_eq, decide_eq_true_eq]; omega
                have c2 : ltI (t - d) at' = false := by rw [ltI_eq, decide_eq_false_iff_not]; omega
                have c3 : (at' != at') = false := by simp
                have e4 : IntKind.i64.wrap (d + at') = d + at' := wrap_of (by simp [IntKind.min, IntKind.max, IntKind.signed, IntKind.bits]; omega)
                rw [decide_eq_true hc] at o12 ⊢
                simp only [if_true] at o12 ⊢
                simp only [c1, c2, cond_true, Bool.not_false, beq_self_eq_true, Bool.not_true, cond_false]
                refine ⟨at', by rw [Hp.ld_of t12]; rfl, ?_⟩
                simp only [e2, c2, Bool.not_false, beq_self_eq_true, Bool.not_true, cond_false]
                refine ⟨at', by rw [Hp.ld_of t12]; rfl, ?_⟩
                simp only [e3, c3, cond_false, e4]
                refine ⟨(by trivial), d + at'.toNat, t, by omega, rfl, hSk1, F', ⟨?_, by omega, by omega, hk12, w12⟩⟩
                have e5 : IntKind.u32.wrap (IntKind.u32.wrap (from' + d) + at') = IntKind.u32.wrap (from' + (d + at'.toNat : Nat)) := by
                  rw [u32w, u32w, u32w]; omega
                have e6 : (t : Int) - (d + at'.toNat : Nat) = t - d - at' := by omega
                rw [e6, ← e5, ← List.drop_drop]
                exact o12
              · rw [decide_eq_false hc] at o12 ⊢
                simp only [Bool.false_eq_true, if_false] at o12 ⊢
                have e4 : IntKind.i64.wrap (d + 0) = d := by rw [Int.add_zero]; exact wrap_of (by simp [IntKind.min, IntKind.max, IntKind.signed, IntKind.bits]; omega)
                have fin : LQ h1 o from' m k [.int .i64 (IntKind.i64.wrap (d + 0)), .str S, .int .i64 t] g12 := ⟨d, t, e4, rfl, hSk1, F', o12, o10.le, hms, hk12, w12⟩
                by_cases hz : at' = 0
                · have c1 : ltI 0 at' = false := by rw [ltI_eq, decide_eq_false_iff_not]; omega
                  simp only [c1, cond_false, beq_self_eq_true, Bool.not_true, Bool.not_false, cond_true, bne_self_eq_false]
                  exact ⟨(by trivial), fin⟩
                · have c1 : ltI 0 at' = true := by rw [ltI_eq, decide_eq_true_eq]; omega
                  have c2 : ltI (t - d) at' = true := by rw [ltI_eq, decide_eq_true_eq]; omega
                  simp only [c1, cond_true]
                  refine ⟨at', by rw [Hp.ld_of t12]; rfl, ?_⟩
                  simp only [e2, c2, beq_self_eq_true, Bool.not_true, cond_false, Bool.not_false, cond_true, bne_self_eq_false]
                  exact ⟨(by trivial), fin⟩
            · have c : (dow == 2) = false := by simp [d2]
              simp only [c, cond_false]
              exact ⟨(by trivial), d, t, rfl, rfl, hSk1, F, o10⟩
      · rintro bs2 g2 S2 s3 q2 ⟨d2, t2, rfl, rfl, hS2, F2, o2⟩
        obtain ⟨hl1, hl2⟩ := o2.le
        have hm2 := o2.most
        have hl3 : (S2.drop d2).length = S2.length - d2 := List.length_drop
        have c1 : ltI (↑S2.length) (↑d2) = false := by rw [ltI_eq, decide_eq_false_iff_not]; omega
        simp only [c1, cond_false]
        refine (una_spec o2.out).mono ?_
        rintro _ q3 ⟨rfl, rfl⟩
        have b1 : (IntKind.u32.wrap (from' + d2) != IntKind.u32.wrap (from' + IntKind.u32.wrap d2)) = false := by
          have : IntKind.u32.wrap (from' + d2) = IntKind.u32.wrap (from' + IntKind.u32.wrap d2) := by rw [u32w, u32w, u32w]; omega
          rw [this]; simp
        refine ⟨_, rfl, (by trivial), (by trivial), (by trivial), (by trivial), ?_⟩
        simp only [b1, cond_false]
        refine (end_spec o2.out).mono ?_
        rintro _ q4 ⟨rfl, rfl⟩
        have b2 : (IntKind.u32.wrap (IntKind.u32.wrap (from' + d2) + IntKind.u32.wrap (S2.drop d2).length) != IntKind.u32.wrap (from' + IntKind.u32.wrap S2.length)) = false := by
          have : IntKind.u32.wrap (IntKind.u32.wrap (from' + d2) + IntKind.u32.wrap (S2.drop d2).length) = IntKind.u32.wrap (from' + IntKind.u32.wrap S2.length) := by
            rw [hl3, u32w, u32w, u32w, u32w, u32w]; omega
          rw [this]; simp
        refine ⟨_, rfl, (by trivial), (by trivial), (by trivial), (by trivial), (by trivial), ?_⟩
        simp only [b2, cond_false]
        refine (nxt_spec o2.out).mono ?_
        rintro _ q5 ⟨rfl, rfl⟩
        have b3 : (IntKind.u32.wrap (IntKind.u32.wrap (from' + d2) + IntKind.u32.wrap (t2 - d2)) != IntKind.u32.wrap (from' + IntKind.u32.wrap t2)) = false := by
          have : IntKind.u32.wrap (IntKind.u32.wrap (from' + d2) + IntKind.u32.wrap (t2 - d2)) = IntKind.u32.wrap (from' + IntKind.u32.wrap t2) := by
            rw [u32w, u32w, u32w, u32w, u32w]; omega
          rw [this]; simp
        refine ⟨_, rfl, (by trivial), (by trivial), (by trivial), (by trivial), ?_⟩
        simp only [b3, cond_false, Int.toNat_natCast]
        have hcl : d2 ≤ S2.length ∧ S2.length ≤ S2.length := ⟨by omega, Nat.le_refl _⟩
        refine ⟨by omega, hcl, (una_spec o2.out).mono ?_⟩
        rintro _ q6 ⟨rfl, rfl⟩
        refine ⟨_, rfl, ⟨by omega, hcl, (by trivial)⟩, (by trivial), (by trivial), (by trivial), (by trivial), ?_⟩
        refine (get_spec o2.out (by omega) (by omega) _ _).mono ?_
        rintro _ q7 ⟨rfl, rfl⟩
        have hgot : gotten (IntKind.u32.wrap (from' + d2)) (S2.drop d2) (IntKind.u32.wrap (from' + d2)) m = S2.drop d2 := by
          have hf0 : far (IntKind.u32.wrap (from' + d2)) (IntKind.u32.wrap (from' + d2)) = 0 := by
            unfold far; rw [u32w, u32w]; omega
          unfold gotten
          rw [hf0, if_pos ⟨by omega, by omega⟩, if_neg (by omega)]
          simp only [Int.toNat_zero, List.drop_zero]
          rw [List.take_of_length_le (by rw [hl3]; omega)]
        rw [hgot]
        have htk : (S2.drop d2).take (S2.length - d2) = S2.drop d2 := List.take_of_length_le (by rw [hl3]; omega)
        refine ⟨_, rfl, ⟨by omega, hcl, (by trivial)⟩, (by trivial), (by trivial), ?_⟩
        rw [htk]
        have e7 : IntKind.i64.wrap (S2.length - d2) = S2.length - d2 := wrap_of (by simp [IntKind.min, IntKind.max, IntKind.signed, IntKind.bits]; omega)
        have c2 : ltI m (S2.length - d2) = false := by rw [ltI_eq, decide_eq_false_iff_not]; omega
        simp only [beq_self_eq_true, Bool.not_true, cond_false, e7, c2]
        refine ⟨(by trivial), ⟨k + 1, d2, t2, hw1, rfl, rfl, by omega, hS2, F2, o2⟩, ?_⟩
        show n - Int.toNat (IntKind.i64.wrap ((k : Int) + 1)) < n - Int.toNat (k : Int)
        rw [hw1]; simp only [Int.toNat_natCast]; omega
end Go.Vex.OutKeeps

namespace Go.Proofs.Ytkdjjjpfkdkgoaa.outKeeps
open Go.ChangeShapes Go.WideShapes Go.ChangeAt Go.RowKit Go.Vex Go.Vex.OutKeeps
open Go.ChangeMaps (open_string shut_string)

theorem own : ownKnob Try.prog.godebug = none := by kernel_rfl

set_option maxRecDepth 100000 in
theorem lifted (os : Os) (started : os.Started) (H : Type) (enc : TypeId × Value → H) :
    ReturnsInHanded {} Try.checked os 4 .any (Rows.outKeepsSpec.pre6 enc Try.prog Try.f4 Rows.outKeepsRow.domain false) (Rows.outKeepsSpec.post enc Try.prog Try.f4 false true false false) := by
  refine returnsInHanded_of_change_sized (C := Try.checked) own started (by kernel_rfl) Try.func4
    (ChangeSpec.witness6 (enc := enc) (C := Try.checked) false ⟨#[], #[.int .u32 0, .int .u16 0, .slice none 0 0], []⟩ 8 (by kernel_rfl) (by kernel_rfl) (by kernel_rfl) (by kernel_rfl)) ?_
  intro W base args ds gs before hval0 hW hcnd hsz _
  have hval : ∀ (j : Nat) t v, Try.f4.params[j]? = some t → args[j]? = some v → Value.okWide Try.prog W .any base t v := hval0
  have hW' := hW
  obtain ⟨p, q, hA0, hV, rfl, hfz, hnd⟩ := hW
  have hA : DataW.TrodAll enc Try.prog W 0 (fun _ => true) true Try.f4.params.toList args.toList ds p := hA0
  rw [Try.params4] at hA hval hsz
  obtain ⟨v0, vs0, d0, ds0, p0, q0, hargs, rfl, rfl, h0, r0⟩ := trodAll_cons hA
  obtain ⟨v1, vs1, d1, ds1, p1, q1, rfl, rfl, rfl, h1, r1⟩ := trodAll_cons r0
  obtain ⟨v2, vs2, d2, ds2, p2, q2, rfl, rfl, rfl, h2, r2⟩ := trodAll_cons r1
  obtain ⟨rfl, rfl, rfl⟩ := trodAll_nil r2
  obtain rfl : args = #[v0, v1, v2] := by cases args; simp_all
  obtain ⟨rfl, rfl⟩ := trodVars_none hV
  obtain ⟨a0, rfl, rfl, rfl, w0⟩ := open_int Try.underlying22 (hval 0 22 v0 rfl rfl) h0
  obtain ⟨a1, rfl, rfl, rfl, w1⟩ := open_int Try.underlying43 (hval 1 43 v1 rfl rfl) h1
  obtain ⟨ρ2, hp2, b2, n2, f2, rows2, s2, x2, l2, k2, vr2, ro2, sh2, z2⟩ := arg_slice tok (T := Vex.T) (t := 23) (e := 34) (d := 4) (zs := stepZ) rfl rfl rfl rfl rfl (by decide) (hval 2 23 v2 rfl rfl) h2 (fun m hm => hW'.lt m (by simp [hm])) (fun m hm => by simpa using List.all_eq_true.1 hsz m (DataW.weights_mem_each (j := 2) (t := 23) rfl rfl m hm)) (Sat.none W fun _ => ⟨0, 0, 0, 0⟩)
  refine (XCalls.true' s2 (vs := [.int .u32 a0, .int .u16 a1, .slc b2 n2 f2]) ⟨_, _, rfl, rfl, ⟨_, _, rfl, rfl, ⟨_, _, rfl, vr2, rfl⟩⟩⟩ (law_calls a0 w0 a1 w1 ro2 sh2 z2)).mono fun e W' ⟨he, hb⟩ => ?_
  subst he
  exact ⟨_, rfl, post_true (by kernel_rfl) hW' hb rfl (fun gs hg => by subst hg; rfl) (tb := 4) rfl Try.underlying4 (by decide +kernel)⟩

theorem over : Rows.outKeepsRow.holds Try.pinned (OpenSpec.ofChange Rows.outKeepsSpec) :=
  OpenClaim.holds_of_wide 4 Try.f4 rfl rfl rfl rfl rfl rfl rfl ⟨rfl, rfl, rfl, rfl, rfl⟩ rfl rfl rfl rfl rfl (by kernel_rfl) Try.func4 (by kernel_rfl)
    (of_decide_eq_true (by kernel_rfl)) (by unfold Func.isWrapper; first | (rw [if_pos (by decide +kernel)]; kernel_rfl) | (rw [if_neg (by decide +kernel)]; exact ⟨rfl, rfl⟩))
    (fun os started H enc _ => lifted os started H enc)

theorem proved : Rows.OutKeepsSaid :=
  over
#print axioms proved
end Go.Proofs.Ytkdjjjpfkdkgoaa.outKeeps

