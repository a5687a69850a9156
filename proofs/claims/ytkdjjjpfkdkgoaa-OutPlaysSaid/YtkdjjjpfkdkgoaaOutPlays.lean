/-
  OutPlays of layer 26: whatever the number, the most and the script, the law returns true and leaves the input as it was. No condition.
-/
import Derived.Test.YtkdjjjpfkdkgoaaVexAA
import Derived.Test.YtkdjjjpfkdkgoaaTab26
import Derived.Test.YtkdjjjpfkdkgoaaXa26
import Derived.Test.YtkdjjjpfkdkgoaaCa26
import Derived.Test.YtkdjjjpfkdkgoaaCb26
import Derived.Test.YtkdjjjpfkdkgoaaXc26
import Derived.Test.YtkdjjjpfkdkgoaaCc26
import Derived.Test.YtkdjjjpfkdkgoaaXd26
import Derived.Test.YtkdjjjpfkdkgoaaRows
import Derived.WalkKit
import Derived.ProofKit
import Derived.OpenShut
import Derived.KernelRfl
set_option linter.unusedVariables false
set_option linter.unusedSimpArgs false
namespace Go.Vex.OutPlays
open Go.Proofs

set_option maxRecDepth 100000 in
theorem works_ev : (ev Vex.T Vex.F (fun _ => []) 100000).call 10 [] h0 isT = true := by kernel_rfl

theorem works_spec {h : Hp} {K : V → Hp → Prop} (hk : ∀ h', K (.bool true) h') : XCalls Try.prog 10 [] h K :=
  (XCalls.fresh (K := fun v => v = .bool true) rfl (fun v hv => by subst hv; rfl) (XCalls.ev tok fok mixed (fun _ => []) 100000 works_ev fun _ _ hv => isT_spec hv)).mono fun v h' hv => by rw [hv.1]; exact hk h'

def stepZ : List V := [.int .i64 0, .str [], .int .u32 0, .int .i64 0]

theorem step_form {r : List V} (h : shpBs stepZ r = true) : ∃ d s a n, r = [.int .i64 d, .str s, .int .u32 a, .int .i64 n] :=
  allSs_spec stepZ r (k := fun r => ∃ d s a n, r = [.int .i64 d, .str s, .int .u32 a, .int .i64 n]) (fun d s a n => ⟨d, s, a, n, rfl⟩) h

theorem wrap_succ {k n : Nat} (h : k < n) (hn : n ≤ 9223372036854775807) : IntKind.i64.wrap ((k : Int) + 1) = ((k + 1 : Nat) : Int) := by
  rw [wrap_of (by simp [IntKind.min, IntKind.max, IntKind.signed, IntKind.bits]; omega)]; rfl

theorem heavy_spec {h : Hp} {a : Option (Nat × Nat)} {n : Nat} {f : Bool} {rows : List (List V)} (ha : RoSlc h a n rows 4) (hr : ∀ r ∈ rows, shpBs stepZ r = true) :
    XCalls Try.prog 9 [.slc a n f] h fun v h' => h' = h ∧ ∃ b, v = .bool b ∧ (b = false → n ≤ 250) := by
  apply x9
  unfold X9
  refine ⟨fun vs h' => match vs with
    | [.int _ x, .int _ i] => h' = h ∧ ∃ k : Nat, i = k ∧ k ≤ 500 ∧ k ≤ n
    | _ => False, fun vs _ => match vs with
    | [_, .int _ i] => 500 - i.toNat
    | _ => 0, ⟨rfl, rfl, 0, rfl, by omega, by omega⟩, ?_⟩
  rintro bs x i h1 ⟨rfl, k, rfl, hk, hkn⟩
  have fin : (bif ltI 250 (↑n) then (h1 = h1 ∧ ∃ b, V.bool true = .bool b ∧ (b = false → n ≤ 250)) else (h1 = h1 ∧ ∃ b, V.bool (ltI 8192 x) = .bool b ∧ (b = false → n ≤ 250))) := by
    cases hc : ltI 250 (↑n) with
    | true => exact ⟨rfl, true, rfl, fun h => by cases h⟩
    | false => rw [ltI_eq, decide_eq_false_iff_not] at hc; exact ⟨rfl, _, rfl, fun _ => by omega⟩
  cases hi : ltI (↑k) (↑n) with
  | false => exact fin
  | true =>
    cases hj : ltI (↑k) 500 with
    | false => exact fin
    | true =>
      rw [ltI_eq, decide_eq_true_eq] at hi hj
      obtain ⟨q, r, rfl, hrow, hld, _⟩ := ha.ld (Hp.keeps.refl h1) (k := k) (by omega) (fun r h => shpBs_length (hr r h))
      obtain ⟨d, s, a', n', rfl⟩ := step_form (hr r (List.mem_of_getElem? hrow))
      have hw1 : IntKind.i64.wrap ((k : Int) + 1) = ((k + 1 : Nat) : Int) := wrap_succ (n := 500) (by omega) (by omega)
      refine ⟨⟨by omega, hi⟩, s, hld 1 (by omega), rfl, ⟨rfl, k + 1, hw1, by omega, by omega⟩, ?_⟩
      show 500 - Int.toNat (IntKind.i64.wrap ((k : Int) + 1)) < 500 - Int.toNat (k : Int)
      rw [hw1]; simp only [Int.toNat_natCast]; omega

theorem u32w (x : Int) : IntKind.u32.wrap x = x % 4294967296 := by simp [IntKind.wrap, IntKind.bits, IntKind.signed]

/-- both hold the same -/
structure PI (h0 : Hp) (o r : Nat) (most una sent : Int) (S : List UInt8) (F G : List Nat) (h : Hp) : Prop where
  out : OutR o una sent most S h F
  ref : RefO r una sent most S h G
  dis : ∀ j ∈ F, j ∉ G
  le : 0 ≤ sent ∧ sent ≤ S.length
  ms : (S.length : Int) ≤ most
  keeps : h0.keeps h
  wf : h.wf

theorem PI.stay {h0 h h' : Hp} {o r : Nat} {most una sent : Int} {S : List UInt8} {F G : List Nat} (i : PI h0 o r most una sent S F G h) (hs : ∀ j, j < h.next → h'.get j = h.get j) (hw : h'.wf) : PI h0 o r most una sent S F G h' :=
  ⟨(OutR.rep _ _ _ _ _).stay i.wf i.out hs, (RefO.rep _ _ _ _ _).stay i.wf i.ref hs, i.dis, i.le, i.ms, i.keeps.stay i.wf hs, hw⟩

def PIx (h0 : Hp) (o r : Nat) (most : Int) (h : Hp) : Prop := ∃ una sent S F G, PI h0 o r most una sent S F G h

def LI (h0 : Hp) (o r : Nat) (most : Int) (n : Nat) : List V → Hp → Prop
  | [.int _ i], h' => ∃ k : Nat, i = k ∧ k ≤ n ∧ PIx h0 o r most h'
  | _, _ => False

def LQ (h0 : Hp) (o r : Nat) (most : Int) (q : Nat) (row : O) : List V → Hp → Prop
  | [.bool b], h' => b = true ∧ PIx h0 o r most h' ∧ h'.get q = some row
  | _, _ => False

theorem law_calls (from' : Int) (w0 : (Lit.int .u32 from').wf = true) (most : Int) (w1 : (Lit.int .i64 most).wf = true) {h : Hp} {a : Option (Nat × Nat)} {n : Nat} {f : Bool} {rows : List (List V)} (ha : RoSlc h a n rows 4)
    (hr0 : ∀ r ∈ rows, shpBs stepZ r = true ∧ ∀ v ∈ r, v.fits) (hbz : n * Try.prog.bytesOf 34 ≤ reachBytes) : XCalls Try.prog 3 [.int .u32 from', .int .i64 most, .slc a n f] h fun v _ => v = .bool true := by
  have hr : ∀ r ∈ rows, shpBs stepZ r = true := fun r h => (hr0 r h).1
  have hz : ∀ r ∈ rows, r.length = 4 := fun r h => shpBs_length (hr r h)
  refine XCalls.ofWf fun hw => ?_
  apply x3
  unfold X3
  refine (heavy_spec ha hr).mono ?_
  rintro _ h1 ⟨rfl, hv, rfl, hn⟩
  refine ⟨hv, rfl, ?_⟩
  cases hv with
  | true => exact works_spec fun _ => ⟨true, rfl, rfl⟩
  | false =>
    have hn := hn rfl
    simp only [cond_false]
    by_cases hbad : most < 1 ∨ 16384 < most
    · refine (newOut_err hbad).mono ?_
      rintro _ h2 ⟨rfl, rfl⟩
      refine ⟨_, _, rfl, ?_⟩
      have fin : XCalls Try.prog 10 [] h2 fun v4 h'4 => ∃ b3, v4 = V.bool b3 ∧ V.bool b3 = V.bool true := works_spec fun _ => ⟨true, rfl, rfl⟩
      cases c1 : ltI most 1 with
      | true => exact fin
      | false =>
        cases c2 : ltI 16384 most with
        | true => exact fin
        | false => rw [ltI_eq, decide_eq_false_iff_not] at c1 c2; omega
    · have c1 : ltI most 1 = false := by rw [ltI_eq, decide_eq_false_iff_not]; omega
      have c2 : ltI 16384 most = false := by rw [ltI_eq, decide_eq_false_iff_not]; omega
      refine (newOut_spec (h := h1) (by omega)).mono' ?_
      rintro _ h2 hle hw2 ⟨rfl, hout, u2⟩
      refine ⟨_, _, rfl, ?_⟩
      simp only [c1, c2, bne_self_eq_false, cond_false, Option.isNone_some]
      rintro h3 rfl
      have hk2 : h1.keeps h2 := by intro q c e hq; rw [u2.same q (hw.lt hq) (by simp)]; exact hq
      have hst2 : ∀ x, ∀ j, j < h2.next → (h2.alloc x).get j = h2.get j := fun x j hj => Hp.get_alloc_ne (by omega)
      have ho2 := (OutR.rep _ _ _ _ _).lt hw2 hout (j := h1.next) (by simp)
      refine ⟨LI h1 h1.next h2.next most n, fun vs _ => match vs with
        | [.int _ i] => n - i.toNat
        | _ => 0, ⟨(by trivial), 0, rfl, Nat.zero_le _, from', 0, [], [h1.next], [h2.next], (OutR.rep _ _ _ _ _).stay hw2 hout (hst2 _), ⟨Hp.get_alloc_self, rfl⟩, by simp; omega, by simp, by simp; omega, hk2.stay hw2 (hst2 _), hw2.alloc⟩, ?_⟩
      rintro bs i g ⟨k, rfl, hkn, una, sent, S, F, G, p⟩
      generalize hrr : h2.next = r at *
      generalize hbb : h1.next = o at *
      cases hi : ltI (↑k) (↑n) with
      | false => exact works_spec fun _ => ⟨true, rfl, rfl⟩
      | true =>
        rw [ltI_eq, decide_eq_true_eq] at hi
        have hkn' : k < n := by omega
        obtain ⟨q, row, rfl, hrow, hld, hlda⟩ := ha.ld p.keeps hkn' hz
        obtain ⟨dow, s2, at', n', rfl⟩ := step_form (hr row (List.mem_of_getElem? hrow))
        have hw1 : IntKind.i64.wrap ((k : Int) + 1) = ((k + 1 : Nat) : Int) := wrap_succ (n := n) (by omega) (by omega)
        refine ⟨⟨by omega, hi⟩, dow, s2, at', n', hlda, ?_⟩
        rintro g9 rfl
        refine ⟨_, Hp.st_of Hp.get_alloc_self (Nat.le_of_ble_eq_true rfl), ?_⟩
        generalize hg10 : (g.alloc (.row [.int .i64 0, .str [], .int .u32 0, .int .i64 0] 1 false)).set g.next (.row (splice [.int .i64 0, .str [], .int .u32 0, .int .i64 0] 0 [.int .i64 dow, .str s2, .int .u32 at', .int .i64 n']) 1 false) = g10
        have hs10 : ∀ j, j < g.next → g10.get j = g.get j := fun j hj => by rw [← hg10]; simp only [Hp.st, Hp.ld, Hp.lda, Hp.get_set, Hp.get_alloc, Hp.get_kill, Hp.next_alloc, Hp.next_set, Hp.next_kill, splice, ble_eq', if_true, if_false, ite_true, ite_false, cond_true, cond_false, decide_true, decide_false, List.length_cons, List.length_nil, List.take_zero, List.take_succ_cons, List.nil_append, List.cons_append, List.append_nil, List.drop_succ_cons, List.drop_zero, List.drop_nil, List.getElem?_cons_succ, List.getElem?_cons_zero, Nat.reduceAdd, Nat.reduceLeDiff, Nat.reduceEqDiff, Nat.zero_add, Nat.add_zero, Nat.le_refl, Nat.zero_le, Nat.succ_ne_self, Nat.mul_one, Int.toNat_natCast, Option.some.injEq, Option.isNone_some, Option.isNone_none, V.int.injEq, V.str.injEq, V.bool.injEq, V.ptr.injEq, V.slc.injEq, V.map.injEq, V.agg.injEq, V.tup.injEq, List.cons.injEq, Prod.mk.injEq, onS, true_and, and_true, and_assoc, exists_and_left, exists_eq_left', forall_eq, heq_eq_eq, reduceCtorEq, Bool.not_true, Bool.not_false, eq_self, not_false_eq_true, Nat.left_eq_add, Nat.add_eq_left, Nat.add_left_cancel_iff, Nat.add_right_cancel_iff, Nat.reduceEqDiff, Nat.one_ne_zero, show j ≠ g.next by omega]
        have ht10 : g10.get g.next = some (.row [.int .i64 dow, .str s2, .int .u32 at', .int .i64 n'] 1 false) := by rw [← hg10]; simp only [Hp.st, Hp.ld, Hp.lda, Hp.get_set, Hp.get_alloc, Hp.get_kill, Hp.next_alloc, Hp.next_set, Hp.next_kill, splice, ble_eq', if_true, if_false, ite_true, ite_false, cond_true, cond_false, decide_true, decide_false, List.length_cons, List.length_nil, List.take_zero, List.take_succ_cons, List.nil_append, List.cons_append, List.append_nil, List.drop_succ_cons, List.drop_zero, List.drop_nil, List.getElem?_cons_succ, List.getElem?_cons_zero, Nat.reduceAdd, Nat.reduceLeDiff, Nat.reduceEqDiff, Nat.zero_add, Nat.add_zero, Nat.le_refl, Nat.zero_le, Nat.succ_ne_self, Nat.mul_one, Int.toNat_natCast, Option.some.injEq, Option.isNone_some, Option.isNone_none, V.int.injEq, V.str.injEq, V.bool.injEq, V.ptr.injEq, V.slc.injEq, V.map.injEq, V.agg.injEq, V.tup.injEq, List.cons.injEq, Prod.mk.injEq, onS, true_and, and_true, and_assoc, exists_and_left, exists_eq_left', forall_eq, heq_eq_eq, reduceCtorEq, Bool.not_true, Bool.not_false, eq_self, not_false_eq_true, Nat.left_eq_add, Nat.add_eq_left, Nat.add_left_cancel_iff, Nat.add_right_cancel_iff, Nat.reduceEqDiff, Nat.one_ne_zero]
        have hw10 : g10.wf := by rw [← hg10]; exact p.wf.alloc.set (Nat.lt_succ_self _)
        have hn10 : g.next < g10.next := hw10.lt ht10
        have p10 := p.stay hs10 hw10
        have hFg : ∀ j ∈ F, j < g.next := fun j hj => (OutR.rep _ _ _ _ _).lt p.wf p.out hj
        have hGg : ∀ j ∈ G, j < g.next := fun j hj => (RefO.rep _ _ _ _ _).lt p.wf p.ref hj
        clear hg10
        have step : ∀ {g' g'' : Hp} {F' : List Nat} {una' sent' : Int} {S' : List UInt8}, Upd g10 g' F F' → g'.wf → OutR o una' sent' most S' g' F' → RefO r una' sent' most S' g'' G → Upd g' g'' G G → g''.wf → (0 ≤ sent' ∧ sent' ≤ S'.length) → ((S'.length : Int) ≤ most) →
            PIx h1 o r most g'' ∧ g''.get g.next = some (.row [.int .i64 dow, .str s2, .int .u32 at', .int .i64 n'] 1 false) := by
          intro g' g'' F' una' sent' S' u wg' ho hrf v wg'' l1 l2
          obtain ⟨hR, hd⟩ := Upd.frame (RefO.rep _ _ _ _ _) hw10 p10.ref u p10.dis
          have hd' : ∀ j ∈ G, j ∉ F' := fun j hj hj' => hd j hj' hj
          obtain ⟨hO, hd2⟩ := Upd.frame (OutR.rep _ _ _ _ _) wg' ho v hd'
          have hk1 := Upd.keeps (OutR.rep _ _ _ _ _) hw10 p10.out u p10.keeps
          have hk2 := Upd.keeps (RefO.rep _ _ _ _ _) wg' hR v hk1
          refine ⟨⟨una', sent', S', F', G, hO, hrf, fun j hj hj' => hd2 j hj' hj, l1, l2, hk2, wg''⟩, ?_⟩
          rw [v.same _ (Nat.lt_of_lt_of_le hn10 u.le) (fun hG => by have := hGg _ hG; omega), u.same _ hn10 (fun hF => by have := hFg _ hF; omega)]
          exact ht10
        have refAt : ∀ {g' : Hp} {F' : List Nat}, Upd g10 g' F F' → RefO r una sent most S g' G := fun u => (Upd.frame (RefO.rep _ _ _ _ _) hw10 p10.ref u p10.dis).1
        have tmp : ∀ {g' : Hp} {F' : List Nat}, Upd g10 g' F F' → g'.get g.next = some (.row [.int .i64 dow, .str s2, .int .u32 at', .int .i64 n'] 1 false) := fun u => by
          rw [u.same _ hn10 (fun hF => by have := hFg _ hF; omega)]; exact ht10
        have hms := p10.ms
        have hle := p10.le
        refine ⟨una, by rw [Hp.ld_of p10.ref.1]; rfl, at', by rw [Hp.ld_of ht10]; rfl, LQ h1 o r most g.next (.row [.int .i64 dow, .str s2, .int .u32 at', .int .i64 n'] 1 false), ?_, ?_⟩
        · refine ⟨dow, by rw [Hp.ld_of ht10]; rfl, ?_⟩
          generalize IntKind.u32.wrap (una + at') = to
          by_cases d0 : dow = 0
          · have c : (dow == 0) = true := by simp [d0]
            simp only [c, cond_true]
            refine ⟨s2, by rw [Hp.ld_of ht10]; rfl, s2, by rw [Hp.ld_of ht10]; rfl, ?_⟩
            refine (write_spec hw10 p10.out ⟨hms, by omega⟩ s2).mono ?_
            rintro _ g11 ⟨rfl, F', o11, u11, w11⟩
            refine ⟨_, rfl, ⟨s2, by rw [Hp.ld_of (tmp u11)]; rfl, rfl⟩, (by trivial), (by trivial), ?_⟩
            refine (refWrite_spec w11 (refAt u11) ⟨hms, by omega⟩ s2).mono ?_
            rintro _ g12 ⟨rfl, r12, u12, w12⟩
            have ht : taken most S s2 ≤ s2.length ∧ (taken most S s2 : Int) ≤ most - S.length := by unfold taken; omega
            have hl : (S ++ s2.take (taken most S s2)).length = S.length + taken most S s2 := by simp [ht.1]
            have st := step u11 w11 o11 r12 u12 w12 ⟨hle.1, by rw [hl]; omega⟩ (by rw [hl]; omega)
            exact ⟨_, rfl, (by trivial), by simp, st.1, st.2⟩
          · have c : (dow == 0) = false := by simp [d0]
            simp only [c, cond_false]
            by_cases d1 : dow = 1
            · have c : (dow == 1) = true := by simp [d1]
              simp only [c, cond_true]
              refine (sent_spec hw10 p10.out (by omega) (by omega) to).mono ?_
              rintro _ g11 ⟨rfl, o11, u11, w11⟩
              refine ⟨_, rfl, ?_⟩
              refine (refSent_spec w11 (refAt u11) (by omega) to).mono ?_
              rintro _ g12 ⟨rfl, r12, u12, w12⟩
              have hf := far_bnd una to
              have hs : 0 ≤ sentTo una sent S to ∧ sentTo una sent S to ≤ S.length := by
                unfold sentTo
                split
                · split <;> omega
                · omega
              have st := step u11 w11 o11 r12 u12 w12 hs hms
              exact ⟨_, rfl, (by trivial), by simp, st.1, st.2⟩
            · have c : (dow == 1) = false := by simp [d1]
              simp only [c, cond_false]
              by_cases d2 : dow = 2
              · have c : (dow == 2) = true := by simp [d2]
                simp only [c, cond_true]
                refine (ack_spec hw10 p10.out (by omega) (by omega) (by omega) to).mono ?_
                rintro _ g11 ⟨rfl, F', o11, u11, w11⟩
                refine ⟨_, _, rfl, ?_⟩
                refine (refAck_spec w11 (refAt u11) (by omega) (by omega) to).mono ?_
                rintro _ g12 ⟨rfl, r12, u12, w12⟩
                have hf := far_bnd una to
                have hs : (0 ≤ (if acks una sent S to then sent - far una to else sent) ∧ (if acks una sent S to then sent - far una to else sent) ≤ (if acks una sent S to then S.drop (far una to).toNat else S).length) ∧ ((if acks una sent S to then S.drop (far una to).toNat else S).length : Int) ≤ most := by
                  cases ha : acks una sent S to with
                  | false => simp only [Bool.false_eq_true, if_false]; exact ⟨hle, hms⟩
                  | true =>
                    simp only [acks, decide_eq_true_eq] at ha
                    simp only [if_true, List.length_drop]
                    omega
                have st := step u11 w11 o11 r12 u12 w12 hs.1 hs.2
                refine ⟨_, _, rfl, ?_⟩
                simp only [beq_self_eq_true, cond_true]
                exact ⟨(by trivial), rfl, st.1, st.2⟩
              · have c : (dow == 2) = false := by simp [d2]
                simp only [c, cond_false]
                exact ⟨(by trivial), rfl, ⟨una, sent, S, F, G, p10⟩, ht10⟩
        · generalize IntKind.u32.wrap (una + at') = to
          rintro bs2 b2 g2 ⟨rfl, ⟨una2, sent2, S2, F2, G2, p2⟩, ht2⟩
          have hms2 := p2.ms
          have hle2 := p2.le
          have l0 : g2.ld r 0 = some (.int .u32 una2) := by rw [Hp.ld_of p2.ref.1]; rfl
          have l1 : g2.ld r 1 = some (.str S2) := by rw [Hp.ld_of p2.ref.1]; rfl
          have l2 : g2.ld r 2 = some (.int .i64 sent2) := by rw [Hp.ld_of p2.ref.1]; rfl
          have l3 : g2.ld g.next 3 = some (.int .i64 n') := by rw [Hp.ld_of ht2]; rfl
          simp only [Bool.not_true, cond_false]
          refine ⟨una2, l0, (una_spec p2.out).mono ?_⟩
          rintro _ q3 ⟨rfl, rfl⟩
          refine ⟨_, rfl, ⟨una2, l0, rfl⟩, (by trivial), (by trivial), (by trivial), ?_⟩
          simp only [bne_self_eq_false, cond_false]
          refine ⟨una2, l0, sent2, l2, (nxt_spec p2.out).mono ?_⟩
          rintro _ q4 ⟨rfl, rfl⟩
          refine ⟨_, rfl, (by trivial), (by trivial), ⟨sent2, l2, rfl⟩, (by trivial), (by trivial), (by trivial), ⟨una2, l0, rfl⟩, (by trivial), (by trivial), (by trivial), ?_⟩
          simp only [bne_self_eq_false, cond_false]
          refine ⟨una2, l0, S2, l1, (end_spec p2.out).mono ?_⟩
          rintro _ q5 ⟨rfl, rfl⟩
          refine ⟨_, rfl, (by trivial), (by trivial), (by trivial), ⟨S2, l1, rfl⟩, (by trivial), (by trivial), (by trivial), ⟨una2, l0, rfl⟩, (by trivial), (by trivial), (by trivial), ?_⟩
          simp only [bne_self_eq_false, cond_false]
          refine ⟨S2, l1, (room_spec p2.out ⟨hms2, by omega⟩).mono ?_⟩
          rintro _ q6 ⟨rfl, rfl⟩
          have e7 : IntKind.i64.wrap (most - S2.length) = most - S2.length := wrap_of (by simp [IntKind.min, IntKind.max, IntKind.signed, IntKind.bits]; omega)
          refine ⟨_, rfl, (by trivial), (by trivial), ⟨S2, l1, rfl⟩, (by trivial), (by trivial), (by trivial), (by trivial), ?_⟩
          simp only [e7, bne_self_eq_false, cond_false]
          refine ⟨n', l3, n', l3, (get_spec p2.out (by omega) (by omega) to n').mono ?_⟩
          rintro _ q7 ⟨rfl, rfl⟩
          refine ⟨_, rfl, ⟨n', l3, rfl⟩, (by trivial), (by trivial), (by trivial), ?_⟩
          refine (refGet_spec p2.ref (by omega) to n').mono ?_
          rintro _ q8 ⟨rfl, rfl⟩
          refine ⟨_, rfl, ?_⟩
          simp only [beq_self_eq_true, Bool.not_true, cond_false]
          refine ⟨(by trivial), ⟨k + 1, hw1, by omega, una2, sent2, S2, F2, G2, p2⟩, ?_⟩
          show n - Int.toNat (IntKind.i64.wrap ((k : Int) + 1)) < n - Int.toNat (k : Int)
          rw [hw1]; simp only [Int.toNat_natCast]; omega
end Go.Vex.OutPlays

namespace Go.Proofs.Ytkdjjjpfkdkgoaa.outPlays
open Go.ChangeShapes Go.WideShapes Go.ChangeAt Go.RowKit Go.Vex Go.Vex.OutPlays
open Go.ChangeMaps (open_string shut_string)

theorem own : ownKnob Try.prog.godebug = none := by kernel_rfl

set_option maxRecDepth 100000 in
theorem lifted (os : Os) (started : os.Started) (H : Type) (enc : TypeId × Value → H) :
    ReturnsInHanded {} Try.checked os 3 .any (Rows.outPlaysSpec.pre6 enc Try.prog Try.f3 Rows.outPlaysRow.domain false) (Rows.outPlaysSpec.post enc Try.prog Try.f3 false true false false) := by
  refine returnsInHanded_of_change_sized (C := Try.checked) own started (by kernel_rfl) Try.func3
    (ChangeSpec.witness6 (enc := enc) (C := Try.checked) false ⟨#[], #[.int .u32 0, .int .i64 0, .slice none 0 0], []⟩ 8 (by kernel_rfl) (by kernel_rfl) (by kernel_rfl) (by kernel_rfl)) ?_
  intro W base args ds gs before hval0 hW hcnd hsz _
  have hval : ∀ (j : Nat) t v, Try.f3.params[j]? = some t → args[j]? = some v → Value.okWide Try.prog W .any base t v := hval0
  have hW' := hW
  obtain ⟨p, q, hA0, hV, rfl, hfz, hnd⟩ := hW
  have hA : DataW.TrodAll enc Try.prog W 0 (fun _ => true) true Try.f3.params.toList args.toList ds p := hA0
  rw [Try.params3] at hA hval hsz
  obtain ⟨v0, vs0, d0, ds0, p0, q0, hargs, rfl, rfl, h0, r0⟩ := trodAll_cons hA
  obtain ⟨v1, vs1, d1, ds1, p1, q1, rfl, rfl, rfl, h1, r1⟩ := trodAll_cons r0
  obtain ⟨v2, vs2, d2, ds2, p2, q2, rfl, rfl, rfl, h2, r2⟩ := trodAll_cons r1
  obtain ⟨rfl, rfl, rfl⟩ := trodAll_nil r2
  obtain rfl : args = #[v0, v1, v2] := by cases args; simp_all
  obtain ⟨rfl, rfl⟩ := trodVars_none hV
  obtain ⟨a0, rfl, rfl, rfl, w0⟩ := open_int Try.underlying22 (hval 0 22 v0 rfl rfl) h0
  obtain ⟨a1, rfl, rfl, rfl, w1⟩ := open_int Try.underlying3 (hval 1 3 v1 rfl rfl) h1
  obtain ⟨ρ2, hp2, b2, n2, f2, rows2, s2, x2, l2, k2, vr2, ro2, sh2, z2⟩ := arg_slice tok (T := Vex.T) (t := 23) (e := 34) (d := 4) (zs := stepZ) rfl rfl rfl rfl rfl (by decide) (hval 2 23 v2 rfl rfl) h2 (fun m hm => hW'.lt m (by simp [hm])) (fun m hm => by simpa using List.all_eq_true.1 hsz m (DataW.weights_mem_each (j := 2) (t := 23) rfl rfl m hm)) (Sat.none W fun _ => ⟨0, 0, 0, 0⟩)
  refine (XCalls.true' s2 (vs := [.int .u32 a0, .int .i64 a1, .slc b2 n2 f2]) ⟨_, _, rfl, rfl, ⟨_, _, rfl, rfl, ⟨_, _, rfl, vr2, rfl⟩⟩⟩ (law_calls a0 w0 a1 w1 ro2 sh2 z2)).mono fun e W' ⟨he, hb⟩ => ?_
  subst he
  exact ⟨_, rfl, post_true (by kernel_rfl) hW' hb rfl (fun gs hg => by subst hg; rfl) (tb := 4) rfl Try.underlying4 (by decide +kernel)⟩

theorem over : Rows.outPlaysRow.holds Try.pinned (OpenSpec.ofChange Rows.outPlaysSpec) :=
  OpenClaim.holds_of_wide 3 Try.f3 rfl rfl rfl rfl rfl rfl rfl ⟨rfl, rfl, rfl, rfl, rfl⟩ rfl rfl rfl rfl rfl (by kernel_rfl) Try.func3 (by kernel_rfl)
    (of_decide_eq_true (by kernel_rfl)) (by unfold Func.isWrapper; first | (rw [if_pos (by decide +kernel)]; kernel_rfl) | (rw [if_neg (by decide +kernel)]; exact ⟨rfl, rfl⟩))
    (fun os started H enc _ => lifted os started H enc)

theorem proved : Rows.OutPlaysSaid :=
  over
#print axioms proved
end Go.Proofs.Ytkdjjjpfkdkgoaa.outPlays

