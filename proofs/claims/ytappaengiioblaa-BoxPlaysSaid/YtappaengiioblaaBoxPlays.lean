/-
  BoxPlays of layer 28: whatever may wait and whatever the script, the law returns true and leaves the input as it was. No condition.
-/
import Derived.Test.YtappaengiioblaaVexZ
import Derived.Test.YtappaengiioblaaTab28
import Derived.Test.YtappaengiioblaaXb28
import Derived.Test.YtappaengiioblaaCb28
import Derived.Test.YtappaengiioblaaXc28
import Derived.Test.YtappaengiioblaaCc28
import Derived.Test.YtappaengiioblaaRows
import Derived.WalkKit
import Derived.ProofKit
import Derived.OpenShut
import Derived.KernelRfl
set_option linter.unusedVariables false
set_option linter.unusedSimpArgs false
namespace Go.Vex.BoxPlays
open Go.Proofs

set_option maxRecDepth 100000 in
theorem works_ev : (ev Vex.T Vex.F (fun _ => []) 100000).call 9 [] h0 isT = true := by kernel_rfl

theorem works_spec {h : Hp} {K : V → Hp → Prop} (hk : ∀ h', K (.bool true) h') : XCalls Try.prog 9 [] h K :=
  (XCalls.fresh (K := fun v => v = .bool true) rfl (fun v hv => by subst hv; rfl) (XCalls.ev tok fok mixed (fun _ => []) 100000 works_ev fun _ _ hv => isT_spec hv)).mono fun v h' hv => by rw [hv.1]; exact hk h'

def stepZ : List V := [.bool false, .bool false, .int .u32 0, .int .u16 0, .str [], .int .u8 0]

theorem step_form {r : List V} (h : shpBs stepZ r = true) : ∃ g a ip port s f, r = [.bool g, .bool a, .int .u32 ip, .int .u16 port, .str s, .int .u8 f] :=
  allSs_spec stepZ r (k := fun r => ∃ g a ip port s f, r = [.bool g, .bool a, .int .u32 ip, .int .u16 port, .str s, .int .u8 f]) (fun g a ip port s f => ⟨g, a, ip, port, s, f, rfl⟩) h

theorem heavy_spec {h : Hp} {a : Option (Nat × Nat)} {n : Nat} {f : Bool} {rows : List (List V)} (ha : RoSlc h a n rows 6) (hr : ∀ r ∈ rows, shpBs stepZ r = true) :
    XCalls Try.prog 20 [.slc a n f] h fun v h' => h' = h ∧ ∃ b, v = .bool b ∧ (b = false → n ≤ 250) := by
  apply x20
  unfold X20
  refine ⟨fun vs h' => match vs with
    | [.int _ x, .int _ i] => h' = h ∧ ∃ k : Nat, i = k ∧ k ≤ 500 ∧ k ≤ n
    | _ => False, fun vs _ => match vs with
    | [_, .int _ i] => 500 - i.toNat
    | _ => 0, ⟨rfl, rfl, 0, rfl, by omega, by omega⟩, ?_⟩
  rintro bs x i h1 ⟨rfl, k, rfl, hk, hkn⟩
  have fin : (bif ltI 250 (↑n) then (h1 = h1 ∧ ∃ b, V.bool true = .bool b ∧ (b = false → n ≤ 250)) else (h1 = h1 ∧ ∃ b, V.bool (ltI 8192 x) = .bool b ∧ (b = false → n ≤ 250))) := by
    cases hc : ltI 250 (↑n) with
    | true => exact ⟨rfl, true, rfl, fun h => by cases h⟩
    | false => rw [ltI_eq, decide_eq_false_iff_not] at hc; exact ⟨rfl, _, rfl, fun _ => by omega⟩
  cases hi : ltI (↑k) (↑n) with
  | false => exact fin
  | true =>
    cases hj : ltI (↑k) 500 with
    | false => exact fin
    | true =>
      rw [ltI_eq, decide_eq_true_eq] at hi hj
      obtain ⟨q, r, rfl, hrow, hld, _⟩ := ha.ld (Hp.keeps.refl h1) (k := k) (by omega) (fun r h => shpBs_length (hr r h))
      obtain ⟨g, a', ip, port, s, f', rfl⟩ := step_form (hr r (List.mem_of_getElem? hrow))
      have hw1 : IntKind.i64.wrap ((k : Int) + 1) = ((k + 1 : Nat) : Int) := wrap_succ (n := 500) (by omega) (by omega)
      refine ⟨⟨by omega, hi⟩, s, hld 4 (by omega), rfl, ⟨rfl, k + 1, hw1, by omega, by omega⟩, ?_⟩
      show 500 - Int.toNat (IntKind.i64.wrap ((k : Int) + 1)) < 500 - Int.toNat (k : Int)
      rw [hw1]; simp only [Int.toNat_natCast]; omega

theorem refTail {h : Hp} {G : List Nat} {r : Nat} {most room fails lost : Int} {m : List V} {L : List (List V)} (hR : RefR r most room fails lost (m :: L) h G) :
    ∃ a n f, h.ld r 2 = some (.slc a n f) ∧ ∃ a' n' f', xslice T h 59 (.slc a n f) (some (.int .i64 1)) none none = some (.slc a' n' f') ∧ ∃ h', h.st r 2 [.slc a' n' f'] = some h' ∧ RefR r most room fails lost L h' G ∧ Upd h h' G G ∧ (h.wf → h'.wf) := by
  obtain ⟨a, n, f, E, h1, h2, rfl, h4⟩ := hR
  obtain ⟨ti, ht, hd⟩ := t59
  obtain ⟨ei, he, es, eb, ez⟩ := t61
  have hne : a ≠ none := by
    intro e; subst e; exact absurd h2.2.2.1 (by simp)
  have hn : 1 ≤ n := by have := h2.1; simp at this; omega
  obtain ⟨a', f', hx, ho⟩ := h2.tail (f := f) (κ := .i64) ht hd he es hn (.inl hne)
  refine ⟨a, n, f, by rw [Hp.ld_of h1]; rfl, a', n - 1, f', hx, _, Hp.st_of h1 (Nat.le_of_ble_eq_true rfl), ⟨a', n - 1, f', E, Hp.get_set_self, ?_, rfl, h4⟩, ⟨fun j hj hF => Hp.get_set_ne fun e => hF (by simp [e]), fun j hj => .inl hj, Nat.le_refl _⟩, fun hw => hw.set (hw.lt h1)⟩
  exact (Own.rep 3 a' (n - 1) L).loc h _ E (fun j hj => Hp.get_set_ne fun e => h4 (e ▸ hj)) (by simpa using ho)

theorem refFails {h : Hp} {G : List Nat} {r : Nat} {most room fails lost : Int} {L : List (List V)} (hR : RefR r most room fails lost L h G) (e : Int) :
    ∃ h', h.st r 3 [.int .i64 e] = some h' ∧ RefR r most room e lost L h' G ∧ Upd h h' G G ∧ (h.wf → h'.wf) := by
  obtain ⟨a, n, f, E, h1, h2, rfl, h4⟩ := hR
  refine ⟨_, Hp.st_of h1 (Nat.le_of_ble_eq_true rfl), ⟨a, n, f, E, Hp.get_set_self, ?_, rfl, h4⟩, ⟨fun j hj hF => Hp.get_set_ne fun e => hF (by simp [e]), fun j hj => .inl hj, Nat.le_refl _⟩, fun hw => hw.set (hw.lt h1)⟩
  exact (Own.rep 3 a n L).loc h _ E (fun j hj => Hp.get_set_ne fun e => h4 (e ▸ hj)) h2

theorem refLd {h : Hp} {G : List Nat} {r : Nat} {most room fails lost : Int} {L : List (List V)} (hR : RefR r most room fails lost L h G) :
    (∃ a f, h.ld r 2 = some (.slc a L.length f) ∧ ∃ E, Own 3 a L.length L h E) ∧ h.ld r 3 = some (.int .i64 fails) ∧ h.ld r 4 = some (.int .u64 lost) := by
  obtain ⟨a, n, f, E, h1, h2, rfl, h4⟩ := hR
  have hn := h2.1
  subst hn
  exact ⟨⟨a, f, by rw [Hp.ld_of h1]; rfl, E, h2⟩, by rw [Hp.ld_of h1]; rfl, by rw [Hp.ld_of h1]; rfl⟩

/-- both boxes hold the same -/
structure IB (h0 : Hp) (b r : Nat) (most room lost fails : Int) (L Lr : List (List V)) (F G : List Nat) (h : Hp) : Prop where
  form : ∀ m ∈ L, ∃ ip port s, m = mailRow ip port s
  box : BoxR b lost most room (tot L) fails L h F
  ref : RefR r most room fails lost Lr h G
  dis : ∀ j ∈ F, j ∉ G
  room : tot L ≤ room
  most : (L.length : Int) ≤ most
  keeps : h0.keeps h
  wf : h.wf

def IBx (h0 : Hp) (b r : Nat) (most room : Int) (h : Hp) : Prop := ∃ lost fails L F G, IB h0 b r most room lost fails L L F G h

theorem IB.stay {h0 h h' : Hp} {b r : Nat} {most room lost fails : Int} {L Lr : List (List V)} {F G : List Nat} (i : IB h0 b r most room lost fails L Lr F G h) (hs : ∀ j, j < h.next → h'.get j = h.get j) (hw : h'.wf) : IB h0 b r most room lost fails L Lr F G h' :=
  ⟨i.form, (BoxR.rep _ _ _ _ _ _ _).stay i.wf i.box hs, (RefR.rep _ _ _ _ _ _).stay i.wf i.ref hs, i.dis, i.room, i.most, i.keeps.stay i.wf hs, hw⟩

def LI (h0 : Hp) (b r : Nat) (most room : Int) (n : Nat) : List V → Hp → Prop
  | [.int _ i], h' => ∃ k : Nat, i = k ∧ k ≤ n ∧ IBx h0 b r most room h'
  | _, _ => False

theorem law_calls (most : Int) (w0 : (Lit.int .i64 most).wf = true) (bytes : Int) (w1 : (Lit.int .i64 bytes).wf = true) {h : Hp} {a : Option (Nat × Nat)} {n : Nat} {f : Bool} {rows : List (List V)} (ha : RoSlc h a n rows 6)
    (hr0 : ∀ r ∈ rows, shpBs stepZ r = true ∧ ∀ v ∈ r, v.fits) (hbz : n * Try.prog.bytesOf 63 ≤ reachBytes) : XCalls Try.prog 6 [.int .i64 most, .int .i64 bytes, .slc a n f] h fun v _ => v = .bool true := by
  have hr : ∀ r ∈ rows, shpBs stepZ r = true := fun r h => (hr0 r h).1
  have hz : ∀ r ∈ rows, r.length = 6 := fun r h => shpBs_length (hr r h)
  refine XCalls.ofWf fun hw => ?_
  apply x6
  unfold X6
  refine (heavy_spec ha hr).mono ?_
  rintro _ h1 ⟨rfl, hv, rfl, hn⟩
  refine ⟨hv, rfl, ?_⟩
  cases hv with
  | true => exact works_spec fun _ => ⟨true, rfl, rfl⟩
  | false =>
    have hn := hn rfl
    simp only [cond_false]
    by_cases hbad : most < 1 ∨ 256 < most ∨ bytes < 1 ∨ 16769792 < bytes
    · refine (newBox_err hbad).mono ?_
      rintro _ h2 ⟨rfl, rfl⟩
      refine ⟨_, _, rfl, ?_⟩
      have fin : (bif (none : Option (Nat × Nat)).isNone then bif (2 : Int) == 2 then XCalls Try.prog 9 [] h2 fun v4 h'4 => ∃ b3, v4 = V.bool b3 ∧ V.bool b3 = V.bool true else V.bool false = V.bool true else V.bool false = V.bool true) :=
        works_spec fun _ => ⟨true, rfl, rfl⟩
      cases c1 : ltI most 1 with
      | true => exact fin
      | false =>
        cases c2 : ltI 256 most with
        | true => exact fin
        | false =>
          cases c3 : ltI bytes 1 with
          | true => exact fin
          | false =>
            cases c4 : ltI 16769792 bytes with
            | true => exact fin
            | false =>
              rw [ltI_eq, decide_eq_false_iff_not] at c1 c2 c3 c4
              omega
    · have c1 : ltI most 1 = false := by rw [ltI_eq, decide_eq_false_iff_not]; omega
      have c2 : ltI 256 most = false := by rw [ltI_eq, decide_eq_false_iff_not]; omega
      have c3 : ltI bytes 1 = false := by rw [ltI_eq, decide_eq_false_iff_not]; omega
      have c4 : ltI 16769792 bytes = false := by rw [ltI_eq, decide_eq_false_iff_not]; omega
      refine (newBox_spec (by omega) (by omega)).mono' ?_
      rintro _ h2 hle hw2 ⟨rfl, hbox, u2⟩
      refine ⟨_, _, rfl, ?_⟩
      simp only [c1, c2, c3, c4, bne_self_eq_false, cond_false, Option.isNone_some]
      rintro h3 rfl
      have hk2 : h1.keeps h2 := by intro q c e hq; rw [u2.same q (hw.lt hq) (by simp)]; exact hq
      have hst2 : ∀ x, ∀ j, j < h2.next → (h2.alloc x).get j = h2.get j := fun x j hj => Hp.get_alloc_ne (by omega)
      refine ⟨LI h1 h1.next h2.next most bytes n, fun vs _ => match vs with
        | [.int _ i] => n - i.toNat
        | _ => 0, ⟨trivial, 0, rfl, Nat.zero_le _, 0, 0, [], [h1.next], [h2.next], by simp, (BoxR.rep _ _ _ _ _ _ _).stay hw2 hbox (hst2 _), ⟨none, 0, true, [], Hp.get_alloc_self, Own.nil 3 _, rfl, by simp⟩, ?_, by simp [tot]; omega, by simp; omega, hk2.stay hw2 (hst2 _), hw2.alloc⟩, ?_⟩
      · have := (BoxR.rep _ _ _ _ _ _ _).lt hw2 hbox (j := h1.next) (by simp)
        simp; omega
      rintro bs i g ⟨k, rfl, hkn, lost, fails, L, F, G, ib⟩
      generalize hrr : h2.next = r at *
      generalize hbb : h1.next = b at *
      cases hi : ltI (↑k) (↑n) with
      | false => exact works_spec fun _ => ⟨true, rfl, rfl⟩
      | true =>
        rw [ltI_eq, decide_eq_true_eq] at hi
        have hkn' : k < n := by omega
        obtain ⟨q, row, rfl, hrow, hld, hlda⟩ := ha.ld ib.keeps hkn' hz
        obtain ⟨gt, ask, ip, port, s, fl, rfl⟩ := step_form (hr row (List.mem_of_getElem? hrow))
        have hfit := (hr0 _ (List.mem_of_getElem? hrow)).2
        have hw1 : IntKind.i64.wrap ((k : Int) + 1) = ((k + 1 : Nat) : Int) := wrap_succ (n := n) (by omega) (by omega)
        have hmeas : n - Int.toNat (IntKind.i64.wrap ((k : Int) + 1)) < n - Int.toNat (k : Int) := by rw [hw1]; simp only [Int.toNat_natCast]; omega
        refine ⟨⟨by omega, hi⟩, gt, ask, ip, port, s, fl, hlda, ?_⟩
        rintro g9 rfl
        refine ⟨_, Hp.st_of Hp.get_alloc_self (Nat.le_of_ble_eq_true rfl), ?_⟩
        generalize hg10 : (g.alloc (.row [.bool false, .bool false, .int .u32 0, .int .u16 0, .str [], .int .u8 0] 1 false)).set g.next (.row (splice [.bool false, .bool false, .int .u32 0, .int .u16 0, .str [], .int .u8 0] 0 [.bool gt, .bool ask, .int .u32 ip, .int .u16 port, .str s, .int .u8 fl]) 1 false) = g10
        have hs10 : ∀ j, j < g.next → g10.get j = g.get j := fun j hj => by rw [← hg10]; simp only [Hp.st, Hp.ld, Hp.lda, Hp.get_set, Hp.get_alloc, Hp.get_kill, Hp.next_alloc, Hp.next_set, Hp.next_kill, splice, ble_eq', if_true, if_false, ite_true, ite_false, cond_true, cond_false, decide_true, decide_false, List.length_cons, List.length_nil, List.take_zero, List.take_succ_cons, List.nil_append, List.cons_append, List.append_nil, List.drop_succ_cons, List.drop_zero, List.drop_nil, List.getElem?_cons_succ, List.getElem?_cons_zero, Nat.reduceAdd, Nat.reduceLeDiff, Nat.reduceEqDiff, Nat.zero_add, Nat.add_zero, Nat.le_refl, Nat.zero_le, Nat.succ_ne_self, Nat.mul_one, Int.toNat_natCast, Option.some.injEq, Option.isNone_some, Option.isNone_none, V.int.injEq, V.str.injEq, V.bool.injEq, V.ptr.injEq, V.slc.injEq, V.map.injEq, V.agg.injEq, V.tup.injEq, List.cons.injEq, Prod.mk.injEq, onS, true_and, and_true, and_assoc, exists_and_left, exists_eq_left', forall_eq, heq_eq_eq, reduceCtorEq, Bool.not_true, Bool.not_false, eq_self, not_false_eq_true, Nat.left_eq_add, Nat.add_eq_left, Nat.add_left_cancel_iff, Nat.add_right_cancel_iff, Nat.reduceEqDiff, Nat.one_ne_zero, show j ≠ g.next by omega]
        have ht10 : g10.get g.next = some (.row [.bool gt, .bool ask, .int .u32 ip, .int .u16 port, .str s, .int .u8 fl] 1 false) := by rw [← hg10]; simp only [Hp.st, Hp.ld, Hp.lda, Hp.get_set, Hp.get_alloc, Hp.get_kill, Hp.next_alloc, Hp.next_set, Hp.next_kill, splice, ble_eq', if_true, if_false, ite_true, ite_false, cond_true, cond_false, decide_true, decide_false, List.length_cons, List.length_nil, List.take_zero, List.take_succ_cons, List.nil_append, List.cons_append, List.append_nil, List.drop_succ_cons, List.drop_zero, List.drop_nil, List.getElem?_cons_succ, List.getElem?_cons_zero, Nat.reduceAdd, Nat.reduceLeDiff, Nat.reduceEqDiff, Nat.zero_add, Nat.add_zero, Nat.le_refl, Nat.zero_le, Nat.succ_ne_self, Nat.mul_one, Int.toNat_natCast, Option.some.injEq, Option.isNone_some, Option.isNone_none, V.int.injEq, V.str.injEq, V.bool.injEq, V.ptr.injEq, V.slc.injEq, V.map.injEq, V.agg.injEq, V.tup.injEq, List.cons.injEq, Prod.mk.injEq, onS, true_and, and_true, and_assoc, exists_and_left, exists_eq_left', forall_eq, heq_eq_eq, reduceCtorEq, Bool.not_true, Bool.not_false, eq_self, not_false_eq_true, Nat.left_eq_add, Nat.add_eq_left, Nat.add_left_cancel_iff, Nat.add_right_cancel_iff, Nat.reduceEqDiff, Nat.one_ne_zero]
        have hw10 : g10.wf := by rw [← hg10]; exact ib.wf.alloc.set (Nat.lt_succ_self _)
        have hn10 : g.next < g10.next := hw10.lt ht10
        have ib10 := ib.stay hs10 hw10
        have hFg : ∀ j ∈ F, j < g.next := fun j hj => (BoxR.rep _ _ _ _ _ _ _).lt ib.wf ib.box hj
        have hGg : ∀ j ∈ G, j < g.next := fun j hj => (RefR.rep _ _ _ _ _ _).lt ib.wf ib.ref hj
        clear hg10
        refine ⟨fun _ h' => IBx h1 b r most bytes h', ?_, ?_⟩
        · refine ⟨gt, by rw [Hp.ld_of ht10]; rfl, ?_⟩
          have tmp : ∀ {g' : Hp} {F' : List Nat}, Upd g10 g' F F' → g'.get g.next = some (.row [.bool gt, .bool ask, .int .u32 ip, .int .u16 port, .str s, .int .u8 fl] 1 false) := fun u => by
            rw [u.same _ hn10 (fun hF => by have := hFg _ hF; omega)]; exact ht10
          obtain ⟨⟨ra, rf, hr2, E, hro⟩, hr3, hr4⟩ := refLd ib10.ref
          cases gt with
          | true =>
            simp only [cond_true]
            refine (get_spec hw10 ib10.box ib10.form).mono' ?_
            rintro v h11 hle11 hw11 ⟨F', u11, hres⟩
            obtain ⟨hR11, hd11⟩ := Upd.frame (RefR.rep _ _ _ _ _ _) hw10 ib10.ref u11 ib10.dis
            have hk11 := Upd.keeps (BoxR.rep _ _ _ _ _ _ _) hw10 ib10.box u11 ib10.keeps
            have hst : ∀ x, ∀ j, j < h11.next → ((h11.alloc (.row [.int .u32 0, .int .u16 0, .str []] 1 false)).set h11.next x).get j = h11.get j := fun x j hj => by
              simp only [Hp.st, Hp.ld, Hp.lda, Hp.get_set, Hp.get_alloc, Hp.get_kill, Hp.next_alloc, Hp.next_set, Hp.next_kill, splice, ble_eq', if_true, if_false, ite_true, ite_false, cond_true, cond_false, decide_true, decide_false, List.length_cons, List.length_nil, List.take_zero, List.take_succ_cons, List.nil_append, List.cons_append, List.append_nil, List.drop_succ_cons, List.drop_zero, List.drop_nil, List.getElem?_cons_succ, List.getElem?_cons_zero, Nat.reduceAdd, Nat.reduceLeDiff, Nat.reduceEqDiff, Nat.zero_add, Nat.add_zero, Nat.le_refl, Nat.zero_le, Nat.succ_ne_self, Nat.mul_one, Int.toNat_natCast, Option.some.injEq, Option.isNone_some, Option.isNone_none, V.int.injEq, V.str.injEq, V.bool.injEq, V.ptr.injEq, V.slc.injEq, V.map.injEq, V.agg.injEq, V.tup.injEq, List.cons.injEq, Prod.mk.injEq, onS, true_and, and_true, and_assoc, exists_and_left, exists_eq_left', forall_eq, heq_eq_eq, reduceCtorEq, Bool.not_true, Bool.not_false, eq_self, not_false_eq_true, Nat.left_eq_add, Nat.add_eq_left, Nat.add_left_cancel_iff, Nat.add_right_cancel_iff, Nat.reduceEqDiff, Nat.one_ne_zero, show j ≠ h11.next by omega]
            cases L with
            | nil =>
              obtain ⟨rfl, hbx⟩ := hres
              refine ⟨0, 0, [], false, rfl, ?_⟩
              rintro h12 rfl
              refine ⟨_, Hp.st_of Hp.get_alloc_self (Nat.le_of_ble_eq_true rfl), ?_⟩
              generalize hg13 : (h11.alloc (.row [.int .u32 0, .int .u16 0, .str []] 1 false)).set h11.next (.row (splice [.int .u32 0, .int .u16 0, .str []] 0 [.int .u32 0, .int .u16 0, .str []]) 1 false) = h13
              have hs13 : ∀ j, j < h11.next → h13.get j = h11.get j := by rw [← hg13]; exact hst _
              have ht13 : h13.get h11.next = some (.row [.int .u32 0, .int .u16 0, .str []] 1 false) := by rw [← hg13]; simp only [Hp.st, Hp.ld, Hp.lda, Hp.get_set, Hp.get_alloc, Hp.get_kill, Hp.next_alloc, Hp.next_set, Hp.next_kill, splice, ble_eq', if_true, if_false, ite_true, ite_false, cond_true, cond_false, decide_true, decide_false, List.length_cons, List.length_nil, List.take_zero, List.take_succ_cons, List.nil_append, List.cons_append, List.append_nil, List.drop_succ_cons, List.drop_zero, List.drop_nil, List.getElem?_cons_succ, List.getElem?_cons_zero, Nat.reduceAdd, Nat.reduceLeDiff, Nat.reduceEqDiff, Nat.zero_add, Nat.add_zero, Nat.le_refl, Nat.zero_le, Nat.succ_ne_self, Nat.mul_one, Int.toNat_natCast, Option.some.injEq, Option.isNone_some, Option.isNone_none, V.int.injEq, V.str.injEq, V.bool.injEq, V.ptr.injEq, V.slc.injEq, V.map.injEq, V.agg.injEq, V.tup.injEq, List.cons.injEq, Prod.mk.injEq, onS, true_and, and_true, and_assoc, exists_and_left, exists_eq_left', forall_eq, heq_eq_eq, reduceCtorEq, Bool.not_true, Bool.not_false, eq_self, not_false_eq_true, Nat.left_eq_add, Nat.add_eq_left, Nat.add_left_cancel_iff, Nat.add_right_cancel_iff, Nat.reduceEqDiff, Nat.one_ne_zero]
              have hw13 : h13.wf := by rw [← hg13]; exact hw11.alloc.set (Nat.lt_succ_self _)
              have hR13 := (RefR.rep _ _ _ _ _ _).stay hw11 hR11 hs13
              obtain ⟨⟨a13, f13, hl13, _⟩, _, _⟩ := refLd hR13
              refine ⟨fun _ h' => IBx h1 b r most bytes h', ⟨a13, 0, f13, hl13, ?_⟩, ?_⟩
              · have c0 : ltI 0 (↑(0 : Nat)) = false := rfl
                simp only [c0, beq_self_eq_true, Bool.not_true, Bool.not_false, cond_true, cond_false]
                refine ⟨0, 0, [], by rw [Hp.lda_of ht13 (Nat.le_of_ble_eq_true rfl)]; rfl, ?_⟩
                simp only [beq_self_eq_true, Bool.and_self, Bool.not_true, cond_false]
                exact ⟨trivial, lost, fails, [], F', G, ib10.form, (BoxR.rep _ _ _ _ _ _ _).stay hw11 hbx hs13, hR13, hd11, ib10.room, ib10.most, hk11.stay hw11 hs13, hw13⟩
              · intro bs2 h2' hq
                simp only [cond_false]
                exact ⟨trivial, hq⟩
            | cons m L' =>
              obtain ⟨mi, mp, ms, rfl, rfl, hbx⟩ := hres
              have htot : tot (mailRow mi mp ms :: L') = ms.length + tot L' := rfl
              have htn := tot_nonneg L'
              have hroom := ib10.room
              have hmost := ib10.most
              have hbw : IntKind.i64.wrap (tot (mailRow mi mp ms :: L') - ms.length) = tot L' := by
                rw [wrap_of (by simp [IntKind.min, IntKind.max, IntKind.signed, IntKind.bits]; omega)]; omega
              rw [hbw] at hbx
              refine ⟨mi, mp, ms, true, rfl, ?_⟩
              rintro h12 rfl
              refine ⟨_, Hp.st_of Hp.get_alloc_self (Nat.le_of_ble_eq_true rfl), ?_⟩
              generalize hg13 : (h11.alloc (.row [.int .u32 0, .int .u16 0, .str []] 1 false)).set h11.next (.row (splice [.int .u32 0, .int .u16 0, .str []] 0 [.int .u32 mi, .int .u16 mp, .str ms]) 1 false) = h13
              have hs13 : ∀ j, j < h11.next → h13.get j = h11.get j := by rw [← hg13]; exact hst _
              have ht13 : h13.get h11.next = some (.row [.int .u32 mi, .int .u16 mp, .str ms] 1 false) := by rw [← hg13]; simp only [Hp.st, Hp.ld, Hp.lda, Hp.get_set, Hp.get_alloc, Hp.get_kill, Hp.next_alloc, Hp.next_set, Hp.next_kill, splice, ble_eq', if_true, if_false, ite_true, ite_false, cond_true, cond_false, decide_true, decide_false, List.length_cons, List.length_nil, List.take_zero, List.take_succ_cons, List.nil_append, List.cons_append, List.append_nil, List.drop_succ_cons, List.drop_zero, List.drop_nil, List.getElem?_cons_succ, List.getElem?_cons_zero, Nat.reduceAdd, Nat.reduceLeDiff, Nat.reduceEqDiff, Nat.zero_add, Nat.add_zero, Nat.le_refl, Nat.zero_le, Nat.succ_ne_self, Nat.mul_one, Int.toNat_natCast, Option.some.injEq, Option.isNone_some, Option.isNone_none, V.int.injEq, V.str.injEq, V.bool.injEq, V.ptr.injEq, V.slc.injEq, V.map.injEq, V.agg.injEq, V.tup.injEq, List.cons.injEq, Prod.mk.injEq, onS, true_and, and_true, and_assoc, exists_and_left, exists_eq_left', forall_eq, heq_eq_eq, reduceCtorEq, Bool.not_true, Bool.not_false, eq_self, not_false_eq_true, Nat.left_eq_add, Nat.add_eq_left, Nat.add_left_cancel_iff, Nat.add_right_cancel_iff, Nat.reduceEqDiff, Nat.one_ne_zero]
              have hw13 : h13.wf := by rw [← hg13]; exact hw11.alloc.set (Nat.lt_succ_self _)
              have hR13 := (RefR.rep _ _ _ _ _ _).stay hw11 hR11 hs13
              obtain ⟨⟨a13, f13, hl13, E13, ho13⟩, _, _⟩ := refLd hR13
              obtain ⟨q0, o0, r0, rfl, e0, _, _, hlda0⟩ := ho13.ld (k := 0) (by simp)
              cases e0
              have c0 : ltI 0 (↑(mailRow mi mp ms :: L').length) = true := by rw [ltI_eq, decide_eq_true_eq]; simp only [List.length_cons]; omega
              refine ⟨fun _ h' => IB h1 b r most bytes lost fails L' (mailRow mi mp ms :: L') F' G h', ⟨_, _, f13, hl13, ?_⟩, ?_⟩
              · simp only [c0, beq_self_eq_true, Bool.not_true, Bool.not_false, cond_true, cond_false]
                refine ⟨mi, mp, ms, by rw [Hp.lda_of ht13 (Nat.le_of_ble_eq_true rfl)]; rfl, _, _, f13, hl13, ⟨by omega, by simp only [List.length_cons]; omega⟩, mi, mp, ms, hlda0, ?_⟩
                simp only [beq_self_eq_true, Bool.and_self, Bool.not_true, cond_false]
                exact ⟨trivial, fun x hx => ib10.form x (by simp [hx]), (BoxR.rep _ _ _ _ _ _ _).stay hw11 hbx hs13, hR13, hd11, by omega, by simp at hmost; omega, hk11.stay hw11 hs13, hw13⟩
              · intro bs2 h2' hq
                simp only [cond_true]
                obtain ⟨a', n', f', hl', a5, n5, f5, hx5, h14, hs14, hR14, u14, w14⟩ := refTail hq.ref
                refine ⟨a', n', f', hl', a5, n5, f5, hx5, h14, hs14, trivial, lost, fails, L', F', G, hq.form, ?_, hR14, hq.dis, hq.room, hq.most, ?_, ?_⟩
                · exact (Upd.frame (BoxR.rep _ _ _ _ _ _ _) hq.wf hq.box u14 (fun j hj hF => hq.dis j hF hj)).1
                · exact Upd.keeps (RefR.rep _ _ _ _ _ _) hq.wf hq.ref u14 hq.keeps
                · exact w14 hq.wf
          | false =>
            simp only [cond_false]
            refine ⟨ask, by rw [Hp.ld_of ht10]; rfl, ?_⟩
            cases ask with
            | true =>
              simp only [cond_true]
              refine ⟨fails, hr3, (failed_spec ib10.box).mono' ?_⟩
              rintro _ h15 hle15 hw15 ⟨rfl, hb15, u15⟩
              obtain ⟨hR15, hd15⟩ := Upd.frame (RefR.rep _ _ _ _ _ _) hw10 ib10.ref u15 ib10.dis
              have hk15 := Upd.keeps (BoxR.rep _ _ _ _ _ _ _) hw10 ib10.box u15 ib10.keeps
              refine ⟨_, rfl, ⟨fails, (refLd hR15).2.1, rfl⟩, trivial, trivial, trivial, ?_⟩
              simp only [bne_self_eq_false, cond_false]
              obtain ⟨h16, hs16, hR16, u16, w16⟩ := refFails hR15 0
              refine ⟨h16, hs16, trivial, lost, 0, L, F, G, ib10.form, (Upd.frame (BoxR.rep _ _ _ _ _ _ _) hw15 hb15 u16 (fun j hj hF => hd15 j hF hj)).1, hR16, hd15, ib10.room, ib10.most, Upd.keeps (RefR.rep _ _ _ _ _ _) hw15 hR15 u16 hk15, w16 hw15⟩
            | false =>
              simp only [cond_false]
              refine ⟨fl, by rw [Hp.ld_of ht10]; rfl, ?_⟩
              cases hfl : ltI 0 fl with
              | true =>
                simp only [cond_true]
                refine ⟨fl, by rw [Hp.ld_of ht10]; rfl, (fail_spec ib10.box).mono' ?_⟩
                rintro _ h17 hle17 hw17 ⟨hb17, u17⟩
                have hfb := hfit (.int .u8 fl) (by simp)
                simp [V.fits, IntKind.min, IntKind.max, IntKind.signed, IntKind.bits] at hfb
                rw [ltI_eq, decide_eq_true_eq] at hfl
                have hwf : IntKind.i64.wrap fl = fl := wrap_of (by simp [IntKind.min, IntKind.max, IntKind.signed, IntKind.bits]; omega)
                rw [hwf, if_neg (by omega)] at hb17
                obtain ⟨hR17, hd17⟩ := Upd.frame (RefR.rep _ _ _ _ _ _) hw10 ib10.ref u17 ib10.dis
                have hk17 := Upd.keeps (BoxR.rep _ _ _ _ _ _ _) hw10 ib10.box u17 ib10.keeps
                obtain ⟨h18, hs18, hR18, u18, w18⟩ := refFails hR17 fl
                refine ⟨fl, by rw [Hp.ld_of (tmp u17)]; rfl, ?_⟩
                rw [hwf]
                refine ⟨h18, hs18, trivial, lost, fl, L, F, G, ib10.form, (Upd.frame (BoxR.rep _ _ _ _ _ _ _) hw17 hb17 u18 (fun j hj hF => hd17 j hF hj)).1, hR18, hd17, ib10.room, ib10.most, Upd.keeps (RefR.rep _ _ _ _ _ _) hw17 hR17 u18 hk17, w18 hw17⟩
              | false =>
                simp only [cond_false]
                have hs : s.length ≤ reachBytes := hfit (.str s) (by simp)
                have hs' := hs
                simp only [reachBytes] at hs'
                have hroom := ib10.room
                have hmost := ib10.most
                have htn := tot_nonneg L
                refine ⟨ip, port, s, by rw [Hp.lda_of ht10 (Nat.le_of_ble_eq_true rfl)]; rfl, ip, port, s, by rw [Hp.lda_of ht10 (Nat.le_of_ble_eq_true rfl)]; rfl, (put_spec hw10 ib10.box (by omega) ⟨htn, hroom, by omega⟩ (by omega)).mono' ?_⟩
                rintro v h19 hle19 hw19 ⟨F', u19, hres⟩
                obtain ⟨hR19, hd19⟩ := Upd.frame (RefR.rep _ _ _ _ _ _) hw10 ib10.ref u19 ib10.dis
                have hk19 := Upd.keeps (BoxR.rep _ _ _ _ _ _ _) hw10 ib10.box u19 ib10.keeps
                obtain ⟨e, hv, hfin⟩ : ∃ e : Int, v = .int .i64 e ∧ ∀ (v' : V) (h20 : Hp), h19.next ≤ h20.next → h20.wf → (∃ G', Upd h19 h20 G G' ∧ if (L.length : Int) < most ∧ (s.length : Int) ≤ bytes - tot L then v' = .int .i64 0 ∧ RefR r most bytes fails lost (L ++ [mailRow ip port s]) h20 G'
                      else v' = .int .i64 6 ∧ RefR r most bytes fails (IntKind.u64.wrap (lost + 1)) L h20 G') → v' = .int .i64 e ∧ IBx h1 b r most bytes h20 := by
                  split at hres
                  · rename_i hc
                    obtain ⟨hv, hbx⟩ := hres
                    refine ⟨0, hv, ?_⟩
                    rintro v' h20 hle20 hw20 ⟨G', u20, hx⟩
                    rw [if_pos hc] at hx
                    obtain ⟨hbx20, hd20⟩ := Upd.frame (BoxR.rep _ _ _ _ _ _ _) hw19 hbx u20 (fun j hj hF => hd19 j hF hj)
                    have hta : tot (L ++ [mailRow ip port s]) = tot L + s.length := by rw [tot_append]; rfl
                    refine ⟨hx.1, lost, fails, L ++ [mailRow ip port s], F', G', ?_, by rw [hta]; exact hbx20, hx.2, fun j hj hG => hd20 j hG hj, by rw [hta]; omega, by simp; omega, Upd.keeps (RefR.rep _ _ _ _ _ _) hw19 hR19 u20 hk19, hw20⟩
                    intro x hx'
                    rcases List.mem_append.1 hx' with h | h
                    · exact ib10.form x h
                    · rw [List.mem_singleton] at h; exact ⟨ip, port, s, h⟩
                  · rename_i hc
                    obtain ⟨hv, hbx⟩ := hres
                    refine ⟨6, hv, ?_⟩
                    rintro v' h20 hle20 hw20 ⟨G', u20, hx⟩
                    rw [if_neg hc] at hx
                    obtain ⟨hbx20, hd20⟩ := Upd.frame (BoxR.rep _ _ _ _ _ _ _) hw19 hbx u20 (fun j hj hF => hd19 j hF hj)
                    exact ⟨hx.1, _, fails, L, F', G', ib10.form, hbx20, hx.2, fun j hj hG => hd20 j hG hj, hroom, hmost, Upd.keeps (RefR.rep _ _ _ _ _ _) hw19 hR19 u20 hk19, hw20⟩
                refine ⟨e, hv, ⟨ip, port, s, by rw [Hp.lda_of (tmp u19) (Nat.le_of_ble_eq_true rfl)]; rfl, rfl⟩, trivial, trivial, (refPut_spec hw19 hR19 ib10.form (by omega) (by omega) ⟨hroom, by omega⟩ hs).mono' ?_⟩
                intro v' h20 hle20 hw20 hx
                obtain ⟨rfl, hfin⟩ := hfin v' h20 hle20 hw20 hx
                refine ⟨e, rfl, ?_⟩
                simp only [bne_self_eq_false, cond_false]
                exact ⟨trivial, hfin⟩
        · rintro bs3 h3 ⟨lost3, fails3, L3, F3, G3, i3⟩
          refine (fail_spec (e := 0) i3.box).mono' ?_
          rintro _ h21 _ hw21 ⟨hb21, u21⟩
          rw [if_pos rfl] at hb21
          obtain ⟨hr21, hd21⟩ := Upd.frame (RefR.rep _ _ _ _ _ _) i3.wf i3.ref u21 i3.dis
          have hk21 := Upd.keeps (BoxR.rep _ _ _ _ _ _ _) i3.wf i3.box u21 i3.keeps
          refine (len_spec hb21).mono ?_
          rintro _ h22 ⟨rfl, rfl⟩
          refine ⟨_, _, rfl, ?_⟩
          obtain ⟨⟨a6, f6, hl6, _⟩, hl7, hl8⟩ := refLd hr21
          refine ⟨a6, _, f6, hl6, ?_⟩
          simp only [bne_self_eq_false, cond_false]
          refine (bytes_spec hr21 i3.form (by have := i3.room; omega) (by have := i3.most; omega)).mono ?_
          rintro _ h23 ⟨rfl, rfl⟩
          refine ⟨_, rfl, trivial, ?_⟩
          simp only [bne_self_eq_false, cond_false]
          refine ⟨lost3, hl8, (dropped_spec hb21).mono ?_⟩
          rintro _ h24 ⟨rfl, rfl⟩
          refine ⟨_, rfl, ⟨_, hl8, rfl⟩, trivial, trivial, trivial, ?_⟩
          simp only [bne_self_eq_false, cond_false]
          exact ⟨trivial, ⟨k + 1, hw1, by omega, lost3, fails3, L3, F3, G3, i3.form, hb21, hr21, hd21, i3.room, i3.most, hk21, hw21⟩, hmeas⟩
end Go.Vex.BoxPlays

namespace Go.Proofs.Ytappaengiioblaa.boxPlays
open Go.ChangeShapes Go.WideShapes Go.ChangeAt Go.RowKit Go.Vex Go.Vex.BoxPlays
open Go.ChangeMaps (open_string shut_string)

theorem own : ownKnob Try.prog.godebug = none := by kernel_rfl

set_option maxRecDepth 100000 in
theorem lifted (os : Os) (started : os.Started) (H : Type) (enc : TypeId × Value → H) :
    ReturnsInHanded {} Try.checked os 6 .any (Rows.boxPlaysSpec.pre6 enc Try.prog Try.f6 Rows.boxPlaysRow.domain false) (Rows.boxPlaysSpec.post enc Try.prog Try.f6 false true false false) := by
  refine returnsInHanded_of_change_sized (C := Try.checked) own started (by kernel_rfl) Try.func6
    (ChangeSpec.witness6 (enc := enc) (C := Try.checked) false ⟨#[], #[.int .i64 0, .int .i64 0, .slice none 0 0], []⟩ 8 (by kernel_rfl) (by kernel_rfl) (by kernel_rfl) (by kernel_rfl)) ?_
  intro W base args ds gs before hval0 hW hcnd hsz _
  have hval : ∀ (j : Nat) t v, Try.f6.params[j]? = some t → args[j]? = some v → Value.okWide Try.prog W .any base t v := hval0
  have hW' := hW
  obtain ⟨p, q, hA0, hV, rfl, hfz, hnd⟩ := hW
  have hA : DataW.TrodAll enc Try.prog W 0 (fun _ => true) true Try.f6.params.toList args.toList ds p := hA0
  rw [Try.params6] at hA hval hsz
  obtain ⟨v0, vs0, d0, ds0, p0, q0, hargs, rfl, rfl, h0, r0⟩ := trodAll_cons hA
  obtain ⟨v1, vs1, d1, ds1, p1, q1, rfl, rfl, rfl, h1, r1⟩ := trodAll_cons r0
  obtain ⟨v2, vs2, d2, ds2, p2, q2, rfl, rfl, rfl, h2, r2⟩ := trodAll_cons r1
  obtain ⟨rfl, rfl, rfl⟩ := trodAll_nil r2
  obtain rfl : args = #[v0, v1, v2] := by cases args; simp_all
  obtain ⟨rfl, rfl⟩ := trodVars_none hV
  obtain ⟨a0, rfl, rfl, rfl, w0⟩ := open_int Try.underlying3 (hval 0 3 v0 rfl rfl) h0
  obtain ⟨a1, rfl, rfl, rfl, w1⟩ := open_int Try.underlying3 (hval 1 3 v1 rfl rfl) h1
  obtain ⟨ρ2, hp2, b2, n2, f2, rows2, s2, x2, l2, k2, vr2, ro2, sh2, z2⟩ := arg_slice tok (T := Vex.T) (t := 54) (e := 63) (d := 6) (zs := stepZ) rfl rfl rfl rfl rfl (by decide) (hval 2 54 v2 rfl rfl) h2 (fun m hm => hW'.lt m (by simp [hm])) (fun m hm => by simpa using List.all_eq_true.1 hsz m (DataW.weights_mem_each (j := 2) (t := 54) rfl rfl m hm)) (Sat.none W fun _ => ⟨0, 0, 0, 0⟩)
  refine (XCalls.true' s2 (vs := [.int .i64 a0, .int .i64 a1, .slc b2 n2 f2]) ⟨_, _, rfl, rfl, ⟨_, _, rfl, rfl, ⟨_, _, rfl, vr2, rfl⟩⟩⟩ (law_calls a0 w0 a1 w1 ro2 sh2 z2)).mono fun e W' ⟨he, hb⟩ => ?_
  subst he
  exact ⟨_, rfl, post_true (by kernel_rfl) hW' hb rfl (fun gs hg => by subst hg; rfl) (tb := 4) rfl Try.underlying4 (by decide +kernel)⟩

theorem over : Rows.boxPlaysRow.holds Try.pinned (OpenSpec.ofChange Rows.boxPlaysSpec) :=
  OpenClaim.holds_of_wide 6 Try.f6 rfl rfl rfl rfl rfl rfl rfl ⟨rfl, rfl, rfl, rfl, rfl⟩ rfl rfl rfl rfl rfl (by kernel_rfl) Try.func6 (by kernel_rfl)
    (of_decide_eq_true (by kernel_rfl)) (by unfold Func.isWrapper; first | (rw [if_pos (by decide +kernel)]; kernel_rfl) | (rw [if_neg (by decide +kernel)]; exact ⟨rfl, rfl⟩))
    (fun os started H enc _ => lifted os started H enc)

theorem proved : Rows.BoxPlaysSaid :=
  over
#print axioms proved
end Go.Proofs.Ytappaengiioblaa.boxPlays

