/-
  InPlays of layer 26: whatever the number, the most and the script, the law returns true and leaves the input as it was. No condition.
-/
import Derived.Test.YtkdjjjpfkdkgoaaVexGG
import Derived.Test.YtkdjjjpfkdkgoaaTab26
import Derived.Test.YtkdjjjpfkdkgoaaXa26
import Derived.Test.YtkdjjjpfkdkgoaaCa26
import Derived.Test.YtkdjjjpfkdkgoaaXg26
import Derived.Test.YtkdjjjpfkdkgoaaCg26
import Derived.Test.YtkdjjjpfkdkgoaaCi26
import Derived.Test.YtkdjjjpfkdkgoaaCj26
import Derived.Test.YtkdjjjpfkdkgoaaCk26
import Derived.Test.YtkdjjjpfkdkgoaaCl26
import Derived.Test.YtkdjjjpfkdkgoaaCm26
import Derived.Test.YtkdjjjpfkdkgoaaCn26
import Derived.Test.YtkdjjjpfkdkgoaaXi26
import Derived.Test.YtkdjjjpfkdkgoaaXk26
import Derived.Test.YtkdjjjpfkdkgoaaRows
import Derived.WalkKit
import Derived.ProofKit
import Derived.OpenShut
import Derived.KernelRfl
set_option linter.unusedVariables false
set_option linter.unusedSimpArgs false
namespace Go.Vex.InPlays
open Go.Proofs Go.Vex.In

set_option maxRecDepth 100000 in
theorem works_ev : (ev Vex.T Vex.F (fun _ => []) 100000).call 10 [] h0 isT = true := by kernel_rfl

theorem works_spec {h : Hp} {K : V → Hp → Prop} (hk : ∀ h', K (.bool true) h') : XCalls Try.prog 10 [] h K :=
  (XCalls.fresh (K := fun v => v = .bool true) rfl (fun v hv => by subst hv; rfl) (XCalls.ev tok fok mixed (fun _ => []) 100000 works_ev fun _ _ hv => isT_spec hv)).mono fun v h' hv => by rw [hv.1]; exact hk h'

def stepZ : List V := [.bool false, .bool false, .int .i64 0, .int .i64 0, .str []]

theorem step_form {r : List V} (h : shpBs stepZ r = true) : ∃ a b c d s, r = [.bool a, .bool b, .int .i64 c, .int .i64 d, .str s] :=
  allSs_spec stepZ r (k := fun r => ∃ a b c d s, r = [.bool a, .bool b, .int .i64 c, .int .i64 d, .str s]) (fun a b c d s => ⟨a, b, c, d, s, rfl⟩) h

theorem wrap_succ {k n : Nat} (h : k < n) (hn : n ≤ 9223372036854775807) : IntKind.i64.wrap ((k : Int) + 1) = ((k + 1 : Nat) : Int) := by
  rw [wrap_of (by simp [IntKind.min, IntKind.max, IntKind.signed, IntKind.bits]; omega)]; rfl

theorem pieces_spec {h : Hp} {a : Option (Nat × Nat)} {n : Nat} {f : Bool} {rows : List (List V)} (ha : RoSlc h a n rows 5) (hr : ∀ r ∈ rows, shpBs stepZ r = true) :
    XCalls Try.prog 24 [.slc a n f] h fun v h' => h' = h ∧ ∃ b, v = .bool b ∧ (b = false → n ≤ 200) := by
  apply x24; unfold X24
  refine ⟨fun vs h' => match vs with
    | [.int _ x] => h' = h
    | _ => False, ?_, ?_⟩
  · refine ⟨fun vs h' => match vs with
      | [.int _ x, .int _ i] => h' = h ∧ ∃ k : Nat, i = k ∧ k ≤ 500 ∧ k ≤ n
      | _ => False, fun vs _ => match vs with
      | [_, .int _ i] => 500 - i.toNat
      | _ => 0, ⟨rfl, rfl, 0, rfl, by omega, by omega⟩, ?_⟩
    rintro bs x i h1 ⟨rfl, k, rfl, hk, hkn⟩
    cases hi : ltI (↑k) (↑n) with
    | false => exact ⟨rfl, rfl⟩
    | true =>
      cases hj : ltI (↑k) 500 with
      | false => exact ⟨rfl, rfl⟩
      | true =>
        rw [ltI_eq, decide_eq_true_eq] at hi hj
        obtain ⟨q, r, rfl, hrow, hld, _⟩ := ha.ld (Hp.keeps.refl h1) (k := k) (by omega) (fun r h => shpBs_length (hr r h))
        obtain ⟨a', b', c', d', s', rfl⟩ := step_form (hr r (List.mem_of_getElem? hrow))
        have hw1 : IntKind.i64.wrap ((k : Int) + 1) = ((k + 1 : Nat) : Int) := wrap_succ (n := 500) (by omega) (by omega)
        refine ⟨⟨by omega, hi⟩, s', hld 4 (by omega), rfl, ⟨rfl, k + 1, hw1, by omega, by omega⟩, ?_⟩
        show 500 - Int.toNat (IntKind.i64.wrap ((k : Int) + 1)) < 500 - Int.toNat (k : Int)
        rw [hw1]; simp only [Int.toNat_natCast]; omega
  rintro bs x h1 rfl
  cases hc : ltI 200 (↑n) with
  | true => exact ⟨rfl, true, rfl, fun h => by cases h⟩
  | false => rw [ltI_eq, decide_eq_false_iff_not] at hc; exact ⟨rfl, _, rfl, fun _ => by omega⟩


theorem first_uniq {F : Nat → Int} {q q' : Nat} (h1 : ∀ k, k < q → 0 ≤ F k) (h2 : F q < 0) (h3 : ∀ k, k < q' → 0 ≤ F k) (h4 : F q' < 0) : q = q' := by
  by_cases c : q < q'
  · have := h3 q c; omega
  · by_cases c2 : q' < q
    · have := h1 q' c2; omega
    · omega

def shE (E : Int) (q : Nat) : Int := if 0 ≤ E then E - q else E

theorem shE_le {n rl : Nat} {F : Nat → Int} {E : Int} {q : Nat} (fi : FI n rl F E) (lo : ∀ k, k < q → 0 ≤ F k) (h : 0 ≤ E) : (q : Int) ≤ E := by
  by_cases h0 : q = 0
  · omega
  · have := (fi.en h).2 (q - 1) (lo (q - 1) (by omega)); omega

theorem FI.shift {n rl : Nat} {F : Nat → Int} {E : Int} {q : Nat} (fi : FI n rl F E) (lo : ∀ k, k < q → 0 ≤ F k) (hq : F q < 0) : FI n (rl + q) (sh F q) (shE E q) ∧ rn (sh F q) n = rn F n := by
  have hr : rn (sh F q) n = rn F n := by rw [rn_sh lo hq n, Nat.add_comm]; exact rn_out (fun k hk => fi.neg (by omega)) q
  refine ⟨⟨fun k hk => ?_, ?_, fun hE => ?_, by rw [hr]; exact fi.rns⟩, hr⟩
  · have := fi.hi (k + q) hk
    exact ⟨by omega, this.2⟩
  · by_cases h0 : q = 0
    · have := fi.rle; omega
    · have := fi.lt (lo (q - 1) (by omega)); omega
  · by_cases c : 0 ≤ E
    · have h1 := fi.en c
      rw [shE, if_pos c] at hE ⊢
      refine ⟨by omega, fun k hk => ?_⟩
      have := h1.2 (k + q) hk; omega
    · rw [shE, if_neg c] at hE; exact absurd hE c

theorem PI.shift {b : Int} {R : List UInt8} {n : Nat} {F : Nat → Int} {E : Int} {q : Nat} {s : IS} (si : PI b R n F E q s) (fi : FI n R.length F E) (hn : n ≤ 400) (lo : ∀ k, k < q → 0 ≤ F k) : PI (b + q) (R ++ In.bytes F q) n (sh F q) (shE E q) 0 s := by
  have hE := shE_le fi lo
  refine ⟨by rw [si.nx]; omega, by rw [si.rd]; simp [In.bytes], si.mo, fun k _ hk2 => ?_, fun x hx => ?_, si.nA, ?_, fun h0 => ?_⟩
  · have e : b + q + (k : Int) = b + ((k + q : Nat) : Int) := by omega
    rw [e]
    by_cases h : k + q < 65536
    · exact si.get (k + q) (by omega) h
    · have hneg : sh F q k < 0 := fi.neg (by omega)
      rw [if_neg (by omega)]
      cases hg : mget s.A ((b + ((k + q : Nat) : Int)) % 4294967296) with
      | none => rfl
      | some v =>
        obtain ⟨j, h1, h2, h3⟩ := si.far _ (mget_in hg)
        have hj := fi.lt h2
        simp only [Prod.mk.injEq] at h3
        omega
  · obtain ⟨j, h1, h2, rfl⟩ := si.far x hx
    have e : F j = sh F q (j - q) := by show F j = F (j - q + q); rw [Nat.sub_add_cancel h1]
    refine ⟨j - q, by omega, by rw [← e]; exact h2, ?_⟩
    rw [← e]
    have e2 : b + q + ((j - q : Nat) : Int) = b + j := by omega
    rw [e2]
  · rw [si.fin]
    by_cases c : 0 ≤ E
    · have := hE c
      rw [shE, if_pos c, decide_eq_true c, decide_eq_true (by omega)]
    · rw [shE, if_neg c]
  · by_cases c : 0 ≤ E
    · rw [si.en c, shE, if_pos c]; congr 1; omega
    · rw [shE, if_neg c] at h0; exact absurd h0 c

theorem PI.read {b : Int} {R : List UInt8} {n : Nat} {F : Nat → Int} {E : Int} {s : IS} (si : PI b R n F E 0 s) (k : Nat) : PI b (R.drop k) n F E 0 { s with rd := s.rd.drop k } :=
  ⟨si.nx, by show s.rd.drop k = _; rw [si.rd]; simp, si.mo, si.get, si.far, si.nA, si.fin, si.en⟩

theorem PI.rd0 {b : Int} {R : List UInt8} {n : Nat} {F : Nat → Int} {E : Int} {s : IS} (si : PI b R n F E 0 s) : s.rd = R := by rw [si.rd]; simp

theorem FI.less {n rl rl' : Nat} {F : Nat → Int} {E : Int} (fi : FI n rl F E) (h : rl' ≤ rl) : FI n rl' F E :=
  ⟨fun k hk => by have := fi.hi k hk; exact ⟨by omega, this.2⟩, by have := fi.rle; omega, fun hE => ⟨by have := (fi.en hE).1; omega, (fi.en hE).2⟩, fi.rns⟩

def St (h0 : Hp) (i r n : Nat) (h : Hp) : Prop := ∃ (b : Int) (R : List UInt8) (F : Nat → Int) (E : Int) (s : IS) (FA FB : List Nat), InR i s h FA ∧ PI b R n F E 0 s ∧ s.rows = rn F n ∧ F 0 < 0 ∧ FI n R.length F E ∧ NG F ∧ RefI r s.nx R F n E h FB ∧
  (∀ j ∈ FA, j ∉ FB) ∧ (∀ j ∈ FA, h0.next ≤ j) ∧ (∀ j ∈ FB, h0.next ≤ j) ∧ (∀ j, j < h0.next → h.get j = h0.get j) ∧ h.wf ∧ h0.next ≤ h.next

theorem St.quiet {h0 h h' : Hp} {i r n : Nat} (st : St h0 i r n h) (q : Quiet h h') : St h0 i r n h' := by
  obtain ⟨b, R, F, E, s, FA, FB, h1, h2, h3, h4, h5, h6, h7, h8, h9, h10, h11, h12, h13⟩ := st
  exact ⟨b, R, F, E, s, FA, FB, h1.quiet h12 q, h2, h3, h4, h5, h6, (RefI.rep _ _ _ _ _ _).stay h12 h7 q.same, h8, h9, h10, fun j hj => by rw [q.same j (by omega)]; exact h11 j hj, q.wf, by have := q.le; omega⟩

/-- one call of each -/
theorem both {h0 h h1 h2 : Hp} {i r n : Nat} {s' : IS} {FA FA' FB FB' : List Nat} (w1 : h1.wf) (w2 : h2.wf) (dj : ∀ j ∈ FA', j ∉ FB) (lA : ∀ j ∈ FA, h0.next ≤ j) (lB : ∀ j ∈ FB, h0.next ≤ j) (same : ∀ j, j < h0.next → h.get j = h0.get j) (le : h0.next ≤ h.next)
    (u1 : Upd h h1 FA FA') (ri : InR i s' h1 FA') (u2 : Upd h1 h2 FB FB')
    {b : Int} {R : List UInt8} {F : Nat → Int} {E : Int} (si : PI b R n F E 0 s') (hr : s'.rows = rn F n) (hF : F 0 < 0) (fi : FI n R.length F E) (g : NG F) (rf : RefI r s'.nx R F n E h2 FB') : St h0 i r n h2 := by
  obtain ⟨ri2, dj2⟩ := u2.frame (InR.rep _ _) w1 ri (fun j hj hj2 => dj j hj2 hj)
  have l1 := u1.le
  have l2 := u2.le
  have lA' : ∀ j ∈ FA', h0.next ≤ j := fun j hj => by
    rcases u1.new j hj with h | h
    · exact lA j h
    · omega
  refine ⟨b, R, F, E, s', FA', FB', ri2, si, hr, hF, fi, g, rf, fun j hj hj2 => dj2 j hj2 hj, lA', fun j hj => ?_, fun j hj => ?_, w2, by omega⟩
  · rcases u2.new j hj with h | h
    · exact lB j h
    · omega
  · rw [u2.same j (by omega) (fun hh => by have := lB j hh; omega), u1.same j (by omega) (fun hh => by have := lA j hh; omega)]; exact same j hj

set_option maxRecDepth 20000 in
theorem law_calls (fr : Int) (w0 : (Lit.int .u32 fr).wf = true) (most : Int) (w1 : (Lit.int .i64 most).wf = true) {h : Hp} {a : Option (Nat × Nat)} {n : Nat} {f : Bool} {rows : List (List V)} (ha : RoSlc h a n rows 5)
    (hr0 : ∀ r ∈ rows, shpBs stepZ r = true ∧ ∀ v ∈ r, v.fits) (hbz : n * Try.prog.bytesOf 52 ≤ reachBytes) : XCalls Try.prog 7 [.int .u32 fr, .int .i64 most, .slc a n f] h fun v _ => v = .bool true := by
  have hr : ∀ r ∈ rows, shpBs stepZ r = true := fun r h => (hr0 r h).1
  have hz : ∀ r ∈ rows, r.length = 5 := fun r h => shpBs_length (hr r h)
  refine XCalls.ofWf fun hw => ?_
  refine XCalls.cps fun K hK => ?_
  have KT : ∀ h', K (.bool true) h' := fun h' => hK _ _ rfl
  have hfr := lit_bnd w0
  simp [IntKind.min, IntKind.max, IntKind.signed, IntKind.bits] at hfr
  apply x7; unfold X7
  refine (pieces_spec ha hr).mono ?_
  rintro _ g0 ⟨rfl, bb, rfl, hn⟩
  refine ⟨_, rfl, ?_⟩
  cases bb with
  | true => exact works_spec fun _ => ⟨_, rfl, KT _⟩
  | false =>
  have hn := hn rfl
  simp only [cond_false]
  by_cases hm : most < 1 ∨ 16384 < most
  · refine (new_err hm).mono ?_
    rintro _ g1 ⟨rfl, rfl⟩
    refine ⟨_, _, rfl, ?_⟩
    cases c1 : ltI most 1 with
    | true => exact works_spec fun _ => ⟨_, rfl, KT _⟩
    | false =>
      rw [ltI_eq, decide_eq_false_iff_not] at c1
      have c2 : ltI 16384 most = true := by rw [ltI_eq, decide_eq_true_eq]; omega
      rw [c2]
      exact works_spec fun _ => ⟨_, rfl, KT _⟩
  have c1 : ltI most 1 = false := by rw [ltI_eq, decide_eq_false_iff_not]; omega
  have c2 : ltI 16384 most = false := by rw [ltI_eq, decide_eq_false_iff_not]; omega
  obtain ⟨M, rfl⟩ : ∃ M : Nat, most = (M : Int) := ⟨most.toNat, by omega⟩
  refine (new_spec hw (most := (M : Int)) (by omega)).mono ?_
  rintro _ g1 ⟨rfl, r1, q1⟩
  refine ⟨_, _, rfl, ?_⟩
  rw [c1, c2]
  simp only [bne_self_eq_false, cond_false, Option.isNone_some]
  cases c3 : ltI 400 (↑M) with
  | true => exact works_spec fun _ => ⟨_, rfl, KT _⟩
  | false =>
  rw [ltI_eq, decide_eq_false_iff_not] at c3
  have hM : 1 ≤ M ∧ M ≤ 400 := by omega
  refine (rnew_ex q1.wf hM.2).mono ?_
  rintro _ g2 ⟨rfl, FB0, rf0, q2, hFB⟩
  have st0 : St g0 (g0.next + 1) g1.next M g2 := by
    have hl1 := q1.le
    have hi1 : ∀ j ∈ [g0.next + 1, g0.next], j < g1.next := fun j hj => (InR.rep _ _).lt q1.wf r1 hj
    refine ⟨fr, [], fun _ => -1, -1, _, _, FB0, r1.quiet q1.wf q2, ⟨?_, by simp, rfl, fun k _ _ => by rw [if_neg (by omega)]; rfl, by simp, by simp, rfl, fun h => by omega⟩, ?_, by show (-1 : Int) < 0; omega, ⟨fun k hk => by simp at hk, Nat.zero_le _, fun h => by omega, ?_⟩, fun k _ => rfl, rf0, fun j hj hj2 => ?_, fun j hj => by simp at hj; omega, fun j hj => by have := hFB j hj; omega, fun j hj => ?_, q2.wf, by have := q2.le; omega⟩
    · show fr = _; omega
    · show (0 : Int) = _
      have : rn (fun _ => -1) M = 0 := by
        have : ∀ m, rn (fun _ => (-1 : Int)) m = 0 := fun m => by
          induction m with
          | zero => rfl
          | succ m ih => unfold rn; rw [ih, if_neg (by omega)]
        exact this M
      rw [this]; rfl
    · have : ∀ m, rn (fun _ => (-1 : Int)) m = 0 := fun m => by
        induction m with
        | zero => rfl
        | succ m ih => unfold rn; rw [ih, if_neg (by omega)]
      rw [this]; omega
    · have := hi1 j hj; have := hFB j hj2; omega
    · rw [q2.same j (by omega), q1.same j hj]
  generalize hii : g0.next + 1 = i at *
  generalize hrr : g1.next = r at *
  refine ⟨_, rfl, fun vs g => match vs with
    | [.int _ k] => ∃ k' : Nat, k = k' ∧ k' ≤ n ∧ St g0 i r M g
    | _ => False, fun vs _ => match vs with
    | [.int _ k] => n - k.toNat
    | _ => 0, ⟨by trivial, 0, rfl, by omega, st0⟩, ?_⟩
  rintro bs k g ⟨k, rfl, hkn, st⟩
  cases hi : ltI (↑k) (↑n) with
  | false => exact works_spec fun _ => ⟨true, rfl, KT _⟩
  | true =>
  rw [ltI_eq, decide_eq_true_eq] at hi
  have hkn' : k < n := by omega
  have keeps : g0.keeps g := fun j c e hq => by
    obtain ⟨b, R, F, E, s, FA, FB, h1, h2, h3, h4, h5, h6, h7, h8, h9, h10, same, gw, gle⟩ := st
    rw [same j (hw.lt hq)]; exact hq
  obtain ⟨qa, row, rfl, hrow, hld, hlda⟩ := ha.ld keeps hkn' hz
  obtain ⟨bR, bF, pA, pN, pS, rfl⟩ := step_form (hr row (List.mem_of_getElem? hrow))
  have hw1 : IntKind.i64.wrap ((k : Int) + 1) = ((k + 1 : Nat) : Int) := wrap_succ (n := n) (by omega) (by omega)
  refine ⟨⟨by omega, hi⟩, bR, bF, pA, pN, pS, hlda, ?_⟩
  rintro g9 rfl
  refine ⟨_, Hp.st_of Hp.get_alloc_self (Nat.le_of_ble_eq_true rfl), ?_⟩
  obtain ⟨b, R, F, E, s, FA, FB, ri0, si, hrows, hF0, fi, ng, rf1, dj, lA, lB, same0, gw, gle0⟩ := st
  obtain ⟨g3, hg3⟩ : ∃ g3, g3 = (g.alloc (.row [.bool false, .bool false, .int .i64 0, .int .i64 0, .str []] 1 false)).set g.next (.row (splice [.bool false, .bool false, .int .i64 0, .int .i64 0, .str []] 0 [.bool bR, .bool bF, .int .i64 pA, .int .i64 pN, .str pS]) 1 false) := ⟨_, rfl⟩
  rw [← hg3]
  have cc3 : g3.get g.next = some (.row [.bool bR, .bool bF, .int .i64 pA, .int .i64 pN, .str pS] 1 false) := by rw [hg3, Hp.get_set_self]; rfl
  have q3 : Quiet g g3 := by rw [hg3]; exact ⟨fun j hj => by simp (disch := (first | omega | (simp only [Hp.alloc_next, Hp.set_next] <;> omega) | (simp (disch := (first | omega | (simp only [Hp.alloc_next, Hp.set_next] <;> omega) | fail)) only [Hp.get_set_self, Hp.get_set_ne, Hp.get_alloc_self, Hp.get_alloc_ne, Hp.get_alloc_at, Hp.get_set_at, Hp.set_next, Hp.alloc_next]; done) | fail)) only [Hp.st, Hp.ld, Hp.lda, splice, ble_eq', if_true, if_false, ite_true, ite_false, cond_true, cond_false, decide_true, decide_false, List.length_cons, List.length_nil, List.take_zero, List.take_succ_cons, List.nil_append, List.cons_append, List.append_nil, List.drop_succ_cons, List.drop_zero, List.drop_nil, List.getElem?_cons_succ, List.getElem?_cons_zero, Nat.reduceAdd, Nat.reduceLeDiff, Nat.reduceEqDiff, Nat.zero_add, Nat.add_zero, Nat.le_refl, Nat.zero_le, Nat.succ_ne_self, Nat.mul_one, Int.toNat_natCast, Option.some.injEq, Option.isNone_some, Option.isNone_none, V.int.injEq, V.str.injEq, V.bool.injEq, V.ptr.injEq, V.slc.injEq, V.map.injEq, V.agg.injEq, V.tup.injEq, List.cons.injEq, Prod.mk.injEq, onS, true_and, and_true, and_assoc, exists_and_left, exists_eq_left', forall_eq, heq_eq_eq, reduceCtorEq, Bool.not_true, Bool.not_false, eq_self, not_false_eq_true, Nat.left_eq_add, Nat.add_eq_left, Nat.add_left_cancel_iff, Nat.add_right_cancel_iff, Nat.reduceEqDiff, Nat.one_ne_zero, Hp.get_set_self, Hp.get_set_ne, Hp.get_alloc_self, Hp.get_alloc_ne, Hp.get_alloc_at, Hp.get_set_at, Hp.set_next, Hp.alloc_next, Option.some_ne_none, V.tup.injEq, Option.isSome_some, Option.isSome_none, exists_eq_left, exists_eq, Nat.mul_zero], by simp (disch := (first | omega | (simp only [Hp.alloc_next, Hp.set_next] <;> omega) | (simp (disch := (first | omega | (simp only [Hp.alloc_next, Hp.set_next] <;> omega) | fail)) only [Hp.get_set_self, Hp.get_set_ne, Hp.get_alloc_self, Hp.get_alloc_ne, Hp.get_alloc_at, Hp.get_set_at, Hp.set_next, Hp.alloc_next]; done) | fail)) only [Hp.st, Hp.ld, Hp.lda, splice, ble_eq', if_true, if_false, ite_true, ite_false, cond_true, cond_false, decide_true, decide_false, List.length_cons, List.length_nil, List.take_zero, List.take_succ_cons, List.nil_append, List.cons_append, List.append_nil, List.drop_succ_cons, List.drop_zero, List.drop_nil, List.getElem?_cons_succ, List.getElem?_cons_zero, Nat.reduceAdd, Nat.reduceLeDiff, Nat.reduceEqDiff, Nat.zero_add, Nat.add_zero, Nat.le_refl, Nat.zero_le, Nat.succ_ne_self, Nat.mul_one, Int.toNat_natCast, Option.some.injEq, Option.isNone_some, Option.isNone_none, V.int.injEq, V.str.injEq, V.bool.injEq, V.ptr.injEq, V.slc.injEq, V.map.injEq, V.agg.injEq, V.tup.injEq, List.cons.injEq, Prod.mk.injEq, onS, true_and, and_true, and_assoc, exists_and_left, exists_eq_left', forall_eq, heq_eq_eq, reduceCtorEq, Bool.not_true, Bool.not_false, eq_self, not_false_eq_true, Nat.left_eq_add, Nat.add_eq_left, Nat.add_left_cancel_iff, Nat.add_right_cancel_iff, Nat.reduceEqDiff, Nat.one_ne_zero, Hp.get_set_self, Hp.get_set_ne, Hp.get_alloc_self, Hp.get_alloc_ne, Hp.get_alloc_at, Hp.get_set_at, Hp.set_next, Hp.alloc_next, Option.some_ne_none, V.tup.injEq, Option.isSome_some, Option.isSome_none, exists_eq_left, exists_eq, Nat.mul_zero]; omega, gw.alloc.set (Nat.lt_succ_self _)⟩
  have n3 : g3.next = g.next + 1 := by rw [hg3]; simp [Hp.alloc_next]
  clear hg3
  have hgA : g.next ∉ FA := fun hh => by have := (InR.rep _ _).lt gw ri0 hh; omega
  have hgB : g.next ∉ FB := fun hh => by have := (RefI.rep _ _ _ _ _ _).lt gw rf1 hh; omega
  have ri := ri0.quiet gw q3
  have rf := (RefI.rep _ _ _ _ _ _).stay gw rf1 q3.same
  have same : ∀ j, j < g0.next → g3.get j = g0.get j := fun j hj => by rw [q3.same j (by omega)]; exact same0 j hj
  have gw3 := q3.wf
  have gle : g0.next ≤ g3.next := by omega
  have hnx := si.nx
  have hnx0 : 0 ≤ s.nx ∧ s.nx < 4294967296 := by omega
  have hrd := PI.rd0 si
  have hrl := fi.rle
  refine ⟨s.nx, rf.nx0, pA, by simp (disch := (first | omega | (simp only [Hp.alloc_next, Hp.set_next] <;> omega) | (simp (disch := (first | omega | (simp only [Hp.alloc_next, Hp.set_next] <;> omega) | fail)) only [Hp.get_set_self, Hp.get_set_ne, Hp.get_alloc_self, Hp.get_alloc_ne, Hp.get_alloc_at, Hp.get_set_at, Hp.set_next, Hp.alloc_next, cc3]; done) | fail)) only [Hp.st, Hp.ld, Hp.lda, splice, ble_eq', if_true, if_false, ite_true, ite_false, cond_true, cond_false, decide_true, decide_false, List.length_cons, List.length_nil, List.take_zero, List.take_succ_cons, List.nil_append, List.cons_append, List.append_nil, List.drop_succ_cons, List.drop_zero, List.drop_nil, List.getElem?_cons_succ, List.getElem?_cons_zero, Nat.reduceAdd, Nat.reduceLeDiff, Nat.reduceEqDiff, Nat.zero_add, Nat.add_zero, Nat.le_refl, Nat.zero_le, Nat.succ_ne_self, Nat.mul_one, Int.toNat_natCast, Option.some.injEq, Option.isNone_some, Option.isNone_none, V.int.injEq, V.str.injEq, V.bool.injEq, V.ptr.injEq, V.slc.injEq, V.map.injEq, V.agg.injEq, V.tup.injEq, List.cons.injEq, Prod.mk.injEq, onS, true_and, and_true, and_assoc, exists_and_left, exists_eq_left', forall_eq, heq_eq_eq, reduceCtorEq, Bool.not_true, Bool.not_false, eq_self, not_false_eq_true, Nat.left_eq_add, Nat.add_eq_left, Nat.add_left_cancel_iff, Nat.add_right_cancel_iff, Nat.reduceEqDiff, Nat.one_ne_zero, Hp.get_set_self, Hp.get_set_ne, Hp.get_alloc_self, Hp.get_alloc_ne, Hp.get_alloc_at, Hp.get_set_at, Hp.set_next, Hp.alloc_next, Option.some_ne_none, V.tup.injEq, Option.isSome_some, Option.isSome_none, exists_eq_left, exists_eq, Nat.mul_zero, cc3], fun vs h' => match vs with
    | [.bool b] => b = true ∧ St g0 i r M h'
    | _ => False, ?_, ?_⟩
  · have hat : 0 ≤ IntKind.u32.wrap (s.nx + IntKind.u32.wrap pA) ∧ IntKind.u32.wrap (s.nx + IntKind.u32.wrap pA) < 4294967296 := by rw [u32w, u32w]; omega
    generalize IntKind.u32.wrap (s.nx + IntKind.u32.wrap pA) = at' at *
    refine ⟨bR, by simp (disch := (first | omega | (simp only [Hp.alloc_next, Hp.set_next] <;> omega) | (simp (disch := (first | omega | (simp only [Hp.alloc_next, Hp.set_next] <;> omega) | fail)) only [Hp.get_set_self, Hp.get_set_ne, Hp.get_alloc_self, Hp.get_alloc_ne, Hp.get_alloc_at, Hp.get_set_at, Hp.set_next, Hp.alloc_next, cc3]; done) | fail)) only [Hp.st, Hp.ld, Hp.lda, splice, ble_eq', if_true, if_false, ite_true, ite_false, cond_true, cond_false, decide_true, decide_false, List.length_cons, List.length_nil, List.take_zero, List.take_succ_cons, List.nil_append, List.cons_append, List.append_nil, List.drop_succ_cons, List.drop_zero, List.drop_nil, List.getElem?_cons_succ, List.getElem?_cons_zero, Nat.reduceAdd, Nat.reduceLeDiff, Nat.reduceEqDiff, Nat.zero_add, Nat.add_zero, Nat.le_refl, Nat.zero_le, Nat.succ_ne_self, Nat.mul_one, Int.toNat_natCast, Option.some.injEq, Option.isNone_some, Option.isNone_none, V.int.injEq, V.str.injEq, V.bool.injEq, V.ptr.injEq, V.slc.injEq, V.map.injEq, V.agg.injEq, V.tup.injEq, List.cons.injEq, Prod.mk.injEq, onS, true_and, and_true, and_assoc, exists_and_left, exists_eq_left', forall_eq, heq_eq_eq, reduceCtorEq, Bool.not_true, Bool.not_false, eq_self, not_false_eq_true, Nat.left_eq_add, Nat.add_eq_left, Nat.add_left_cancel_iff, Nat.add_right_cancel_iff, Nat.reduceEqDiff, Nat.one_ne_zero, Hp.get_set_self, Hp.get_set_ne, Hp.get_alloc_self, Hp.get_alloc_ne, Hp.get_alloc_at, Hp.get_set_at, Hp.set_next, Hp.alloc_next, Option.some_ne_none, V.tup.injEq, Option.isSome_some, Option.isSome_none, exists_eq_left, exists_eq, Nat.mul_zero, cc3], ?_⟩
    cases bR with
    | true =>
      refine ⟨pN, by simp (disch := (first | omega | (simp only [Hp.alloc_next, Hp.set_next] <;> omega) | (simp (disch := (first | omega | (simp only [Hp.alloc_next, Hp.set_next] <;> omega) | fail)) only [Hp.get_set_self, Hp.get_set_ne, Hp.get_alloc_self, Hp.get_alloc_ne, Hp.get_alloc_at, Hp.get_set_at, Hp.set_next, Hp.alloc_next, cc3]; done) | fail)) only [Hp.st, Hp.ld, Hp.lda, splice, ble_eq', if_true, if_false, ite_true, ite_false, cond_true, cond_false, decide_true, decide_false, List.length_cons, List.length_nil, List.take_zero, List.take_succ_cons, List.nil_append, List.cons_append, List.append_nil, List.drop_succ_cons, List.drop_zero, List.drop_nil, List.getElem?_cons_succ, List.getElem?_cons_zero, Nat.reduceAdd, Nat.reduceLeDiff, Nat.reduceEqDiff, Nat.zero_add, Nat.add_zero, Nat.le_refl, Nat.zero_le, Nat.succ_ne_self, Nat.mul_one, Int.toNat_natCast, Option.some.injEq, Option.isNone_some, Option.isNone_none, V.int.injEq, V.str.injEq, V.bool.injEq, V.ptr.injEq, V.slc.injEq, V.map.injEq, V.agg.injEq, V.tup.injEq, List.cons.injEq, Prod.mk.injEq, onS, true_and, and_true, and_assoc, exists_and_left, exists_eq_left', forall_eq, heq_eq_eq, reduceCtorEq, Bool.not_true, Bool.not_false, eq_self, not_false_eq_true, Nat.left_eq_add, Nat.add_eq_left, Nat.add_left_cancel_iff, Nat.add_right_cancel_iff, Nat.reduceEqDiff, Nat.one_ne_zero, Hp.get_set_self, Hp.get_set_ne, Hp.get_alloc_self, Hp.get_alloc_ne, Hp.get_alloc_at, Hp.get_set_at, Hp.set_next, Hp.alloc_next, Option.some_ne_none, V.tup.injEq, Option.isSome_some, Option.isSome_none, exists_eq_left, exists_eq, Nat.mul_zero, cc3], pN, by simp (disch := (first | omega | (simp only [Hp.alloc_next, Hp.set_next] <;> omega) | (simp (disch := (first | omega | (simp only [Hp.alloc_next, Hp.set_next] <;> omega) | fail)) only [Hp.get_set_self, Hp.get_set_ne, Hp.get_alloc_self, Hp.get_alloc_ne, Hp.get_alloc_at, Hp.get_set_at, Hp.set_next, Hp.alloc_next, cc3]; done) | fail)) only [Hp.st, Hp.ld, Hp.lda, splice, ble_eq', if_true, if_false, ite_true, ite_false, cond_true, cond_false, decide_true, decide_false, List.length_cons, List.length_nil, List.take_zero, List.take_succ_cons, List.nil_append, List.cons_append, List.append_nil, List.drop_succ_cons, List.drop_zero, List.drop_nil, List.getElem?_cons_succ, List.getElem?_cons_zero, Nat.reduceAdd, Nat.reduceLeDiff, Nat.reduceEqDiff, Nat.zero_add, Nat.add_zero, Nat.le_refl, Nat.zero_le, Nat.succ_ne_self, Nat.mul_one, Int.toNat_natCast, Option.some.injEq, Option.isNone_some, Option.isNone_none, V.int.injEq, V.str.injEq, V.bool.injEq, V.ptr.injEq, V.slc.injEq, V.map.injEq, V.agg.injEq, V.tup.injEq, List.cons.injEq, Prod.mk.injEq, onS, true_and, and_true, and_assoc, exists_and_left, exists_eq_left', forall_eq, heq_eq_eq, reduceCtorEq, Bool.not_true, Bool.not_false, eq_self, not_false_eq_true, Nat.left_eq_add, Nat.add_eq_left, Nat.add_left_cancel_iff, Nat.add_right_cancel_iff, Nat.reduceEqDiff, Nat.one_ne_zero, Hp.get_set_self, Hp.get_set_ne, Hp.get_alloc_self, Hp.get_alloc_ne, Hp.get_alloc_at, Hp.get_set_at, Hp.set_next, Hp.alloc_next, Option.some_ne_none, V.tup.injEq, Option.isSome_some, Option.isSome_none, exists_eq_left, exists_eq, Nat.mul_zero, cc3], ?_⟩
      refine (read_spec gw3 ri pN).mono ?_
      rintro _ g5 ⟨kr, hkr, rfl, r5, u5, w5⟩
      have cc5 : g5.get g.next = some (.row [.bool true, .bool bF, .int .i64 pA, .int .i64 pN, .str pS] 1 false) := by rw [u5.same _ (by omega) hgA]; exact cc3
      obtain ⟨rf5, dj5⟩ := u5.frame (RefI.rep _ _ _ _ _ _) gw3 rf dj
      refine ⟨_, rfl, ⟨pN, by simp (disch := (first | omega | (simp only [Hp.alloc_next, Hp.set_next] <;> omega) | (simp (disch := (first | omega | (simp only [Hp.alloc_next, Hp.set_next] <;> omega) | fail)) only [Hp.get_set_self, Hp.get_set_ne, Hp.get_alloc_self, Hp.get_alloc_ne, Hp.get_alloc_at, Hp.get_set_at, Hp.set_next, Hp.alloc_next, cc5]; done) | fail)) only [Hp.st, Hp.ld, Hp.lda, splice, ble_eq', if_true, if_false, ite_true, ite_false, cond_true, cond_false, decide_true, decide_false, List.length_cons, List.length_nil, List.take_zero, List.take_succ_cons, List.nil_append, List.cons_append, List.append_nil, List.drop_succ_cons, List.drop_zero, List.drop_nil, List.getElem?_cons_succ, List.getElem?_cons_zero, Nat.reduceAdd, Nat.reduceLeDiff, Nat.reduceEqDiff, Nat.zero_add, Nat.add_zero, Nat.le_refl, Nat.zero_le, Nat.succ_ne_self, Nat.mul_one, Int.toNat_natCast, Option.some.injEq, Option.isNone_some, Option.isNone_none, V.int.injEq, V.str.injEq, V.bool.injEq, V.ptr.injEq, V.slc.injEq, V.map.injEq, V.agg.injEq, V.tup.injEq, List.cons.injEq, Prod.mk.injEq, onS, true_and, and_true, and_assoc, exists_and_left, exists_eq_left', forall_eq, heq_eq_eq, reduceCtorEq, Bool.not_true, Bool.not_false, eq_self, not_false_eq_true, Nat.left_eq_add, Nat.add_eq_left, Nat.add_left_cancel_iff, Nat.add_right_cancel_iff, Nat.reduceEqDiff, Nat.one_ne_zero, Hp.get_set_self, Hp.get_set_ne, Hp.get_alloc_self, Hp.get_alloc_ne, Hp.get_alloc_at, Hp.get_set_at, Hp.set_next, Hp.alloc_next, Option.some_ne_none, V.tup.injEq, Option.isSome_some, Option.isSome_none, exists_eq_left, exists_eq, Nat.mul_zero, cc5], rfl⟩, (by trivial), (by trivial), ?_⟩
      refine (rread_ex w5 rf5 pN).mono ?_
      rintro _ g6 ⟨kr', hkr', rfl, rf6, u6, w6⟩
      have hkk : kr' = kr := by rw [hrd] at hkr; omega
      subst hkk
      refine ⟨_, rfl, (by trivial), by rw [hrd]; simp, ?_⟩
      refine both w5 w6 dj5 lA lB same gle u5 r5 u6 (PI.read si kr') hrows hF0 (FI.less fi (by rw [List.length_drop]; omega)) ng rf6
    | false =>
      refine ⟨bF, by simp (disch := (first | omega | (simp only [Hp.alloc_next, Hp.set_next] <;> omega) | (simp (disch := (first | omega | (simp only [Hp.alloc_next, Hp.set_next] <;> omega) | fail)) only [Hp.get_set_self, Hp.get_set_ne, Hp.get_alloc_self, Hp.get_alloc_ne, Hp.get_alloc_at, Hp.get_set_at, Hp.set_next, Hp.alloc_next, cc3]; done) | fail)) only [Hp.st, Hp.ld, Hp.lda, splice, ble_eq', if_true, if_false, ite_true, ite_false, cond_true, cond_false, decide_true, decide_false, List.length_cons, List.length_nil, List.take_zero, List.take_succ_cons, List.nil_append, List.cons_append, List.append_nil, List.drop_succ_cons, List.drop_zero, List.drop_nil, List.getElem?_cons_succ, List.getElem?_cons_zero, Nat.reduceAdd, Nat.reduceLeDiff, Nat.reduceEqDiff, Nat.zero_add, Nat.add_zero, Nat.le_refl, Nat.zero_le, Nat.succ_ne_self, Nat.mul_one, Int.toNat_natCast, Option.some.injEq, Option.isNone_some, Option.isNone_none, V.int.injEq, V.str.injEq, V.bool.injEq, V.ptr.injEq, V.slc.injEq, V.map.injEq, V.agg.injEq, V.tup.injEq, List.cons.injEq, Prod.mk.injEq, onS, true_and, and_true, and_assoc, exists_and_left, exists_eq_left', forall_eq, heq_eq_eq, reduceCtorEq, Bool.not_true, Bool.not_false, eq_self, not_false_eq_true, Nat.left_eq_add, Nat.add_eq_left, Nat.add_left_cancel_iff, Nat.add_right_cancel_iff, Nat.reduceEqDiff, Nat.one_ne_zero, Hp.get_set_self, Hp.get_set_ne, Hp.get_alloc_self, Hp.get_alloc_ne, Hp.get_alloc_at, Hp.get_set_at, Hp.set_next, Hp.alloc_next, Option.some_ne_none, V.tup.injEq, Option.isSome_some, Option.isSome_none, exists_eq_left, exists_eq, Nat.mul_zero, cc3], ?_⟩
      cases bF with
      | true =>
        refine (fin_ex hM.2 gw3 ri si fi hat).mono ?_
        rintro _ g5 ⟨rfl, s', r5, u5, w5, si5, hr5⟩
        obtain ⟨rf5, dj5⟩ := u5.frame (RefI.rep _ _ _ _ _ _) gw3 rf dj
        refine ⟨_, rfl, ?_⟩
        refine (rfin_ex w5 rf5 (by omega) hnx0 hat).mono ?_
        rintro _ g6 ⟨rfl, rf6, u6, w6⟩
        refine ⟨_, rfl, (by trivial), by simp, ?_⟩
        exact both w5 w6 dj5 lA lB same gle u5 r5 u6 si5 (by rw [hr5]; exact hrows) hF0 fi.fin ng (by rw [si5.nx, ← hnx]; exact rf6)
      | false =>
        refine ⟨pS, by simp (disch := (first | omega | (simp only [Hp.alloc_next, Hp.set_next] <;> omega) | (simp (disch := (first | omega | (simp only [Hp.alloc_next, Hp.set_next] <;> omega) | fail)) only [Hp.get_set_self, Hp.get_set_ne, Hp.get_alloc_self, Hp.get_alloc_ne, Hp.get_alloc_at, Hp.get_set_at, Hp.set_next, Hp.alloc_next, cc3]; done) | fail)) only [Hp.st, Hp.ld, Hp.lda, splice, ble_eq', if_true, if_false, ite_true, ite_false, cond_true, cond_false, decide_true, decide_false, List.length_cons, List.length_nil, List.take_zero, List.take_succ_cons, List.nil_append, List.cons_append, List.append_nil, List.drop_succ_cons, List.drop_zero, List.drop_nil, List.getElem?_cons_succ, List.getElem?_cons_zero, Nat.reduceAdd, Nat.reduceLeDiff, Nat.reduceEqDiff, Nat.zero_add, Nat.add_zero, Nat.le_refl, Nat.zero_le, Nat.succ_ne_self, Nat.mul_one, Int.toNat_natCast, Option.some.injEq, Option.isNone_some, Option.isNone_none, V.int.injEq, V.str.injEq, V.bool.injEq, V.ptr.injEq, V.slc.injEq, V.map.injEq, V.agg.injEq, V.tup.injEq, List.cons.injEq, Prod.mk.injEq, onS, true_and, and_true, and_assoc, exists_and_left, exists_eq_left', forall_eq, heq_eq_eq, reduceCtorEq, Bool.not_true, Bool.not_false, eq_self, not_false_eq_true, Nat.left_eq_add, Nat.add_eq_left, Nat.add_left_cancel_iff, Nat.add_right_cancel_iff, Nat.reduceEqDiff, Nat.one_ne_zero, Hp.get_set_self, Hp.get_set_ne, Hp.get_alloc_self, Hp.get_alloc_ne, Hp.get_alloc_at, Hp.get_set_at, Hp.set_next, Hp.alloc_next, Option.some_ne_none, V.tup.injEq, Option.isSome_some, Option.isSome_none, exists_eq_left, exists_eq, Nat.mul_zero, cc3], pS, by simp (disch := (first | omega | (simp only [Hp.alloc_next, Hp.set_next] <;> omega) | (simp (disch := (first | omega | (simp only [Hp.alloc_next, Hp.set_next] <;> omega) | fail)) only [Hp.get_set_self, Hp.get_set_ne, Hp.get_alloc_self, Hp.get_alloc_ne, Hp.get_alloc_at, Hp.get_set_at, Hp.set_next, Hp.alloc_next, cc3]; done) | fail)) only [Hp.st, Hp.ld, Hp.lda, splice, ble_eq', if_true, if_false, ite_true, ite_false, cond_true, cond_false, decide_true, decide_false, List.length_cons, List.length_nil, List.take_zero, List.take_succ_cons, List.nil_append, List.cons_append, List.append_nil, List.drop_succ_cons, List.drop_zero, List.drop_nil, List.getElem?_cons_succ, List.getElem?_cons_zero, Nat.reduceAdd, Nat.reduceLeDiff, Nat.reduceEqDiff, Nat.zero_add, Nat.add_zero, Nat.le_refl, Nat.zero_le, Nat.succ_ne_self, Nat.mul_one, Int.toNat_natCast, Option.some.injEq, Option.isNone_some, Option.isNone_none, V.int.injEq, V.str.injEq, V.bool.injEq, V.ptr.injEq, V.slc.injEq, V.map.injEq, V.agg.injEq, V.tup.injEq, List.cons.injEq, Prod.mk.injEq, onS, true_and, and_true, and_assoc, exists_and_left, exists_eq_left', forall_eq, heq_eq_eq, reduceCtorEq, Bool.not_true, Bool.not_false, eq_self, not_false_eq_true, Nat.left_eq_add, Nat.add_eq_left, Nat.add_left_cancel_iff, Nat.add_right_cancel_iff, Nat.reduceEqDiff, Nat.one_ne_zero, Hp.get_set_self, Hp.get_set_ne, Hp.get_alloc_self, Hp.get_alloc_ne, Hp.get_alloc_at, Hp.get_set_at, Hp.set_next, Hp.alloc_next, Option.some_ne_none, V.tup.injEq, Option.isSome_some, Option.isSome_none, exists_eq_left, exists_eq, Nat.mul_zero, cc3], ?_⟩
        by_cases hl : 16384 < pS.length
        · refine (put_big ri hl).mono ?_
          rintro _ g5 ⟨rfl, rfl⟩
          refine ⟨_, rfl, ⟨pS, by simp (disch := (first | omega | (simp only [Hp.alloc_next, Hp.set_next] <;> omega) | (simp (disch := (first | omega | (simp only [Hp.alloc_next, Hp.set_next] <;> omega) | fail)) only [Hp.get_set_self, Hp.get_set_ne, Hp.get_alloc_self, Hp.get_alloc_ne, Hp.get_alloc_at, Hp.get_set_at, Hp.set_next, Hp.alloc_next, cc3]; done) | fail)) only [Hp.st, Hp.ld, Hp.lda, splice, ble_eq', if_true, if_false, ite_true, ite_false, cond_true, cond_false, decide_true, decide_false, List.length_cons, List.length_nil, List.take_zero, List.take_succ_cons, List.nil_append, List.cons_append, List.append_nil, List.drop_succ_cons, List.drop_zero, List.drop_nil, List.getElem?_cons_succ, List.getElem?_cons_zero, Nat.reduceAdd, Nat.reduceLeDiff, Nat.reduceEqDiff, Nat.zero_add, Nat.add_zero, Nat.le_refl, Nat.zero_le, Nat.succ_ne_self, Nat.mul_one, Int.toNat_natCast, Option.some.injEq, Option.isNone_some, Option.isNone_none, V.int.injEq, V.str.injEq, V.bool.injEq, V.ptr.injEq, V.slc.injEq, V.map.injEq, V.agg.injEq, V.tup.injEq, List.cons.injEq, Prod.mk.injEq, onS, true_and, and_true, and_assoc, exists_and_left, exists_eq_left', forall_eq, heq_eq_eq, reduceCtorEq, Bool.not_true, Bool.not_false, eq_self, not_false_eq_true, Nat.left_eq_add, Nat.add_eq_left, Nat.add_left_cancel_iff, Nat.add_right_cancel_iff, Nat.reduceEqDiff, Nat.one_ne_zero, Hp.get_set_self, Hp.get_set_ne, Hp.get_alloc_self, Hp.get_alloc_ne, Hp.get_alloc_at, Hp.get_set_at, Hp.set_next, Hp.alloc_next, Option.some_ne_none, V.tup.injEq, Option.isSome_some, Option.isSome_none, exists_eq_left, exists_eq, Nat.mul_zero, cc3], rfl⟩, (by trivial), (by trivial), (by trivial), ?_⟩
          refine (rput_big hl).mono ?_
          rintro _ g6 ⟨rfl, rfl⟩
          exact ⟨_, rfl, (by trivial), by simp, b, R, F, E, s, FA, FB, ri, si, hrows, hF0, fi, ng, rf, dj, lA, lB, same, gw3, gle⟩
        · refine (put_ex hM.2 gw3 ri si fi hF0 hrows hat (by omega)).mono ?_
          rintro _ g5 ⟨rfl, s', q', FA', r5, u5, w5, si5, lo5, hq5, hr5⟩
          have cc5 : g5.get g.next = some (.row [.bool false, .bool false, .int .i64 pA, .int .i64 pN, .str pS] 1 false) := by rw [u5.same _ (by omega) hgA]; exact cc3
          obtain ⟨rf5, dj5⟩ := u5.frame (RefI.rep _ _ _ _ _ _) gw3 rf dj
          refine ⟨_, rfl, ⟨pS, by simp (disch := (first | omega | (simp only [Hp.alloc_next, Hp.set_next] <;> omega) | (simp (disch := (first | omega | (simp only [Hp.alloc_next, Hp.set_next] <;> omega) | fail)) only [Hp.get_set_self, Hp.get_set_ne, Hp.get_alloc_self, Hp.get_alloc_ne, Hp.get_alloc_at, Hp.get_set_at, Hp.set_next, Hp.alloc_next, cc5]; done) | fail)) only [Hp.st, Hp.ld, Hp.lda, splice, ble_eq', if_true, if_false, ite_true, ite_false, cond_true, cond_false, decide_true, decide_false, List.length_cons, List.length_nil, List.take_zero, List.take_succ_cons, List.nil_append, List.cons_append, List.append_nil, List.drop_succ_cons, List.drop_zero, List.drop_nil, List.getElem?_cons_succ, List.getElem?_cons_zero, Nat.reduceAdd, Nat.reduceLeDiff, Nat.reduceEqDiff, Nat.zero_add, Nat.add_zero, Nat.le_refl, Nat.zero_le, Nat.succ_ne_self, Nat.mul_one, Int.toNat_natCast, Option.some.injEq, Option.isNone_some, Option.isNone_none, V.int.injEq, V.str.injEq, V.bool.injEq, V.ptr.injEq, V.slc.injEq, V.map.injEq, V.agg.injEq, V.tup.injEq, List.cons.injEq, Prod.mk.injEq, onS, true_and, and_true, and_assoc, exists_and_left, exists_eq_left', forall_eq, heq_eq_eq, reduceCtorEq, Bool.not_true, Bool.not_false, eq_self, not_false_eq_true, Nat.left_eq_add, Nat.add_eq_left, Nat.add_left_cancel_iff, Nat.add_right_cancel_iff, Nat.reduceEqDiff, Nat.one_ne_zero, Hp.get_set_self, Hp.get_set_ne, Hp.get_alloc_self, Hp.get_alloc_ne, Hp.get_alloc_at, Hp.get_set_at, Hp.set_next, Hp.alloc_next, Option.some_ne_none, V.tup.injEq, Option.isSome_some, Option.isSome_none, exists_eq_left, exists_eq, Nat.mul_zero, cc5], rfl⟩, (by trivial), (by trivial), (by trivial), ?_⟩
          refine (rput_ex w5 rf5 fi ng hM hnx0 hat (by omega)).mono ?_
          rintro _ g6 ⟨rfl, q, FB', lo6, hq6, rf6, u6, w6⟩
          obtain rfl := first_uniq lo5 hq5 lo6 hq6
          refine ⟨_, rfl, (by trivial), by simp, ?_⟩
          have fi5 := fi.puts (far := farOf at' s.nx) (text := pS) pS.length
          have ng5 := ng.puts (n := M) (W := M - R.length) (E := E) (far := farOf at' s.nx) (text := pS) pS.length
          obtain ⟨fi6, hr6⟩ := FI.shift fi5 lo5 hq5
          have hbl : (R ++ In.bytes (puts M (M - R.length) E (farOf at' s.nx) F pS pS.length).1 q').length = R.length + q' := by simp [In.bytes]
          exact both w5 w6 dj5 lA lB same gle u5 r5 u6 (PI.shift si5 fi5 hM.2 lo5) (by rw [hr6]; exact hr5) (by show _ < _; rw [sh, Nat.zero_add]; exact hq5) (by rw [hbl]; exact fi6) (fun k hk => ng5 _ hk) (by
            have e : s'.nx = (s.nx + q') % 4294967296 := by rw [si5.nx, hnx]; omega
            rw [e]; exact rf6)
  rintro bs2 bb g6 ⟨rfl, st6⟩
  obtain ⟨b, R, F, E, s, FA, FB, ri, si, hrows, hF0, fi, ng, rf, dj, lA, lB, same, gw6, gle6⟩ := st6
  have hnx := si.nx
  have hrd := PI.rd0 si
  have hrl := fi.rle
  refine (gaps_ex hM.2 gw6 ri si fi).mono ?_
  rintro _ g7 ⟨ga, gf, G, rfl, og, q7, hG⟩
  have rf7 := (RefI.rep _ _ _ _ _ _).stay gw6 rf q7.same
  refine ⟨_, _, _, rfl, ?_⟩
  refine (rgaps_ex q7.wf rf7 hM).mono ?_
  rintro _ g8 ⟨ha8, hf8, H, rfl, oh, q8, hH⟩
  have q78 := q7.trans q8
  have ri8 := ri.quiet gw6 q78
  have rf8 := (RefI.rep _ _ _ _ _ _).stay gw6 rf q78.same
  have og8 := (Own.rep _ _ _ _).stay q7.wf og q8.same
  have st8 : St g0 i r M g8 := St.quiet ⟨b, R, F, E, s, FA, FB, ri, si, hrows, hF0, fi, ng, rf, dj, lA, lB, same, gw6, gle6⟩ q78
  have hfin := si.fin0 fi hM.2
  have hen : (s.fin && (s.en == s.nx && ((s.rd.length : Int) == 0))) = ((E == 0) && ((R.length : Int) == 0)) := by
    rw [← hfin, hrd, Bool.and_assoc]
  refine ⟨_, _, _, rfl, fun vs h' => match vs with
    | [] => h' = g8
    | _ => False, ?_, ?_⟩
  · refine ⟨s.nx, rf8.nx0, ?_⟩
    refine (next_spec ri8).mono ?_
    rintro _ h9 ⟨rfl, rfl⟩
    refine ⟨_, rfl, ⟨s.nx, rf8.nx0, rfl⟩, (by trivial), (by trivial), (by trivial), ?_⟩
    have c1 : (s.nx != s.nx) = false := by simp
    rw [c1]
    refine (window_spec ri8 (by rw [hrd, si.mo]; omega)).mono ?_
    rintro _ h10 ⟨rfl, rfl⟩
    refine ⟨_, rfl, (by trivial), ?_⟩
    refine (rwindow_ex rf8 (by omega)).mono ?_
    rintro _ h11 ⟨rfl, rfl⟩
    refine ⟨_, rfl, ?_⟩
    have c2 : ((s.most - (s.rd.length : Int)) != ((M : Int) - R.length)) = false := by rw [hrd, si.mo]; simp
    rw [c2]
    refine ⟨R, rf8.rd1, ?_⟩
    refine (ready_spec ri8).mono ?_
    rintro _ h12 ⟨rfl, rfl⟩
    refine ⟨_, rfl, (by trivial), ⟨R, rf8.rd1, rfl⟩, (by trivial), (by trivial), (by trivial), ?_⟩
    have c3 : ((s.rd.length : Int) != (R.length : Int)) = false := by rw [hrd]; simp
    have c4 : (((gaps s.nx (fills F M)).length : Int) != ((gaps s.nx (fills F M)).length : Int)) = false := by simp
    rw [c3, c4]
    refine ⟨E, rf8.e3, ?_⟩
    refine (ended_spec ri8).mono ?_
    rintro _ h13 ⟨rfl, rfl⟩
    rw [hen]
    refine ⟨_, rfl, (by trivial), ⟨E, rf8.e3, rfl⟩, (by trivial), (by trivial), (by trivial), ?_⟩
    cases hE : E == 0 with
    | true =>
      refine ⟨R, rf8.rd1, ?_⟩
      cases hR : (R.length : Int) == 0 with
      | true => exact ⟨(by trivial), rfl⟩
      | false => exact ⟨(by trivial), rfl⟩
    | false => exact ⟨(by trivial), rfl⟩
  rintro bs3 g9 rfl
  have hLl : (gaps s.nx (fills F M)).length ≤ 400 := by have := gaps_len s.nx (fills F M); have := fills_len F M; omega
  generalize gaps s.nx (fills F M) = L at *
  refine ⟨fun vs h' => match vs with
    | [.int _ j] => ∃ j' : Nat, j = j' ∧ j' ≤ L.length ∧ h' = g9
    | _ => False, fun vs _ => match vs with
    | [.int _ j] => L.length - j.toNat
    | _ => 0, ⟨by trivial, 0, rfl, Nat.zero_le _, rfl⟩, ?_⟩
  rintro bs4 j g10 ⟨j, rfl, hj, rfl⟩
  cases hi2 : ltI (↑j) (↑L.length) with
  | false =>
    rw [hw1]
    exact ⟨by trivial, ⟨k + 1, rfl, hkn', st8⟩, by simp only [Int.toNat_natCast]; omega⟩
  | true =>
    rw [ltI_eq, decide_eq_true_eq] at hi2
    have hj' : j < L.length := by omega
    have hwj : IntKind.i64.wrap ((j : Int) + 1) = ((j + 1 : Nat) : Int) := wrap_succ (n := L.length) (by omega) (by omega)
    have tj : ((j : Int)).toNat = j := by omega
    obtain ⟨x, hx⟩ : ∃ x, L[j]? = some x := ⟨_, List.getElem?_eq_getElem hj'⟩
    obtain ⟨qg, og', rg, rfl, hrg, _, _, lg⟩ := og8.ld hj'
    obtain ⟨qh, oh', rh, rfl, hrh, _, _, lh⟩ := oh.ld hj'
    rw [gRows_get hx] at hrg hrh
    obtain rfl := (Option.some.inj hrg).symm
    obtain rfl := (Option.some.inj hrh).symm
    rw [hwj]
    refine ⟨⟨by omega, by omega⟩, x.1, x.2, by rw [tj]; exact lg, ⟨by omega, by omega⟩, x.1, x.2, by rw [tj]; exact lh, ?_⟩
    simp only [beq_self_eq_true, Bool.and_self, Bool.not_true, cond_false]
    exact ⟨by trivial, ⟨j + 1, rfl, hj', (by trivial)⟩, by simp only [Int.toNat_natCast]; omega⟩
end Go.Vex.InPlays

namespace Go.Proofs.Ytkdjjjpfkdkgoaa.inPlays
open Go.ChangeShapes Go.WideShapes Go.ChangeAt Go.RowKit Go.Vex Go.Vex.InPlays
open Go.ChangeMaps (open_string shut_string)

theorem own : ownKnob Try.prog.godebug = none := by kernel_rfl

set_option maxRecDepth 100000 in
theorem lifted (os : Os) (started : os.Started) (H : Type) (enc : TypeId × Value → H) :
    ReturnsInHanded {} Try.checked os 7 .any (Rows.inPlaysSpec.pre6 enc Try.prog Try.f7 Rows.inPlaysRow.domain false) (Rows.inPlaysSpec.post enc Try.prog Try.f7 false true false false) := by
  refine returnsInHanded_of_change_sized (C := Try.checked) own started (by kernel_rfl) Try.func7
    (ChangeSpec.witness6 (enc := enc) (C := Try.checked) false ⟨#[], #[.int .u32 0, .int .i64 0, .slice none 0 0], []⟩ 8 (by kernel_rfl) (by kernel_rfl) (by kernel_rfl) (by kernel_rfl)) ?_
  intro W base args ds gs before hval0 hW hcnd hsz _
  have hval : ∀ (j : Nat) t v, Try.f7.params[j]? = some t → args[j]? = some v → Value.okWide Try.prog W .any base t v := hval0
  have hW' := hW
  obtain ⟨p, q, hA0, hV, rfl, hfz, hnd⟩ := hW
  have hA : DataW.TrodAll enc Try.prog W 0 (fun _ => true) true Try.f7.params.toList args.toList ds p := hA0
  rw [Try.params7] at hA hval hsz
  obtain ⟨v0, vs0, d0, ds0, p0, q0, hargs, rfl, rfl, h0, r0⟩ := trodAll_cons hA
  obtain ⟨v1, vs1, d1, ds1, p1, q1, rfl, rfl, rfl, h1, r1⟩ := trodAll_cons r0
  obtain ⟨v2, vs2, d2, ds2, p2, q2, rfl, rfl, rfl, h2, r2⟩ := trodAll_cons r1
  obtain ⟨rfl, rfl, rfl⟩ := trodAll_nil r2
  obtain rfl : args = #[v0, v1, v2] := by cases args; simp_all
  obtain ⟨rfl, rfl⟩ := trodVars_none hV
  obtain ⟨a0, rfl, rfl, rfl, w0⟩ := open_int Try.underlying22 (hval 0 22 v0 rfl rfl) h0
  obtain ⟨a1, rfl, rfl, rfl, w1⟩ := open_int Try.underlying3 (hval 1 3 v1 rfl rfl) h1
  obtain ⟨ρ2, hp2, b2, n2, f2, rows2, s2, x2, l2, k2, vr2, ro2, sh2, z2⟩ := arg_slice tok (T := Vex.T) (t := 46) (e := 52) (d := 5) (zs := stepZ) rfl rfl rfl rfl rfl (by decide) (hval 2 46 v2 rfl rfl) h2 (fun m hm => hW'.lt m (by simp [hm])) (fun m hm => by simpa using List.all_eq_true.1 hsz m (DataW.weights_mem_each (j := 2) (t := 46) rfl rfl m hm)) (Sat.none W fun _ => ⟨0, 0, 0, 0⟩)
  refine (XCalls.true' s2 (vs := [.int .u32 a0, .int .i64 a1, .slc b2 n2 f2]) ⟨_, _, rfl, rfl, ⟨_, _, rfl, rfl, ⟨_, _, rfl, vr2, rfl⟩⟩⟩ (law_calls a0 w0 a1 w1 ro2 sh2 z2)).mono fun e W' ⟨he, hb⟩ => ?_
  subst he
  exact ⟨_, rfl, post_true (by kernel_rfl) hW' hb rfl (fun gs hg => by subst hg; rfl) (tb := 4) rfl Try.underlying4 (by decide +kernel)⟩

theorem over : Rows.inPlaysRow.holds Try.pinned (OpenSpec.ofChange Rows.inPlaysSpec) :=
  OpenClaim.holds_of_wide 7 Try.f7 rfl rfl rfl rfl rfl rfl rfl ⟨rfl, rfl, rfl, rfl, rfl⟩ rfl rfl rfl rfl rfl (by kernel_rfl) Try.func7 (by kernel_rfl)
    (of_decide_eq_true (by kernel_rfl)) (by unfold Func.isWrapper; first | (rw [if_pos (by decide +kernel)]; kernel_rfl) | (rw [if_neg (by decide +kernel)]; exact ⟨rfl, rfl⟩))
    (fun os started H enc _ => lifted os started H enc)

theorem proved : Rows.InPlaysSaid :=
  over
#print axioms proved
end Go.Proofs.Ytkdjjjpfkdkgoaa.inPlays

