/-
  InWhole of layer 26: whatever the number, the most, the stream and the pieces ahead, the law returns true and leaves the input as it was. No condition.
-/
import Derived.Test.YtkdjjjpfkdkgoaaVexGG
import Derived.Test.YtkdjjjpfkdkgoaaTab26
import Derived.Test.YtkdjjjpfkdkgoaaXa26
import Derived.Test.YtkdjjjpfkdkgoaaCa26
import Derived.Test.YtkdjjjpfkdkgoaaXg26
import Derived.Test.YtkdjjjpfkdkgoaaCg26
import Derived.Test.YtkdjjjpfkdkgoaaXs26
import Derived.Test.YtkdjjjpfkdkgoaaCsa26
import Derived.Test.YtkdjjjpfkdkgoaaCsb26
import Derived.Test.YtkdjjjpfkdkgoaaCsc26
import Derived.Test.YtkdjjjpfkdkgoaaCsd26
import Derived.Test.YtkdjjjpfkdkgoaaXi26
import Derived.Test.YtkdjjjpfkdkgoaaRows
import Derived.WalkKit
import Derived.ProofKit
import Derived.OpenShut
import Derived.KernelRfl
set_option linter.unusedVariables false
set_option linter.unusedSimpArgs false
namespace Go.Vex.InWhole
open Go.Proofs Go.Vex.In

set_option maxRecDepth 100000 in
theorem works_ev : (ev Vex.T Vex.F (fun _ => []) 100000).call 10 [] h0 isT = true := by kernel_rfl

theorem works_spec {h : Hp} {K : V → Hp → Prop} (hk : ∀ h', K (.bool true) h') : XCalls Try.prog 10 [] h K :=
  (XCalls.fresh (K := fun v => v = .bool true) rfl (fun v hv => by subst hv; rfl) (XCalls.ev tok fok mixed (fun _ => []) 100000 works_ev fun _ _ hv => isT_spec hv)).mono fun v h' hv => by rw [hv.1]; exact hk h'

def stepZ : List V := [.bool false, .bool false, .int .i64 0, .int .i64 0, .str []]

theorem step_form {r : List V} (h : shpBs stepZ r = true) : ∃ a b c d s, r = [.bool a, .bool b, .int .i64 c, .int .i64 d, .str s] :=
  allSs_spec stepZ r (k := fun r => ∃ a b c d s, r = [.bool a, .bool b, .int .i64 c, .int .i64 d, .str s]) (fun a b c d s => ⟨a, b, c, d, s, rfl⟩) h

theorem wrap_succ {k n : Nat} (h : k < n) (hn : n ≤ 9223372036854775807) : IntKind.i64.wrap ((k : Int) + 1) = ((k + 1 : Nat) : Int) := by
  rw [wrap_of (by simp [IntKind.min, IntKind.max, IntKind.signed, IntKind.bits]; omega)]; rfl

theorem pieces_spec {h : Hp} {a : Option (Nat × Nat)} {n : Nat} {f : Bool} {rows : List (List V)} (ha : RoSlc h a n rows 5) (hr : ∀ r ∈ rows, shpBs stepZ r = true) :
    XCalls Try.prog 24 [.slc a n f] h fun v h' => h' = h ∧ ∃ b, v = .bool b ∧ (b = false → n ≤ 200) := by
  apply x24; unfold X24
  refine ⟨fun vs h' => match vs with
    | [.int _ x] => h' = h
    | _ => False, ?_, ?_⟩
  · refine ⟨fun vs h' => match vs with
      | [.int _ x, .int _ i] => h' = h ∧ ∃ k : Nat, i = k ∧ k ≤ 500 ∧ k ≤ n
      | _ => False, fun vs _ => match vs with
      | [_, .int _ i] => 500 - i.toNat
      | _ => 0, ⟨rfl, rfl, 0, rfl, by omega, by omega⟩, ?_⟩
    rintro bs x i h1 ⟨rfl, k, rfl, hk, hkn⟩
    cases hi : ltI (↑k) (↑n) with
    | false => exact ⟨rfl, rfl⟩
    | true =>
      cases hj : ltI (↑k) 500 with
      | false => exact ⟨rfl, rfl⟩
      | true =>
        rw [ltI_eq, decide_eq_true_eq] at hi hj
        obtain ⟨q, r, rfl, hrow, hld, _⟩ := ha.ld (Hp.keeps.refl h1) (k := k) (by omega) (fun r h => shpBs_length (hr r h))
        obtain ⟨a', b', c', d', s', rfl⟩ := step_form (hr r (List.mem_of_getElem? hrow))
        have hw1 : IntKind.i64.wrap ((k : Int) + 1) = ((k + 1 : Nat) : Int) := wrap_succ (n := 500) (by omega) (by omega)
        refine ⟨⟨by omega, hi⟩, s', hld 4 (by omega), rfl, ⟨rfl, k + 1, hw1, by omega, by omega⟩, ?_⟩
        show 500 - Int.toNat (IntKind.i64.wrap ((k : Int) + 1)) < 500 - Int.toNat (k : Int)
        rw [hw1]; simp only [Int.toNat_natCast]; omega
  rintro bs x h1 rfl
  cases hc : ltI 200 (↑n) with
  | true => exact ⟨rfl, true, rfl, fun h => by cases h⟩
  | false => rw [ltI_eq, decide_eq_false_iff_not] at hc; exact ⟨rfl, _, rfl, fun _ => by omega⟩

theorem gaps_spec {h : Hp} {i : Nat} {s : IS} {F : List Nat} (hw : h.wf) (r : InR i s h F) (hA : s.A = []) : XCalls Try.prog 33 [.ptr (some (i, 0))] h fun v h' => v = .slc none 0 true := by
  obtain ⟨m, a, f, o, G, e1, e2, e3, e4, hF, d1, d2, d3⟩ := r
  rw [hA] at e3
  refine XCalls.cps fun K hK => ?_
  apply x33; unfold X33
  obtain ⟨g2, hx2, it2, s2, n2, w2⟩ := e3.iter mtF e2 hw
  refine ⟨some m, by simp (disch := (first | omega | (simp only [Hp.alloc_next, Hp.set_next] <;> omega) | (simp (disch := (first | omega | (simp only [Hp.alloc_next, Hp.set_next] <;> omega) | fail)) only [Hp.get_set_self, Hp.get_set_ne, Hp.get_alloc_self, Hp.get_alloc_ne, Hp.get_alloc_at, Hp.get_set_at, Hp.set_next, Hp.alloc_next, e1]; done) | fail)) only [Hp.st, Hp.ld, Hp.lda, splice, ble_eq', if_true, if_false, ite_true, ite_false, cond_true, cond_false, decide_true, decide_false, List.length_cons, List.length_nil, List.take_zero, List.take_succ_cons, List.nil_append, List.cons_append, List.append_nil, List.drop_succ_cons, List.drop_zero, List.drop_nil, List.getElem?_cons_succ, List.getElem?_cons_zero, Nat.reduceAdd, Nat.reduceLeDiff, Nat.reduceEqDiff, Nat.zero_add, Nat.add_zero, Nat.le_refl, Nat.zero_le, Nat.succ_ne_self, Nat.mul_one, Int.toNat_natCast, Option.some.injEq, Option.isNone_some, Option.isNone_none, V.int.injEq, V.str.injEq, V.bool.injEq, V.ptr.injEq, V.slc.injEq, V.map.injEq, V.agg.injEq, V.tup.injEq, List.cons.injEq, Prod.mk.injEq, onS, true_and, and_true, and_assoc, exists_and_left, exists_eq_left', forall_eq, heq_eq_eq, reduceCtorEq, Bool.not_true, Bool.not_false, eq_self, not_false_eq_true, Nat.left_eq_add, Nat.add_eq_left, Nat.add_left_cancel_iff, Nat.add_right_cancel_iff, Nat.reduceEqDiff, Nat.one_ne_zero, Hp.get_set_self, Hp.get_set_ne, Hp.get_alloc_self, Hp.get_alloc_ne, Hp.get_alloc_at, Hp.get_set_at, Hp.set_next, Hp.alloc_next, Option.some_ne_none, V.tup.injEq, Option.isSome_some, Option.isSome_none, exists_eq_left, exists_eq, Nat.mul_zero, e1], g2, hx2, fun vs h' => match vs with
    | [.slc a n f] => a = none ∧ n = 0 ∧ f = true ∧ Itr kU bU ([] : List (Int × Int)) m h.next [] h' ∧ h'.wf
    | _ => False, fun _ h' => 0, ⟨rfl, rfl, rfl, rfl, it2, w2⟩, ?_⟩
  rintro bs a1 n1 f1 g3 ⟨rfl, rfl, rfl, it3, w3⟩
  obtain ⟨l, hl, hend, hforms, hstep⟩ := it3.next w3
  refine ⟨l, hl, fun _ => ?_, hforms, ?_⟩
  · refine (Sort.sort_none).mono ?_
    rintro _ g4 ⟨rfl, rfl⟩
    refine ⟨fun vs h' => match vs with
      | [.slc a n f, .int _ k] => a = none ∧ n = 0 ∧ f = true ∧ k = 0
      | _ => False, fun _ h' => 0, ⟨rfl, rfl, rfl, rfl, rfl⟩, ?_⟩
    rintro bs2 a2 n2 f2 k g5 ⟨rfl, rfl, rfl, rfl⟩
    exact hK _ _ rfl
  · intro x y g4 hmem
    obtain ⟨z, hz, _⟩ := hstep x y g4 hmem
    cases hz

structure St (h0 : Hp) (S : List UInt8) (fr : Int) (M : Nat) (i : Nat) (N g : Nat) (fin : Bool) (h : Hp) : Prop where
  ex : ∃ s F, InR i s h F ∧ SI S fr M N g (N + 1) s ∧ s.fin = fin ∧ (∀ j ∈ F, h0.next ≤ j) ∧ (∀ j, j < h0.next → h.get j = h0.get j) ∧ h.wf ∧ h0.next ≤ h.next

theorem St.upd {h0 h h' : Hp} {S : List UInt8} {fr : Int} {M i N g : Nat} {s : IS} {F F' : List Nat} {fin : Bool} (lo : ∀ j ∈ F, h0.next ≤ j) (same : ∀ j, j < h0.next → h.get j = h0.get j) (le : h0.next ≤ h.next) (u : Upd h h' F F') (w : h'.wf) (r : InR i s h' F') (si : SI S fr M N g (N + 1) s) (hf : s.fin = fin) : St h0 S fr M i N g fin h' :=
  ⟨s, F', r, si, hf, fun j hj => by
    rcases u.new j hj with h | h
    · exact lo j h
    · omega, fun j hj => by rw [u.same j (by omega) (fun h => by have := lo j h; omega)]; exact same j hj, w, Nat.le_trans le u.le⟩

theorem readAll {h0 h : Hp} {S : List UInt8} {fr : Int} {M i N g : Nat} {fin : Bool} (hM : M ≤ 256) (st : St h0 S fr M i N g fin h) : XCalls Try.prog 26 [.ptr (some (i, 0)), .int .i64 M] h fun v h' => v = .str ((S.take N).drop g) ∧ St h0 S fr M i N N fin h' := by
  obtain ⟨s, F, r, si, hf, lo, same, w, le⟩ := st
  have hlen := si.len
  have hgN := si.gN
  have hrl := si.rl
  refine (read_spec w r (M : Int)).mono ?_
  rintro _ h' ⟨k, hk, rfl, r', u, w'⟩
  have hkl : k = s.rd.length := by omega
  refine ⟨by rw [hkl, List.take_length, si.rd], St.upd lo same le u w' r' ⟨si.nx, ?_, Nat.le_refl _, si.NS, by omega, si.mo, fun x hx => ?_, si.nA, si.en⟩ hf⟩
  · show s.rd.drop k = _
    rw [hkl, List.drop_length, List.drop_of_length_le (by rw [List.length_take]; omega)]
  · obtain ⟨j, b, h1, h2, h3⟩ := si.far x hx
    exact ⟨j, b, h1, by omega, h3⟩

set_option maxRecDepth 20000 in
theorem law_calls (fr : Int) (w0 : (Lit.int .u32 fr).wf = true) (most : Int) (w1 : (Lit.int .u8 most).wf = true) (S : List UInt8) (w2 : S.length ≤ reachBytes) {h : Hp} {a : Option (Nat × Nat)} {n : Nat} {f : Bool} {rows : List (List V)} (ha : RoSlc h a n rows 5)
    (hr0 : ∀ r ∈ rows, shpBs stepZ r = true ∧ ∀ v ∈ r, v.fits) (hbz : n * Try.prog.bytesOf 52 ≤ reachBytes) : XCalls Try.prog 6 [.int .u32 fr, .int .u8 most, .str S, .slc a n f] h fun v _ => v = .bool true := by
  have hr : ∀ r ∈ rows, shpBs stepZ r = true := fun r h => (hr0 r h).1
  have hz : ∀ r ∈ rows, r.length = 5 := fun r h => shpBs_length (hr r h)
  refine XCalls.ofWf fun hw => ?_
  refine XCalls.cps fun K hK => ?_
  have KT : ∀ h', K (.bool true) h' := fun h' => hK _ _ rfl
  have hfr := lit_bnd w0
  have hmo := lit_bnd w1
  simp [IntKind.min, IntKind.max, IntKind.signed, IntKind.bits] at hfr hmo
  apply x6; unfold X6
  cases c0 : ltI 1024 (↑S.length) with
  | true => exact works_spec fun _ => ⟨_, rfl, KT _⟩
  | false =>
  rw [ltI_eq, decide_eq_false_iff_not] at c0
  have hS : S.length ≤ 1024 := by omega
  have hS4 : S.length ≤ 4096 := by omega
  simp only [cond_false]
  refine (pieces_spec ha hr).mono ?_
  rintro _ g0 ⟨rfl, bb, rfl, hn⟩
  refine ⟨_, rfl, ?_⟩
  cases bb with
  | true => exact works_spec fun _ => ⟨_, rfl, KT _⟩
  | false =>
  have hn := hn rfl
  obtain ⟨M, hM, hM1⟩ : ∃ M : Nat, IntKind.i64.wrap (IntKind.i64.wrap most + 1) = (M : Int) ∧ 1 ≤ M ∧ M ≤ 256 := by
    refine ⟨most.toNat + 1, ?_, by omega, by omega⟩
    rw [wr (x := most) (by omega) (by omega), wr (by omega) (by omega)]; omega
  rw [hM]
  simp only [cond_false]
  refine (new_spec hw (most := (M : Int)) (by omega)).mono ?_
  rintro _ g1 ⟨rfl, r1, q1⟩
  refine ⟨_, _, rfl, ?_⟩
  simp only [bne_self_eq_false, cond_false, Option.isNone_some]
  have st0 : St g0 S fr M (g0.next + 1) 0 0 false g1 := ⟨_, _, r1, ⟨by simp; omega, by simp, Nat.le_refl _, Nat.zero_le _, by omega, rfl, by simp, by simp, by simp⟩, rfl, fun j hj => by simp at hj; omega, q1.same, q1.wf, q1.le⟩
  generalize hii : g0.next + 1 = i at *
  refine ⟨fun vs g => match vs with
    | [] => ∃ N, St g0 S fr M i N 0 false g
    | _ => False, ?_, ?_⟩
  · refine ⟨fun vs g => match vs with
      | [.int _ k] => ∃ (k' N : Nat), k = k' ∧ k' ≤ n ∧ St g0 S fr M i N 0 false g
      | _ => False, fun vs _ => match vs with
      | [.int _ k] => n - k.toNat
      | _ => 0, ⟨by trivial, 0, 0, rfl, by omega, st0⟩, ?_⟩
    rintro bs k g ⟨k, N, rfl, hkn, st⟩
    cases hi : ltI (↑k) (↑n) with
    | false => exact ⟨by trivial, N, st⟩
    | true =>
    rw [ltI_eq, decide_eq_true_eq] at hi
    have hkn' : k < n := by omega
    cases cS : ltI 0 (↑S.length) with
    | false => exact ⟨by trivial, N, st⟩
    | true =>
    rw [ltI_eq, decide_eq_true_eq] at cS
    obtain ⟨s, F, r, si, hf, lo, same, gw, gle⟩ := st
    have keeps : g0.keeps g := fun j c e hq => by rw [same j (hw.lt hq)]; exact hq
    obtain ⟨qa, row, rfl, hrow, hld, hlda⟩ := ha.ld keeps hkn' hz
    obtain ⟨bR, bF, pA, pN, pS, rfl⟩ := step_form (hr row (List.mem_of_getElem? hrow))
    have hw1 : IntKind.i64.wrap ((k : Int) + 1) = ((k + 1 : Nat) : Int) := wrap_succ (n := n) (by omega) (by omega)
    have tk : ((k : Int)).toNat = k := by omega
    obtain ⟨j0, hj0, hj1⟩ : ∃ j0 : Nat, (IntKind.i64.wrap (pA.tmod ↑S.length + ↑S.length)).tmod ↑S.length = (j0 : Int) ∧ j0 < S.length := by
      have h1 := Int.tmod_lt_of_pos pA (b := (S.length : Int)) cS
      have h1' : -(S.length : Int) < pA.tmod S.length := Int.lt_tmod_of_pos pA (b := (S.length : Int)) cS
      rw [wr (x := pA.tmod ↑S.length + ↑S.length) (by omega) (by omega), Int.tmod_eq_emod_of_nonneg (by omega)]
      have h2 := Int.emod_nonneg (pA.tmod ↑S.length + ↑S.length) (b := (S.length : Int)) (by omega)
      have h3 := Int.emod_lt_of_pos (pA.tmod ↑S.length + ↑S.length) (b := (S.length : Int)) cS
      exact ⟨((pA.tmod ↑S.length + ↑S.length) % ↑S.length).toNat, by omega, by omega⟩
    obtain ⟨e, he, he1, he2⟩ : ∃ e : Nat, (bif ltI (IntKind.i64.wrap (↑j0 + bif ltI 300 (bif ltI pN 0 then 0 else pN) then 300 else bif ltI pN 0 then 0 else pN)) ↑S.length then IntKind.i64.wrap (↑j0 + bif ltI 300 (bif ltI pN 0 then 0 else pN) then 300 else bif ltI pN 0 then 0 else pN) else ↑S.length) = (e : Int) ∧ j0 ≤ e ∧ e ≤ S.length := by
      obtain ⟨c, hc, hc0⟩ : ∃ c : Int, (bif ltI 300 (bif ltI pN 0 then 0 else pN) then 300 else bif ltI pN 0 then 0 else pN) = c ∧ 0 ≤ c ∧ c ≤ 300 := by
        cases c1 : ltI pN 0 with
        | true => exact ⟨0, rfl, by omega, by omega⟩
        | false =>
          rw [ltI_eq, decide_eq_false_iff_not] at c1
          simp only [cond_false]
          cases c2 : ltI 300 pN with
          | true => exact ⟨300, rfl, by omega, by omega⟩
          | false => rw [ltI_eq, decide_eq_false_iff_not] at c2; exact ⟨pN, rfl, by omega, by omega⟩
      rw [hc, wr (by omega) (by omega)]
      cases c3 : ltI (↑j0 + c) ↑S.length with
      | true => rw [ltI_eq, decide_eq_true_eq] at c3; exact ⟨(↑j0 + c).toNat, by simp only [cond_true]; omega, by omega, by omega⟩
      | false => exact ⟨S.length, rfl, by omega, by omega⟩
    refine ⟨⟨by omega, hi⟩, pA, by rw [tk]; exact hld 2 (by omega), by omega, by omega, ⟨by omega, hi⟩, pN, by rw [tk]; exact hld 3 (by omega), ?_⟩
    rw [hj0, he]
    have e2 : IntKind.u32.wrap (fr + IntKind.u32.wrap ↑j0) = (fr + j0) % 4294967296 := by rw [u32w, u32w]; omega
    rw [e2]
    have t1 : ((e : Int)).toNat - ((j0 : Int)).toNat = e - j0 := by omega
    have t2 : ((j0 : Int)).toNat = j0 := by omega
    refine ⟨by omega, by omega, ⟨by omega, by omega⟩, ?_⟩
    rw [t1, t2]
    refine (put_spec (j0 := j0) (text := (S.drop j0).take (e - j0)) hS4 (by omega) gw r si (fun k b hk => ?_) (by rw [List.length_take, List.length_drop]; omega)).mono ?_
    · rw [List.getElem?_take] at hk
      split at hk
      · rw [List.getElem?_drop] at hk; exact hk
      · cases hk
    rintro _ g5 ⟨nn, s', N', F', rfl, r5, si5, hN', hf5, u5, w5, _⟩
    rw [hw1]
    exact ⟨_, rfl, by trivial, ⟨k + 1, N', rfl, by omega, St.upd lo same gle u5 w5 r5 si5 (by rw [hf5, hf])⟩, by simp only [Int.toNat_natCast]; omega⟩
  rintro bs2 g2 ⟨N, st⟩
  refine (readAll hM1.2 st).mono ?_
  rintro _ g3 ⟨rfl, st3⟩
  refine ⟨_, rfl, fun vs g => match vs with
    | [.str got] => got = S ∧ St g0 S fr M i S.length S.length false g
    | _ => False, ?_, ?_⟩
  · refine ⟨fun vs g => match vs with
      | [.str got, .int _ k] => ∃ (k' N : Nat), k = k' ∧ k' ≤ N ∧ got = S.take N ∧ St g0 S fr M i N N false g
      | _ => False, fun vs _ => match vs with
      | [_, .int _ k] => 2 * S.length + 2 - k.toNat
      | _ => 0, ⟨by trivial, 0, N, rfl, by omega, by simp, st3⟩, ?_⟩
    rintro bs3 got k g ⟨k, N, rfl, hkN, rfl, st⟩
    have hst := st
    obtain ⟨s, F, r, si, hf, lo, same, gw, gle⟩ := st
    have hNS := si.NS
    have hgN := si.gN
    have e1 : IntKind.i64.wrap (IntKind.i64.wrap (2 * ↑S.length) + 2) = (2 * S.length + 2 : Nat) := by
      rw [wr (x := 2 * (S.length : Int)) (by omega) (by omega), wr (by omega) (by omega)]; push_cast; rfl
    rw [e1]
    cases hi : ltI (↑k) (↑(2 * S.length + 2)) with
    | false => rw [ltI_eq, decide_eq_false_iff_not] at hi; omega
    | true =>
    rw [ltI_eq, decide_eq_true_eq] at hi
    refine (next_spec r).mono ?_
    rintro _ g4 ⟨rfl, rfl⟩
    refine ⟨_, rfl, ?_⟩
    have e2 : IntKind.i64.wrap (IntKind.u32.wrap (s.nx - fr)) = (N : Int) := by
      rw [u32w, si.nx, wr (by omega) (by omega)]; omega
    rw [e2]
    cases hc : ltI (↑N) (↑S.length) with
    | false =>
      rw [ltI_eq, decide_eq_false_iff_not] at hc
      obtain rfl : N = S.length := by omega
      exact ⟨by trivial, by rw [List.take_length], hst⟩
    | true =>
      rw [ltI_eq, decide_eq_true_eq] at hc
      have e3 : IntKind.i64.wrap ((N : Int) + 1) = ((N + 1 : Nat) : Int) := wrap_succ (n := S.length) (by omega) (by omega)
      rw [e3]
      have t1 : (((N + 1 : Nat) : Int)).toNat = N + 1 := by omega
      have t2 : ((N : Int)).toNat = N := by omega
      rw [t1, t2]
      refine ⟨by omega, by omega, ⟨by omega, by omega⟩, ?_⟩
      refine (next_spec r).mono ?_
      rintro _ g5 ⟨rfl, rfl⟩
      refine ⟨_, rfl, ⟨⟨by omega, by omega, ⟨by omega, by omega⟩, by trivial⟩, by trivial, by trivial, by trivial, by trivial, by trivial, ?_⟩⟩
      rw [si.nx]
      have htl : ((S.drop N).take (N + 1 - N)).length = 1 := by rw [List.length_take, List.length_drop]; omega
      refine (put_spec (j0 := N) (text := (S.drop N).take (N + 1 - N)) hS4 (by omega) gw r si (fun k b hk => ?_) (by rw [htl]; omega)).mono ?_
      · rw [List.getElem?_take] at hk
        split at hk
        · rw [List.getElem?_drop] at hk; exact hk
        · cases hk
      rintro _ g6 ⟨nn, s', N', F', rfl, r6, si6, hN', hf6, u6, w6, hpr⟩
      obtain ⟨hn0, hNN⟩ := hpr rfl (by omega) (by omega) hf
      have cn : ((nn : Int) == 0) = false := by rw [beq_eq_false_iff_ne]; omega
      refine ⟨_, rfl, ?_⟩
      rw [cn]
      simp only [cond_false]
      refine (readAll hM1.2 (St.upd lo same gle u6 w6 r6 si6 (by rw [hf6, hf]))).mono ?_
      rintro _ g7 ⟨rfl, st7⟩
      have hNS6 := si6.NS
      have hl1 : (S.take N).length = N := by rw [List.length_take]; omega
      have hl2 : ((S.take N').drop N).length = N' - N := by rw [List.length_drop, List.length_take]; omega
      have hgot : S.take N ++ (S.take N').drop N = S.take N' := by
        have := List.take_append_drop N (S.take N')
        rw [List.take_take, Nat.min_eq_left (by omega)] at this
        exact this
      have hwk : IntKind.i64.wrap ((k : Int) + 1) = ((k + 1 : Nat) : Int) := wrap_succ (n := 2 * S.length + 2) (by omega) (by omega)
      refine ⟨_, rfl, by rw [hl1, hl2]; omega, by trivial, ?_⟩
      rw [hwk, hgot]
      exact ⟨⟨k + 1, N', rfl, by omega, rfl, st7⟩, by simp only [Int.toNat_natCast]; omega⟩
  rintro bs4 got g4 ⟨rfl, st4⟩
  obtain ⟨s, F, r, si, hf, lo, same, gw, gle⟩ := st4
  have e : IntKind.u32.wrap (fr + IntKind.u32.wrap ↑got.length) = (fr + got.length) % 4294967296 := by rw [u32w, u32w]; omega
  rw [e]
  refine (fin_spec hS4 (by omega) gw r si).mono ?_
  rintro _ g5 ⟨b, s', rfl, r5, si5, u5, w5, hfin⟩
  obtain ⟨rfl, hf5⟩ := hfin rfl
  refine ⟨_, rfl, ?_⟩
  rw [beq_self_eq_true]
  simp only [cond_true]
  refine (ended_spec r5).mono ?_
  rintro _ g6 ⟨rfl, rfl⟩
  refine ⟨_, rfl, ?_⟩
  have hl5 := si5.len
  have cE : (s'.fin && (s'.en == s'.nx && (((s'.rd.length : Nat) : Int) == 0))) = true := by
    rw [hf5, si5.en hf5, si5.nx, hl5]; simp
  rw [cE]
  simp only [cond_true]
  have hA : s'.A = [] := by
    cases hq : s'.A with
    | nil => rfl
    | cons x l =>
      obtain ⟨j, b, h1, h2, h3, h4, h5⟩ := si5.far x (by rw [hq]; simp)
      have := (List.getElem?_eq_some_iff.1 h4).1
      omega
  refine (gaps_spec w5 r5 hA).mono ?_
  rintro _ g7 rfl
  exact ⟨_, _, _, rfl, works_spec fun _ => ⟨_, rfl, KT _⟩⟩
end Go.Vex.InWhole

namespace Go.Proofs.Ytkdjjjpfkdkgoaa.inWhole
open Go.ChangeShapes Go.WideShapes Go.ChangeAt Go.RowKit Go.Vex Go.Vex.InWhole
open Go.ChangeMaps (open_string shut_string)

theorem own : ownKnob Try.prog.godebug = none := by kernel_rfl

set_option maxRecDepth 100000 in
theorem lifted (os : Os) (started : os.Started) (H : Type) (enc : TypeId × Value → H) :
    ReturnsInHanded {} Try.checked os 6 .any (Rows.inWholeSpec.pre6 enc Try.prog Try.f6 Rows.inWholeRow.domain false) (Rows.inWholeSpec.post enc Try.prog Try.f6 false true false false) := by
  refine returnsInHanded_of_change_sized (C := Try.checked) own started (by kernel_rfl) Try.func6
    (ChangeSpec.witness6 (enc := enc) (C := Try.checked) false ⟨#[], #[.int .u32 0, .int .u8 0, .string ⟨#[]⟩, .slice none 0 0], []⟩ 8 (by kernel_rfl) (by kernel_rfl) (by kernel_rfl) (by kernel_rfl)) ?_
  intro W base args ds gs before hval0 hW hcnd hsz _
  have hval : ∀ (j : Nat) t v, Try.f6.params[j]? = some t → args[j]? = some v → Value.okWide Try.prog W .any base t v := hval0
  have hW' := hW
  obtain ⟨p, q, hA0, hV, rfl, hfz, hnd⟩ := hW
  have hA : DataW.TrodAll enc Try.prog W 0 (fun _ => true) true Try.f6.params.toList args.toList ds p := hA0
  rw [Try.params6] at hA hval hsz
  obtain ⟨v0, vs0, d0, ds0, p0, q0, hargs, rfl, rfl, h0, r0⟩ := trodAll_cons hA
  obtain ⟨v1, vs1, d1, ds1, p1, q1, rfl, rfl, rfl, h1, r1⟩ := trodAll_cons r0
  obtain ⟨v2, vs2, d2, ds2, p2, q2, rfl, rfl, rfl, h2, r2⟩ := trodAll_cons r1
  obtain ⟨v3, vs3, d3, ds3, p3, q3, rfl, rfl, rfl, h3, r3⟩ := trodAll_cons r2
  obtain ⟨rfl, rfl, rfl⟩ := trodAll_nil r3
  obtain rfl : args = #[v0, v1, v2, v3] := by cases args; simp_all
  obtain ⟨rfl, rfl⟩ := trodVars_none hV
  obtain ⟨a0, rfl, rfl, rfl, w0⟩ := open_int Try.underlying22 (hval 0 22 v0 rfl rfl) h0
  obtain ⟨a1, rfl, rfl, rfl, w1⟩ := open_int Try.underlying5 (hval 1 5 v1 rfl rfl) h1
  obtain ⟨a2, rfl, rfl, rfl, w2⟩ := open_string Try.underlying9 (hval 2 9 v2 rfl rfl) h2
  obtain ⟨ρ3, hp3, b3, n3, f3, rows3, s3, x3, l3, k3, vr3, ro3, sh3, z3⟩ := arg_slice tok (T := Vex.T) (t := 46) (e := 52) (d := 5) (zs := stepZ) rfl rfl rfl rfl rfl (by decide) (hval 3 46 v3 rfl rfl) h3 (fun m hm => hW'.lt m (by simp [hm])) (fun m hm => by simpa using List.all_eq_true.1 hsz m (DataW.weights_mem_each (j := 3) (t := 46) rfl rfl m hm)) (Sat.none W fun _ => ⟨0, 0, 0, 0⟩)
  refine (XCalls.true' s3 (vs := [.int .u32 a0, .int .u8 a1, .str a2.data.toList, .slc b3 n3 f3]) ⟨_, _, rfl, rfl, ⟨_, _, rfl, rfl, ⟨_, _, rfl, rfl, ⟨_, _, rfl, vr3, rfl⟩⟩⟩⟩ (law_calls a0 w0 a1 w1 a2.data.toList (sized_string hsz (j := 2) rfl rfl) ro3 sh3 z3)).mono fun e W' ⟨he, hb⟩ => ?_
  subst he
  exact ⟨_, rfl, post_true (by kernel_rfl) hW' hb rfl (fun gs hg => by subst hg; rfl) (tb := 4) rfl Try.underlying4 (by decide +kernel)⟩

theorem over : Rows.inWholeRow.holds Try.pinned (OpenSpec.ofChange Rows.inWholeSpec) :=
  OpenClaim.holds_of_wide 6 Try.f6 rfl rfl rfl rfl rfl rfl rfl ⟨rfl, rfl, rfl, rfl, rfl⟩ rfl rfl rfl rfl rfl (by kernel_rfl) Try.func6 (by kernel_rfl)
    (of_decide_eq_true (by kernel_rfl)) (by unfold Func.isWrapper; first | (rw [if_pos (by decide +kernel)]; kernel_rfl) | (rw [if_neg (by decide +kernel)]; exact ⟨rfl, rfl⟩))
    (fun os started H enc _ => lifted os started H enc)

theorem proved : Rows.InWholeSaid :=
  over
#print axioms proved
end Go.Proofs.Ytkdjjjpfkdkgoaa.inWhole

