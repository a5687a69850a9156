/-
  PoolPlays of layer 17: whatever the most and the script, the law returns true and leaves the input as it was. No condition.
-/
import Derived.Test.YteblfacfbmlceaaVexGG
import Derived.Test.YteblfacfbmlceaaTab17
import Derived.Test.YteblfacfbmlceaaXa17
import Derived.Test.YteblfacfbmlceaaCa17
import Derived.Test.YteblfacfbmlceaaCb17
import Derived.Test.YteblfacfbmlceaaXc17
import Derived.Test.YteblfacfbmlceaaCc17
import Derived.Test.YteblfacfbmlceaaXd17
import Derived.Test.YteblfacfbmlceaaCd17
import Derived.Test.YteblfacfbmlceaaCe17
import Derived.Test.YteblfacfbmlceaaXe17
import Derived.Test.YteblfacfbmlceaaRows
import Derived.WalkKit
import Derived.ProofKit
import Derived.OpenShut
import Derived.KernelRfl
set_option linter.unusedVariables false
set_option linter.unusedSimpArgs false
namespace Go.Vex.PoolPlays
open Go.Proofs

set_option maxRecDepth 100000 in
theorem works_ev : (ev Vex.T Vex.F (fun _ => []) 100000).call 9 [] h0 isT = true := by kernel_rfl

theorem works_spec {h : Hp} {K : V → Hp → Prop} (hk : ∀ h', K (.bool true) h') : XCalls Try.prog 9 [] h K :=
  (XCalls.fresh (K := fun v => v = .bool true) rfl (fun v hv => by subst hv; rfl) (XCalls.ev tok fok mixed (fun _ => []) 100000 works_ev fun _ _ hv => isT_spec hv)).mono fun v h' hv => by rw [hv.1]; exact hk h'

theorem new_err {h : Hp} {most : Int} (hb : most < 1 ∨ 4096 < most) : XCalls Try.prog 8 [.int .i64 most] h fun v h' => v = .tup [.ptr none, .int .i64 2] ∧ h' = h := by
  apply x8; unfold X8
  cases c1 : ltI most 1 with
  | true => exact ⟨rfl, rfl⟩
  | false =>
    rw [ltI_eq, decide_eq_false_iff_not] at c1
    have c2 : ltI 4096 most = true := by rw [ltI_eq, decide_eq_true_eq]; omega
    rw [c2]; exact ⟨rfl, rfl⟩

set_option maxRecDepth 20000 in
theorem law_calls (most : Int) (w0 : (Lit.int .i64 most).wf = true) {h : Hp} {a : Option (Nat × Nat)} {n : Nat} {f : Bool} {rows : List (List V)} (ha : RoSlc h a n rows 6)
    (hr : ∀ r ∈ rows, ShN Try.prog h stepZ r) (hbz : n * Try.prog.bytesOf 45 ≤ reachBytes) : XCalls Try.prog 4 [.int .i64 most, .slc a n f] h fun v _ => v = .bool true := by
  have hz : ∀ r ∈ rows, r.length = 6 := fun r h => by obtain ⟨p, a, n, f, s⟩ := srow (hr r h); rw [s.eq]; rfl
  refine XCalls.ofWf fun hw => ?_
  refine XCalls.cps fun K hK => ?_
  have KT : ∀ h', K (.bool true) h' := fun h' => hK _ _ rfl
  apply x4; unfold X4
  refine (heavy_spec ha hr).mono ?_
  rintro _ g0 ⟨rfl, bb, rfl, hn⟩
  refine ⟨_, rfl, ?_⟩
  cases bb with
  | true => exact works_spec fun _ => ⟨_, rfl, KT _⟩
  | false =>
  have hn := hn rfl
  simp only [cond_false]
  by_cases hb : most < 1 ∨ 4096 < most
  · refine (new_err hb).mono ?_
    rintro _ g1 ⟨rfl, rfl⟩
    refine ⟨_, _, rfl, ?_⟩
    simp only [Option.isNone_none, beq_self_eq_true, cond_true]
    cases c1 : ltI most 1 with
    | true => exact works_spec fun _ => ⟨_, rfl, KT _⟩
    | false =>
      rw [ltI_eq, decide_eq_false_iff_not] at c1
      have c2 : ltI 4096 most = true := by rw [ltI_eq, decide_eq_true_eq]; omega
      rw [c2]
      exact works_spec fun _ => ⟨_, rfl, KT _⟩
  have hb1 : 1 ≤ most ∧ most ≤ 4096 := by omega
  have c1 : ltI most 1 = false := by rw [ltI_eq, decide_eq_false_iff_not]; omega
  have c2 : ltI 4096 most = false := by rw [ltI_eq, decide_eq_false_iff_not]; omega
  refine (new_spec hb1).mono' ?_
  rintro _ g1 hg1 wf1 ⟨rfl, pr1, u1⟩
  refine ⟨_, _, rfl, ?_⟩
  simp only [c1, c2, cond_false, Option.isNone_some, bne_self_eq_false]
  have k1 : g0.keeps g1 := fun q c e hq => by rw [u1.same q (hw.lt hq) (by simp)]; exact hq
  rintro g2 rfl
  have hs2 : ∀ j, j < g1.next → (g1.alloc (.row [.int .i64 most, .int .u64 0, .slc none 0 true] 1 false)).get j = g1.get j := fun j hj => Hp.get_alloc_ne (by omega)
  refine ⟨fun vs g => match vs with
    | [.int _ x] => ∃ (k : Nat) (last : Int) (L : List Buf) (F F' : List Nat), x = k ∧ k ≤ n ∧ last ≤ k ∧ CInv most last (L.map Buf.con) ∧ PoolR (g0.next + 1) most last L g F ∧ RefP g1.next most last (L.map Buf.con) g F' ∧ (∀ j ∈ F, j ∉ F') ∧ g.wf ∧ g0.keeps g
    | _ => False, fun vs _ => match vs with
    | [.int _ x] => n - x.toNat
    | _ => 0, ⟨(by trivial), 0, 0, [], [g0.next + 1, g0.next], [g1.next], rfl, by omega, by omega, ⟨by simp, by simp, by simp; omega, by omega⟩, (PoolR.rep _ _ _ _).stay wf1 pr1 hs2,
      ⟨none, true, [], Hp.get_alloc_self, Own.nil _ _, rfl, by simp⟩, ?_, wf1.alloc, k1.stay wf1 hs2⟩, ?_⟩
  · intro j hj
    have := (PoolR.rep _ _ _ _).lt wf1 pr1 hj
    simp only [List.mem_singleton]; omega
  rintro bs x g3 ⟨k, last, L, F, F', rfl, hk, hlast, ci, pr, rr, dis, wf, kp⟩
  cases c3 : ltI (↑k) (↑n) with
  | false => exact works_spec fun _ => ⟨_, rfl, KT _⟩
  | true =>
  rw [ltI_eq, decide_eq_true_eq] at c3
  have hw1 : IntKind.i64.wrap ((k : Int) + 1) = ((k + 1 : Nat) : Int) := wrap_succ (n := 500) (by omega) (by omega)
  have dec : n - Int.toNat (IntKind.i64.wrap ((k : Int) + 1)) < n - Int.toNat (k : Int) := by
    rw [hw1]; simp only [Int.toNat_natCast]; omega
  have hbd : (0 : Int) ≤ k ∧ (k : Int) < n := ⟨by omega, c3⟩
  obtain ⟨q, r, rfl, hrow, hld, hlda⟩ := ha.ld kp (k := k) (by omega) hz
  obtain ⟨p, la, ln, lf, sr⟩ := srow (hr r (List.mem_of_getElem? hrow))
  refine ⟨hbd, p.d, p.who, p.to, p.s, p.n, la, ln, lf, by simp only [Int.toNat_natCast]; rw [Nat.zero_add] at hlda ⊢; rw [hlda, sr.eq], ?_⟩
  have hdoes := does_spec wf kp pr ci (by omega) sr
  rw [sr.eq] at hdoes
  refine hdoes.mono ?_
  rintro _ g4 ⟨rfl, L', F1, hL', pr4, u4, wf4⟩
  have kp4 := u4.keeps (PoolR.rep _ _ _ _) wf pr kp
  obtain ⟨rr4, dis4⟩ := u4.frame (RefP.rep _ _ _ _) wf rr dis
  refine ⟨_, _, rfl, hbd, ?_⟩
  obtain ⟨q', r', e', hrow', hld', hlda'⟩ := ha.ld kp4 (k := k) (by omega) hz
  cases e'
  rw [hrow] at hrow'
  cases hrow'
  refine ⟨p.d, p.who, p.to, p.s, p.n, la, ln, lf, by simp only [Int.toNat_natCast]; rw [Nat.zero_add] at hlda' ⊢; rw [hlda', sr.eq], ?_⟩
  have htold := told_spec wf4 kp4 rr4 ci (by omega) (by omega) sr
  rw [sr.eq] at htold
  refine htold.mono ?_
  rintro _ g5 ⟨rfl, F2, rr5, u5, wf5⟩
  have kp5 := u5.keeps (RefP.rep _ _ _ _) wf4 rr4 kp4
  obtain ⟨pr5, dis5⟩ := u5.frame (PoolR.rep _ _ _ _) wf4 pr4 (fun j hj hF => dis4 j hF hj)
  refine ⟨_, _, rfl, ?_⟩
  simp only [bne_self_eq_false, cond_false]
  obtain ⟨ci', l1, l2⟩ := ci.step p
  rw [← hL'] at ci' rr5
  generalize (stepC most last (L.map Buf.con) p).2.1 = last' at ci' l1 l2 rr5 pr5
  have hlen' : (L'.length : Int) ≤ most := by have := ci'.len; simpa using this
  have rr5' := rr5
  obtain ⟨ar, fr, G, r1, r2, rfl, r4⟩ := rr5'
  refine ⟨ar, _, fr, by rw [Hp.ld_of r1]; rfl, ?_⟩
  refine (free_spec pr5 ⟨by omega, by omega, hlen'⟩).mono ?_
  rintro _ g6 ⟨rfl, rfl⟩
  refine ⟨_, rfl, (by trivial), (by trivial), ⟨ar, _, fr, by rw [Hp.ld_of r1]; rfl, rfl⟩, (by trivial), (by trivial), (by trivial), (by trivial), ?_⟩
  rw [List.length_map, wr (by omega) (by omega)]
  simp only [bne_self_eq_false, cond_false]
  refine ⟨fun vs g => match vs with
    | [.int _ x] => ∃ j : Nat, x = j ∧ (j : Int) ≤ last' + 2 ∧ PoolR (g0.next + 1) most last' L' g F1 ∧ RefP g1.next most last' (L'.map Buf.con) g (g1.next :: G) ∧ g.wf ∧ g0.keeps g
    | _ => False, fun vs _ => match vs with
    | [.int _ x] => 1000 - x.toNat
    | _ => 0, ⟨(by trivial), 0, rfl, by have := ci'.l0; omega, pr5, rr5, wf5, kp5⟩, ?_⟩
  rintro bs2 x2 g7 ⟨j, rfl, hj, pr7, rr7, wf7, kp7⟩
  have hl0 := ci'.l0
  have hwl : IntKind.u64.wrap (last' + 1) = last' + 1 := wrap_of (by simp [IntKind.min, IntKind.max, IntKind.signed, IntKind.bits]; omega)
  have rr7' := rr7
  obtain ⟨ar7, fr7, G7, s1, s2, e7, s4⟩ := rr7'
  refine ⟨last', by rw [Hp.ld_of s1]; rfl, ?_⟩
  rw [hwl]
  cases c4 : ltI (last' + 1) (↑j) with
  | true =>
    exact ⟨(by trivial), ⟨k + 1, last', L', F1, _, hw1, by omega, by omega, ci', pr7, rr7, fun j hj hF => dis5 j hF hj, wf7, kp7⟩, dec⟩
  | false =>
  rw [ltI_eq, decide_eq_false_iff_not] at c4
  simp only [Bool.not_false, cond_true]
  have hwj : IntKind.u64.wrap ((j : Int) + 1) = ((j + 1 : Nat) : Int) := by
    rw [wrap_of (by simp [IntKind.min, IntKind.max, IntKind.signed, IntKind.bits]; omega)]; rfl
  have dec2 : 1000 - Int.toNat (IntKind.u64.wrap ((j : Int) + 1)) < 1000 - Int.toNat (j : Int) := by
    rw [hwj]; simp only [Int.toNat_natCast]; omega
  refine (get_spec wf7 pr7).mono' ?_
  rintro _ g8 hn8 wf8 ⟨rfl, hs8, _⟩
  refine ⟨_, _, _, _, rfl, ?_⟩
  rintro g9 rfl
  refine ⟨_, Hp.st_of Hp.get_alloc_self (Nat.le_of_ble_eq_true rfl), ?_⟩
  generalize hy : (cfind (L'.map Buf.con) ↑j).getD (0, [], []) = y
  generalize hg10 : (g8.alloc _).set g8.next _ = g10
  have hrow10 : g10.get g8.next = some (.row (b3row y) 1 false) := by rw [← hg10]; exact Hp.get_set_self
  have wf10 : g10.wf := by rw [← hg10]; exact wf8.alloc.set (by simp [Hp.alloc_next])
  have hs10 : ∀ j, j < g7.next → g10.get j = g7.get j := fun j hj => by rw [← hg10, Hp.get_set_ne (by omega), Hp.get_alloc_ne (by omega)]; exact hs8 j hj
  clear hg10
  have pr10 := (PoolR.rep _ _ _ _).stay wf7 pr7 hs10
  have rr10 := (RefP.rep _ _ _ _).stay wf7 rr7 hs10
  have kp10 := kp7.stay wf7 hs10
  have hC : (L'.map Buf.con).length ≤ 4096 := by rw [List.length_map]; omega
  refine (at_spec rr10 hC).mono ?_
  rintro _ g11 ⟨rfl, z, rfl, hat⟩
  refine ⟨z, rfl, ?_⟩
  have again : ∃ j2 : Nat, IntKind.u64.wrap ((j : Int) + 1) = j2 ∧ (j2 : Int) ≤ last' + 2 ∧ PoolR (g0.next + 1) most last' L' g11 F1 ∧ RefP g1.next most last' (L'.map Buf.con) g11 (g1.next :: G) ∧ g11.wf ∧ g0.keeps g11 :=
    ⟨j + 1, hwj, by omega, pr10, rr10, wf10, kp10⟩
  have hself : ∀ y : B3, (y.1 == y.1 && (y.2.1 == y.2.1 && (y.2.2 == y.2.2 && true))) = true := fun y => by simp
  rcases hat with ⟨rfl, hnone⟩ | ⟨kk, x, rfl, hx, hf⟩
  · rw [hnone] at hy ⊢
    simp only [Option.getD_none] at hy
    subst hy
    have cm : ltI (-1) 0 = true := by decide
    simp only [Option.isSome_none, cm, Bool.not_true, Bool.not_false, beq_self_eq_true, cond_false, cond_true]
    refine ⟨0, [], [], by rw [Hp.lda_of hrow10 (Nat.le_of_ble_eq_true rfl)]; rfl, ?_⟩
    rw [hself ((0, [], []) : B3)]
    exact ⟨(by trivial), again, dec2⟩
  · rw [hf] at hy ⊢
    simp only [Option.getD_some] at hy
    subst hy
    have cm : ltI (↑kk) 0 = false := by rw [ltI_eq, decide_eq_false_iff_not]; omega
    simp only [Option.isSome_some, cm, Bool.not_true, Bool.not_false, beq_self_eq_true, cond_false, cond_true]
    obtain ⟨ar', fr', G', t1, t2, e', t4⟩ := rr10
    have hkl := (List.getElem?_eq_some_iff.1 hx).1
    obtain ⟨q2, o2, row, rfl, hrow2, _, _, hlda2⟩ := t2.ld hkl
    rw [b3rows_get, hx] at hrow2
    cases hrow2
    refine ⟨x.1, x.2.1, x.2.2, by rw [Hp.lda_of hrow10 (Nat.le_of_ble_eq_true rfl)]; rfl, some (q2, o2), _, fr', by rw [Hp.ld_of t1]; rfl, ⟨by omega, by omega⟩, x.1, x.2.1, x.2.2, hlda2, ?_⟩
    rw [hself x]
    exact ⟨(by trivial), again, dec2⟩
end Go.Vex.PoolPlays

namespace Go.Proofs.Yteblfacfbmlceaa.poolPlays
open Go.ChangeShapes Go.WideShapes Go.ChangeAt Go.RowKit Go.Vex Go.Vex.PoolPlays
open Go.ChangeMaps (open_string shut_string)

theorem own : ownKnob Try.prog.godebug = none := by kernel_rfl

set_option maxRecDepth 100000 in
theorem lifted (os : Os) (started : os.Started) (H : Type) (enc : TypeId × Value → H) :
    ReturnsInHanded {} Try.checked os 4 .any (Rows.poolPlaysSpec.pre6 enc Try.prog Try.f4 Rows.poolPlaysRow.domain false) (Rows.poolPlaysSpec.post enc Try.prog Try.f4 false true false false) := by
  refine returnsInHanded_of_change_sized (C := Try.checked) own started (by kernel_rfl) Try.func4
    (ChangeSpec.witness6 (enc := enc) (C := Try.checked) false ⟨#[], #[.int .i64 0, .slice none 0 0], []⟩ 8 (by kernel_rfl) (by kernel_rfl) (by kernel_rfl) (by kernel_rfl)) ?_
  intro W base args ds gs before hval0 hW hcnd hsz _
  have hval : ∀ (j : Nat) t v, Try.f4.params[j]? = some t → args[j]? = some v → Value.okWide Try.prog W .any base t v := hval0
  have hW' := hW
  obtain ⟨p, q, hA0, hV, rfl, hfz, hnd⟩ := hW
  have hA : DataW.TrodAll enc Try.prog W 0 (fun _ => true) true Try.f4.params.toList args.toList ds p := hA0
  rw [Try.params4] at hA hval hsz
  obtain ⟨v0, vs0, d0, ds0, p0, q0, hargs, rfl, rfl, h0, r0⟩ := trodAll_cons hA
  obtain ⟨v1, vs1, d1, ds1, p1, q1, rfl, rfl, rfl, h1, r1⟩ := trodAll_cons r0
  obtain ⟨rfl, rfl, rfl⟩ := trodAll_nil r1
  obtain rfl : args = #[v0, v1] := by cases args; simp_all
  obtain ⟨rfl, rfl⟩ := trodVars_none hV
  obtain ⟨a0, rfl, rfl, rfl, w0⟩ := open_int Try.underlying3 (hval 0 3 v0 rfl rfl) h0
  obtain ⟨ρ1, hp1, b1, n1, f1, rows1, s1, x1, l1, k1, vr1, ro1, sh1, z1⟩ := arg_sliceN tok (T := Vex.T) (t := 37) (e := 45) (d := 8) (zs := stepZ) rfl rfl rfl rfl (by decide) (hval 1 37 v1 rfl rfl) h1 (fun m hm => hW'.lt m (by simp [hm])) (fun m hm => by simpa using List.all_eq_true.1 hsz m (DataW.weights_mem_each (j := 1) (t := 37) rfl rfl m hm)) (Sat.none W fun _ => ⟨0, 0, 0, 0⟩)
  refine (XCalls.true' s1 (vs := [.int .i64 a0, .slc b1 n1 f1]) ⟨_, _, rfl, rfl, ⟨_, _, rfl, vr1, rfl⟩⟩ (law_calls a0 w0 ro1 sh1 z1)).mono fun e W' ⟨he, hb⟩ => ?_
  subst he
  exact ⟨_, rfl, post_true (by kernel_rfl) hW' hb rfl (fun gs hg => by subst hg; rfl) (tb := 4) rfl Try.underlying4 (by decide +kernel)⟩

theorem over : Rows.poolPlaysRow.holds Try.pinned (OpenSpec.ofChange Rows.poolPlaysSpec) :=
  OpenClaim.holds_of_wide 4 Try.f4 rfl rfl rfl rfl rfl rfl rfl ⟨rfl, rfl, rfl, rfl, rfl⟩ rfl rfl rfl rfl rfl (by kernel_rfl) Try.func4 (by kernel_rfl)
    (of_decide_eq_true (by kernel_rfl)) (by unfold Func.isWrapper; first | (rw [if_pos (by decide +kernel)]; kernel_rfl) | (rw [if_neg (by decide +kernel)]; exact ⟨rfl, rfl⟩))
    (fun os started H enc _ => lifted os started H enc)

theorem proved : Rows.PoolPlaysSaid :=
  over
#print axioms proved
end Go.Proofs.Yteblfacfbmlceaa.poolPlays

