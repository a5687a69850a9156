/-
  PoolApart of layer 17: whatever the two holders, the bytes and the script, the law returns true and leaves the input as it was. No condition.
-/
import Derived.Test.YteblfacfbmlceaaVexGG
import Derived.Test.YteblfacfbmlceaaTab17
import Derived.Test.YteblfacfbmlceaaXa17
import Derived.Test.YteblfacfbmlceaaCa17
import Derived.Test.YteblfacfbmlceaaCb17
import Derived.Test.YteblfacfbmlceaaXc17
import Derived.Test.YteblfacfbmlceaaCc17
import Derived.Test.YteblfacfbmlceaaXf17
import Derived.Test.YteblfacfbmlceaaRows
import Derived.WalkKit
import Derived.ProofKit
import Derived.OpenShut
import Derived.KernelRfl
set_option linter.unusedVariables false
set_option linter.unusedSimpArgs false
namespace Go.Vex.PoolApart
open Go.Proofs

set_option maxRecDepth 100000 in
theorem works_ev : (ev Vex.T Vex.F (fun _ => []) 100000).call 9 [] h0 isT = true := by kernel_rfl

theorem works_spec {h : Hp} {K : V → Hp → Prop} (hk : ∀ h', K (.bool true) h') : XCalls Try.prog 9 [] h K :=
  (XCalls.fresh (K := fun v => v = .bool true) rfl (fun v hv => by subst hv; rfl) (XCalls.ev tok fok mixed (fun _ => []) 100000 works_ev fun _ _ hv => isT_spec hv)).mono fun v h' hv => by rw [hv.1]; exact hk h'

theorem giveC_zero (C : List B3) (who : List UInt8) : ∀ (xs seen : List Int), giveC C who seen xs = 0 → ∀ x ∈ xs, codeC C x who = 0
  | [], _, _, x, hx => by cases hx
  | i :: r, seen, h, x, hx => by
    simp only [giveC] at h
    split at h
    · cases h
    · split at h
      · rename_i hc
        rcases List.mem_cons.1 hx with rfl | hx
        · exact hc
        · exact giveC_zero C who r _ h x hx
      · rename_i hc; exact absurd h hc

theorem cfind_cdel (C : List B3) {id j : Int} (e : id ≠ j) : cfind (cdel C j) id = cfind C id := by
  unfold cfind cdel
  rw [List.find?_filter]
  congr 1
  funext x
  by_cases h : id = x.1
  · subst h; simp [e]
  · simp [h]

theorem cfind_cdels : ∀ (xs : List Int) (C : List B3) {id : Int}, id ∉ xs → cfind (xs.foldl cdel C) id = cfind C id
  | [], _, _, _ => rfl
  | x :: xs, C, id, h => by
    simp only [List.mem_cons, not_or] at h
    rw [List.foldl_cons, cfind_cdels xs _ h.2, cfind_cdel C h.1]

theorem cfind_cset (C : List B3) {id j : Int} (f : B3 → B3) (hf : ∀ x, (f x).1 = x.1) (e : id ≠ j) : cfind (cset C j f) id = cfind C id := by
  induction C with
  | nil => rfl
  | cons x C ih =>
    simp only [cfind, cset, List.map_cons, List.find?_cons] at ih ⊢
    by_cases h : x.1 = j
    · rw [if_pos h, hf]
      have : ¬ id = x.1 := fun e' => e (e'.trans h)
      simp only [this, decide_false]
      exact ih
    · rw [if_neg h]
      by_cases h2 : id = x.1
      · simp only [h2, decide_true]
      · simp only [h2, decide_false]
        exact ih

/-- a step of others leaves the buffer -/
theorem step_keeps {most last : Int} {C : List B3} {one text : List UInt8} (hf : cfind C 1 = some (1, one, text)) {p : Stp} (hw : p.who ≠ one) : cfind (stepC most last C p).2.2 1 = some (1, one, text) := by
  have hc : codeC C 1 p.who = 3 := by unfold codeC; rw [hf]; simp [Ne.symm hw]
  have ne : ∀ x, codeC C x p.who = 0 → (1 : Int) ≠ x := fun x hx e => by rw [← e, hc] at hx; cases hx
  unfold stepC
  split
  · split
    · show cfind (C ++ _) 1 = _
      unfold cfind at hf ⊢
      rw [List.find?_append, hf]; rfl
    · exact hf
  · split
    · show cfind (if _ then _ else _) 1 = _
      split
      · rename_i h
        rw [cfind_cdels _ _ fun hm => ne 1 (giveC_zero C p.who _ _ h 1 hm) rfl]; exact hf
      · exact hf
    · split
      · show cfind (if p.to ≠ [] ∧ codeC C p.n p.who = 0 then _ else _) 1 = _
        split
        · rename_i h
          exact (cfind_cset C (fun x => (x.1, p.to, x.2.2)) (fun _ => rfl) (ne _ h.2)).trans hf
        · exact hf
      · split
        · show cfind (if codeC C p.n p.who = 0 ∧ p.s.length ≤ 65549 then _ else _) 1 = _
          split
          · rename_i h
            exact (cfind_cset C (fun x => (x.1, x.2.1, p.s)) (fun _ => rfl) (ne _ h.1)).trans hf
          · exact hf
        · exact hf

theorem ints_one {g : Hp} {F : List Nat} (hF : ∀ j ∈ F, j < g.next) (x : Int) : IntsAt .u64 (some (g.next, 0)) 1 [x] (g.alloc (.row [.int .u64 x] 1 false)) F :=
  ⟨rfl, fun _ => ⟨g.next, 0, _, _, _, rfl, fun h => absurd (hF _ h) (by omega), Hp.get_alloc_self, fun k hk => by
    obtain rfl : k = 0 := by omega
    rfl⟩⟩

set_option maxRecDepth 20000 in
theorem law_calls (one : List UInt8) (w0 : one.length ≤ reachBytes) (other : List UInt8) (w1 : other.length ≤ reachBytes) (text : List UInt8) (w2 : text.length ≤ reachBytes) {h : Hp} {a : Option (Nat × Nat)} {n : Nat} {f : Bool} {rows : List (List V)} (ha : RoSlc h a n rows 6)
    (hr : ∀ r ∈ rows, ShN Try.prog h stepZ r) (hbz : n * Try.prog.bytesOf 45 ≤ reachBytes) : XCalls Try.prog 5 [.str one, .str other, .str text, .slc a n f] h fun v _ => v = .bool true := by
  have hz : ∀ r ∈ rows, r.length = 6 := fun r h => by obtain ⟨p, a, n, f, s⟩ := srow (hr r h); rw [s.eq]; rfl
  refine XCalls.ofWf fun hw => ?_
  refine XCalls.cps fun K hK => ?_
  have KT : ∀ h', K (.bool true) h' := fun h' => hK _ _ rfl
  have hre := reach_le
  apply x5; unfold X5
  refine (heavy_spec ha hr).mono ?_
  rintro _ g0 ⟨rfl, bb, rfl, hn⟩
  refine ⟨_, rfl, ?_⟩
  cases bb with
  | true => exact works_spec fun _ => ⟨_, rfl, KT _⟩
  | false =>
  have hn := hn rfl
  simp only [cond_false]
  rw [wr (x := (↑one.length : Int) + ↑other.length) (by omega) (by omega), wr (by omega) (by omega)]
  cases c0 : ltI 1024 ((↑one.length : Int) + ↑other.length + ↑text.length) with
  | true => exact works_spec fun _ => ⟨_, rfl, KT _⟩
  | false =>
  rw [ltI_eq, decide_eq_false_iff_not] at c0
  by_cases c1 : one = []
  · have : (one == []) = true := by simp [c1]
    simp only [this, cond_true, cond_false]
    exact works_spec fun _ => ⟨_, rfl, KT _⟩
  have b1 : (one == []) = false := by simp [c1]
  simp only [b1, cond_false]
  refine (new_spec (most := 10) (by omega)).mono' ?_
  rintro _ g1 hg1 wf1 ⟨rfl, pr1, u1⟩
  refine ⟨_, _, rfl, ?_⟩
  simp only [bne_self_eq_false, cond_false, Option.isNone_some]
  have k1 : g0.keeps g1 := fun q c e hq => by rw [u1.same q (hw.lt hq) (by simp)]; exact hq
  refine (take_spec wf1 pr1 (by simp) (by omega)).mono' ?_
  rintro v g2 hg2 wf2 ⟨F2, u2, hv⟩
  have tc : takeCode 10 ([] : List Buf).length one text = 0 := by
    unfold takeCode
    rw [if_neg c1, if_neg (by omega), if_neg (by simp)]
  rw [if_pos tc] at hv
  obtain ⟨rfl, o, pr2⟩ := hv
  refine ⟨_, _, rfl, ?_⟩
  simp only [bne_self_eq_false, cond_false, Int.zero_add]
  have k2 := u2.keeps (PoolR.rep _ _ _ _) wf1 pr1 k1
  refine ⟨fun vs g => match vs with
    | [.int _ x] => ∃ (k : Nat) (last : Int) (L : List Buf) (F : List Nat), x = k ∧ k ≤ n ∧ last ≤ k + 1 ∧ CInv 10 last (L.map Buf.con) ∧ cfind (L.map Buf.con) 1 = some (1, one, text) ∧ PoolR (g0.next + 1) 10 last L g F ∧ g.wf ∧ g0.keeps g
    | _ => False, fun vs _ => match vs with
    | [.int _ x] => n - x.toNat
    | _ => 0, ⟨(by trivial), 0, 0 + 1, _, F2, rfl, by omega, by omega, ⟨by simp [Buf.con], by simp [Buf.con], by simp, by omega⟩, rfl, pr2, wf2, k2⟩, ?_⟩
  rintro bs x g3 ⟨k, last, L, F, rfl, hk, hlast, ci, cf, pr, wf, kp⟩
  cases c2 : ltI (↑k) (↑n) with
  | true =>
    rw [ltI_eq, decide_eq_true_eq] at c2
    obtain ⟨q, r, rfl, hrow, hld, hlda⟩ := ha.ld kp (k := k) (by omega) hz
    obtain ⟨p, la, ln, lf, sr⟩ := srow (hr r (List.mem_of_getElem? hrow))
    have hw1 : IntKind.i64.wrap ((k : Int) + 1) = ((k + 1 : Nat) : Int) := wrap_succ (n := 500) (by omega) (by omega)
    have hb : (0 : Int) ≤ k ∧ (k : Int) < n := ⟨by omega, c2⟩
    have dec : n - Int.toNat (IntKind.i64.wrap ((k : Int) + 1)) < n - Int.toNat (k : Int) := by
      rw [hw1]; simp only [Int.toNat_natCast]; omega
    have e1 : r[1]? = some (.str p.who) := by rw [sr.eq]; rfl
    refine ⟨hb, p.who, (hld 1 (by omega)).trans e1, ?_⟩
    by_cases hw : p.who = one
    · have : (p.who == one) = true := by simp [hw]
      simp only [this, Bool.not_true, cond_false]
      exact ⟨(by trivial), ⟨k + 1, last, L, F, hw1, by omega, by omega, ci, cf, pr, wf, kp⟩, dec⟩
    · have : (p.who == one) = false := by simp [hw]
      simp only [this, Bool.not_false, cond_true]
      refine ⟨hb, p.d, p.who, p.to, p.s, p.n, la, ln, lf, by simp only [Int.toNat_natCast]; rw [Nat.zero_add] at hlda ⊢; rw [hlda, sr.eq], ?_⟩
      have := does_spec wf kp pr ci (by omega) sr
      rw [sr.eq] at this
      refine this.mono ?_
      rintro _ g4 ⟨rfl, L', F', hL', pr', u', wf'⟩
      obtain ⟨ci', l1, l2⟩ := ci.step p
      rw [← hL'] at ci'
      exact ⟨_, _, rfl, (by trivial), ⟨k + 1, _, L', F', hw1, by omega, by omega, ci', by rw [hL']; exact step_keeps cf hw, pr', wf', u'.keeps (PoolR.rep _ _ _ _) wf pr kp⟩, dec⟩
  | false =>
  refine (get_spec wf pr).mono' ?_
  rintro _ g4 hg4 wf4 ⟨rfl, hs4, _⟩
  rw [cf]
  have pr4 := (PoolR.rep _ _ _ _).stay wf pr hs4
  refine ⟨1, one, text, true, rfl, ?_⟩
  rintro g5 rfl
  refine ⟨_, Hp.st_of Hp.get_alloc_self (Nat.le_of_ble_eq_true rfl), ?_⟩
  simp only [Bool.not_true, cond_false]
  refine ⟨1, one, text, by rw [Hp.lda_of Hp.get_set_self (Nat.le_of_ble_eq_true rfl)]; rfl, ?_⟩
  simp only [beq_self_eq_true, Bool.and_self, Bool.not_true, cond_false]
  generalize hg6 : (g4.alloc _).set g4.next _ = g6
  have wf6 : g6.wf := by rw [← hg6]; exact wf4.alloc.set (by simp [Hp.alloc_next])
  have hs6 : ∀ j, j < g4.next → g6.get j = g4.get j := fun j hj => by rw [← hg6, Hp.get_set_ne (by omega), Hp.get_alloc_ne (by omega)]
  have pr6 := (PoolR.rep _ _ _ _).stay wf4 pr4 hs6
  by_cases c3 : other = one
  · have : (other == one) = true := by simp [c3]
    simp only [this, cond_true]
    exact works_spec fun _ => ⟨_, rfl, KT _⟩
  have b3 : (other == one) = false := by simp [c3]
  simp only [b3, cond_false]
  have hnd : (L.map Buf.id).Nodup := by have := ci.nd; rw [List.map_map] at this; exact this
  have oc : ofCode L 1 other = 3 := by rw [← codeC_con]; unfold codeC; rw [cf]; simp [Ne.symm c3]
  have oo : ofCode L 1 one = 0 := by rw [← codeC_con]; unfold codeC; rw [cf]; simp
  have lt := fun {g : Hp} {F : List Nat} {L : List Buf} {p : Nat} {last : Int} (w : g.wf) (r : PoolR p 10 last L g F) => fun j (hj : j ∈ F) => (PoolR.rep p 10 last L).lt w r hj
  have al := fun {g : Hp} {F : List Nat} {L : List Buf} {p : Nat} {last : Int} (w : g.wf) (r : PoolR p 10 last L g F) (o : O) => (PoolR.rep p 10 last L).stay w r fun j hj => (Hp.get_alloc_ne (o := o) (by omega))
  rintro g7 rfl
  refine (give_spec (who := other) wf6.alloc (al wf6 pr6 _) hnd (ints_one (lt wf6 pr6) 1) (by omega)).mono' ?_
  rintro _ g8 _ wf8 ⟨rfl, F8, u8, pr8⟩
  have gc : giveCode L other [] [1] = 3 := by simp [giveCode, oc]
  rw [gc] at pr8 ⊢
  rw [if_neg (by omega)] at pr8
  refine ⟨_, rfl, ?_⟩
  simp only [beq_self_eq_true, cond_true]
  refine (move_spec (who := other) (to := one) pr8 hnd).mono' ?_
  rintro _ g9 _ wf9 ⟨u9, rfl, pr9⟩
  rw [if_neg (fun h => by rw [oc] at h; omega)] at pr9
  rw [if_neg c1, oc]
  refine ⟨_, rfl, ?_⟩
  simp only [beq_self_eq_true, cond_true]
  refine (set_spec (who := other) (text := [120]) pr9 hnd).mono' ?_
  rintro _ g10 _ wf10 ⟨u10, rfl, pr10⟩
  rw [if_neg (fun h => by rw [oc] at h; omega)] at pr10
  rw [if_pos (by rw [oc]; omega), oc]
  refine ⟨_, rfl, ?_⟩
  simp only [beq_self_eq_true, cond_true]
  rintro g11 rfl
  refine (give_spec (who := one) wf10.alloc (al wf10 pr10 _) hnd (ints_one (lt wf10 pr10) 1) (by omega)).mono' ?_
  rintro _ g12 _ wf12 ⟨rfl, F12, u12, pr12⟩
  have gd : giveCode L one [] [1] = 0 := by simp [giveCode, oo]
  rw [gd] at pr12 ⊢
  rw [if_pos rfl] at pr12
  refine ⟨_, rfl, ?_⟩
  simp only [beq_self_eq_true, cond_true]
  rintro g13 rfl
  have hnd2 : (([1].foldl bdel L).map Buf.id).Nodup := bdel_nodup hnd
  refine (give_spec (who := one) wf12.alloc (al wf12 pr12 _) hnd2 (ints_one (lt wf12 pr12) 1) (by omega)).mono' ?_
  rintro _ g14 _ wf14 ⟨rfl, F14, u14, pr14⟩
  have oz : ofCode ([1].foldl bdel L) 1 one = 5 := by
    unfold ofCode
    have : bfind ([1].foldl bdel L) 1 = none := by
      unfold bfind
      rw [List.find?_eq_none]
      intro x hx
      have := (List.mem_filter.1 hx).2
      simp only [decide_eq_true_eq] at this ⊢
      exact fun e => this e.symm
    rw [this]
  have gf : ∀ L' : List Buf, ofCode L' 1 one = 5 → giveCode L' one [] [1] = 5 := fun L' h => by simp [giveCode, h]
  have ge : giveCode ([1].foldl bdel L) one [] [1] = 5 := gf _ oz
  rw [ge]
  refine ⟨_, rfl, ?_⟩
  simp only [beq_self_eq_true, cond_true]
  exact works_spec fun _ => ⟨_, rfl, KT _⟩
end Go.Vex.PoolApart

namespace Go.Proofs.Yteblfacfbmlceaa.poolApart
open Go.ChangeShapes Go.WideShapes Go.ChangeAt Go.RowKit Go.Vex Go.Vex.PoolApart
open Go.ChangeMaps (open_string shut_string)

theorem own : ownKnob Try.prog.godebug = none := by kernel_rfl

set_option maxRecDepth 100000 in
theorem lifted (os : Os) (started : os.Started) (H : Type) (enc : TypeId × Value → H) :
    ReturnsInHanded {} Try.checked os 5 .any (Rows.poolApartSpec.pre6 enc Try.prog Try.f5 Rows.poolApartRow.domain false) (Rows.poolApartSpec.post enc Try.prog Try.f5 false true false false) := by
  refine returnsInHanded_of_change_sized (C := Try.checked) own started (by kernel_rfl) Try.func5
    (ChangeSpec.witness6 (enc := enc) (C := Try.checked) false ⟨#[], #[.string ⟨#[]⟩, .string ⟨#[]⟩, .string ⟨#[]⟩, .slice none 0 0], []⟩ 8 (by kernel_rfl) (by kernel_rfl) (by kernel_rfl) (by kernel_rfl)) ?_
  intro W base args ds gs before hval0 hW hcnd hsz _
  have hval : ∀ (j : Nat) t v, Try.f5.params[j]? = some t → args[j]? = some v → Value.okWide Try.prog W .any base t v := hval0
  have hW' := hW
  obtain ⟨p, q, hA0, hV, rfl, hfz, hnd⟩ := hW
  have hA : DataW.TrodAll enc Try.prog W 0 (fun _ => true) true Try.f5.params.toList args.toList ds p := hA0
  rw [Try.params5] at hA hval hsz
  obtain ⟨v0, vs0, d0, ds0, p0, q0, hargs, rfl, rfl, h0, r0⟩ := trodAll_cons hA
  obtain ⟨v1, vs1, d1, ds1, p1, q1, rfl, rfl, rfl, h1, r1⟩ := trodAll_cons r0
  obtain ⟨v2, vs2, d2, ds2, p2, q2, rfl, rfl, rfl, h2, r2⟩ := trodAll_cons r1
  obtain ⟨v3, vs3, d3, ds3, p3, q3, rfl, rfl, rfl, h3, r3⟩ := trodAll_cons r2
  obtain ⟨rfl, rfl, rfl⟩ := trodAll_nil r3
  obtain rfl : args = #[v0, v1, v2, v3] := by cases args; simp_all
  obtain ⟨rfl, rfl⟩ := trodVars_none hV
  obtain ⟨a0, rfl, rfl, rfl, w0⟩ := open_string Try.underlying9 (hval 0 9 v0 rfl rfl) h0
  obtain ⟨a1, rfl, rfl, rfl, w1⟩ := open_string Try.underlying9 (hval 1 9 v1 rfl rfl) h1
  obtain ⟨a2, rfl, rfl, rfl, w2⟩ := open_string Try.underlying9 (hval 2 9 v2 rfl rfl) h2
  obtain ⟨ρ3, hp3, b3, n3, f3, rows3, s3, x3, l3, k3, vr3, ro3, sh3, z3⟩ := arg_sliceN tok (T := Vex.T) (t := 37) (e := 45) (d := 8) (zs := stepZ) rfl rfl rfl rfl (by decide) (hval 3 37 v3 rfl rfl) h3 (fun m hm => hW'.lt m (by simp [hm])) (fun m hm => by simpa using List.all_eq_true.1 hsz m (DataW.weights_mem_each (j := 3) (t := 37) rfl rfl m hm)) (Sat.none W fun _ => ⟨0, 0, 0, 0⟩)
  refine (XCalls.true' s3 (vs := [.str a0.data.toList, .str a1.data.toList, .str a2.data.toList, .slc b3 n3 f3]) ⟨_, _, rfl, rfl, ⟨_, _, rfl, rfl, ⟨_, _, rfl, rfl, ⟨_, _, rfl, vr3, rfl⟩⟩⟩⟩ (law_calls a0.data.toList (sized_string hsz (j := 0) rfl rfl) a1.data.toList (sized_string hsz (j := 1) rfl rfl) a2.data.toList (sized_string hsz (j := 2) rfl rfl) ro3 sh3 z3)).mono fun e W' ⟨he, hb⟩ => ?_
  subst he
  exact ⟨_, rfl, post_true (by kernel_rfl) hW' hb rfl (fun gs hg => by subst hg; rfl) (tb := 4) rfl Try.underlying4 (by decide +kernel)⟩

theorem over : Rows.poolApartRow.holds Try.pinned (OpenSpec.ofChange Rows.poolApartSpec) :=
  OpenClaim.holds_of_wide 5 Try.f5 rfl rfl rfl rfl rfl rfl rfl ⟨rfl, rfl, rfl, rfl, rfl⟩ rfl rfl rfl rfl rfl (by kernel_rfl) Try.func5 (by kernel_rfl)
    (of_decide_eq_true (by kernel_rfl)) (by unfold Func.isWrapper; first | (rw [if_pos (by decide +kernel)]; kernel_rfl) | (rw [if_neg (by decide +kernel)]; exact ⟨rfl, rfl⟩))
    (fun os started H enc _ => lifted os started H enc)

theorem proved : Rows.PoolApartSaid :=
  over
#print axioms proved
end Go.Proofs.Yteblfacfbmlceaa.poolApart

