/-
  MeterFull of layer 04: whatever the number, the law returns true and leaves the input as it was. No condition of its own; the card lists two tables of unicode/utf8, which no step reads.
-/
import Derived.Test.YtakkppekchofdaaDoorVexFF
import Derived.Test.YtakkppekchofdaaDoorTab04
import Derived.Test.YtakkppekchofdaaDoorMx04
import Derived.Test.YtakkppekchofdaaDoorXd04
import Derived.Test.YtakkppekchofdaaDoorPx04
import Derived.Test.YtakkppekchofdaaDoorRx04
import Derived.Test.YtakkppekchofdaaDoorGx04
import Derived.Test.YtakkppekchofdaaDoorRows
import Derived.Test.YtakkppekchofdaaDoorTie
import Derived.Test.YtakkppekchofdaaDoorCards
import Derived.WalkKit
import Derived.ProofKit
import Derived.OpenShut
import Derived.KernelRfl
import Derived.LaidMore
import Derived.Lay
import Derived.SevenTiedAt
import Derived.Stop.Joined
set_option linter.unusedVariables false
set_option linter.unusedSimpArgs false
namespace Go.Vex.MeterFull
open Go.Proofs Go.Vex.Mtr

/-- the law's names -/
def nameF (i : Nat) : Nm := [UInt8.ofNat (97 + i % 26), UInt8.ofNat (97 + i / 26)]

theorem name_facts : ∀ i : Nat, i < 84 → IntKind.u8.wrap (97 + IntKind.u8.wrap ((i : Int).tmod 26)) = ((97 + i % 26 : Nat) : Int) ∧ IntKind.u8.wrap (97 + IntKind.u8.wrap (IntKind.i64.wrap ((i : Int).tdiv 26))) = ((97 + i / 26 : Nat) : Int) ∧ May (nameF i) = true := by decide +kernel

theorem name_inj : ∀ i : Nat, i < 84 → ∀ j : Nat, j < 84 → nameF i = nameF j → i = j := by decide +kernel

theorem conv_two {h : Hp} {q : Nat} {x y : Nat} (hx : x < 256) (hy : y < 256) (hg : h.get q = some (.row [.int .u8 x, .int .u8 y] 1 false)) : xconv T h 51 9 (.slc (some (q, 0)) 2 true) = some (.str [UInt8.ofNat x, UInt8.ofNat y]) := by
  obtain ⟨ti, ei, ui, e, ht, hd, he, ed, hu, ud⟩ : ∃ ti ei ui e, T 51 = some ti ∧ ti.d = .slc e ∧ T e = some ei ∧ ei.d = .int .u8 ∧ T 9 = some ui ∧ ui.d = .str := ⟨_, _, _, _, rfl, rfl, rfl, rfl, rfl, rfl⟩
  have hcut : cut [.int .u8 x, .int .u8 y] 0 2 = some [.int .u8 (x : Int), .int .u8 (y : Int)] := rfl
  simp [xconv, ht, hd, hu, ud, he, ed, hg, hcut, bytesOf]

/-- behind i of them -/
structure Inv (i : Nat) (R : List Row) : Prop where
  good : Mtr.Good R
  len : R.length = min i 64
  val : ∀ r ∈ R, r.2 = (1, 2)
  key : ∀ r ∈ R, ∃ j, j < i ∧ r.1 = nameF j
  aa : 0 < i → ∃ c, mget R (nameF 0) = some c

theorem Inv.none {i : Nat} {R : List Row} (v : Inv i R) (hi : i < 84) : mget R (nameF i) = none := by
  cases hq : mget R (nameF i) with
  | none => rfl
  | some c =>
    obtain ⟨j, hj, e⟩ := v.key _ (mget_in hq)
    have := name_inj i hi j (by omega) e
    omega

theorem Inv.step {i : Nat} {R : List Row} (v : Inv i R) (hi : i < 84) : (addR R (nameF i) 1 2).1 = (if i < 64 then 0 else 6) ∧ Inv (i + 1) (addR R (nameF i) 1 2).2 := by
  have hm := (name_facts i hi).2.2
  have e : addR R (nameF i) 1 2 = addN R (nameF i) (1, 2) := addR_of hm (c := (1, 2)) (by decide) (by decide) R
  have hg := addR_good v.good (nameF i) 1 2
  have hn := v.none hi
  have hl := v.len
  rw [e] at hg ⊢
  unfold addN at hg ⊢
  rw [hn] at hg ⊢
  simp only at hg ⊢
  by_cases h : 64 ≤ R.length
  · rw [if_pos h] at hg ⊢
    refine ⟨by rw [if_neg (by omega)], v.good, by simp only; omega, v.val, fun r hr => ?_, fun _ => v.aa (by omega)⟩
    obtain ⟨j, hj, e⟩ := v.key r hr
    exact ⟨j, by omega, e⟩
  · rw [if_neg h] at hg ⊢
    have hp := ins_perm (nameF i) (1, 2) R
    refine ⟨by rw [if_pos (by omega)], hg, by simp only; rw [ins_len]; omega, fun r hr => ?_, fun r hr => ?_, fun _ => ?_⟩
    · rcases List.mem_cons.1 (hp.subset hr) with h | h
      · rw [h]
      · exact v.val r h
    · rcases List.mem_cons.1 (hp.subset hr) with h | h
      · exact ⟨i, by omega, by rw [h]⟩
      · obtain ⟨j, hj, e⟩ := v.key r h
        exact ⟨j, by omega, e⟩
    · by_cases h0 : i = 0
      · subst h0
        exact ⟨(1, 2), mget_of hg.nd (hp.symm.subset (List.mem_cons_self ..))⟩
      · obtain ⟨c, hc⟩ := v.aa (by omega)
        exact ⟨c, mget_of hg.nd (hp.symm.subset (List.mem_cons_of_mem _ (mget_in hc)))⟩

theorem tot_all : ∀ (R : List Row) (k : Nat), (∀ r ∈ R, r.2 = (1, 2)) → k + R.length ≤ 1000 → R.foldl tot1 (k, 2 * k) = (k + R.length, 2 * (k + R.length))
  | [], k, _, _ => rfl
  | r :: R, k, h, hk => by
    have hr := h r (List.mem_cons_self ..)
    simp only [List.length_cons] at hk
    have e : tot1 (k, 2 * k) r = (k + 1, 2 * (k + 1)) := by
      unfold tot1
      rw [hr]
      have : MX = 4503599627370496 := rfl
      simp only [Prod.mk.injEq]
      omega
    rw [List.foldl_cons, e, tot_all R (k + 1) (fun x hx => h x (List.mem_cons_of_mem _ hx)) (by omega), List.length_cons]
    simp only [Prod.mk.injEq]
    omega

theorem law_calls (many : Int) (w0 : (Lit.int .u8 many).wf = true) {h : Hp} : XCalls Tryd.prog 6 [.int .u8 many] h fun v _ => v = .bool true := by
  refine XCalls.ofWf fun hw => ?_
  refine XCalls.cps fun K hK => ?_
  have KT : ∀ h', K (.bool true) h' := fun h' => hK _ _ rfl
  have W : ∀ h', XCalls Tryd.prog 8 [] h' fun v h'' => ∃ b, v = .bool b ∧ K (.bool b) h'' := fun h' => works_spec fun _ => ⟨_, rfl, KT _⟩
  obtain ⟨hm0, hm1⟩ := lit_bnd w0
  have e0 : IntKind.u8.min = 0 := by decide
  have e1 : IntKind.u8.max = 255 := by decide
  rw [e0] at hm0
  rw [e1] at hm1
  obtain ⟨N, hN⟩ : ∃ N : Nat, N = many.toNat % 84 := ⟨_, rfl⟩
  have hN84 : N < 84 := by rw [hN]; omega
  have hmod : (IntKind.i64.wrap many).tmod 84 = (N : Int) := by
    rw [wr (by omega) (by omega), Int.tmod_eq_emod_of_nonneg hm0]
    omega
  apply x6; unfold X6
  rw [hmod]
  refine (new_spec hw).mono ?_
  rintro _ h1 ⟨rfl, m1, q1, n1⟩
  refine ⟨_, rfl, by decide, ?_⟩
  generalize h.next + 1 = p at *
  generalize [p, h.next] = F at *
  refine ⟨fun vs g' => match vs with
    | [.int _ k] => ∃ (i : Nat) (R : List Row), k = (i : Int) ∧ i ≤ N ∧ MtR p R g' F ∧ Inv i R ∧ g'.wf
    | _ => False, fun vs _ => match vs with
    | [.int _ k] => ((N : Int) - k).toNat
    | _ => 0, ⟨rfl, 0, [], rfl, by omega, m1, ⟨Mtr.Good.nil, rfl, by simp, by simp, fun h => absurd h (by omega)⟩, q1.wf⟩, ?_⟩
  rintro bs k g1 ⟨i, R, rfl, hi, mi, inv, wi⟩
  cases hc : ltI (i : Int) (N : Int) with
  | true =>
    rw [ltI_eq, decide_eq_true_eq] at hc
    have hiN : i < 84 := by omega
    obtain ⟨f1, f2, f3⟩ := name_facts i hiN
    refine ⟨by decide, by decide, ?_⟩
    rw [f1, f2]
    rintro h2 rfl
    have qa := Quiet.alloc wi (.row [.int .u8 ((97 + i % 26 : Nat) : Int), .int .u8 ((97 + i / 26 : Nat) : Int)] 1 false)
    have ga : (g1.alloc (.row [.int .u8 ((97 + i % 26 : Nat) : Int), .int .u8 ((97 + i / 26 : Nat) : Int)] 1 false)).get g1.next = some (.row [.int .u8 ((97 + i % 26 : Nat) : Int), .int .u8 ((97 + i / 26 : Nat) : Int)] 1 false) := Hp.get_alloc_self
    generalize g1.alloc (.row [.int .u8 ((97 + i % 26 : Nat) : Int), .int .u8 ((97 + i / 26 : Nat) : Int)] 1 false) = h2 at *
    refine ⟨nameF i, conv_two (by omega) (by omega) ga, ?_⟩
    have m2 := (MtR.rep _ _).stay wi mi qa.same
    refine (add_spec qa.wf m2 inv.good (nameF i) 1 2).mono ?_
    rintro _ h3 ⟨rfl, m3, u3, n3, w3⟩
    obtain ⟨s1, s2⟩ := inv.step hiN
    refine ⟨_, rfl, ?_⟩
    rw [s1]
    have nxt : [V.ptr (some (p, 0)), .int .i64 (N : Int)] = [.ptr (some (p, 0)), .int .i64 (N : Int)] ∧ (∃ (u : Nat) (R : List Row), IntKind.i64.wrap ((i : Int) + 1) = (u : Int) ∧ u ≤ N ∧ MtR p R h3 F ∧ Inv u R ∧ h3.wf) ∧ ((N : Int) - IntKind.i64.wrap ((i : Int) + 1)).toNat < ((N : Int) - (i : Int)).toNat := by
      refine ⟨rfl, ⟨i + 1, _, ?_, by omega, m3, s2, w3⟩, ?_⟩
      · rw [wr (by omega) (by omega)]; rfl
      · rw [wr (by omega) (by omega)]; omega
    by_cases h64 : i < 64
    · rw [if_pos h64, ltI_eq, decide_eq_true (show (i : Int) < 64 by omega)]
      exact nxt
    · rw [if_neg h64, ltI_eq, decide_eq_false (show ¬ (i : Int) < 64 by omega)]
      exact nxt
  | false =>
    rw [ltI_eq, decide_eq_false_iff_not] at hc
    obtain rfl : i = N := by omega
    have hl := inv.len
    have hk : (bif ltI 64 (i : Int) then (64 : Int) else (i : Int)) = (R.length : Int) := by
      rw [ltI_eq]
      by_cases h : (64 : Int) < i
      · rw [decide_eq_true h]; show (64 : Int) = _; omega
      · rw [decide_eq_false h]; show (i : Int) = _; omega
    rw [hk]
    refine ⟨fun _ _ => True, ?_, ?_⟩
    · refine (all_spec wi mi inv.good).mono ?_
      rintro _ h4 ⟨a, f, G, rfl, _, q4, _⟩
      refine ⟨_, _, _, rfl, ?_⟩
      have hne : ((R.length : Int) != (R.length : Int)) = false := by simp
      rw [hne]
      have m4 := (MtR.rep _ _).stay wi mi q4.same
      refine (total_spec q4.wf m4 inv.good).mono ?_
      rintro _ h5 ⟨rfl, q5⟩
      refine ⟨_, _, rfl, ?_⟩
      have ht : tot R = (R.length, 2 * R.length) := by
        have := tot_all R 0 inv.val (by omega)
        simpa [tot] using this
      have h2 : IntKind.i64.wrap (2 * (R.length : Int)) = ((2 * R.length : Nat) : Int) := by rw [wr (by omega) (by omega)]; omega
      rw [ht, h2]
      have eM : MX = 4503599627370496 := rfl
      refine (is_spec (c := (R.length, 2 * R.length)) (by simp only; omega) (by simp only; omega)).mono ?_
      rintro _ h6 ⟨rfl, rfl⟩
      refine ⟨_, rfl, ?_⟩
      cases h0 : ltI 0 (R.length : Int) with
      | false => exact ⟨rfl, trivial⟩
      | true =>
        rw [ltI_eq, decide_eq_true_eq] at h0
        have m6 := (MtR.rep _ _).stay q4.wf m4 q5.same
        refine (add_spec q5.wf m6 inv.good (nameF 0) 1 0).mono ?_
        rintro _ h7 ⟨rfl, _⟩
        obtain ⟨c, hcc⟩ := inv.aa (by omega)
        have hv := inv.val _ (mget_in hcc)
        have hcode : (addR R (nameF 0) 1 0).1 = 0 := by
          have e : addR R (nameF 0) 1 0 = addN R (nameF 0) (1, 0) := addR_of (name_facts 0 (by omega)).2.2 (c := (1, 0)) (by decide) (by decide) R
          simp only at hv
          subst hv
          rw [e]
          unfold addN
          rw [hcc]
          simp only
          rw [if_neg (by decide)]
        refine ⟨_, rfl, ?_⟩
        rw [hcode]
        exact ⟨rfl, trivial⟩
    · rintro bs2 h4 -
      refine (addN_spec _ _ _).mono ?_
      rintro _ h4 ⟨rfl, rfl⟩
      refine ⟨_, rfl, ?_⟩
      refine (getN_spec _).mono ?_
      rintro _ h4 ⟨rfl, rfl⟩
      refine ⟨_, _, rfl, ?_⟩
      refine (is_spec (c := (0, 0)) (by decide) (by decide)).mono ?_
      rintro _ h4 ⟨rfl, rfl⟩
      refine ⟨_, rfl, ?_⟩
      refine totalN_spec.mono ?_
      rintro _ h4 ⟨rfl, rfl⟩
      refine ⟨_, _, rfl, ?_⟩
      refine (is_spec (c := (0, 0)) (by decide) (by decide)).mono ?_
      rintro _ h4 ⟨rfl, rfl⟩
      refine ⟨_, rfl, ?_⟩
      rintro h5 rfl
      refine (joinN_spec _ _ _).mono ?_
      rintro _ h5 ⟨rfl, rfl⟩
      refine ⟨_, rfl, ?_⟩
      refine allN_spec.mono ?_
      rintro _ h5 ⟨rfl, rfl⟩
      refine ⟨_, _, _, rfl, ?_⟩
      exact W _
end Go.Vex.MeterFull

namespace Go.Proofs.YtakkppekchofdaaDoor.meterFull
open Go.ChangeShapes Go.WideShapes Go.ChangeAt Go.RowKit Go.Vex Go.Vex.MeterFull
open Go.ChangeMaps (open_string shut_string)

theorem own : ownKnob Tryd.prog.godebug = none := by kernel_rfl

set_option maxRecDepth 100000 in
theorem lifted (os : Os) (started : os.Started) (H : Type) (enc : TypeId × Value → H) :
    ReturnsInHanded {} Tryd.checked os 6 .any (fun w args => (Rows.meterFullSpec.pre enc Tryd.prog Tryd.f6 Rows.meterFullRow.domain false w args ∧ laidMetH Tryd.prog Rows.meterFullRow.laid w) ∧ sizedMet enc Tryd.prog Tryd.f6 (OpenSpec.ofChange Rows.meterFullSpec) false w args)
      (Rows.meterFullSpec.post enc Tryd.prog Tryd.f6 false true false false) := by
  refine returnsInHanded_of_change_and (C := Tryd.checked) (X := fun w _ => laidMetH Tryd.prog Rows.meterFullRow.laid w) (fun _ _ _ hh h => h.of_heap hh) own started (by kernel_rfl) Tryd.func6
    (ChangeSpec.witness_shaped (enc := enc) (C := Tryd.checked) (os := os) (X := fun w _ => laidMetH Tryd.prog Rows.meterFullRow.laid w) false (World.laidAll Tryd.prog os Rows.meterFullRow.laid) #[.int .u8 0] 8 (World.laidAll_os _ _ _)
      (World.shaped_of_ZipB (by kernel_rfl) (by kernel_rfl)) (by kernel_rfl) (by kernel_rfl) (by kernel_rfl)
      (by rw [MakeChecks.laidMetH_plain _ _ _ (by kernel_rfl)]; exact laidMet_laidAll _ (by kernel_rfl) (by kernel_rfl))) ?_
  intro W base args ds gs before hval0 hW hcnd hsz _ _
  have hval : ∀ (j : Nat) t v, Tryd.f6.params[j]? = some t → args[j]? = some v → Value.okWide Tryd.prog W .any base t v := hval0
  have hW' := hW
  obtain ⟨p, q, hA0, hV, rfl, hfz, hnd⟩ := hW
  have hA : DataW.TrodAll enc Tryd.prog W 0 (fun _ => true) true Tryd.f6.params.toList args.toList ds p := hA0
  rw [Tryd.params6] at hA hval hsz
  obtain ⟨v0, vs0, d0, ds0, p0, q0, hargs, rfl, rfl, h0, r0⟩ := trodAll_cons hA
  obtain ⟨rfl, rfl, rfl⟩ := trodAll_nil r0
  obtain rfl : args = #[v0] := by cases args; simp_all
  obtain ⟨rfl, rfl⟩ := trodVars_none hV
  obtain ⟨a0, rfl, rfl, rfl, w0⟩ := open_int Tryd.underlying5 (hval 0 5 v0 rfl rfl) h0
  refine (XCalls.true' (Sat.none W fun _ => ⟨0, 0, 0, 0⟩) (vs := [.int .u8 a0]) ⟨_, _, rfl, rfl, rfl⟩ (law_calls a0 w0)).mono fun e W' ⟨he, hb⟩ => ?_
  subst he
  exact ⟨_, rfl, post_true (by kernel_rfl) hW' hb rfl (fun gs hg => by subst hg; rfl) (tb := 4) rfl Tryd.underlying4 (by decide +kernel)⟩

theorem over : Rows.meterFullRow.holds Tryd.pinned (OpenSpec.ofChange Rows.meterFullSpec) :=
  OpenClaim.holds_of_wide 6 Tryd.f6 rfl rfl rfl rfl rfl rfl rfl ⟨rfl, rfl, rfl, rfl, rfl⟩ rfl rfl rfl rfl rfl (by kernel_rfl) Tryd.func6 (by kernel_rfl)
    (of_decide_eq_true (by kernel_rfl)) (by unfold Func.isWrapper; first | (rw [if_pos (by decide +kernel)]; kernel_rfl) | (rw [if_neg (by decide +kernel)]; exact ⟨rfl, rfl⟩))
    (fun os started H enc _ => lifted os started H enc)

theorem proved : Rows.MeterFullCardSaid :=
  Claim7.holds_tied_plain_at .later [] [.data, .pinned] true (true, "6f0890050433e3409460d9e1357a35ec318fe23a11d76ee342353e76d92dff2d") true over (fun _ h => by cases h) (by kernel_rfl) (fun _ h => by cases h) meterFull_row_tie rfl ⟨rfl, rfl⟩ (by kernel_rfl) rfl
    (fun f fn hf hfn => by
      obtain rfl : f = 6 := Option.some.inj ((show Tryd.prog.funcNamed "stevedore/stevedorelaw04.MeterFull" = some 6 by kernel_rfl).symm.trans hf) |>.symm
      obtain rfl : fn = Tryd.f6 := (Option.some.inj (Tryd.func6.symm.trans hfn)).symm
      exact ⟨by kernel_rfl, fun j t ht => by
        rw [Tryd.params6] at ht
        have hm : t ∈ [5] := by simpa using Array.mem_of_getElem? ht
        have hall : ([5].all fun u => !Tryd.prog.wantsStandIn u) = true := by kernel_rfl
        exact (show Tryd.prog.wantsStandIn t = false by simpa using List.all_eq_true.1 hall t hm)⟩)
    (by kernel_rfl)
#print axioms proved
end Go.Proofs.YtakkppekchofdaaDoor.meterFull
