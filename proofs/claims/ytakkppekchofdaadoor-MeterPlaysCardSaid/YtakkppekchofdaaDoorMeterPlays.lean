/-
  MeterPlays of layer 04: whatever the script and the name, the law returns true and leaves the input as it was. No condition of its own; the card lists two tables of unicode/utf8, which no step reads.
-/
import Derived.Test.YtakkppekchofdaaDoorVexFF
import Derived.Test.YtakkppekchofdaaDoorTab04
import Derived.Test.YtakkppekchofdaaDoorMx04
import Derived.Test.YtakkppekchofdaaDoorRx04
import Derived.Test.YtakkppekchofdaaDoorGx04
import Derived.Test.YtakkppekchofdaaDoorPx04
import Derived.Test.YtakkppekchofdaaDoorRows
import Derived.Test.YtakkppekchofdaaDoorTie
import Derived.Test.YtakkppekchofdaaDoorCards
import Derived.WalkKit
import Derived.ProofKit
import Derived.OpenShut
import Derived.KernelRfl
import Derived.LaidMore
import Derived.Lay
import Derived.SevenTiedAt
import Derived.Stop.Joined
set_option linter.unusedVariables false
set_option linter.unusedSimpArgs false
namespace Go.Vex.MeterPlays
open Go.Proofs Go.Vex.Mtr

theorem law_calls {h : Hp} {a : Option (Nat × Nat)} {n : Nat} {f : Bool} {rows : List (List V)} (ha : RoSlc h a n rows 3)
    (hr0 : ∀ r ∈ rows, shpBs stepZ r = true ∧ ∀ v ∈ r, v.fits) (hbz : n * Tryd.prog.bytesOf 42 ≤ reachBytes) (name : List UInt8) (hname : name.length ≤ reachBytes) :
    XCalls Tryd.prog 3 [.slc a n f, .str name] h fun v _ => v = .bool true := by
  obtain ⟨Ss, rfl⟩ := steps_of fun r hr => (hr0 r hr).1
  refine XCalls.ofWf fun hw => ?_
  refine XCalls.cps fun K hK => ?_
  have KT : ∀ h', K (.bool true) h' := fun h' => hK _ _ rfl
  have W : ∀ h', XCalls Tryd.prog 8 [] h' fun v h'' => ∃ b, v = .bool b ∧ K (.bool b) h'' := fun h' => works_spec fun _ => ⟨_, rfl, KT _⟩
  have hb42 : Tryd.prog.bytesOf 42 = 32 := by kernel_rfl
  have hn : n ≤ 9223372036854775806 := by
    rw [hb42] at hbz
    have : reachBytes ≤ 9223372036854775806 := by decide
    omega
  apply x3; unfold X3
  refine (heavy_spec ha (Hp.keeps.refl h) hn).mono ?_
  rintro _ h ⟨⟨b, rfl, hb⟩, rfl⟩
  refine ⟨_, rfl, ?_⟩
  cases b with
  | true => exact W _
  | false =>
    have h200 := hb rfl
    cases c1 : ltI 1024 (name.length : Int) with
    | true => exact W _
    | false =>
      refine (filled_spec ha (Hp.keeps.refl h) hw h200).mono ?_
      rintro _ h1 ⟨p, q, F, Fr, rfl, m1, r1, q1, _, _, _⟩
      have g : Mtr.Good (play [] Ss) := play_good _ Good.nil
      refine ⟨_, _, _, rfl, ?_⟩
      refine (alike_spec q1.wf m1 r1 g).mono ?_
      rintro _ h2 ⟨rfl, q2⟩
      have m2 : MtR p (play [] Ss) h2 F := (MtR.rep _ _).loc _ _ _ (fun j hj => q2.same j ((MtR.rep _ _).lt q1.wf m1 hj)) m1
      have r2 : RfR q (play [] Ss) h2 Fr := (RfR.rep _ _).loc _ _ _ (fun j hj => q2.same j ((RfR.rep _ _).lt q1.wf r1 hj)) r1
      refine ⟨_, rfl, ?_⟩
      refine (at_spec r2 g name).mono ?_
      rintro _ h2 ⟨⟨x, rfl, hx⟩, rfl⟩
      refine ⟨_, rfl, ?_⟩
      rcases hx with ⟨rfl, hq⟩ | ⟨i, c, rfl, hi, hri, hq⟩
      · refine (get_spec m2 g name).mono ?_
        rintro _ h2 ⟨rfl, rfl⟩
        rw [hq]
        refine ⟨_, _, rfl, ?_⟩
        refine (is_spec (c := (0, 0)) (by decide) (by decide)).mono ?_
        rintro _ h2 ⟨rfl, rfl⟩
        exact ⟨_, rfl, W _⟩
      · have hi0 : ltI (i : Int) 0 = false := by rw [ltI_eq, decide_eq_false_iff_not]; omega
        rw [hi0]
        exact W _
end Go.Vex.MeterPlays

namespace Go.Proofs.YtakkppekchofdaaDoor.meterPlays
open Go.ChangeShapes Go.WideShapes Go.ChangeAt Go.RowKit Go.Vex Go.Vex.MeterPlays
open Go.ChangeMaps (open_string shut_string)

theorem own : ownKnob Tryd.prog.godebug = none := by kernel_rfl

set_option maxRecDepth 100000 in
theorem lifted (os : Os) (started : os.Started) (H : Type) (enc : TypeId × Value → H) :
    ReturnsInHanded {} Tryd.checked os 3 .any (fun w args => (Rows.meterPlaysSpec.pre enc Tryd.prog Tryd.f3 Rows.meterPlaysRow.domain false w args ∧ laidMetH Tryd.prog Rows.meterPlaysRow.laid w) ∧ sizedMet enc Tryd.prog Tryd.f3 (OpenSpec.ofChange Rows.meterPlaysSpec) false w args)
      (Rows.meterPlaysSpec.post enc Tryd.prog Tryd.f3 false true false false) := by
  refine returnsInHanded_of_change_and (C := Tryd.checked) (X := fun w _ => laidMetH Tryd.prog Rows.meterPlaysRow.laid w) (fun _ _ _ hh h => h.of_heap hh) own started (by kernel_rfl) Tryd.func3
    (ChangeSpec.witness_shaped (enc := enc) (C := Tryd.checked) (os := os) (X := fun w _ => laidMetH Tryd.prog Rows.meterPlaysRow.laid w) false (World.laidAll Tryd.prog os Rows.meterPlaysRow.laid) #[.slice none 0 0, .string ⟨#[]⟩] 8 (World.laidAll_os _ _ _)
      (World.shaped_of_ZipB (by kernel_rfl) (by kernel_rfl)) (by kernel_rfl) (by kernel_rfl) (by kernel_rfl)
      (by rw [MakeChecks.laidMetH_plain _ _ _ (by kernel_rfl)]; exact laidMet_laidAll _ (by kernel_rfl) (by kernel_rfl))) ?_
  intro W base args ds gs before hval0 hW hcnd hsz _ _
  have hval : ∀ (j : Nat) t v, Tryd.f3.params[j]? = some t → args[j]? = some v → Value.okWide Tryd.prog W .any base t v := hval0
  have hW' := hW
  obtain ⟨p, q, hA0, hV, rfl, hfz, hnd⟩ := hW
  have hA : DataW.TrodAll enc Tryd.prog W 0 (fun _ => true) true Tryd.f3.params.toList args.toList ds p := hA0
  rw [Tryd.params3] at hA hval hsz
  obtain ⟨v0, vs0, d0, ds0, p0, q0, hargs, rfl, rfl, h0, r0⟩ := trodAll_cons hA
  obtain ⟨v1, vs1, d1, ds1, p1, q1, rfl, rfl, rfl, h1, r1⟩ := trodAll_cons r0
  obtain ⟨rfl, rfl, rfl⟩ := trodAll_nil r1
  obtain rfl : args = #[v0, v1] := by cases args; simp_all
  obtain ⟨rfl, rfl⟩ := trodVars_none hV
  obtain ⟨ρ0, hp0, b0, n0, f0, rows0, s0, x0, l0, k0, vr0, ro0, sh0, z0⟩ := arg_slice tok (T := Vex.T) (t := 22) (e := 42) (d := 4) (zs := Go.Vex.Mtr.stepZ) rfl rfl rfl rfl rfl (by decide) (hval 0 22 v0 rfl rfl) h0 (fun m hm => hW'.lt m (by simp [hm])) (fun m hm => by simpa using List.all_eq_true.1 hsz m (DataW.weights_mem_each (j := 0) (t := 22) rfl rfl m hm)) (Sat.none W fun _ => ⟨0, 0, 0, 0⟩)
  obtain ⟨a1, rfl, rfl, rfl, w1⟩ := open_string Tryd.underlying9 (hval 1 9 v1 rfl rfl) h1
  refine (XCalls.true' s0 (vs := [.slc b0 n0 f0, .str a1.data.toList]) ⟨_, _, rfl, vr0, ⟨_, _, rfl, rfl, rfl⟩⟩ (law_calls ro0 sh0 z0 a1.data.toList (sized_string hsz (j := 1) rfl rfl))).mono fun e W' ⟨he, hb⟩ => ?_
  subst he
  exact ⟨_, rfl, post_true (by kernel_rfl) hW' hb rfl (fun gs hg => by subst hg; rfl) (tb := 4) rfl Tryd.underlying4 (by decide +kernel)⟩

theorem over : Rows.meterPlaysRow.holds Tryd.pinned (OpenSpec.ofChange Rows.meterPlaysSpec) :=
  OpenClaim.holds_of_wide 3 Tryd.f3 rfl rfl rfl rfl rfl rfl rfl ⟨rfl, rfl, rfl, rfl, rfl⟩ rfl rfl rfl rfl rfl (by kernel_rfl) Tryd.func3 (by kernel_rfl)
    (of_decide_eq_true (by kernel_rfl)) (by unfold Func.isWrapper; first | (rw [if_pos (by decide +kernel)]; kernel_rfl) | (rw [if_neg (by decide +kernel)]; exact ⟨rfl, rfl⟩))
    (fun os started H enc _ => lifted os started H enc)

theorem proved : Rows.MeterPlaysCardSaid :=
  Claim7.holds_tied_plain_at .later [] [.data, .pinned] true (true, "6f0890050433e3409460d9e1357a35ec318fe23a11d76ee342353e76d92dff2d") true over (fun _ h => by cases h) (by kernel_rfl) (fun _ h => by cases h) meterPlays_row_tie rfl ⟨rfl, rfl⟩ (by kernel_rfl) rfl
    (fun f fn hf hfn => by
      obtain rfl : f = 3 := Option.some.inj ((show Tryd.prog.funcNamed "stevedore/stevedorelaw04.MeterPlays" = some 3 by kernel_rfl).symm.trans hf) |>.symm
      obtain rfl : fn = Tryd.f3 := (Option.some.inj (Tryd.func3.symm.trans hfn)).symm
      exact ⟨by kernel_rfl, fun j t ht => by
        rw [Tryd.params3] at ht
        have hm : t ∈ [22, 9] := by simpa using Array.mem_of_getElem? ht
        have hall : ([22, 9].all fun u => !Tryd.prog.wantsStandIn u) = true := by kernel_rfl
        exact (show Tryd.prog.wantsStandIn t = false by simpa using List.all_eq_true.1 hall t hm)⟩)
    (by kernel_rfl)
#print axioms proved
end Go.Proofs.YtakkppekchofdaaDoor.meterPlays
