/-
  BitsRise of layer 28: whatever the row of numbers, the law returns true and leaves the input as it was. No condition.
-/
import Derived.Test.YtappaengiioblaaVexY
import Derived.Test.YtappaengiioblaaTab28
import Derived.Test.YtappaengiioblaaXa28
import Derived.Test.YtappaengiioblaaRows
import Derived.WalkKit
import Derived.ProofKit
import Derived.OpenShut
import Derived.KernelRfl
set_option linter.unusedVariables false
namespace Go.Proofs.Ytappaengiioblaa.bitsRise
open Go.ChangeShapes Go.WideShapes Go.ChangeAt Go.RowKit Go.Vex
open Go.ChangeMaps (open_string shut_string)
def bitsRow (was gen : Int) : O := .row [.int .u32 was, .int .u64 gen] 1 false

theorem new_spec {h : Hp} : XCalls Try.prog 17 [] h fun v h' => v = .ptr (some (h.next, 0)) ∧ h' = h.alloc (bitsRow 0 0) := by
  apply x17
  unfold X17
  exact fun h' e => ⟨rfl, e⟩

theorem set_spec {h : Hp} {b : Nat} {was gen ready : Int} (hb : h.get b = some (bitsRow was gen)) :
    XCalls Try.prog 18 [.ptr (some (b, 0)), .int .u32 ready] h fun v h' => v = .bool (bits .andNot .u32 ready was != 0) ∧
      h'.get b = some (bitsRow ready (bif bits .andNot .u32 ready was != 0 then IntKind.u64.wrap (gen + 1) else gen)) ∧ ∀ j, j ≠ b → h'.get j = h.get j := by
  apply x18
  unfold X18
  refine ⟨was, by rw [Hp.ld_of hb]; rfl, ?_⟩
  cases hc : (bits .andNot .u32 ready was != 0) with
  | true =>
    refine ⟨gen, by rw [Hp.ld_of hb]; rfl, _, Hp.st_of hb (Nat.le_of_ble_eq_true rfl), _, Hp.st_of Hp.get_set_self (Nat.le_of_ble_eq_true rfl), rfl, ?_, ?_⟩
    · rw [Hp.get_set_self]; rfl
    · intro j hj; rw [Hp.get_set_ne hj, Hp.get_set_ne hj]
  | false =>
    refine ⟨_, Hp.st_of hb (Nat.le_of_ble_eq_true rfl), rfl, ?_, ?_⟩
    · rw [Hp.get_set_self]; rfl
    · intro j hj; rw [Hp.get_set_ne hj]

theorem get_spec {h : Hp} {b : Nat} {was gen : Int} (hb : h.get b = some (bitsRow was gen)) :
    XCalls Try.prog 19 [.ptr (some (b, 0))] h fun v h' => v = .tup [.int .u32 was, .int .u64 gen] ∧ h' = h := by
  apply x19
  unfold X19
  exact ⟨was, by rw [Hp.ld_of hb]; rfl, gen, by rw [Hp.ld_of hb]; rfl, rfl, rfl⟩

set_option maxRecDepth 100000 in
theorem works_ev : (ev Vex.T Vex.F (fun _ => []) 100000).call 9 [] h0 isT = true := by kernel_rfl

theorem works_spec {h : Hp} {K : V → Hp → Prop} (hk : ∀ h', K (.bool true) h') : XCalls Try.prog 9 [] h K :=
  (XCalls.fresh (K := fun v => v = .bool true) rfl (fun v hv => by subst hv; rfl) (XCalls.ev tok fok mixed (fun _ => []) 100000 works_ev fun _ _ hv => isT_spec hv)).mono fun v h' hv => by rw [hv.1]; exact hk h'

theorem law_calls {h : Hp} {a : Option (Nat × Nat)} {n : Nat} {f : Bool} {rows : List (List V)} (ha : RoSlc h a n rows 1) (hr0 : ∀ r ∈ rows, shpBs [.int .u32 0] r = true ∧ ∀ v ∈ r, v.fits) :
    XCalls Try.prog 4 [.slc a n f] h fun v _ => v = .bool true := by
  have hr : ∀ r ∈ rows, shpBs [.int .u32 0] r = true := fun r h => (hr0 r h).1
  have hz : ∀ r ∈ rows, r.length = 1 := fun r h => shpBs_length (hr r h)
  refine XCalls.ofWf fun hw => ?_
  apply x4
  unfold X4
  cases hn : ltI 500 (↑n) with
  | true => exact works_spec fun _ => ⟨true, rfl, rfl⟩
  | false =>
    rw [ltI_eq, decide_eq_false_iff_not] at hn
    refine new_spec.mono ?_
    rintro _ h1 ⟨rfl, rfl⟩
    refine ⟨_, rfl, fun vs h' => match vs with
      | [.int _ w, .int _ g, .int _ i] => ∃ k : Nat, i = k ∧ k ≤ n ∧ h'.get h.next = some (bitsRow w g) ∧ h.keeps h'
      | _ => False, fun vs _ => match vs with
      | [_, _, .int _ i] => n - i.toNat
      | _ => 0, ⟨rfl, ⟨0, rfl, Nat.zero_le _, Hp.get_alloc_self, fun q c e hq => hw.get_alloc hq⟩⟩, ?_⟩
    rintro bs w g i h2 ⟨k, rfl, hk, hb, hkeep⟩
    cases hi : ltI (↑k) (↑n) with
    | false => exact works_spec fun _ => ⟨true, rfl, rfl⟩
    | true =>
      rw [ltI_eq, decide_eq_true_eq] at hi
      obtain ⟨q, r, rfl, hrow, hld, _⟩ := ha.ld hkeep (k := k) (by omega) hz
      have hs := hr r (List.mem_of_getElem? hrow)
      obtain ⟨x, rfl⟩ : ∃ x, r = [.int .u32 x] := allSs_spec [.int .u32 0] r (k := fun r => ∃ x, r = [.int .u32 x]) (fun x => ⟨x, rfl⟩) hs
      have hx : h2.ld q (0 + (Int.toNat (k : Int)) * 1) = some (.int .u32 x) := hld 0 (by omega)
      have hbnd : (0 : Int) ≤ (k : Int) ∧ (k : Int) < (n : Int) := ⟨by omega, hi⟩
      have hw1 : IntKind.i64.wrap ((k : Int) + 1) = ((k + 1 : Nat) : Int) := by rw [wrap_of]; rfl; simp [IntKind.min, IntKind.max, IntKind.signed, IntKind.bits]; omega
      have hset := set_spec (ready := x) hb
      refine ⟨hbnd, x, hx, ?_⟩
      cases hc : (bits .andNot .u32 x w != 0) with
      | true =>
        rw [hc] at hset
        refine ⟨hbnd, x, hx, hbnd, x, hx, hset.mono ?_⟩
        rintro _ h3 ⟨rfl, hb3, hf3⟩
        refine ⟨true, rfl, ?_⟩
        refine (get_spec hb3).mono ?_
        rintro _ h4 ⟨rfl, rfl⟩
        refine ⟨_, _, rfl, ?_⟩
        simp only [cond_true, bne_self_eq_false, cond_false]
        refine ⟨trivial, ⟨k + 1, hw1, by omega, hb3, ?_⟩, ?_⟩
        · intro p c e hp; rw [hf3 p (hw.ne hp)]; exact hkeep _ _ _ hp
        · show n - Int.toNat (IntKind.i64.wrap ((k : Int) + 1)) < n - Int.toNat (k : Int)
          rw [hw1]; simp only [Int.toNat_natCast]; omega
      | false =>
        rw [hc] at hset
        refine ⟨hbnd, x, hx, hbnd, x, hx, hset.mono ?_⟩
        rintro _ h3 ⟨rfl, hb3, hf3⟩
        refine ⟨false, rfl, ?_⟩
        refine (get_spec hb3).mono ?_
        rintro _ h4 ⟨rfl, rfl⟩
        refine ⟨_, _, rfl, ?_⟩
        simp only [cond_true, bne_self_eq_false, cond_false]
        refine ⟨trivial, ⟨k + 1, hw1, by omega, hb3, ?_⟩, ?_⟩
        · intro p c e hp; rw [hf3 p (hw.ne hp)]; exact hkeep _ _ _ hp
        · show n - Int.toNat (IntKind.i64.wrap ((k : Int) + 1)) < n - Int.toNat (k : Int)
          rw [hw1]; simp only [Int.toNat_natCast]; omega

theorem own : ownKnob Try.prog.godebug = none := by kernel_rfl

set_option maxRecDepth 100000 in
theorem lifted (os : Os) (started : os.Started) (H : Type) (enc : TypeId × Value → H) :
    ReturnsInHanded {} Try.checked os 4 .any (Rows.bitsRiseSpec.pre6 enc Try.prog Try.f4 Rows.bitsRiseRow.domain false) (Rows.bitsRiseSpec.post enc Try.prog Try.f4 false true false false) := by
  refine returnsInHanded_of_change (C := Try.checked) own started (by kernel_rfl) Try.func4
    (ChangeSpec.witness6 (enc := enc) (C := Try.checked) false ⟨#[], #[.slice none 0 0], []⟩ 8 (by kernel_rfl) (by kernel_rfl) (by kernel_rfl) (by kernel_rfl)) ?_
  intro W base args ds gs before hval0 hW hcnd _
  have hval : ∀ (j : Nat) t v, Try.f4.params[j]? = some t → args[j]? = some v → Value.okWide Try.prog W .any base t v := hval0
  have hW' := hW
  obtain ⟨p, q, hA0, hV, rfl, hfz, hnd⟩ := hW
  have hA : DataW.TrodAll enc Try.prog W 0 (fun _ => true) true Try.f4.params.toList args.toList ds p := hA0
  rw [Try.params4] at hA hval
  obtain ⟨v0, vs0, d0, ds0, p0, q0, hargs, rfl, rfl, h0, r0⟩ := trodAll_cons hA
  obtain ⟨rfl, rfl, rfl⟩ := trodAll_nil r0
  obtain rfl : args = #[v0] := by cases args; simp_all
  obtain ⟨rfl, rfl⟩ := trodVars_none hV
  obtain ⟨ρ0, hp0, b0, n0, f0, rows0, s0, x0, l0, k0, vr0, ro0, sh0⟩ := arg_slice tok (T := Vex.T) (t := 47) (e := 34) (d := 5) (zs := [.int .u32 0]) rfl rfl rfl rfl rfl (by decide) (hval 0 47 v0 rfl rfl) h0 (fun m hm => hW'.lt m (by simp [hm])) (Sat.none W fun _ => ⟨0, 0, 0, 0⟩)
  refine (XCalls.true' s0 (vs := [.slc b0 n0 f0]) ⟨_, _, rfl, vr0, rfl⟩ (law_calls ro0 sh0)).mono fun e W' ⟨he, hb⟩ => ?_
  subst he
  exact ⟨_, rfl, post_true (by kernel_rfl) hW' hb rfl (fun gs hg => by subst hg; rfl) (tb := 4) rfl Try.underlying4 (by decide +kernel)⟩

theorem over : Rows.bitsRiseRow.holds Try.pinned (OpenSpec.ofChange Rows.bitsRiseSpec) :=
  OpenClaim.holds_of_wide 4 Try.f4 rfl rfl rfl rfl rfl rfl rfl ⟨rfl, rfl, rfl, rfl, rfl⟩ rfl rfl rfl rfl rfl (by kernel_rfl) Try.func4 (by kernel_rfl)
    (of_decide_eq_true (by kernel_rfl)) (by unfold Func.isWrapper; first | (rw [if_pos (by decide +kernel)]; kernel_rfl) | (rw [if_neg (by decide +kernel)]; exact ⟨rfl, rfl⟩))
    (fun os started H enc _ => lifted os started H enc)

theorem proved : Rows.BitsRiseSaid :=
  over
#print axioms proved
end Go.Proofs.Ytappaengiioblaa.bitsRise

