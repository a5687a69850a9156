/-
  strings.Repeat (layer 23): the shelf's contract as a rule over any heap.
-/
import Derived.Test.YteknlobdnjcdbaaVexFF
import Derived.Test.YteknlobdnjcdbaaTab23
import Derived.Shelf.Strings.Repeat
import Derived.Shelf.Lay
import Derived.KernelRfl
set_option linter.unusedVariables false
namespace Go.Proofs
open Go.Shelf Go.RowKit

shelf_lay Lays.n105 Nm 105 at Try as Try.laysRepeat

theorem Try.extraRepeat : Builder.Extra Try.prog Try.laysRepeat_ren where
  sizeBuilder := by kernel_rfl
  liesBuilder := by kernel_rfl
  t5 := Try.laysRepeat.t5
  a5 := Try.laysRepeat.a5
  z5 := Try.laysRepeat.z5
  v5 := Try.laysRepeat.v5
  infoByte := by kernel_rfl
  cellsByte := by kernel_rfl
  sizeByte := by kernel_rfl
  neB5 := by decide

end Go.Proofs

namespace Go.Vex
open Go.Proofs Go.RowKit
/-- a call that leaves all that was there as it is -/
theorem XCalls.quiet {P : Program} {f : FuncId} {vs : List V} {h : Hp} {v : V} {z : Value} (hv : ∀ N ρ, VR N ρ v z) (hx : ∀ (N : Nat) (ρ : Env) (w : World) (args : Array Value), VRs N ρ vs args.toList → Calls P f args w fun e w' => e = .returned z ∧ Below w.heap.size w w') :
    XCalls P f vs h fun u h' => u = v ∧ h' = h := by
  intro B ρ w args hs ha
  refine (callsIn_wide.2 (hx _ _ w args ha)).mono fun e w' hp => ?_
  obtain ⟨rfl, h5⟩ := hp
  refine ⟨z, rfl, v, ρ, h, Nat.le_refl _, Ext.refl _ _, ⟨fun i o hi => ?_, hs.sep, Nat.le_trans hs.base h5.size⟩, hv _ _, ⟨h5.os, h5.tape, h5.output, h5.size, fun k hk => h5.block k (Nat.lt_of_lt_of_le hk hs.base)⟩, rfl, rfl⟩
  obtain ⟨q1, q2⟩ := hs.obj i o hi
  exact ⟨q1, q2.keep (Nat.le_refl _) (Ext.refl _ _) (h5.block _ q2.lt)⟩

namespace Tbl

def keyOf : List UInt8 := [109, 90, 109, 90, 109, 90, 109, 90, 109, 90, 109, 90, 109, 90, 109, 90, 109, 90, 109, 90, 109, 90, 109, 90, 109, 90, 109, 90, 109, 90, 109, 90, 109, 90, 109, 90, 109, 90, 109, 90]

theorem repeat_spec {h : Hp} : XCalls Try.prog 33 [.str [109, 90], .int .i64 20] h fun v h' => v = .str keyOf ∧ h' = h := by
  refine XCalls.quiet (z := .string ⟨keyOf.toArray⟩) (fun _ _ => rfl) fun N ρ w args ha => ?_
  obtain ⟨x, r, e1, rfl, y, r2, rfl, rfl, rfl⟩ := ha
  have : args = #[.string ⟨#[109, 90]⟩, .int .i64 20] := by
    rw [← Array.toList_inj]; exact e1
  subst this
  have := Any.strings_Repeat Try.laysRepeat Try.extraRepeat ⟨#[109, 90]⟩ 20 w (by decide) (by decide)
  exact this
end Tbl
end Go.Vex
