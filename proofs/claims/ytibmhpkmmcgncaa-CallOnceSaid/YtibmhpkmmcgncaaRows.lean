/-
  No cell of these rows narrows 'for every input' (looked for: loops, veiled, ifaces, maps, wideKeys, modest, calm, conditions, laid).
  DERIVED. THE GIVEN ROWS OF THIS SEAT. 5 by the template 'for every input the law returns true; each argument reads behind the call as it read before'; 0 by the template 'total and deterministic' (their statements: YtibmhpkmmcgncaaTotals.lean).
  GIVEN WITH THE SEED: the statements are not yours to turn. If you find one false, say at which input.
  Laid BY PROGRAM, IN A SANDBOX (cutbox-rows.mjs): the forced cells as the released guide's own fill.sh prints them over the translation 81fb9baf3466e9fc… (all of the seat's roots in one cut). By AI agents, Wed Nov 11 2026. No macro, syntax, notation, axiom, sorry.
-/
import Derived.Test.YtibmhpkmmcgncaaChecked
import GoSem.Claim
import GoSem.ClaimJoined
import GoSem.ClaimMapViews
import Derived.JoinedTies
import Derived.KernelRfl
namespace Go.Proofs.Ytibmhpkmmcgncaa
/- THE CELL 'sum', in the pinned program and in every row, IS THE sha256 OF THE DUMP (.gsa) THAT YtibmhpkmmcgncaaProg.lean LOADS. Nothing in Lean hashes anything: it is a label: what it is worth is what the hold of that sum in a sandbox is worth. -/
noncomputable def Try.pinned : Pinned := { name := "ytibmhpkmmcgncaa", sum := "81fb9baf3466e9fc3c298fbc7859d333d7add78386dc923fdf2362f37c81add2", checked := Try.checked }
namespace Rows
def none {H : Type} : Left H := { results := [], args := [] }

/-- 'stevedorelaw29.CallChildren': WHATEVER THE INPUT: true; the input reads as it did. -/
def callChildrenSpec : ChangeSpec := { name := "callChildren", fn := fun _ => fun
  | [d1, d2] => { results := [.lit (.bool true)], args := [d1, d2] }
  | _ => none }
def callChildrenRow : OpenClaim := { program := "ytibmhpkmmcgncaa", sum := "81fb9baf3466e9fc3c298fbc7859d333d7add78386dc923fdf2362f37c81add2", func := "stevedore/stevedorelaw29.CallChildren", spec := "callChildren", unfollowed := true, recurses := true, apart := false }
def CallChildrenSaid : Prop := callChildrenRow.holds Try.pinned (OpenSpec.ofChange callChildrenSpec)

/-- ITS FALSE NEIGHBOUR: 'it returns false'. Refute it at one input. -/
def callChildrenWrong : ChangeSpec := { name := "callChildren", fn := fun _ => fun
  | [d1, d2] => { results := [.lit (.bool false)], args := [d1, d2] }
  | _ => none }
def CallChildrenWrongFalsely : Prop := callChildrenRow.holds Try.pinned (OpenSpec.ofChange callChildrenWrong)

/-- 'stevedorelaw29.CallPairs': WHATEVER THE INPUT: true; the input reads as it did. -/
def callPairsSpec : ChangeSpec := { name := "callPairs", fn := fun _ => fun
  | [d1, d2, d3, d4, d5] => { results := [.lit (.bool true)], args := [d1, d2, d3, d4, d5] }
  | _ => none }
def callPairsRow : OpenClaim := { program := "ytibmhpkmmcgncaa", sum := "81fb9baf3466e9fc3c298fbc7859d333d7add78386dc923fdf2362f37c81add2", func := "stevedore/stevedorelaw29.CallPairs", spec := "callPairs", unfollowed := true, recurses := true, apart := false }
def CallPairsSaid : Prop := callPairsRow.holds Try.pinned (OpenSpec.ofChange callPairsSpec)

/-- ITS FALSE NEIGHBOUR: 'it returns false'. Refute it at one input. -/
def callPairsWrong : ChangeSpec := { name := "callPairs", fn := fun _ => fun
  | [d1, d2, d3, d4, d5] => { results := [.lit (.bool false)], args := [d1, d2, d3, d4, d5] }
  | _ => none }
def CallPairsWrongFalsely : Prop := callPairsRow.holds Try.pinned (OpenSpec.ofChange callPairsWrong)

/-- 'stevedorelaw29.CallOnce': WHATEVER THE INPUT: true; the input reads as it did. -/
def callOnceSpec : ChangeSpec := { name := "callOnce", fn := fun _ => fun
  | [d1, d2] => { results := [.lit (.bool true)], args := [d1, d2] }
  | _ => none }
def callOnceRow : OpenClaim := { program := "ytibmhpkmmcgncaa", sum := "81fb9baf3466e9fc3c298fbc7859d333d7add78386dc923fdf2362f37c81add2", func := "stevedore/stevedorelaw29.CallOnce", spec := "callOnce", unfollowed := true, recurses := true, apart := false }
def CallOnceSaid : Prop := callOnceRow.holds Try.pinned (OpenSpec.ofChange callOnceSpec)

/-- ITS FALSE NEIGHBOUR: 'it returns false'. Refute it at one input. -/
def callOnceWrong : ChangeSpec := { name := "callOnce", fn := fun _ => fun
  | [d1, d2] => { results := [.lit (.bool false)], args := [d1, d2] }
  | _ => none }
def CallOnceWrongFalsely : Prop := callOnceRow.holds Try.pinned (OpenSpec.ofChange callOnceWrong)

/-- 'stevedorelaw29.CallPlaces': WHATEVER THE INPUT: true; the input reads as it did. -/
def callPlacesSpec : ChangeSpec := { name := "callPlaces", fn := fun _ => fun
  | [d1, d2, d3] => { results := [.lit (.bool true)], args := [d1, d2, d3] }
  | _ => none }
def callPlacesRow : OpenClaim := { program := "ytibmhpkmmcgncaa", sum := "81fb9baf3466e9fc3c298fbc7859d333d7add78386dc923fdf2362f37c81add2", func := "stevedore/stevedorelaw29.CallPlaces", spec := "callPlaces", unfollowed := true, recurses := true, apart := false }
def CallPlacesSaid : Prop := callPlacesRow.holds Try.pinned (OpenSpec.ofChange callPlacesSpec)

/-- ITS FALSE NEIGHBOUR: 'it returns false'. Refute it at one input. -/
def callPlacesWrong : ChangeSpec := { name := "callPlaces", fn := fun _ => fun
  | [d1, d2, d3] => { results := [.lit (.bool false)], args := [d1, d2, d3] }
  | _ => none }
def CallPlacesWrongFalsely : Prop := callPlacesRow.holds Try.pinned (OpenSpec.ofChange callPlacesWrong)

/-- 'stevedorelaw29.CallNone': WHATEVER THE INPUT: true; the input reads as it did. -/
def callNoneSpec : ChangeSpec := { name := "callNone", fn := fun _ => fun
  | [d1, d2, d3] => { results := [.lit (.bool true)], args := [d1, d2, d3] }
  | _ => none }
def callNoneRow : OpenClaim := { program := "ytibmhpkmmcgncaa", sum := "81fb9baf3466e9fc3c298fbc7859d333d7add78386dc923fdf2362f37c81add2", func := "stevedore/stevedorelaw29.CallNone", spec := "callNone", unfollowed := true, recurses := true, apart := false }
def CallNoneSaid : Prop := callNoneRow.holds Try.pinned (OpenSpec.ofChange callNoneSpec)

/-- ITS FALSE NEIGHBOUR: 'it returns false'. Refute it at one input. -/
def callNoneWrong : ChangeSpec := { name := "callNone", fn := fun _ => fun
  | [d1, d2, d3] => { results := [.lit (.bool false)], args := [d1, d2, d3] }
  | _ => none }
def CallNoneWrongFalsely : Prop := callNoneRow.holds Try.pinned (OpenSpec.ofChange callNoneWrong)

/- THE SECOND FORM. 'bulk': how many values and letters a reading holds, each counted each time it is reached (what is shared counts as often as it is met; a slice's spare places count too). A statement '..UptoSaid' is the law's where the arguments, and the package variables that the reading takes, are together of bulk at most 1048576: NARROWER than '..Said'. Prove '..Said' where nothing that the law and all that it calls make is longer than what came in: it says more and counts as full. Else prove '..UptoSaid'. A law counts once. -/
mutual
def uptoBulk {H : Type} : DataW H → Nat
  | .lit (.string bytes) => bytes.length + 1
  | .lit _ => 1
  | .nil => 1
  | .ptr d => uptoBulk d + 1
  | .slice elems spare => uptoBulkAll elems + uptoBulkAll spare + 1
  | .agg parts => uptoBulkAll parts + 1
  | .iface _ d => uptoBulk d + 1
  | .map entries => uptoBulkEntries entries + 1
  | .held _ => 1
def uptoBulkAll {H : Type} : List (DataW H) → Nat
  | [] => 0
  | d :: r => uptoBulk d + uptoBulkAll r
def uptoBulkEntries {H : Type} : List (Lit × DataW H) → Nat
  | [] => 0
  | x :: r => uptoBulkEntry x + uptoBulkEntries r
def uptoBulkEntry {H : Type} : Lit × DataW H → Nat
  | (.string bytes, d) => bytes.length + uptoBulk d + 1
  | (_, d) => uptoBulk d + 1
 end
def uptoSmall : (H : Type) → List (DataW H) → Bool := fun _ ds => decide (uptoBulkAll ds ≤ 1048576)
def OpenSpec.upto (s : _root_.Go.ChangeSpec) : _root_.Go.OpenSpec := { _root_.Go.OpenSpec.ofChange s with cond := some uptoSmall }

/-- 'stevedorelaw29.CallChildren', WHERE WHAT IT READS IS OF BULK AT MOST 1048576: true; the input reads as it did. -/
def callChildrenUptoRow : OpenClaim := { program := "ytibmhpkmmcgncaa", sum := "81fb9baf3466e9fc3c298fbc7859d333d7add78386dc923fdf2362f37c81add2", func := "stevedore/stevedorelaw29.CallChildren", spec := "callChildren", unfollowed := true, recurses := true, apart := false, narrowed := true }
def CallChildrenUptoSaid : Prop := callChildrenUptoRow.holds Try.pinned (OpenSpec.upto callChildrenSpec)

/-- 'stevedorelaw29.CallPairs', WHERE WHAT IT READS IS OF BULK AT MOST 1048576: true; the input reads as it did. -/
def callPairsUptoRow : OpenClaim := { program := "ytibmhpkmmcgncaa", sum := "81fb9baf3466e9fc3c298fbc7859d333d7add78386dc923fdf2362f37c81add2", func := "stevedore/stevedorelaw29.CallPairs", spec := "callPairs", unfollowed := true, recurses := true, apart := false, narrowed := true }
def CallPairsUptoSaid : Prop := callPairsUptoRow.holds Try.pinned (OpenSpec.upto callPairsSpec)

/-- 'stevedorelaw29.CallOnce', WHERE WHAT IT READS IS OF BULK AT MOST 1048576: true; the input reads as it did. -/
def callOnceUptoRow : OpenClaim := { program := "ytibmhpkmmcgncaa", sum := "81fb9baf3466e9fc3c298fbc7859d333d7add78386dc923fdf2362f37c81add2", func := "stevedore/stevedorelaw29.CallOnce", spec := "callOnce", unfollowed := true, recurses := true, apart := false, narrowed := true }
def CallOnceUptoSaid : Prop := callOnceUptoRow.holds Try.pinned (OpenSpec.upto callOnceSpec)

/-- 'stevedorelaw29.CallPlaces', WHERE WHAT IT READS IS OF BULK AT MOST 1048576: true; the input reads as it did. -/
def callPlacesUptoRow : OpenClaim := { program := "ytibmhpkmmcgncaa", sum := "81fb9baf3466e9fc3c298fbc7859d333d7add78386dc923fdf2362f37c81add2", func := "stevedore/stevedorelaw29.CallPlaces", spec := "callPlaces", unfollowed := true, recurses := true, apart := false, narrowed := true }
def CallPlacesUptoSaid : Prop := callPlacesUptoRow.holds Try.pinned (OpenSpec.upto callPlacesSpec)

/-- 'stevedorelaw29.CallNone', WHERE WHAT IT READS IS OF BULK AT MOST 1048576: true; the input reads as it did. -/
def callNoneUptoRow : OpenClaim := { program := "ytibmhpkmmcgncaa", sum := "81fb9baf3466e9fc3c298fbc7859d333d7add78386dc923fdf2362f37c81add2", func := "stevedore/stevedorelaw29.CallNone", spec := "callNone", unfollowed := true, recurses := true, apart := false, narrowed := true }
def CallNoneUptoSaid : Prop := callNoneUptoRow.holds Try.pinned (OpenSpec.upto callNoneSpec)

end Rows
end Go.Proofs.Ytibmhpkmmcgncaa
