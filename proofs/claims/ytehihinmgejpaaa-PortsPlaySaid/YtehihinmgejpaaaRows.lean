/-
  No cell of these rows narrows 'for every input' (looked for: loops, veiled, ifaces, maps, wideKeys, modest, calm, conditions, laid).
  DERIVED. THE GIVEN ROWS OF THIS SEAT. 5 by the template 'for every input the law returns true; each argument reads behind the call as it read before'; 0 by the template 'total and deterministic' (their statements: YtehihinmgejpaaaTotals.lean).
  GIVEN WITH THE SEED: the statements are not yours to turn. If you find one false, say at which input.
  Laid BY PROGRAM, IN A SANDBOX (cutbox-rows.mjs): the forced cells as the released guide's own fill.sh prints them over the translation 707b6f6afc7ef224… (all of the seat's roots in one cut). By AI agents, Wed Nov 11 2026. No macro, syntax, notation, axiom, sorry.
-/
import Derived.Test.YtehihinmgejpaaaChecked
import GoSem.Claim
import GoSem.ClaimJoined
import GoSem.ClaimMapViews
import Derived.JoinedTies
import Derived.KernelRfl
namespace Go.Proofs.Ytehihinmgejpaaa
/- THE CELL 'sum', in the pinned program and in every row, IS THE sha256 OF THE DUMP (.gsa) THAT YtehihinmgejpaaaProg.lean LOADS. Nothing in Lean hashes anything: it is a label: what it is worth is what the hold of that sum in a sandbox is worth. -/
noncomputable def Try.pinned : Pinned := { name := "ytehihinmgejpaaa", sum := "707b6f6afc7ef2246d9d817fe8f3edd956622a4e29741f596b4cc8847a680822", checked := Try.checked }
namespace Rows
def none {H : Type} : Left H := { results := [], args := [] }

/-- 'stevedorelaw22.PortsPlay': WHATEVER THE INPUT: true; the input reads as it did. -/
def portsPlaySpec : ChangeSpec := { name := "portsPlay", fn := fun _ => fun
  | [d1, d2, d3] => { results := [.lit (.bool true)], args := [d1, d2, d3] }
  | _ => none }
def portsPlayRow : OpenClaim := { program := "ytehihinmgejpaaa", sum := "707b6f6afc7ef2246d9d817fe8f3edd956622a4e29741f596b4cc8847a680822", func := "stevedore/stevedorelaw22.PortsPlay", spec := "portsPlay", unfollowed := true, recurses := true, apart := false }
def PortsPlaySaid : Prop := portsPlayRow.holds Try.pinned (OpenSpec.ofChange portsPlaySpec)

/-- ITS FALSE NEIGHBOUR: 'it returns false'. Refute it at one input. -/
def portsPlayWrong : ChangeSpec := { name := "portsPlay", fn := fun _ => fun
  | [d1, d2, d3] => { results := [.lit (.bool false)], args := [d1, d2, d3] }
  | _ => none }
def PortsPlayWrongFalsely : Prop := portsPlayRow.holds Try.pinned (OpenSpec.ofChange portsPlayWrong)

/-- 'stevedorelaw22.PortsMeet': WHATEVER THE INPUT: true; the input reads as it did. -/
def portsMeetSpec : ChangeSpec := { name := "portsMeet", fn := fun _ => fun
  | [d] => { results := [.lit (.bool true)], args := [d] }
  | _ => none }
def portsMeetRow : OpenClaim := { program := "ytehihinmgejpaaa", sum := "707b6f6afc7ef2246d9d817fe8f3edd956622a4e29741f596b4cc8847a680822", func := "stevedore/stevedorelaw22.PortsMeet", spec := "portsMeet", unfollowed := true, recurses := true, apart := false }
def PortsMeetSaid : Prop := portsMeetRow.holds Try.pinned (OpenSpec.ofChange portsMeetSpec)

/-- ITS FALSE NEIGHBOUR: 'it returns false'. Refute it at one input. -/
def portsMeetWrong : ChangeSpec := { name := "portsMeet", fn := fun _ => fun
  | [d] => { results := [.lit (.bool false)], args := [d] }
  | _ => none }
def PortsMeetWrongFalsely : Prop := portsMeetRow.holds Try.pinned (OpenSpec.ofChange portsMeetWrong)

/-- 'stevedorelaw22.PortsRound': WHATEVER THE INPUT: true; the input reads as it did. -/
def portsRoundSpec : ChangeSpec := { name := "portsRound", fn := fun _ => fun
  | [d1, d2, d3] => { results := [.lit (.bool true)], args := [d1, d2, d3] }
  | _ => none }
def portsRoundRow : OpenClaim := { program := "ytehihinmgejpaaa", sum := "707b6f6afc7ef2246d9d817fe8f3edd956622a4e29741f596b4cc8847a680822", func := "stevedore/stevedorelaw22.PortsRound", spec := "portsRound", unfollowed := true, recurses := true, apart := false }
def PortsRoundSaid : Prop := portsRoundRow.holds Try.pinned (OpenSpec.ofChange portsRoundSpec)

/-- ITS FALSE NEIGHBOUR: 'it returns false'. Refute it at one input. -/
def portsRoundWrong : ChangeSpec := { name := "portsRound", fn := fun _ => fun
  | [d1, d2, d3] => { results := [.lit (.bool false)], args := [d1, d2, d3] }
  | _ => none }
def PortsRoundWrongFalsely : Prop := portsRoundRow.holds Try.pinned (OpenSpec.ofChange portsRoundWrong)

/-- 'stevedorelaw22.PortsFull': WHATEVER THE INPUT: true; the input reads as it did. -/
def portsFullSpec : ChangeSpec := { name := "portsFull", fn := fun _ => fun
  | [d1, d2] => { results := [.lit (.bool true)], args := [d1, d2] }
  | _ => none }
def portsFullRow : OpenClaim := { program := "ytehihinmgejpaaa", sum := "707b6f6afc7ef2246d9d817fe8f3edd956622a4e29741f596b4cc8847a680822", func := "stevedore/stevedorelaw22.PortsFull", spec := "portsFull", unfollowed := true, recurses := true, apart := false }
def PortsFullSaid : Prop := portsFullRow.holds Try.pinned (OpenSpec.ofChange portsFullSpec)

/-- ITS FALSE NEIGHBOUR: 'it returns false'. Refute it at one input. -/
def portsFullWrong : ChangeSpec := { name := "portsFull", fn := fun _ => fun
  | [d1, d2] => { results := [.lit (.bool false)], args := [d1, d2] }
  | _ => none }
def PortsFullWrongFalsely : Prop := portsFullRow.holds Try.pinned (OpenSpec.ofChange portsFullWrong)

/-- 'stevedorelaw22.PortsShare': WHATEVER THE INPUT: true; the input reads as it did. -/
def portsShareSpec : ChangeSpec := { name := "portsShare", fn := fun _ => fun
  | [d1, d2, d3] => { results := [.lit (.bool true)], args := [d1, d2, d3] }
  | _ => none }
def portsShareRow : OpenClaim := { program := "ytehihinmgejpaaa", sum := "707b6f6afc7ef2246d9d817fe8f3edd956622a4e29741f596b4cc8847a680822", func := "stevedore/stevedorelaw22.PortsShare", spec := "portsShare", unfollowed := true, recurses := true, apart := false }
def PortsShareSaid : Prop := portsShareRow.holds Try.pinned (OpenSpec.ofChange portsShareSpec)

/-- ITS FALSE NEIGHBOUR: 'it returns false'. Refute it at one input. -/
def portsShareWrong : ChangeSpec := { name := "portsShare", fn := fun _ => fun
  | [d1, d2, d3] => { results := [.lit (.bool false)], args := [d1, d2, d3] }
  | _ => none }
def PortsShareWrongFalsely : Prop := portsShareRow.holds Try.pinned (OpenSpec.ofChange portsShareWrong)

/- THE SECOND FORM. 'bulk': how many values and letters a reading holds, each counted each time it is reached (what is shared counts as often as it is met; a slice's spare places count too). A statement '..UptoSaid' is the law's where the arguments, and the package variables that the reading takes, are together of bulk at most 1048576: NARROWER than '..Said'. Prove '..Said' where nothing that the law and all that it calls make is longer than what came in: it says more and counts as full. Else prove '..UptoSaid'. A law counts once. -/
mutual
def uptoBulk {H : Type} : DataW H → Nat
  | .lit (.string bytes) => bytes.length + 1
  | .lit _ => 1
  | .nil => 1
  | .ptr d => uptoBulk d + 1
  | .slice elems spare => uptoBulkAll elems + uptoBulkAll spare + 1
  | .agg parts => uptoBulkAll parts + 1
  | .iface _ d => uptoBulk d + 1
  | .map entries => uptoBulkEntries entries + 1
  | .held _ => 1
def uptoBulkAll {H : Type} : List (DataW H) → Nat
  | [] => 0
  | d :: r => uptoBulk d + uptoBulkAll r
def uptoBulkEntries {H : Type} : List (Lit × DataW H) → Nat
  | [] => 0
  | x :: r => uptoBulkEntry x + uptoBulkEntries r
def uptoBulkEntry {H : Type} : Lit × DataW H → Nat
  | (.string bytes, d) => bytes.length + uptoBulk d + 1
  | (_, d) => uptoBulk d + 1
 end
def uptoSmall : (H : Type) → List (DataW H) → Bool := fun _ ds => decide (uptoBulkAll ds ≤ 1048576)
def OpenSpec.upto (s : _root_.Go.ChangeSpec) : _root_.Go.OpenSpec := { _root_.Go.OpenSpec.ofChange s with cond := some uptoSmall }

/-- 'stevedorelaw22.PortsPlay', WHERE WHAT IT READS IS OF BULK AT MOST 1048576: true; the input reads as it did. -/
def portsPlayUptoRow : OpenClaim := { program := "ytehihinmgejpaaa", sum := "707b6f6afc7ef2246d9d817fe8f3edd956622a4e29741f596b4cc8847a680822", func := "stevedore/stevedorelaw22.PortsPlay", spec := "portsPlay", unfollowed := true, recurses := true, apart := false, narrowed := true }
def PortsPlayUptoSaid : Prop := portsPlayUptoRow.holds Try.pinned (OpenSpec.upto portsPlaySpec)

/-- 'stevedorelaw22.PortsMeet', WHERE WHAT IT READS IS OF BULK AT MOST 1048576: true; the input reads as it did. -/
def portsMeetUptoRow : OpenClaim := { program := "ytehihinmgejpaaa", sum := "707b6f6afc7ef2246d9d817fe8f3edd956622a4e29741f596b4cc8847a680822", func := "stevedore/stevedorelaw22.PortsMeet", spec := "portsMeet", unfollowed := true, recurses := true, apart := false, narrowed := true }
def PortsMeetUptoSaid : Prop := portsMeetUptoRow.holds Try.pinned (OpenSpec.upto portsMeetSpec)

/-- 'stevedorelaw22.PortsRound', WHERE WHAT IT READS IS OF BULK AT MOST 1048576: true; the input reads as it did. -/
def portsRoundUptoRow : OpenClaim := { program := "ytehihinmgejpaaa", sum := "707b6f6afc7ef2246d9d817fe8f3edd956622a4e29741f596b4cc8847a680822", func := "stevedore/stevedorelaw22.PortsRound", spec := "portsRound", unfollowed := true, recurses := true, apart := false, narrowed := true }
def PortsRoundUptoSaid : Prop := portsRoundUptoRow.holds Try.pinned (OpenSpec.upto portsRoundSpec)

/-- 'stevedorelaw22.PortsFull', WHERE WHAT IT READS IS OF BULK AT MOST 1048576: true; the input reads as it did. -/
def portsFullUptoRow : OpenClaim := { program := "ytehihinmgejpaaa", sum := "707b6f6afc7ef2246d9d817fe8f3edd956622a4e29741f596b4cc8847a680822", func := "stevedore/stevedorelaw22.PortsFull", spec := "portsFull", unfollowed := true, recurses := true, apart := false, narrowed := true }
def PortsFullUptoSaid : Prop := portsFullUptoRow.holds Try.pinned (OpenSpec.upto portsFullSpec)

/-- 'stevedorelaw22.PortsShare', WHERE WHAT IT READS IS OF BULK AT MOST 1048576: true; the input reads as it did. -/
def portsShareUptoRow : OpenClaim := { program := "ytehihinmgejpaaa", sum := "707b6f6afc7ef2246d9d817fe8f3edd956622a4e29741f596b4cc8847a680822", func := "stevedore/stevedorelaw22.PortsShare", spec := "portsShare", unfollowed := true, recurses := true, apart := false, narrowed := true }
def PortsShareUptoSaid : Prop := portsShareUptoRow.holds Try.pinned (OpenSpec.upto portsShareSpec)

end Rows
end Go.Proofs.Ytehihinmgejpaaa
