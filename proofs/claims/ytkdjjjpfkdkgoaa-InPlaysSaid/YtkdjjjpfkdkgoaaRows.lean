/-
  No cell of these rows narrows 'for every input' (looked for: loops, veiled, ifaces, maps, wideKeys, modest, calm, conditions, laid).
  DERIVED. THE GIVEN ROWS OF THIS SEAT. 6 by the template 'for every input the law returns true; each argument reads behind the call as it read before'; 0 by the template 'total and deterministic' (their statements: YtkdjjjpfkdkgoaaTotals.lean).
  GIVEN WITH THE SEED: the statements are not yours to turn. If you find one false, say at which input.
  Laid BY PROGRAM, IN A SANDBOX (cutbox-rows.mjs): the forced cells as the released guide's own fill.sh prints them over the translation b3b16d46b4b282f8… (all of the seat's roots in one cut). By AI agents, Wed Nov 11 2026. No macro, syntax, notation, axiom, sorry.
-/
import Derived.Test.YtkdjjjpfkdkgoaaChecked
import GoSem.Claim
import GoSem.ClaimJoined
import GoSem.ClaimMapViews
import Derived.JoinedTies
import Derived.KernelRfl
namespace Go.Proofs.Ytkdjjjpfkdkgoaa
/- THE CELL 'sum', in the pinned program and in every row, IS THE sha256 OF THE DUMP (.gsa) THAT YtkdjjjpfkdkgoaaProg.lean LOADS. Nothing in Lean hashes anything: it is a label: what it is worth is what the hold of that sum in a sandbox is worth. -/
noncomputable def Try.pinned : Pinned := { name := "ytkdjjjpfkdkgoaa", sum := "b3b16d46b4b282f888c25849e75b4063f310d1bfc4822bbfc2c82c7152f75c7d", checked := Try.checked }
namespace Rows
def none {H : Type} : Left H := { results := [], args := [] }

/-- 'stevedorelaw26.OutPlays': WHATEVER THE INPUT: true; the input reads as it did. -/
def outPlaysSpec : ChangeSpec := { name := "outPlays", fn := fun _ => fun
  | [d1, d2, d3] => { results := [.lit (.bool true)], args := [d1, d2, d3] }
  | _ => none }
def outPlaysRow : OpenClaim := { program := "ytkdjjjpfkdkgoaa", sum := "b3b16d46b4b282f888c25849e75b4063f310d1bfc4822bbfc2c82c7152f75c7d", func := "stevedore/stevedorelaw26.OutPlays", spec := "outPlays", apart := false }
def OutPlaysSaid : Prop := outPlaysRow.holds Try.pinned (OpenSpec.ofChange outPlaysSpec)

/-- ITS FALSE NEIGHBOUR: 'it returns false'. Refute it at one input. -/
def outPlaysWrong : ChangeSpec := { name := "outPlays", fn := fun _ => fun
  | [d1, d2, d3] => { results := [.lit (.bool false)], args := [d1, d2, d3] }
  | _ => none }
def OutPlaysWrongFalsely : Prop := outPlaysRow.holds Try.pinned (OpenSpec.ofChange outPlaysWrong)

/-- 'stevedorelaw26.OutKeeps': WHATEVER THE INPUT: true; the input reads as it did. -/
def outKeepsSpec : ChangeSpec := { name := "outKeeps", fn := fun _ => fun
  | [d1, d2, d3] => { results := [.lit (.bool true)], args := [d1, d2, d3] }
  | _ => none }
def outKeepsRow : OpenClaim := { program := "ytkdjjjpfkdkgoaa", sum := "b3b16d46b4b282f888c25849e75b4063f310d1bfc4822bbfc2c82c7152f75c7d", func := "stevedore/stevedorelaw26.OutKeeps", spec := "outKeeps", apart := false }
def OutKeepsSaid : Prop := outKeepsRow.holds Try.pinned (OpenSpec.ofChange outKeepsSpec)

/-- ITS FALSE NEIGHBOUR: 'it returns false'. Refute it at one input. -/
def outKeepsWrong : ChangeSpec := { name := "outKeeps", fn := fun _ => fun
  | [d1, d2, d3] => { results := [.lit (.bool false)], args := [d1, d2, d3] }
  | _ => none }
def OutKeepsWrongFalsely : Prop := outKeepsRow.holds Try.pinned (OpenSpec.ofChange outKeepsWrong)

/-- 'stevedorelaw26.InStream': WHATEVER THE INPUT: true; the input reads as it did. -/
def inStreamSpec : ChangeSpec := { name := "inStream", fn := fun _ => fun
  | [d1, d2, d3, d4] => { results := [.lit (.bool true)], args := [d1, d2, d3, d4] }
  | _ => none }
def inStreamRow : OpenClaim := { program := "ytkdjjjpfkdkgoaa", sum := "b3b16d46b4b282f888c25849e75b4063f310d1bfc4822bbfc2c82c7152f75c7d", func := "stevedore/stevedorelaw26.InStream", spec := "inStream", apart := false }
def InStreamSaid : Prop := inStreamRow.holds Try.pinned (OpenSpec.ofChange inStreamSpec)

/-- ITS FALSE NEIGHBOUR: 'it returns false'. Refute it at one input. -/
def inStreamWrong : ChangeSpec := { name := "inStream", fn := fun _ => fun
  | [d1, d2, d3, d4] => { results := [.lit (.bool false)], args := [d1, d2, d3, d4] }
  | _ => none }
def InStreamWrongFalsely : Prop := inStreamRow.holds Try.pinned (OpenSpec.ofChange inStreamWrong)

/-- 'stevedorelaw26.InWhole': WHATEVER THE INPUT: true; the input reads as it did. -/
def inWholeSpec : ChangeSpec := { name := "inWhole", fn := fun _ => fun
  | [d1, d2, d3, d4] => { results := [.lit (.bool true)], args := [d1, d2, d3, d4] }
  | _ => none }
def inWholeRow : OpenClaim := { program := "ytkdjjjpfkdkgoaa", sum := "b3b16d46b4b282f888c25849e75b4063f310d1bfc4822bbfc2c82c7152f75c7d", func := "stevedore/stevedorelaw26.InWhole", spec := "inWhole", recurses := true, apart := false }
def InWholeSaid : Prop := inWholeRow.holds Try.pinned (OpenSpec.ofChange inWholeSpec)

/-- ITS FALSE NEIGHBOUR: 'it returns false'. Refute it at one input. -/
def inWholeWrong : ChangeSpec := { name := "inWhole", fn := fun _ => fun
  | [d1, d2, d3, d4] => { results := [.lit (.bool false)], args := [d1, d2, d3, d4] }
  | _ => none }
def InWholeWrongFalsely : Prop := inWholeRow.holds Try.pinned (OpenSpec.ofChange inWholeWrong)

/-- 'stevedorelaw26.InPlays': WHATEVER THE INPUT: true; the input reads as it did. -/
def inPlaysSpec : ChangeSpec := { name := "inPlays", fn := fun _ => fun
  | [d1, d2, d3] => { results := [.lit (.bool true)], args := [d1, d2, d3] }
  | _ => none }
def inPlaysRow : OpenClaim := { program := "ytkdjjjpfkdkgoaa", sum := "b3b16d46b4b282f888c25849e75b4063f310d1bfc4822bbfc2c82c7152f75c7d", func := "stevedore/stevedorelaw26.InPlays", spec := "inPlays", recurses := true, apart := false }
def InPlaysSaid : Prop := inPlaysRow.holds Try.pinned (OpenSpec.ofChange inPlaysSpec)

/-- ITS FALSE NEIGHBOUR: 'it returns false'. Refute it at one input. -/
def inPlaysWrong : ChangeSpec := { name := "inPlays", fn := fun _ => fun
  | [d1, d2, d3] => { results := [.lit (.bool false)], args := [d1, d2, d3] }
  | _ => none }
def InPlaysWrongFalsely : Prop := inPlaysRow.holds Try.pinned (OpenSpec.ofChange inPlaysWrong)

/-- 'stevedorelaw26.FlowNone': WHATEVER THE INPUT: true; the input reads as it did. -/
def flowNoneSpec : ChangeSpec := { name := "flowNone", fn := fun _ => fun
  | [d1, d2] => { results := [.lit (.bool true)], args := [d1, d2] }
  | _ => none }
def flowNoneRow : OpenClaim := { program := "ytkdjjjpfkdkgoaa", sum := "b3b16d46b4b282f888c25849e75b4063f310d1bfc4822bbfc2c82c7152f75c7d", func := "stevedore/stevedorelaw26.FlowNone", spec := "flowNone", recurses := true, apart := false }
def FlowNoneSaid : Prop := flowNoneRow.holds Try.pinned (OpenSpec.ofChange flowNoneSpec)

/-- ITS FALSE NEIGHBOUR: 'it returns false'. Refute it at one input. -/
def flowNoneWrong : ChangeSpec := { name := "flowNone", fn := fun _ => fun
  | [d1, d2] => { results := [.lit (.bool false)], args := [d1, d2] }
  | _ => none }
def FlowNoneWrongFalsely : Prop := flowNoneRow.holds Try.pinned (OpenSpec.ofChange flowNoneWrong)

/- THE SECOND FORM. 'bulk': how many values and letters a reading holds, each counted each time it is reached (what is shared counts as often as it is met; a slice's spare places count too). A statement '..UptoSaid' is the law's where the arguments, and the package variables that the reading takes, are together of bulk at most 1048576: NARROWER than '..Said'. Prove '..Said' where nothing that the law and all that it calls make is longer than what came in: it says more and counts as full. Else prove '..UptoSaid'. A law counts once. -/
mutual
def uptoBulk {H : Type} : DataW H → Nat
  | .lit (.string bytes) => bytes.length + 1
  | .lit _ => 1
  | .nil => 1
  | .ptr d => uptoBulk d + 1
  | .slice elems spare => uptoBulkAll elems + uptoBulkAll spare + 1
  | .agg parts => uptoBulkAll parts + 1
  | .iface _ d => uptoBulk d + 1
  | .map entries => uptoBulkEntries entries + 1
  | .held _ => 1
def uptoBulkAll {H : Type} : List (DataW H) → Nat
  | [] => 0
  | d :: r => uptoBulk d + uptoBulkAll r
def uptoBulkEntries {H : Type} : List (Lit × DataW H) → Nat
  | [] => 0
  | x :: r => uptoBulkEntry x + uptoBulkEntries r
def uptoBulkEntry {H : Type} : Lit × DataW H → Nat
  | (.string bytes, d) => bytes.length + uptoBulk d + 1
  | (_, d) => uptoBulk d + 1
 end
def uptoSmall : (H : Type) → List (DataW H) → Bool := fun _ ds => decide (uptoBulkAll ds ≤ 1048576)
def OpenSpec.upto (s : _root_.Go.ChangeSpec) : _root_.Go.OpenSpec := { _root_.Go.OpenSpec.ofChange s with cond := some uptoSmall }

/-- 'stevedorelaw26.OutPlays', WHERE WHAT IT READS IS OF BULK AT MOST 1048576: true; the input reads as it did. -/
def outPlaysUptoRow : OpenClaim := { program := "ytkdjjjpfkdkgoaa", sum := "b3b16d46b4b282f888c25849e75b4063f310d1bfc4822bbfc2c82c7152f75c7d", func := "stevedore/stevedorelaw26.OutPlays", spec := "outPlays", apart := false, narrowed := true }
def OutPlaysUptoSaid : Prop := outPlaysUptoRow.holds Try.pinned (OpenSpec.upto outPlaysSpec)

/-- 'stevedorelaw26.OutKeeps', WHERE WHAT IT READS IS OF BULK AT MOST 1048576: true; the input reads as it did. -/
def outKeepsUptoRow : OpenClaim := { program := "ytkdjjjpfkdkgoaa", sum := "b3b16d46b4b282f888c25849e75b4063f310d1bfc4822bbfc2c82c7152f75c7d", func := "stevedore/stevedorelaw26.OutKeeps", spec := "outKeeps", apart := false, narrowed := true }
def OutKeepsUptoSaid : Prop := outKeepsUptoRow.holds Try.pinned (OpenSpec.upto outKeepsSpec)

/-- 'stevedorelaw26.InStream', WHERE WHAT IT READS IS OF BULK AT MOST 1048576: true; the input reads as it did. -/
def inStreamUptoRow : OpenClaim := { program := "ytkdjjjpfkdkgoaa", sum := "b3b16d46b4b282f888c25849e75b4063f310d1bfc4822bbfc2c82c7152f75c7d", func := "stevedore/stevedorelaw26.InStream", spec := "inStream", apart := false, narrowed := true }
def InStreamUptoSaid : Prop := inStreamUptoRow.holds Try.pinned (OpenSpec.upto inStreamSpec)

/-- 'stevedorelaw26.InWhole', WHERE WHAT IT READS IS OF BULK AT MOST 1048576: true; the input reads as it did. -/
def inWholeUptoRow : OpenClaim := { program := "ytkdjjjpfkdkgoaa", sum := "b3b16d46b4b282f888c25849e75b4063f310d1bfc4822bbfc2c82c7152f75c7d", func := "stevedore/stevedorelaw26.InWhole", spec := "inWhole", recurses := true, apart := false, narrowed := true }
def InWholeUptoSaid : Prop := inWholeUptoRow.holds Try.pinned (OpenSpec.upto inWholeSpec)

/-- 'stevedorelaw26.InPlays', WHERE WHAT IT READS IS OF BULK AT MOST 1048576: true; the input reads as it did. -/
def inPlaysUptoRow : OpenClaim := { program := "ytkdjjjpfkdkgoaa", sum := "b3b16d46b4b282f888c25849e75b4063f310d1bfc4822bbfc2c82c7152f75c7d", func := "stevedore/stevedorelaw26.InPlays", spec := "inPlays", recurses := true, apart := false, narrowed := true }
def InPlaysUptoSaid : Prop := inPlaysUptoRow.holds Try.pinned (OpenSpec.upto inPlaysSpec)

/-- 'stevedorelaw26.FlowNone', WHERE WHAT IT READS IS OF BULK AT MOST 1048576: true; the input reads as it did. -/
def flowNoneUptoRow : OpenClaim := { program := "ytkdjjjpfkdkgoaa", sum := "b3b16d46b4b282f888c25849e75b4063f310d1bfc4822bbfc2c82c7152f75c7d", func := "stevedore/stevedorelaw26.FlowNone", spec := "flowNone", recurses := true, apart := false, narrowed := true }
def FlowNoneUptoSaid : Prop := flowNoneUptoRow.holds Try.pinned (OpenSpec.upto flowNoneSpec)

end Rows
end Go.Proofs.Ytkdjjjpfkdkgoaa
