/-
  No cell of these rows narrows 'for every input' (looked for: loops, veiled, ifaces, maps, wideKeys, modest, calm, conditions, laid).
  DERIVED. THE GIVEN ROWS OF THIS SEAT. 9 by the template 'for every input the law returns true; each argument reads behind the call as it read before'; 0 by the template 'total and deterministic' (their statements: YtkfnokgfgcfldaaGreatTotals.lean).
  GIVEN WITH THE SEED: the statements are not yours to turn. If you find one false, say at which input.
  Laid BY PROGRAM, IN A SANDBOX (cutbox-rows.mjs): the forced cells as the released guide's own fill.sh prints them over the translation d96e2e60b7cf4e0d… (all of the seat's roots in one cut). By AI agents, Wed Nov 11 2026. No macro, syntax, notation, axiom, sorry.
-/
import Derived.Test.YtkfnokgfgcfldaaGreatChecked
import GoSem.Claim
import GoSem.ClaimJoined
import GoSem.ClaimMapViews
import Derived.JoinedTies
import Derived.KernelRfl
namespace Go.Proofs.YtkfnokgfgcfldaaGreat
/- THE CELL 'sum', in the pinned program and in every row, IS THE sha256 OF THE DUMP (.gsa) THAT YtkfnokgfgcfldaaGreatProg.lean LOADS. Nothing in Lean hashes anything: it is a label: what it is worth is what the hold of that sum in a sandbox is worth. -/
noncomputable def Tryz.pinned : Pinned := { name := "ytkfnokgfgcfldaagreat", sum := "d96e2e60b7cf4e0d643d531a32ccd358488aac0b1e6f921810c9b14e06053f3e", checked := Tryz.checked }
namespace Rows
def none {H : Type} : Left H := { results := [], args := [] }

/-- 'stevedorelaw27.TcbProbes': WHATEVER THE INPUT: true; the input reads as it did. -/
def tcbProbesSpec : ChangeSpec := { name := "tcbProbes", fn := fun _ => fun
  | [d1, d2, d3] => { results := [.lit (.bool true)], args := [d1, d2, d3] }
  | _ => none }
def tcbProbesRow : OpenClaim := { program := "ytkfnokgfgcfldaagreat", sum := "d96e2e60b7cf4e0d643d531a32ccd358488aac0b1e6f921810c9b14e06053f3e", func := "stevedore/stevedorelaw27.TcbProbes", spec := "tcbProbes", unfollowed := true, recurses := true, apart := false }
def TcbProbesSaid : Prop := tcbProbesRow.holds Tryz.pinned (OpenSpec.ofChange tcbProbesSpec)

/-- ITS FALSE NEIGHBOUR: 'it returns false'. Refute it at one input. -/
def tcbProbesWrong : ChangeSpec := { name := "tcbProbes", fn := fun _ => fun
  | [d1, d2, d3] => { results := [.lit (.bool false)], args := [d1, d2, d3] }
  | _ => none }
def TcbProbesWrongFalsely : Prop := tcbProbesRow.holds Tryz.pinned (OpenSpec.ofChange tcbProbesWrong)

/-- 'stevedorelaw27.TcbKeeps': WHATEVER THE INPUT: true; the input reads as it did. -/
def tcbKeepsSpec : ChangeSpec := { name := "tcbKeeps", fn := fun _ => fun
  | [d1, d2, d3, d4] => { results := [.lit (.bool true)], args := [d1, d2, d3, d4] }
  | _ => none }
def tcbKeepsRow : OpenClaim := { program := "ytkfnokgfgcfldaagreat", sum := "d96e2e60b7cf4e0d643d531a32ccd358488aac0b1e6f921810c9b14e06053f3e", func := "stevedore/stevedorelaw27.TcbKeeps", spec := "tcbKeeps", unfollowed := true, recurses := true, apart := false }
def TcbKeepsSaid : Prop := tcbKeepsRow.holds Tryz.pinned (OpenSpec.ofChange tcbKeepsSpec)

/-- ITS FALSE NEIGHBOUR: 'it returns false'. Refute it at one input. -/
def tcbKeepsWrong : ChangeSpec := { name := "tcbKeeps", fn := fun _ => fun
  | [d1, d2, d3, d4] => { results := [.lit (.bool false)], args := [d1, d2, d3, d4] }
  | _ => none }
def TcbKeepsWrongFalsely : Prop := tcbKeepsRow.holds Tryz.pinned (OpenSpec.ofChange tcbKeepsWrong)

/-- 'stevedorelaw27.TcbCloses': WHATEVER THE INPUT: true; the input reads as it did. -/
def tcbClosesSpec : ChangeSpec := { name := "tcbCloses", fn := fun _ => fun
  | [d1, d2, d3, d4] => { results := [.lit (.bool true)], args := [d1, d2, d3, d4] }
  | _ => none }
def tcbClosesRow : OpenClaim := { program := "ytkfnokgfgcfldaagreat", sum := "d96e2e60b7cf4e0d643d531a32ccd358488aac0b1e6f921810c9b14e06053f3e", func := "stevedore/stevedorelaw27.TcbCloses", spec := "tcbCloses", unfollowed := true, recurses := true, apart := false }
def TcbClosesSaid : Prop := tcbClosesRow.holds Tryz.pinned (OpenSpec.ofChange tcbClosesSpec)

/-- ITS FALSE NEIGHBOUR: 'it returns false'. Refute it at one input. -/
def tcbClosesWrong : ChangeSpec := { name := "tcbCloses", fn := fun _ => fun
  | [d1, d2, d3, d4] => { results := [.lit (.bool false)], args := [d1, d2, d3, d4] }
  | _ => none }
def TcbClosesWrongFalsely : Prop := tcbClosesRow.holds Tryz.pinned (OpenSpec.ofChange tcbClosesWrong)

/-- 'stevedorelaw27.TcbDelays': WHATEVER THE INPUT: true; the input reads as it did. -/
def tcbDelaysSpec : ChangeSpec := { name := "tcbDelays", fn := fun _ => fun
  | [d1, d2, d3, d4] => { results := [.lit (.bool true)], args := [d1, d2, d3, d4] }
  | _ => none }
def tcbDelaysRow : OpenClaim := { program := "ytkfnokgfgcfldaagreat", sum := "d96e2e60b7cf4e0d643d531a32ccd358488aac0b1e6f921810c9b14e06053f3e", func := "stevedore/stevedorelaw27.TcbDelays", spec := "tcbDelays", unfollowed := true, recurses := true, apart := false }
def TcbDelaysSaid : Prop := tcbDelaysRow.holds Tryz.pinned (OpenSpec.ofChange tcbDelaysSpec)

/-- ITS FALSE NEIGHBOUR: 'it returns false'. Refute it at one input. -/
def tcbDelaysWrong : ChangeSpec := { name := "tcbDelays", fn := fun _ => fun
  | [d1, d2, d3, d4] => { results := [.lit (.bool false)], args := [d1, d2, d3, d4] }
  | _ => none }
def TcbDelaysWrongFalsely : Prop := tcbDelaysRow.holds Tryz.pinned (OpenSpec.ofChange tcbDelaysWrong)

/-- 'stevedorelaw27.TcbOpens': WHATEVER THE INPUT: true; the input reads as it did. -/
def tcbOpensSpec : ChangeSpec := { name := "tcbOpens", fn := fun _ => fun
  | [d1, d2] => { results := [.lit (.bool true)], args := [d1, d2] }
  | _ => none }
def tcbOpensRow : OpenClaim := { program := "ytkfnokgfgcfldaagreat", sum := "d96e2e60b7cf4e0d643d531a32ccd358488aac0b1e6f921810c9b14e06053f3e", func := "stevedore/stevedorelaw27.TcbOpens", spec := "tcbOpens", unfollowed := true, recurses := true, apart := false }
def TcbOpensSaid : Prop := tcbOpensRow.holds Tryz.pinned (OpenSpec.ofChange tcbOpensSpec)

/-- ITS FALSE NEIGHBOUR: 'it returns false'. Refute it at one input. -/
def tcbOpensWrong : ChangeSpec := { name := "tcbOpens", fn := fun _ => fun
  | [d1, d2] => { results := [.lit (.bool false)], args := [d1, d2] }
  | _ => none }
def TcbOpensWrongFalsely : Prop := tcbOpensRow.holds Tryz.pinned (OpenSpec.ofChange tcbOpensWrong)

/-- 'stevedorelaw27.TcbResets': WHATEVER THE INPUT: true; the input reads as it did. -/
def tcbResetsSpec : ChangeSpec := { name := "tcbResets", fn := fun _ => fun
  | [d1, d2, d3, d4] => { results := [.lit (.bool true)], args := [d1, d2, d3, d4] }
  | _ => none }
def tcbResetsRow : OpenClaim := { program := "ytkfnokgfgcfldaagreat", sum := "d96e2e60b7cf4e0d643d531a32ccd358488aac0b1e6f921810c9b14e06053f3e", func := "stevedore/stevedorelaw27.TcbResets", spec := "tcbResets", unfollowed := true, recurses := true, apart := false }
def TcbResetsSaid : Prop := tcbResetsRow.holds Tryz.pinned (OpenSpec.ofChange tcbResetsSpec)

/-- ITS FALSE NEIGHBOUR: 'it returns false'. Refute it at one input. -/
def tcbResetsWrong : ChangeSpec := { name := "tcbResets", fn := fun _ => fun
  | [d1, d2, d3, d4] => { results := [.lit (.bool false)], args := [d1, d2, d3, d4] }
  | _ => none }
def TcbResetsWrongFalsely : Prop := tcbResetsRow.holds Tryz.pinned (OpenSpec.ofChange tcbResetsWrong)

/-- 'stevedorelaw27.TcbRetries': WHATEVER THE INPUT: true; the input reads as it did. -/
def tcbRetriesSpec : ChangeSpec := { name := "tcbRetries", fn := fun _ => fun
  | [d1, d2, d3] => { results := [.lit (.bool true)], args := [d1, d2, d3] }
  | _ => none }
def tcbRetriesRow : OpenClaim := { program := "ytkfnokgfgcfldaagreat", sum := "d96e2e60b7cf4e0d643d531a32ccd358488aac0b1e6f921810c9b14e06053f3e", func := "stevedore/stevedorelaw27.TcbRetries", spec := "tcbRetries", unfollowed := true, recurses := true, apart := false }
def TcbRetriesSaid : Prop := tcbRetriesRow.holds Tryz.pinned (OpenSpec.ofChange tcbRetriesSpec)

/-- ITS FALSE NEIGHBOUR: 'it returns false'. Refute it at one input. -/
def tcbRetriesWrong : ChangeSpec := { name := "tcbRetries", fn := fun _ => fun
  | [d1, d2, d3] => { results := [.lit (.bool false)], args := [d1, d2, d3] }
  | _ => none }
def TcbRetriesWrongFalsely : Prop := tcbRetriesRow.holds Tryz.pinned (OpenSpec.ofChange tcbRetriesWrong)

/-- 'stevedorelaw27.TcbAny': WHATEVER THE INPUT: true; the input reads as it did. -/
def tcbAnySpec : ChangeSpec := { name := "tcbAny", fn := fun _ => fun
  | [d1, d2, d3] => { results := [.lit (.bool true)], args := [d1, d2, d3] }
  | _ => none }
def tcbAnyRow : OpenClaim := { program := "ytkfnokgfgcfldaagreat", sum := "d96e2e60b7cf4e0d643d531a32ccd358488aac0b1e6f921810c9b14e06053f3e", func := "stevedore/stevedorelaw27.TcbAny", spec := "tcbAny", unfollowed := true, recurses := true, apart := false }
def TcbAnySaid : Prop := tcbAnyRow.holds Tryz.pinned (OpenSpec.ofChange tcbAnySpec)

/-- ITS FALSE NEIGHBOUR: 'it returns false'. Refute it at one input. -/
def tcbAnyWrong : ChangeSpec := { name := "tcbAny", fn := fun _ => fun
  | [d1, d2, d3] => { results := [.lit (.bool false)], args := [d1, d2, d3] }
  | _ => none }
def TcbAnyWrongFalsely : Prop := tcbAnyRow.holds Tryz.pinned (OpenSpec.ofChange tcbAnyWrong)

/-- 'stevedorelaw27.TcbConfs': WHATEVER THE INPUT: true; the input reads as it did. -/
def tcbConfsSpec : ChangeSpec := { name := "tcbConfs", fn := fun _ => fun
  | [d1, d2, d3] => { results := [.lit (.bool true)], args := [d1, d2, d3] }
  | _ => none }
def tcbConfsRow : OpenClaim := { program := "ytkfnokgfgcfldaagreat", sum := "d96e2e60b7cf4e0d643d531a32ccd358488aac0b1e6f921810c9b14e06053f3e", func := "stevedore/stevedorelaw27.TcbConfs", spec := "tcbConfs", unfollowed := true, recurses := true, apart := false }
def TcbConfsSaid : Prop := tcbConfsRow.holds Tryz.pinned (OpenSpec.ofChange tcbConfsSpec)

/-- ITS FALSE NEIGHBOUR: 'it returns false'. Refute it at one input. -/
def tcbConfsWrong : ChangeSpec := { name := "tcbConfs", fn := fun _ => fun
  | [d1, d2, d3] => { results := [.lit (.bool false)], args := [d1, d2, d3] }
  | _ => none }
def TcbConfsWrongFalsely : Prop := tcbConfsRow.holds Tryz.pinned (OpenSpec.ofChange tcbConfsWrong)

/- THE SECOND FORM. 'bulk': how many values and letters a reading holds, each counted each time it is reached (what is shared counts as often as it is met; a slice's spare places count too). A statement '..UptoSaid' is the law's where the arguments, and the package variables that the reading takes, are together of bulk at most 1048576: NARROWER than '..Said'. Prove '..Said' where nothing that the law and all that it calls make is longer than what came in: it says more and counts as full. Else prove '..UptoSaid'. A law counts once. -/
mutual
def uptoBulk {H : Type} : DataW H → Nat
  | .lit (.string bytes) => bytes.length + 1
  | .lit _ => 1
  | .nil => 1
  | .ptr d => uptoBulk d + 1
  | .slice elems spare => uptoBulkAll elems + uptoBulkAll spare + 1
  | .agg parts => uptoBulkAll parts + 1
  | .iface _ d => uptoBulk d + 1
  | .map entries => uptoBulkEntries entries + 1
  | .held _ => 1
def uptoBulkAll {H : Type} : List (DataW H) → Nat
  | [] => 0
  | d :: r => uptoBulk d + uptoBulkAll r
def uptoBulkEntries {H : Type} : List (Lit × DataW H) → Nat
  | [] => 0
  | x :: r => uptoBulkEntry x + uptoBulkEntries r
def uptoBulkEntry {H : Type} : Lit × DataW H → Nat
  | (.string bytes, d) => bytes.length + uptoBulk d + 1
  | (_, d) => uptoBulk d + 1
 end
def uptoSmall : (H : Type) → List (DataW H) → Bool := fun _ ds => decide (uptoBulkAll ds ≤ 1048576)
def OpenSpec.upto (s : _root_.Go.ChangeSpec) : _root_.Go.OpenSpec := { _root_.Go.OpenSpec.ofChange s with cond := some uptoSmall }

/-- 'stevedorelaw27.TcbProbes', WHERE WHAT IT READS IS OF BULK AT MOST 1048576: true; the input reads as it did. -/
def tcbProbesUptoRow : OpenClaim := { program := "ytkfnokgfgcfldaagreat", sum := "d96e2e60b7cf4e0d643d531a32ccd358488aac0b1e6f921810c9b14e06053f3e", func := "stevedore/stevedorelaw27.TcbProbes", spec := "tcbProbes", unfollowed := true, recurses := true, apart := false, narrowed := true }
def TcbProbesUptoSaid : Prop := tcbProbesUptoRow.holds Tryz.pinned (OpenSpec.upto tcbProbesSpec)

/-- 'stevedorelaw27.TcbKeeps', WHERE WHAT IT READS IS OF BULK AT MOST 1048576: true; the input reads as it did. -/
def tcbKeepsUptoRow : OpenClaim := { program := "ytkfnokgfgcfldaagreat", sum := "d96e2e60b7cf4e0d643d531a32ccd358488aac0b1e6f921810c9b14e06053f3e", func := "stevedore/stevedorelaw27.TcbKeeps", spec := "tcbKeeps", unfollowed := true, recurses := true, apart := false, narrowed := true }
def TcbKeepsUptoSaid : Prop := tcbKeepsUptoRow.holds Tryz.pinned (OpenSpec.upto tcbKeepsSpec)

/-- 'stevedorelaw27.TcbCloses', WHERE WHAT IT READS IS OF BULK AT MOST 1048576: true; the input reads as it did. -/
def tcbClosesUptoRow : OpenClaim := { program := "ytkfnokgfgcfldaagreat", sum := "d96e2e60b7cf4e0d643d531a32ccd358488aac0b1e6f921810c9b14e06053f3e", func := "stevedore/stevedorelaw27.TcbCloses", spec := "tcbCloses", unfollowed := true, recurses := true, apart := false, narrowed := true }
def TcbClosesUptoSaid : Prop := tcbClosesUptoRow.holds Tryz.pinned (OpenSpec.upto tcbClosesSpec)

/-- 'stevedorelaw27.TcbDelays', WHERE WHAT IT READS IS OF BULK AT MOST 1048576: true; the input reads as it did. -/
def tcbDelaysUptoRow : OpenClaim := { program := "ytkfnokgfgcfldaagreat", sum := "d96e2e60b7cf4e0d643d531a32ccd358488aac0b1e6f921810c9b14e06053f3e", func := "stevedore/stevedorelaw27.TcbDelays", spec := "tcbDelays", unfollowed := true, recurses := true, apart := false, narrowed := true }
def TcbDelaysUptoSaid : Prop := tcbDelaysUptoRow.holds Tryz.pinned (OpenSpec.upto tcbDelaysSpec)

/-- 'stevedorelaw27.TcbOpens', WHERE WHAT IT READS IS OF BULK AT MOST 1048576: true; the input reads as it did. -/
def tcbOpensUptoRow : OpenClaim := { program := "ytkfnokgfgcfldaagreat", sum := "d96e2e60b7cf4e0d643d531a32ccd358488aac0b1e6f921810c9b14e06053f3e", func := "stevedore/stevedorelaw27.TcbOpens", spec := "tcbOpens", unfollowed := true, recurses := true, apart := false, narrowed := true }
def TcbOpensUptoSaid : Prop := tcbOpensUptoRow.holds Tryz.pinned (OpenSpec.upto tcbOpensSpec)

/-- 'stevedorelaw27.TcbResets', WHERE WHAT IT READS IS OF BULK AT MOST 1048576: true; the input reads as it did. -/
def tcbResetsUptoRow : OpenClaim := { program := "ytkfnokgfgcfldaagreat", sum := "d96e2e60b7cf4e0d643d531a32ccd358488aac0b1e6f921810c9b14e06053f3e", func := "stevedore/stevedorelaw27.TcbResets", spec := "tcbResets", unfollowed := true, recurses := true, apart := false, narrowed := true }
def TcbResetsUptoSaid : Prop := tcbResetsUptoRow.holds Tryz.pinned (OpenSpec.upto tcbResetsSpec)

/-- 'stevedorelaw27.TcbRetries', WHERE WHAT IT READS IS OF BULK AT MOST 1048576: true; the input reads as it did. -/
def tcbRetriesUptoRow : OpenClaim := { program := "ytkfnokgfgcfldaagreat", sum := "d96e2e60b7cf4e0d643d531a32ccd358488aac0b1e6f921810c9b14e06053f3e", func := "stevedore/stevedorelaw27.TcbRetries", spec := "tcbRetries", unfollowed := true, recurses := true, apart := false, narrowed := true }
def TcbRetriesUptoSaid : Prop := tcbRetriesUptoRow.holds Tryz.pinned (OpenSpec.upto tcbRetriesSpec)

/-- 'stevedorelaw27.TcbAny', WHERE WHAT IT READS IS OF BULK AT MOST 1048576: true; the input reads as it did. -/
def tcbAnyUptoRow : OpenClaim := { program := "ytkfnokgfgcfldaagreat", sum := "d96e2e60b7cf4e0d643d531a32ccd358488aac0b1e6f921810c9b14e06053f3e", func := "stevedore/stevedorelaw27.TcbAny", spec := "tcbAny", unfollowed := true, recurses := true, apart := false, narrowed := true }
def TcbAnyUptoSaid : Prop := tcbAnyUptoRow.holds Tryz.pinned (OpenSpec.upto tcbAnySpec)

/-- 'stevedorelaw27.TcbConfs', WHERE WHAT IT READS IS OF BULK AT MOST 1048576: true; the input reads as it did. -/
def tcbConfsUptoRow : OpenClaim := { program := "ytkfnokgfgcfldaagreat", sum := "d96e2e60b7cf4e0d643d531a32ccd358488aac0b1e6f921810c9b14e06053f3e", func := "stevedore/stevedorelaw27.TcbConfs", spec := "tcbConfs", unfollowed := true, recurses := true, apart := false, narrowed := true }
def TcbConfsUptoSaid : Prop := tcbConfsUptoRow.holds Tryz.pinned (OpenSpec.upto tcbConfsSpec)

end Rows
end Go.Proofs.YtkfnokgfgcfldaaGreat
