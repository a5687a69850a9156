/-
  No cell of these rows narrows 'for every input' (looked for: loops, veiled, ifaces, maps, wideKeys, modest, calm, conditions, laid).
  DERIVED. THE GIVEN ROWS OF THIS SEAT. 3 by the template 'for every input the law returns true; each argument reads behind the call as it read before'; 0 by the template 'total and deterministic' (their statements: YtkpkpnmkoejidaaTotals.lean).
  GIVEN WITH THE SEED: the statements are not yours to turn. If you find one false, say at which input.
  Laid BY PROGRAM, IN A SANDBOX (cutbox-rows.mjs): the forced cells as the released guide's own fill.sh prints them over the translation 22a02282c1131a0a… (all of the seat's roots in one cut). By AI agents, Wed Nov 11 2026. No macro, syntax, notation, axiom, sorry.
-/
import Derived.Test.YtkpkpnmkoejidaaChecked
import GoSem.Claim
import GoSem.ClaimJoined
import GoSem.ClaimMapViews
import Derived.JoinedTies
import Derived.KernelRfl
namespace Go.Proofs.Ytkpkpnmkoejidaa
/- THE CELL 'sum', in the pinned program and in every row, IS THE sha256 OF THE DUMP (.gsa) THAT YtkpkpnmkoejidaaProg.lean LOADS. Nothing in Lean hashes anything: it is a label: what it is worth is what the hold of that sum in a sandbox is worth. -/
noncomputable def Try.pinned : Pinned := { name := "ytkpkpnmkoejidaa", sum := "22a02282c1131a0aa3dd32468e38d89d54b09dfddcc1d4c30e3997f9aba05b8c", checked := Try.checked }
namespace Rows
def none {H : Type} : Left H := { results := [], args := [] }

/-- 'stevedorelaw09.NearAsks': WHATEVER THE INPUT: true; the input reads as it did. -/
def nearAsksSpec : ChangeSpec := { name := "nearAsks", fn := fun _ => fun
  | [d1, d2, d3] => { results := [.lit (.bool true)], args := [d1, d2, d3] }
  | _ => none }
def nearAsksRow : OpenClaim := { program := "ytkpkpnmkoejidaa", sum := "22a02282c1131a0aa3dd32468e38d89d54b09dfddcc1d4c30e3997f9aba05b8c", func := "stevedore/stevedorelaw09.NearAsks", spec := "nearAsks", unfollowed := true, recurses := true, apart := false }
def NearAsksSaid : Prop := nearAsksRow.holds Try.pinned (OpenSpec.ofChange nearAsksSpec)

/-- ITS FALSE NEIGHBOUR: 'it returns false'. Refute it at one input. -/
def nearAsksWrong : ChangeSpec := { name := "nearAsks", fn := fun _ => fun
  | [d1, d2, d3] => { results := [.lit (.bool false)], args := [d1, d2, d3] }
  | _ => none }
def NearAsksWrongFalsely : Prop := nearAsksRow.holds Try.pinned (OpenSpec.ofChange nearAsksWrong)

/-- 'stevedorelaw09.NearOnce': WHATEVER THE INPUT: true; the input reads as it did. -/
def nearOnceSpec : ChangeSpec := { name := "nearOnce", fn := fun _ => fun
  | [d1, d2] => { results := [.lit (.bool true)], args := [d1, d2] }
  | _ => none }
def nearOnceRow : OpenClaim := { program := "ytkpkpnmkoejidaa", sum := "22a02282c1131a0aa3dd32468e38d89d54b09dfddcc1d4c30e3997f9aba05b8c", func := "stevedore/stevedorelaw09.NearOnce", spec := "nearOnce", unfollowed := true, recurses := true, apart := false }
def NearOnceSaid : Prop := nearOnceRow.holds Try.pinned (OpenSpec.ofChange nearOnceSpec)

/-- ITS FALSE NEIGHBOUR: 'it returns false'. Refute it at one input. -/
def nearOnceWrong : ChangeSpec := { name := "nearOnce", fn := fun _ => fun
  | [d1, d2] => { results := [.lit (.bool false)], args := [d1, d2] }
  | _ => none }
def NearOnceWrongFalsely : Prop := nearOnceRow.holds Try.pinned (OpenSpec.ofChange nearOnceWrong)

/-- 'stevedorelaw09.NearNil': WHATEVER THE INPUT: true; the input reads as it did. -/
def nearNilSpec : ChangeSpec := { name := "nearNil", fn := fun _ => fun
  | [d1, d2] => { results := [.lit (.bool true)], args := [d1, d2] }
  | _ => none }
def nearNilRow : OpenClaim := { program := "ytkpkpnmkoejidaa", sum := "22a02282c1131a0aa3dd32468e38d89d54b09dfddcc1d4c30e3997f9aba05b8c", func := "stevedore/stevedorelaw09.NearNil", spec := "nearNil", unfollowed := true, recurses := true, apart := false }
def NearNilSaid : Prop := nearNilRow.holds Try.pinned (OpenSpec.ofChange nearNilSpec)

/-- ITS FALSE NEIGHBOUR: 'it returns false'. Refute it at one input. -/
def nearNilWrong : ChangeSpec := { name := "nearNil", fn := fun _ => fun
  | [d1, d2] => { results := [.lit (.bool false)], args := [d1, d2] }
  | _ => none }
def NearNilWrongFalsely : Prop := nearNilRow.holds Try.pinned (OpenSpec.ofChange nearNilWrong)

/- THE SECOND FORM. 'bulk': how many values and letters a reading holds, each counted each time it is reached (what is shared counts as often as it is met; a slice's spare places count too). A statement '..UptoSaid' is the law's where the arguments, and the package variables that the reading takes, are together of bulk at most 1048576: NARROWER than '..Said'. Prove '..Said' where nothing that the law and all that it calls make is longer than what came in: it says more and counts as full. Else prove '..UptoSaid'. A law counts once. -/
mutual
def uptoBulk {H : Type} : DataW H → Nat
  | .lit (.string bytes) => bytes.length + 1
  | .lit _ => 1
  | .nil => 1
  | .ptr d => uptoBulk d + 1
  | .slice elems spare => uptoBulkAll elems + uptoBulkAll spare + 1
  | .agg parts => uptoBulkAll parts + 1
  | .iface _ d => uptoBulk d + 1
  | .map entries => uptoBulkEntries entries + 1
  | .held _ => 1
def uptoBulkAll {H : Type} : List (DataW H) → Nat
  | [] => 0
  | d :: r => uptoBulk d + uptoBulkAll r
def uptoBulkEntries {H : Type} : List (Lit × DataW H) → Nat
  | [] => 0
  | x :: r => uptoBulkEntry x + uptoBulkEntries r
def uptoBulkEntry {H : Type} : Lit × DataW H → Nat
  | (.string bytes, d) => bytes.length + uptoBulk d + 1
  | (_, d) => uptoBulk d + 1
 end
def uptoSmall : (H : Type) → List (DataW H) → Bool := fun _ ds => decide (uptoBulkAll ds ≤ 1048576)
def OpenSpec.upto (s : _root_.Go.ChangeSpec) : _root_.Go.OpenSpec := { _root_.Go.OpenSpec.ofChange s with cond := some uptoSmall }

/-- 'stevedorelaw09.NearAsks', WHERE WHAT IT READS IS OF BULK AT MOST 1048576: true; the input reads as it did. -/
def nearAsksUptoRow : OpenClaim := { program := "ytkpkpnmkoejidaa", sum := "22a02282c1131a0aa3dd32468e38d89d54b09dfddcc1d4c30e3997f9aba05b8c", func := "stevedore/stevedorelaw09.NearAsks", spec := "nearAsks", unfollowed := true, recurses := true, apart := false, narrowed := true }
def NearAsksUptoSaid : Prop := nearAsksUptoRow.holds Try.pinned (OpenSpec.upto nearAsksSpec)

/-- 'stevedorelaw09.NearOnce', WHERE WHAT IT READS IS OF BULK AT MOST 1048576: true; the input reads as it did. -/
def nearOnceUptoRow : OpenClaim := { program := "ytkpkpnmkoejidaa", sum := "22a02282c1131a0aa3dd32468e38d89d54b09dfddcc1d4c30e3997f9aba05b8c", func := "stevedore/stevedorelaw09.NearOnce", spec := "nearOnce", unfollowed := true, recurses := true, apart := false, narrowed := true }
def NearOnceUptoSaid : Prop := nearOnceUptoRow.holds Try.pinned (OpenSpec.upto nearOnceSpec)

/-- 'stevedorelaw09.NearNil', WHERE WHAT IT READS IS OF BULK AT MOST 1048576: true; the input reads as it did. -/
def nearNilUptoRow : OpenClaim := { program := "ytkpkpnmkoejidaa", sum := "22a02282c1131a0aa3dd32468e38d89d54b09dfddcc1d4c30e3997f9aba05b8c", func := "stevedore/stevedorelaw09.NearNil", spec := "nearNil", unfollowed := true, recurses := true, apart := false, narrowed := true }
def NearNilUptoSaid : Prop := nearNilUptoRow.holds Try.pinned (OpenSpec.upto nearNilSpec)

end Rows
end Go.Proofs.Ytkpkpnmkoejidaa
