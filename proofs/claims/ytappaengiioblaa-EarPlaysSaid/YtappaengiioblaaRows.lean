/-
  No cell of these rows narrows 'for every input' (looked for: loops, veiled, ifaces, maps, wideKeys, modest, calm, conditions, laid).
  DERIVED. THE GIVEN ROWS OF THIS SEAT. 6 by the template 'for every input the law returns true; each argument reads behind the call as it read before'; 0 by the template 'total and deterministic' (their statements: YtappaengiioblaaTotals.lean).
  GIVEN WITH THE SEED: the statements are not yours to turn. If you find one false, say at which input.
  Laid BY PROGRAM, IN A SANDBOX (cutbox-rows.mjs): the forced cells as the released guide's own fill.sh prints them over the translation cb0ab25b3ae7ac87… (all of the seat's roots in one cut). By AI agents, Wed Nov 11 2026. No macro, syntax, notation, axiom, sorry.
-/
import Derived.Test.YtappaengiioblaaChecked
import GoSem.Claim
import GoSem.ClaimJoined
import GoSem.ClaimMapViews
import Derived.JoinedTies
import Derived.KernelRfl
namespace Go.Proofs.Ytappaengiioblaa
/- THE CELL 'sum', in the pinned program and in every row, IS THE sha256 OF THE DUMP (.gsa) THAT YtappaengiioblaaProg.lean LOADS. Nothing in Lean hashes anything: it is a label: what it is worth is what the hold of that sum in a sandbox is worth. -/
noncomputable def Try.pinned : Pinned := { name := "ytappaengiioblaa", sum := "cb0ab25b3ae7ac878fbbde8030614aa8d0396ff231a7cd8bb78c72d908fc594d", checked := Try.checked }
namespace Rows
def none {H : Type} : Left H := { results := [], args := [] }

/-- 'stevedorelaw28.EarOnce': WHATEVER THE INPUT: true; the input reads as it did. -/
def earOnceSpec : ChangeSpec := { name := "earOnce", fn := fun _ => fun
  | [d1, d2] => { results := [.lit (.bool true)], args := [d1, d2] }
  | _ => none }
def earOnceRow : OpenClaim := { program := "ytappaengiioblaa", sum := "cb0ab25b3ae7ac878fbbde8030614aa8d0396ff231a7cd8bb78c72d908fc594d", func := "stevedore/stevedorelaw28.EarOnce", spec := "earOnce", unfollowed := true, recurses := true, plainKeys := false, apart := false }
def EarOnceSaid : Prop := earOnceRow.holds Try.pinned (OpenSpec.ofChange earOnceSpec)

/-- ITS FALSE NEIGHBOUR: 'it returns false'. Refute it at one input. -/
def earOnceWrong : ChangeSpec := { name := "earOnce", fn := fun _ => fun
  | [d1, d2] => { results := [.lit (.bool false)], args := [d1, d2] }
  | _ => none }
def EarOnceWrongFalsely : Prop := earOnceRow.holds Try.pinned (OpenSpec.ofChange earOnceWrong)

/-- 'stevedorelaw28.BitsRise': WHATEVER THE INPUT: true; the input reads as it did. -/
def bitsRiseSpec : ChangeSpec := { name := "bitsRise", fn := fun _ => fun
  | [d] => { results := [.lit (.bool true)], args := [d] }
  | _ => none }
def bitsRiseRow : OpenClaim := { program := "ytappaengiioblaa", sum := "cb0ab25b3ae7ac878fbbde8030614aa8d0396ff231a7cd8bb78c72d908fc594d", func := "stevedore/stevedorelaw28.BitsRise", spec := "bitsRise", unfollowed := true, recurses := true, plainKeys := false, apart := false }
def BitsRiseSaid : Prop := bitsRiseRow.holds Try.pinned (OpenSpec.ofChange bitsRiseSpec)

/-- ITS FALSE NEIGHBOUR: 'it returns false'. Refute it at one input. -/
def bitsRiseWrong : ChangeSpec := { name := "bitsRise", fn := fun _ => fun
  | [d] => { results := [.lit (.bool false)], args := [d] }
  | _ => none }
def BitsRiseWrongFalsely : Prop := bitsRiseRow.holds Try.pinned (OpenSpec.ofChange bitsRiseWrong)

/-- 'stevedorelaw28.BoxOrder': WHATEVER THE INPUT: true; the input reads as it did. -/
def boxOrderSpec : ChangeSpec := { name := "boxOrder", fn := fun _ => fun
  | [d1, d2, d3] => { results := [.lit (.bool true)], args := [d1, d2, d3] }
  | _ => none }
def boxOrderRow : OpenClaim := { program := "ytappaengiioblaa", sum := "cb0ab25b3ae7ac878fbbde8030614aa8d0396ff231a7cd8bb78c72d908fc594d", func := "stevedore/stevedorelaw28.BoxOrder", spec := "boxOrder", unfollowed := true, recurses := true, plainKeys := false, apart := false }
def BoxOrderSaid : Prop := boxOrderRow.holds Try.pinned (OpenSpec.ofChange boxOrderSpec)

/-- ITS FALSE NEIGHBOUR: 'it returns false'. Refute it at one input. -/
def boxOrderWrong : ChangeSpec := { name := "boxOrder", fn := fun _ => fun
  | [d1, d2, d3] => { results := [.lit (.bool false)], args := [d1, d2, d3] }
  | _ => none }
def BoxOrderWrongFalsely : Prop := boxOrderRow.holds Try.pinned (OpenSpec.ofChange boxOrderWrong)

/-- 'stevedorelaw28.BoxPlays': WHATEVER THE INPUT: true; the input reads as it did. -/
def boxPlaysSpec : ChangeSpec := { name := "boxPlays", fn := fun _ => fun
  | [d1, d2, d3] => { results := [.lit (.bool true)], args := [d1, d2, d3] }
  | _ => none }
def boxPlaysRow : OpenClaim := { program := "ytappaengiioblaa", sum := "cb0ab25b3ae7ac878fbbde8030614aa8d0396ff231a7cd8bb78c72d908fc594d", func := "stevedore/stevedorelaw28.BoxPlays", spec := "boxPlays", unfollowed := true, recurses := true, plainKeys := false, apart := false }
def BoxPlaysSaid : Prop := boxPlaysRow.holds Try.pinned (OpenSpec.ofChange boxPlaysSpec)

/-- ITS FALSE NEIGHBOUR: 'it returns false'. Refute it at one input. -/
def boxPlaysWrong : ChangeSpec := { name := "boxPlays", fn := fun _ => fun
  | [d1, d2, d3] => { results := [.lit (.bool false)], args := [d1, d2, d3] }
  | _ => none }
def BoxPlaysWrongFalsely : Prop := boxPlaysRow.holds Try.pinned (OpenSpec.ofChange boxPlaysWrong)

/-- 'stevedorelaw28.EarPlays': WHATEVER THE INPUT: true; the input reads as it did. -/
def earPlaysSpec : ChangeSpec := { name := "earPlays", fn := fun _ => fun
  | [d1, d2] => { results := [.lit (.bool true)], args := [d1, d2] }
  | _ => none }
def earPlaysRow : OpenClaim := { program := "ytappaengiioblaa", sum := "cb0ab25b3ae7ac878fbbde8030614aa8d0396ff231a7cd8bb78c72d908fc594d", func := "stevedore/stevedorelaw28.EarPlays", spec := "earPlays", unfollowed := true, recurses := true, plainKeys := false, apart := false }
def EarPlaysSaid : Prop := earPlaysRow.holds Try.pinned (OpenSpec.ofChange earPlaysSpec)

/-- ITS FALSE NEIGHBOUR: 'it returns false'. Refute it at one input. -/
def earPlaysWrong : ChangeSpec := { name := "earPlays", fn := fun _ => fun
  | [d1, d2] => { results := [.lit (.bool false)], args := [d1, d2] }
  | _ => none }
def EarPlaysWrongFalsely : Prop := earPlaysRow.holds Try.pinned (OpenSpec.ofChange earPlaysWrong)

/-- 'stevedorelaw28.InetNone': WHATEVER THE INPUT: true; the input reads as it did. -/
def inetNoneSpec : ChangeSpec := { name := "inetNone", fn := fun _ => fun
  | [d1, d2] => { results := [.lit (.bool true)], args := [d1, d2] }
  | _ => none }
def inetNoneRow : OpenClaim := { program := "ytappaengiioblaa", sum := "cb0ab25b3ae7ac878fbbde8030614aa8d0396ff231a7cd8bb78c72d908fc594d", func := "stevedore/stevedorelaw28.InetNone", spec := "inetNone", unfollowed := true, recurses := true, plainKeys := false, apart := false }
def InetNoneSaid : Prop := inetNoneRow.holds Try.pinned (OpenSpec.ofChange inetNoneSpec)

/-- ITS FALSE NEIGHBOUR: 'it returns false'. Refute it at one input. -/
def inetNoneWrong : ChangeSpec := { name := "inetNone", fn := fun _ => fun
  | [d1, d2] => { results := [.lit (.bool false)], args := [d1, d2] }
  | _ => none }
def InetNoneWrongFalsely : Prop := inetNoneRow.holds Try.pinned (OpenSpec.ofChange inetNoneWrong)

/- THE SECOND FORM. 'bulk': how many values and letters a reading holds, each counted each time it is reached (what is shared counts as often as it is met; a slice's spare places count too). A statement '..UptoSaid' is the law's where the arguments, and the package variables that the reading takes, are together of bulk at most 1048576: NARROWER than '..Said'. Prove '..Said' where nothing that the law and all that it calls make is longer than what came in: it says more and counts as full. Else prove '..UptoSaid'. A law counts once. -/
mutual
def uptoBulk {H : Type} : DataW H → Nat
  | .lit (.string bytes) => bytes.length + 1
  | .lit _ => 1
  | .nil => 1
  | .ptr d => uptoBulk d + 1
  | .slice elems spare => uptoBulkAll elems + uptoBulkAll spare + 1
  | .agg parts => uptoBulkAll parts + 1
  | .iface _ d => uptoBulk d + 1
  | .map entries => uptoBulkEntries entries + 1
  | .held _ => 1
def uptoBulkAll {H : Type} : List (DataW H) → Nat
  | [] => 0
  | d :: r => uptoBulk d + uptoBulkAll r
def uptoBulkEntries {H : Type} : List (Lit × DataW H) → Nat
  | [] => 0
  | x :: r => uptoBulkEntry x + uptoBulkEntries r
def uptoBulkEntry {H : Type} : Lit × DataW H → Nat
  | (.string bytes, d) => bytes.length + uptoBulk d + 1
  | (_, d) => uptoBulk d + 1
 end
def uptoSmall : (H : Type) → List (DataW H) → Bool := fun _ ds => decide (uptoBulkAll ds ≤ 1048576)
def OpenSpec.upto (s : _root_.Go.ChangeSpec) : _root_.Go.OpenSpec := { _root_.Go.OpenSpec.ofChange s with cond := some uptoSmall }

/-- 'stevedorelaw28.EarOnce', WHERE WHAT IT READS IS OF BULK AT MOST 1048576: true; the input reads as it did. -/
def earOnceUptoRow : OpenClaim := { program := "ytappaengiioblaa", sum := "cb0ab25b3ae7ac878fbbde8030614aa8d0396ff231a7cd8bb78c72d908fc594d", func := "stevedore/stevedorelaw28.EarOnce", spec := "earOnce", unfollowed := true, recurses := true, plainKeys := false, apart := false, narrowed := true }
def EarOnceUptoSaid : Prop := earOnceUptoRow.holds Try.pinned (OpenSpec.upto earOnceSpec)

/-- 'stevedorelaw28.BitsRise', WHERE WHAT IT READS IS OF BULK AT MOST 1048576: true; the input reads as it did. -/
def bitsRiseUptoRow : OpenClaim := { program := "ytappaengiioblaa", sum := "cb0ab25b3ae7ac878fbbde8030614aa8d0396ff231a7cd8bb78c72d908fc594d", func := "stevedore/stevedorelaw28.BitsRise", spec := "bitsRise", unfollowed := true, recurses := true, plainKeys := false, apart := false, narrowed := true }
def BitsRiseUptoSaid : Prop := bitsRiseUptoRow.holds Try.pinned (OpenSpec.upto bitsRiseSpec)

/-- 'stevedorelaw28.BoxOrder', WHERE WHAT IT READS IS OF BULK AT MOST 1048576: true; the input reads as it did. -/
def boxOrderUptoRow : OpenClaim := { program := "ytappaengiioblaa", sum := "cb0ab25b3ae7ac878fbbde8030614aa8d0396ff231a7cd8bb78c72d908fc594d", func := "stevedore/stevedorelaw28.BoxOrder", spec := "boxOrder", unfollowed := true, recurses := true, plainKeys := false, apart := false, narrowed := true }
def BoxOrderUptoSaid : Prop := boxOrderUptoRow.holds Try.pinned (OpenSpec.upto boxOrderSpec)

/-- 'stevedorelaw28.BoxPlays', WHERE WHAT IT READS IS OF BULK AT MOST 1048576: true; the input reads as it did. -/
def boxPlaysUptoRow : OpenClaim := { program := "ytappaengiioblaa", sum := "cb0ab25b3ae7ac878fbbde8030614aa8d0396ff231a7cd8bb78c72d908fc594d", func := "stevedore/stevedorelaw28.BoxPlays", spec := "boxPlays", unfollowed := true, recurses := true, plainKeys := false, apart := false, narrowed := true }
def BoxPlaysUptoSaid : Prop := boxPlaysUptoRow.holds Try.pinned (OpenSpec.upto boxPlaysSpec)

/-- 'stevedorelaw28.EarPlays', WHERE WHAT IT READS IS OF BULK AT MOST 1048576: true; the input reads as it did. -/
def earPlaysUptoRow : OpenClaim := { program := "ytappaengiioblaa", sum := "cb0ab25b3ae7ac878fbbde8030614aa8d0396ff231a7cd8bb78c72d908fc594d", func := "stevedore/stevedorelaw28.EarPlays", spec := "earPlays", unfollowed := true, recurses := true, plainKeys := false, apart := false, narrowed := true }
def EarPlaysUptoSaid : Prop := earPlaysUptoRow.holds Try.pinned (OpenSpec.upto earPlaysSpec)

/-- 'stevedorelaw28.InetNone', WHERE WHAT IT READS IS OF BULK AT MOST 1048576: true; the input reads as it did. -/
def inetNoneUptoRow : OpenClaim := { program := "ytappaengiioblaa", sum := "cb0ab25b3ae7ac878fbbde8030614aa8d0396ff231a7cd8bb78c72d908fc594d", func := "stevedore/stevedorelaw28.InetNone", spec := "inetNone", unfollowed := true, recurses := true, plainKeys := false, apart := false, narrowed := true }
def InetNoneUptoSaid : Prop := inetNoneUptoRow.holds Try.pinned (OpenSpec.upto inetNoneSpec)

end Rows
end Go.Proofs.Ytappaengiioblaa
