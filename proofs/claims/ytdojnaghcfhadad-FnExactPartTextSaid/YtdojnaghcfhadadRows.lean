/-
  No cell of these rows narrows 'for every input' (looked for: loops, veiled, ifaces, maps, wideKeys, modest, calm, conditions, laid).
  DERIVED. THE GIVEN ROWS OF THIS SEAT. 11 by the template 'for every input the law returns true; each argument reads behind the call as it read before'; 0 by the template 'total and deterministic' (their statements: YtdojnaghcfhadadTotals.lean).
  GIVEN WITH THE SEED: the statements are not yours to turn. If you find one false, say at which input.
  Laid BY PROGRAM, IN A SANDBOX (cutbox-rows.mjs): the forced cells as the released guide's own fill.sh prints them over the translation 8620cd8b15c74077… (all of the seat's roots in one cut). By AI agents, Wed Nov 11 2026. No macro, syntax, notation, axiom, sorry.
-/
import Derived.Test.YtdojnaghcfhadadChecked
import GoSem.Claim
import GoSem.ClaimJoined
import GoSem.ClaimMapViews
import Derived.JoinedTies
import Derived.KernelRfl
namespace Go.Proofs.Ytdojnaghcfhadad
/- THE CELL 'sum', in the pinned program and in every row, IS THE sha256 OF THE DUMP (.gsa) THAT YtdojnaghcfhadadProg.lean LOADS. Nothing in Lean hashes anything: it is a label: what it is worth is what the hold of that sum in a sandbox is worth. -/
noncomputable def Try.pinned : Pinned := { name := "ytdojnaghcfhadad", sum := "8620cd8b15c74077308dd56f07a755c77d45035ed971a13e663d347cd9e154fb", checked := Try.checked }
namespace Rows
def none {H : Type} : Left H := { results := [], args := [] }

/-- 'laws.FnExactMergeParts': WHATEVER THE INPUT: true; the input reads as it did. -/
def fnExactMergePartsSpec : ChangeSpec := { name := "fnExactMergeParts", fn := fun _ => fun
  | [d1, d2] => { results := [.lit (.bool true)], args := [d1, d2] }
  | _ => none }
def fnExactMergePartsRow : OpenClaim := { program := "ytdojnaghcfhadad", sum := "8620cd8b15c74077308dd56f07a755c77d45035ed971a13e663d347cd9e154fb", func := "loop.example/g01179/laws.FnExactMergeParts", spec := "fnExactMergeParts", unfollowed := true, recurses := true, apart := false }
def FnExactMergePartsSaid : Prop := fnExactMergePartsRow.holds Try.pinned (OpenSpec.ofChange fnExactMergePartsSpec)

/-- ITS FALSE NEIGHBOUR: 'it returns false'. Refute it at one input. -/
def fnExactMergePartsWrong : ChangeSpec := { name := "fnExactMergeParts", fn := fun _ => fun
  | [d1, d2] => { results := [.lit (.bool false)], args := [d1, d2] }
  | _ => none }
def FnExactMergePartsWrongFalsely : Prop := fnExactMergePartsRow.holds Try.pinned (OpenSpec.ofChange fnExactMergePartsWrong)

/-- 'laws.FnExactJoinRopes': WHATEVER THE INPUT: true; the input reads as it did. -/
def fnExactJoinRopesSpec : ChangeSpec := { name := "fnExactJoinRopes", fn := fun _ => fun
  | [d1, d2, d3] => { results := [.lit (.bool true)], args := [d1, d2, d3] }
  | _ => none }
def fnExactJoinRopesRow : OpenClaim := { program := "ytdojnaghcfhadad", sum := "8620cd8b15c74077308dd56f07a755c77d45035ed971a13e663d347cd9e154fb", func := "loop.example/g01179/laws.FnExactJoinRopes", spec := "fnExactJoinRopes", unfollowed := true, recurses := true, apart := false }
def FnExactJoinRopesSaid : Prop := fnExactJoinRopesRow.holds Try.pinned (OpenSpec.ofChange fnExactJoinRopesSpec)

/-- ITS FALSE NEIGHBOUR: 'it returns false'. Refute it at one input. -/
def fnExactJoinRopesWrong : ChangeSpec := { name := "fnExactJoinRopes", fn := fun _ => fun
  | [d1, d2, d3] => { results := [.lit (.bool false)], args := [d1, d2, d3] }
  | _ => none }
def FnExactJoinRopesWrongFalsely : Prop := fnExactJoinRopesRow.holds Try.pinned (OpenSpec.ofChange fnExactJoinRopesWrong)

/-- 'laws.FnExactSplitRope': WHATEVER THE INPUT: true; the input reads as it did. -/
def fnExactSplitRopeSpec : ChangeSpec := { name := "fnExactSplitRope", fn := fun _ => fun
  | [d1, d2, d3] => { results := [.lit (.bool true)], args := [d1, d2, d3] }
  | _ => none }
def fnExactSplitRopeRow : OpenClaim := { program := "ytdojnaghcfhadad", sum := "8620cd8b15c74077308dd56f07a755c77d45035ed971a13e663d347cd9e154fb", func := "loop.example/g01179/laws.FnExactSplitRope", spec := "fnExactSplitRope", unfollowed := true, recurses := true, apart := false }
def FnExactSplitRopeSaid : Prop := fnExactSplitRopeRow.holds Try.pinned (OpenSpec.ofChange fnExactSplitRopeSpec)

/-- ITS FALSE NEIGHBOUR: 'it returns false'. Refute it at one input. -/
def fnExactSplitRopeWrong : ChangeSpec := { name := "fnExactSplitRope", fn := fun _ => fun
  | [d1, d2, d3] => { results := [.lit (.bool false)], args := [d1, d2, d3] }
  | _ => none }
def FnExactSplitRopeWrongFalsely : Prop := fnExactSplitRopeRow.holds Try.pinned (OpenSpec.ofChange fnExactSplitRopeWrong)

/-- 'laws.FnExactPartText': WHATEVER THE INPUT: true; the input reads as it did. -/
def fnExactPartTextSpec : ChangeSpec := { name := "fnExactPartText", fn := fun _ => fun
  | [d1, d2, d3, d4] => { results := [.lit (.bool true)], args := [d1, d2, d3, d4] }
  | _ => none }
def fnExactPartTextRow : OpenClaim := { program := "ytdojnaghcfhadad", sum := "8620cd8b15c74077308dd56f07a755c77d45035ed971a13e663d347cd9e154fb", func := "loop.example/g01179/laws.FnExactPartText", spec := "fnExactPartText", unfollowed := true, recurses := true, apart := false }
def FnExactPartTextSaid : Prop := fnExactPartTextRow.holds Try.pinned (OpenSpec.ofChange fnExactPartTextSpec)

/-- ITS FALSE NEIGHBOUR: 'it returns false'. Refute it at one input. -/
def fnExactPartTextWrong : ChangeSpec := { name := "fnExactPartText", fn := fun _ => fun
  | [d1, d2, d3, d4] => { results := [.lit (.bool false)], args := [d1, d2, d3, d4] }
  | _ => none }
def FnExactPartTextWrongFalsely : Prop := fnExactPartTextRow.holds Try.pinned (OpenSpec.ofChange fnExactPartTextWrong)

/-- 'laws.FnExactBestOrder': WHATEVER THE INPUT: true; the input reads as it did. -/
def fnExactBestOrderSpec : ChangeSpec := { name := "fnExactBestOrder", fn := fun _ => fun
  | [d1, d2] => { results := [.lit (.bool true)], args := [d1, d2] }
  | _ => none }
def fnExactBestOrderRow : OpenClaim := { program := "ytdojnaghcfhadad", sum := "8620cd8b15c74077308dd56f07a755c77d45035ed971a13e663d347cd9e154fb", func := "loop.example/g01179/laws.FnExactBestOrder", spec := "fnExactBestOrder", unfollowed := true, recurses := true, apart := false }
def FnExactBestOrderSaid : Prop := fnExactBestOrderRow.holds Try.pinned (OpenSpec.ofChange fnExactBestOrderSpec)

/-- ITS FALSE NEIGHBOUR: 'it returns false'. Refute it at one input. -/
def fnExactBestOrderWrong : ChangeSpec := { name := "fnExactBestOrder", fn := fun _ => fun
  | [d1, d2] => { results := [.lit (.bool false)], args := [d1, d2] }
  | _ => none }
def FnExactBestOrderWrongFalsely : Prop := fnExactBestOrderRow.holds Try.pinned (OpenSpec.ofChange fnExactBestOrderWrong)

/-- 'laws.FnExactKeyAt': WHATEVER THE INPUT: true; the input reads as it did. -/
def fnExactKeyAtSpec : ChangeSpec := { name := "fnExactKeyAt", fn := fun _ => fun
  | [d1, d2, d3] => { results := [.lit (.bool true)], args := [d1, d2, d3] }
  | _ => none }
def fnExactKeyAtRow : OpenClaim := { program := "ytdojnaghcfhadad", sum := "8620cd8b15c74077308dd56f07a755c77d45035ed971a13e663d347cd9e154fb", func := "loop.example/g01179/laws.FnExactKeyAt", spec := "fnExactKeyAt", unfollowed := true, recurses := true, apart := false }
def FnExactKeyAtSaid : Prop := fnExactKeyAtRow.holds Try.pinned (OpenSpec.ofChange fnExactKeyAtSpec)

/-- ITS FALSE NEIGHBOUR: 'it returns false'. Refute it at one input. -/
def fnExactKeyAtWrong : ChangeSpec := { name := "fnExactKeyAt", fn := fun _ => fun
  | [d1, d2, d3] => { results := [.lit (.bool false)], args := [d1, d2, d3] }
  | _ => none }
def FnExactKeyAtWrongFalsely : Prop := fnExactKeyAtRow.holds Try.pinned (OpenSpec.ofChange fnExactKeyAtWrong)

/-- 'laws.FnExactIsTable': WHATEVER THE INPUT: true; the input reads as it did. -/
def fnExactIsTableSpec : ChangeSpec := { name := "fnExactIsTable", fn := fun _ => fun
  | [d1, d2] => { results := [.lit (.bool true)], args := [d1, d2] }
  | _ => none }
def fnExactIsTableRow : OpenClaim := { program := "ytdojnaghcfhadad", sum := "8620cd8b15c74077308dd56f07a755c77d45035ed971a13e663d347cd9e154fb", func := "loop.example/g01179/laws.FnExactIsTable", spec := "fnExactIsTable", inPlace := ["internal/bytealg.Compare"], unfollowed := true, recurses := true, apart := false }
def FnExactIsTableSaid : Prop := fnExactIsTableRow.holds Try.pinned (OpenSpec.ofChange fnExactIsTableSpec)

/-- ITS FALSE NEIGHBOUR: 'it returns false'. Refute it at one input. -/
def fnExactIsTableWrong : ChangeSpec := { name := "fnExactIsTable", fn := fun _ => fun
  | [d1, d2] => { results := [.lit (.bool false)], args := [d1, d2] }
  | _ => none }
def FnExactIsTableWrongFalsely : Prop := fnExactIsTableRow.holds Try.pinned (OpenSpec.ofChange fnExactIsTableWrong)

/-- 'laws.FnExactFindEntry': WHATEVER THE INPUT: true; the input reads as it did. -/
def fnExactFindEntrySpec : ChangeSpec := { name := "fnExactFindEntry", fn := fun _ => fun
  | [d1, d2, d3] => { results := [.lit (.bool true)], args := [d1, d2, d3] }
  | _ => none }
def fnExactFindEntryRow : OpenClaim := { program := "ytdojnaghcfhadad", sum := "8620cd8b15c74077308dd56f07a755c77d45035ed971a13e663d347cd9e154fb", func := "loop.example/g01179/laws.FnExactFindEntry", spec := "fnExactFindEntry", inPlace := ["internal/bytealg.Compare"], unfollowed := true, recurses := true, apart := false }
def FnExactFindEntrySaid : Prop := fnExactFindEntryRow.holds Try.pinned (OpenSpec.ofChange fnExactFindEntrySpec)

/-- ITS FALSE NEIGHBOUR: 'it returns false'. Refute it at one input. -/
def fnExactFindEntryWrong : ChangeSpec := { name := "fnExactFindEntry", fn := fun _ => fun
  | [d1, d2, d3] => { results := [.lit (.bool false)], args := [d1, d2, d3] }
  | _ => none }
def FnExactFindEntryWrongFalsely : Prop := fnExactFindEntryRow.holds Try.pinned (OpenSpec.ofChange fnExactFindEntryWrong)

/-- 'laws.FnExactEntriesBetween': WHATEVER THE INPUT: true; the input reads as it did. -/
def fnExactEntriesBetweenSpec : ChangeSpec := { name := "fnExactEntriesBetween", fn := fun _ => fun
  | [d1, d2, d3, d4] => { results := [.lit (.bool true)], args := [d1, d2, d3, d4] }
  | _ => none }
def fnExactEntriesBetweenRow : OpenClaim := { program := "ytdojnaghcfhadad", sum := "8620cd8b15c74077308dd56f07a755c77d45035ed971a13e663d347cd9e154fb", func := "loop.example/g01179/laws.FnExactEntriesBetween", spec := "fnExactEntriesBetween", inPlace := ["internal/bytealg.Compare"], unfollowed := true, recurses := true, apart := false }
def FnExactEntriesBetweenSaid : Prop := fnExactEntriesBetweenRow.holds Try.pinned (OpenSpec.ofChange fnExactEntriesBetweenSpec)

/-- ITS FALSE NEIGHBOUR: 'it returns false'. Refute it at one input. -/
def fnExactEntriesBetweenWrong : ChangeSpec := { name := "fnExactEntriesBetween", fn := fun _ => fun
  | [d1, d2, d3, d4] => { results := [.lit (.bool false)], args := [d1, d2, d3, d4] }
  | _ => none }
def FnExactEntriesBetweenWrongFalsely : Prop := fnExactEntriesBetweenRow.holds Try.pinned (OpenSpec.ofChange fnExactEntriesBetweenWrong)

/-- 'laws.FnExactDropEntry': WHATEVER THE INPUT: true; the input reads as it did. -/
def fnExactDropEntrySpec : ChangeSpec := { name := "fnExactDropEntry", fn := fun _ => fun
  | [d1, d2, d3] => { results := [.lit (.bool true)], args := [d1, d2, d3] }
  | _ => none }
def fnExactDropEntryRow : OpenClaim := { program := "ytdojnaghcfhadad", sum := "8620cd8b15c74077308dd56f07a755c77d45035ed971a13e663d347cd9e154fb", func := "loop.example/g01179/laws.FnExactDropEntry", spec := "fnExactDropEntry", inPlace := ["internal/bytealg.Compare"], unfollowed := true, recurses := true, apart := false }
def FnExactDropEntrySaid : Prop := fnExactDropEntryRow.holds Try.pinned (OpenSpec.ofChange fnExactDropEntrySpec)

/-- ITS FALSE NEIGHBOUR: 'it returns false'. Refute it at one input. -/
def fnExactDropEntryWrong : ChangeSpec := { name := "fnExactDropEntry", fn := fun _ => fun
  | [d1, d2, d3] => { results := [.lit (.bool false)], args := [d1, d2, d3] }
  | _ => none }
def FnExactDropEntryWrongFalsely : Prop := fnExactDropEntryRow.holds Try.pinned (OpenSpec.ofChange fnExactDropEntryWrong)

/-- 'laws.FnKeys': WHATEVER THE INPUT: true; the input reads as it did. -/
def fnKeysSpec : ChangeSpec := { name := "fnKeys", fn := fun _ => fun
  | [d] => { results := [.lit (.bool true)], args := [d] }
  | _ => none }
def fnKeysRow : OpenClaim := { program := "ytdojnaghcfhadad", sum := "8620cd8b15c74077308dd56f07a755c77d45035ed971a13e663d347cd9e154fb", func := "loop.example/g01179/laws.FnKeys", spec := "fnKeys", inPlace := ["internal/bytealg.Compare"], unfollowed := true, recurses := true, apart := false }
def FnKeysSaid : Prop := fnKeysRow.holds Try.pinned (OpenSpec.ofChange fnKeysSpec)

/-- ITS FALSE NEIGHBOUR: 'it returns false'. Refute it at one input. -/
def fnKeysWrong : ChangeSpec := { name := "fnKeys", fn := fun _ => fun
  | [d] => { results := [.lit (.bool false)], args := [d] }
  | _ => none }
def FnKeysWrongFalsely : Prop := fnKeysRow.holds Try.pinned (OpenSpec.ofChange fnKeysWrong)

/- THE SECOND FORM. 'bulk': how many values and letters a reading holds, each counted each time it is reached (what is shared counts as often as it is met; a slice's spare places count too). A statement '..UptoSaid' is the law's where the arguments, and the package variables that the reading takes, are together of bulk at most 1048576: NARROWER than '..Said'. Prove '..Said' where nothing that the law and all that it calls make is longer than what came in: it says more and counts as full. Else prove '..UptoSaid'. A law counts once. -/
mutual
def uptoBulk {H : Type} : DataW H → Nat
  | .lit (.string bytes) => bytes.length + 1
  | .lit _ => 1
  | .nil => 1
  | .ptr d => uptoBulk d + 1
  | .slice elems spare => uptoBulkAll elems + uptoBulkAll spare + 1
  | .agg parts => uptoBulkAll parts + 1
  | .iface _ d => uptoBulk d + 1
  | .map entries => uptoBulkEntries entries + 1
  | .held _ => 1
def uptoBulkAll {H : Type} : List (DataW H) → Nat
  | [] => 0
  | d :: r => uptoBulk d + uptoBulkAll r
def uptoBulkEntries {H : Type} : List (Lit × DataW H) → Nat
  | [] => 0
  | x :: r => uptoBulkEntry x + uptoBulkEntries r
def uptoBulkEntry {H : Type} : Lit × DataW H → Nat
  | (.string bytes, d) => bytes.length + uptoBulk d + 1
  | (_, d) => uptoBulk d + 1
 end
def uptoSmall : (H : Type) → List (DataW H) → Bool := fun _ ds => decide (uptoBulkAll ds ≤ 1048576)
def OpenSpec.upto (s : _root_.Go.ChangeSpec) : _root_.Go.OpenSpec := { _root_.Go.OpenSpec.ofChange s with cond := some uptoSmall }

/-- 'laws.FnExactMergeParts', WHERE WHAT IT READS IS OF BULK AT MOST 1048576: true; the input reads as it did. -/
def fnExactMergePartsUptoRow : OpenClaim := { program := "ytdojnaghcfhadad", sum := "8620cd8b15c74077308dd56f07a755c77d45035ed971a13e663d347cd9e154fb", func := "loop.example/g01179/laws.FnExactMergeParts", spec := "fnExactMergeParts", unfollowed := true, recurses := true, apart := false, narrowed := true }
def FnExactMergePartsUptoSaid : Prop := fnExactMergePartsUptoRow.holds Try.pinned (OpenSpec.upto fnExactMergePartsSpec)

/-- 'laws.FnExactJoinRopes', WHERE WHAT IT READS IS OF BULK AT MOST 1048576: true; the input reads as it did. -/
def fnExactJoinRopesUptoRow : OpenClaim := { program := "ytdojnaghcfhadad", sum := "8620cd8b15c74077308dd56f07a755c77d45035ed971a13e663d347cd9e154fb", func := "loop.example/g01179/laws.FnExactJoinRopes", spec := "fnExactJoinRopes", unfollowed := true, recurses := true, apart := false, narrowed := true }
def FnExactJoinRopesUptoSaid : Prop := fnExactJoinRopesUptoRow.holds Try.pinned (OpenSpec.upto fnExactJoinRopesSpec)

/-- 'laws.FnExactSplitRope', WHERE WHAT IT READS IS OF BULK AT MOST 1048576: true; the input reads as it did. -/
def fnExactSplitRopeUptoRow : OpenClaim := { program := "ytdojnaghcfhadad", sum := "8620cd8b15c74077308dd56f07a755c77d45035ed971a13e663d347cd9e154fb", func := "loop.example/g01179/laws.FnExactSplitRope", spec := "fnExactSplitRope", unfollowed := true, recurses := true, apart := false, narrowed := true }
def FnExactSplitRopeUptoSaid : Prop := fnExactSplitRopeUptoRow.holds Try.pinned (OpenSpec.upto fnExactSplitRopeSpec)

/-- 'laws.FnExactPartText', WHERE WHAT IT READS IS OF BULK AT MOST 1048576: true; the input reads as it did. -/
def fnExactPartTextUptoRow : OpenClaim := { program := "ytdojnaghcfhadad", sum := "8620cd8b15c74077308dd56f07a755c77d45035ed971a13e663d347cd9e154fb", func := "loop.example/g01179/laws.FnExactPartText", spec := "fnExactPartText", unfollowed := true, recurses := true, apart := false, narrowed := true }
def FnExactPartTextUptoSaid : Prop := fnExactPartTextUptoRow.holds Try.pinned (OpenSpec.upto fnExactPartTextSpec)

/-- 'laws.FnExactBestOrder', WHERE WHAT IT READS IS OF BULK AT MOST 1048576: true; the input reads as it did. -/
def fnExactBestOrderUptoRow : OpenClaim := { program := "ytdojnaghcfhadad", sum := "8620cd8b15c74077308dd56f07a755c77d45035ed971a13e663d347cd9e154fb", func := "loop.example/g01179/laws.FnExactBestOrder", spec := "fnExactBestOrder", unfollowed := true, recurses := true, apart := false, narrowed := true }
def FnExactBestOrderUptoSaid : Prop := fnExactBestOrderUptoRow.holds Try.pinned (OpenSpec.upto fnExactBestOrderSpec)

/-- 'laws.FnExactKeyAt', WHERE WHAT IT READS IS OF BULK AT MOST 1048576: true; the input reads as it did. -/
def fnExactKeyAtUptoRow : OpenClaim := { program := "ytdojnaghcfhadad", sum := "8620cd8b15c74077308dd56f07a755c77d45035ed971a13e663d347cd9e154fb", func := "loop.example/g01179/laws.FnExactKeyAt", spec := "fnExactKeyAt", unfollowed := true, recurses := true, apart := false, narrowed := true }
def FnExactKeyAtUptoSaid : Prop := fnExactKeyAtUptoRow.holds Try.pinned (OpenSpec.upto fnExactKeyAtSpec)

/-- 'laws.FnExactIsTable', WHERE WHAT IT READS IS OF BULK AT MOST 1048576: true; the input reads as it did. -/
def fnExactIsTableUptoRow : OpenClaim := { program := "ytdojnaghcfhadad", sum := "8620cd8b15c74077308dd56f07a755c77d45035ed971a13e663d347cd9e154fb", func := "loop.example/g01179/laws.FnExactIsTable", spec := "fnExactIsTable", inPlace := ["internal/bytealg.Compare"], unfollowed := true, recurses := true, apart := false, narrowed := true }
def FnExactIsTableUptoSaid : Prop := fnExactIsTableUptoRow.holds Try.pinned (OpenSpec.upto fnExactIsTableSpec)

/-- 'laws.FnExactFindEntry', WHERE WHAT IT READS IS OF BULK AT MOST 1048576: true; the input reads as it did. -/
def fnExactFindEntryUptoRow : OpenClaim := { program := "ytdojnaghcfhadad", sum := "8620cd8b15c74077308dd56f07a755c77d45035ed971a13e663d347cd9e154fb", func := "loop.example/g01179/laws.FnExactFindEntry", spec := "fnExactFindEntry", inPlace := ["internal/bytealg.Compare"], unfollowed := true, recurses := true, apart := false, narrowed := true }
def FnExactFindEntryUptoSaid : Prop := fnExactFindEntryUptoRow.holds Try.pinned (OpenSpec.upto fnExactFindEntrySpec)

/-- 'laws.FnExactEntriesBetween', WHERE WHAT IT READS IS OF BULK AT MOST 1048576: true; the input reads as it did. -/
def fnExactEntriesBetweenUptoRow : OpenClaim := { program := "ytdojnaghcfhadad", sum := "8620cd8b15c74077308dd56f07a755c77d45035ed971a13e663d347cd9e154fb", func := "loop.example/g01179/laws.FnExactEntriesBetween", spec := "fnExactEntriesBetween", inPlace := ["internal/bytealg.Compare"], unfollowed := true, recurses := true, apart := false, narrowed := true }
def FnExactEntriesBetweenUptoSaid : Prop := fnExactEntriesBetweenUptoRow.holds Try.pinned (OpenSpec.upto fnExactEntriesBetweenSpec)

/-- 'laws.FnExactDropEntry', WHERE WHAT IT READS IS OF BULK AT MOST 1048576: true; the input reads as it did. -/
def fnExactDropEntryUptoRow : OpenClaim := { program := "ytdojnaghcfhadad", sum := "8620cd8b15c74077308dd56f07a755c77d45035ed971a13e663d347cd9e154fb", func := "loop.example/g01179/laws.FnExactDropEntry", spec := "fnExactDropEntry", inPlace := ["internal/bytealg.Compare"], unfollowed := true, recurses := true, apart := false, narrowed := true }
def FnExactDropEntryUptoSaid : Prop := fnExactDropEntryUptoRow.holds Try.pinned (OpenSpec.upto fnExactDropEntrySpec)

/-- 'laws.FnKeys', WHERE WHAT IT READS IS OF BULK AT MOST 1048576: true; the input reads as it did. -/
def fnKeysUptoRow : OpenClaim := { program := "ytdojnaghcfhadad", sum := "8620cd8b15c74077308dd56f07a755c77d45035ed971a13e663d347cd9e154fb", func := "loop.example/g01179/laws.FnKeys", spec := "fnKeys", inPlace := ["internal/bytealg.Compare"], unfollowed := true, recurses := true, apart := false, narrowed := true }
def FnKeysUptoSaid : Prop := fnKeysUptoRow.holds Try.pinned (OpenSpec.upto fnKeysSpec)

end Rows
end Go.Proofs.Ytdojnaghcfhadad
