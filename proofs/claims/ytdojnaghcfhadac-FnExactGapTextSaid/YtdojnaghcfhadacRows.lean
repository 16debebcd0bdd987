/-
  No cell of these rows narrows 'for every input' (looked for: loops, veiled, ifaces, maps, wideKeys, modest, calm, conditions, laid).
  DERIVED. THE GIVEN ROWS OF THIS SEAT. 11 by the template 'for every input the law returns true; each argument reads behind the call as it read before'; 0 by the template 'total and deterministic' (their statements: YtdojnaghcfhadacTotals.lean).
  GIVEN WITH THE SEED: the statements are not yours to turn. If you find one false, say at which input.
  Laid BY PROGRAM, IN A SANDBOX (cutbox-rows.mjs): the forced cells as the released guide's own fill.sh prints them over the translation c2ffab22a1faedf0… (all of the seat's roots in one cut). By AI agents, Wed Nov 11 2026. No macro, syntax, notation, axiom, sorry.
-/
import Derived.Test.YtdojnaghcfhadacChecked
import GoSem.Claim
import GoSem.ClaimJoined
import GoSem.ClaimMapViews
import Derived.JoinedTies
import Derived.KernelRfl
namespace Go.Proofs.Ytdojnaghcfhadac
/- THE CELL 'sum', in the pinned program and in every row, IS THE sha256 OF THE DUMP (.gsa) THAT YtdojnaghcfhadacProg.lean LOADS. Nothing in Lean hashes anything: it is a label: what it is worth is what the hold of that sum in a sandbox is worth. -/
noncomputable def Try.pinned : Pinned := { name := "ytdojnaghcfhadac", sum := "c2ffab22a1faedf0c2607695356188404d6e4f0332e28d26d0fa8122312d7536", checked := Try.checked }
namespace Rows
def none {H : Type} : Left H := { results := [], args := [] }

/-- 'laws.FnExactSharedPlaces': WHATEVER THE INPUT: true; the input reads as it did. -/
def fnExactSharedPlacesSpec : ChangeSpec := { name := "fnExactSharedPlaces", fn := fun _ => fun
  | [d1, d2, d3] => { results := [.lit (.bool true)], args := [d1, d2, d3] }
  | _ => none }
def fnExactSharedPlacesRow : OpenClaim := { program := "ytdojnaghcfhadac", sum := "c2ffab22a1faedf0c2607695356188404d6e4f0332e28d26d0fa8122312d7536", func := "loop.example/g01179/laws.FnExactSharedPlaces", spec := "fnExactSharedPlaces", unfollowed := true, recurses := true, apart := false }
def FnExactSharedPlacesSaid : Prop := fnExactSharedPlacesRow.holds Try.pinned (OpenSpec.ofChange fnExactSharedPlacesSpec)

/-- ITS FALSE NEIGHBOUR: 'it returns false'. Refute it at one input. -/
def fnExactSharedPlacesWrong : ChangeSpec := { name := "fnExactSharedPlaces", fn := fun _ => fun
  | [d1, d2, d3] => { results := [.lit (.bool false)], args := [d1, d2, d3] }
  | _ => none }
def FnExactSharedPlacesWrongFalsely : Prop := fnExactSharedPlacesRow.holds Try.pinned (OpenSpec.ofChange fnExactSharedPlacesWrong)

/-- 'laws.FnExactIsArena': WHATEVER THE INPUT: true; the input reads as it did. -/
def fnExactIsArenaSpec : ChangeSpec := { name := "fnExactIsArena", fn := fun _ => fun
  | [d] => { results := [.lit (.bool true)], args := [d] }
  | _ => none }
def fnExactIsArenaRow : OpenClaim := { program := "ytdojnaghcfhadac", sum := "c2ffab22a1faedf0c2607695356188404d6e4f0332e28d26d0fa8122312d7536", func := "loop.example/g01179/laws.FnExactIsArena", spec := "fnExactIsArena", unfollowed := true, recurses := true, apart := false }
def FnExactIsArenaSaid : Prop := fnExactIsArenaRow.holds Try.pinned (OpenSpec.ofChange fnExactIsArenaSpec)

/-- ITS FALSE NEIGHBOUR: 'it returns false'. Refute it at one input. -/
def fnExactIsArenaWrong : ChangeSpec := { name := "fnExactIsArena", fn := fun _ => fun
  | [d] => { results := [.lit (.bool false)], args := [d] }
  | _ => none }
def FnExactIsArenaWrongFalsely : Prop := fnExactIsArenaRow.holds Try.pinned (OpenSpec.ofChange fnExactIsArenaWrong)

/-- 'laws.FnExactIsGiven': WHATEVER THE INPUT: true; the input reads as it did. -/
def fnExactIsGivenSpec : ChangeSpec := { name := "fnExactIsGiven", fn := fun _ => fun
  | [d1, d2] => { results := [.lit (.bool true)], args := [d1, d2] }
  | _ => none }
def fnExactIsGivenRow : OpenClaim := { program := "ytdojnaghcfhadac", sum := "c2ffab22a1faedf0c2607695356188404d6e4f0332e28d26d0fa8122312d7536", func := "loop.example/g01179/laws.FnExactIsGiven", spec := "fnExactIsGiven", unfollowed := true, recurses := true, apart := false }
def FnExactIsGivenSaid : Prop := fnExactIsGivenRow.holds Try.pinned (OpenSpec.ofChange fnExactIsGivenSpec)

/-- ITS FALSE NEIGHBOUR: 'it returns false'. Refute it at one input. -/
def fnExactIsGivenWrong : ChangeSpec := { name := "fnExactIsGiven", fn := fun _ => fun
  | [d1, d2] => { results := [.lit (.bool false)], args := [d1, d2] }
  | _ => none }
def FnExactIsGivenWrongFalsely : Prop := fnExactIsGivenRow.holds Try.pinned (OpenSpec.ofChange fnExactIsGivenWrong)

/-- 'laws.FnExactLeftIn': WHATEVER THE INPUT: true; the input reads as it did. -/
def fnExactLeftInSpec : ChangeSpec := { name := "fnExactLeftIn", fn := fun _ => fun
  | [d1, d2] => { results := [.lit (.bool true)], args := [d1, d2] }
  | _ => none }
def fnExactLeftInRow : OpenClaim := { program := "ytdojnaghcfhadac", sum := "c2ffab22a1faedf0c2607695356188404d6e4f0332e28d26d0fa8122312d7536", func := "loop.example/g01179/laws.FnExactLeftIn", spec := "fnExactLeftIn", unfollowed := true, recurses := true, apart := false }
def FnExactLeftInSaid : Prop := fnExactLeftInRow.holds Try.pinned (OpenSpec.ofChange fnExactLeftInSpec)

/-- ITS FALSE NEIGHBOUR: 'it returns false'. Refute it at one input. -/
def fnExactLeftInWrong : ChangeSpec := { name := "fnExactLeftIn", fn := fun _ => fun
  | [d1, d2] => { results := [.lit (.bool false)], args := [d1, d2] }
  | _ => none }
def FnExactLeftInWrongFalsely : Prop := fnExactLeftInRow.holds Try.pinned (OpenSpec.ofChange fnExactLeftInWrong)

/-- 'laws.FnExactSplitArena': WHATEVER THE INPUT: true; the input reads as it did. -/
def fnExactSplitArenaSpec : ChangeSpec := { name := "fnExactSplitArena", fn := fun _ => fun
  | [d] => { results := [.lit (.bool true)], args := [d] }
  | _ => none }
def fnExactSplitArenaRow : OpenClaim := { program := "ytdojnaghcfhadac", sum := "c2ffab22a1faedf0c2607695356188404d6e4f0332e28d26d0fa8122312d7536", func := "loop.example/g01179/laws.FnExactSplitArena", spec := "fnExactSplitArena", unfollowed := true, recurses := true, apart := false }
def FnExactSplitArenaSaid : Prop := fnExactSplitArenaRow.holds Try.pinned (OpenSpec.ofChange fnExactSplitArenaSpec)

/-- ITS FALSE NEIGHBOUR: 'it returns false'. Refute it at one input. -/
def fnExactSplitArenaWrong : ChangeSpec := { name := "fnExactSplitArena", fn := fun _ => fun
  | [d] => { results := [.lit (.bool false)], args := [d] }
  | _ => none }
def FnExactSplitArenaWrongFalsely : Prop := fnExactSplitArenaRow.holds Try.pinned (OpenSpec.ofChange fnExactSplitArenaWrong)

/-- 'laws.FnExactDangling': WHATEVER THE INPUT: true; the input reads as it did. -/
def fnExactDanglingSpec : ChangeSpec := { name := "fnExactDangling", fn := fun _ => fun
  | [d1, d2] => { results := [.lit (.bool true)], args := [d1, d2] }
  | _ => none }
def fnExactDanglingRow : OpenClaim := { program := "ytdojnaghcfhadac", sum := "c2ffab22a1faedf0c2607695356188404d6e4f0332e28d26d0fa8122312d7536", func := "loop.example/g01179/laws.FnExactDangling", spec := "fnExactDangling", unfollowed := true, recurses := true, apart := false }
def FnExactDanglingSaid : Prop := fnExactDanglingRow.holds Try.pinned (OpenSpec.ofChange fnExactDanglingSpec)

/-- ITS FALSE NEIGHBOUR: 'it returns false'. Refute it at one input. -/
def fnExactDanglingWrong : ChangeSpec := { name := "fnExactDangling", fn := fun _ => fun
  | [d1, d2] => { results := [.lit (.bool false)], args := [d1, d2] }
  | _ => none }
def FnExactDanglingWrongFalsely : Prop := fnExactDanglingRow.holds Try.pinned (OpenSpec.ofChange fnExactDanglingWrong)

/-- 'laws.FnExactSameTexts': WHATEVER THE INPUT: true; the input reads as it did. -/
def fnExactSameTextsSpec : ChangeSpec := { name := "fnExactSameTexts", fn := fun _ => fun
  | [d1, d2, d3] => { results := [.lit (.bool true)], args := [d1, d2, d3] }
  | _ => none }
def fnExactSameTextsRow : OpenClaim := { program := "ytdojnaghcfhadac", sum := "c2ffab22a1faedf0c2607695356188404d6e4f0332e28d26d0fa8122312d7536", func := "loop.example/g01179/laws.FnExactSameTexts", spec := "fnExactSameTexts", unfollowed := true, recurses := true, apart := false }
def FnExactSameTextsSaid : Prop := fnExactSameTextsRow.holds Try.pinned (OpenSpec.ofChange fnExactSameTextsSpec)

/-- ITS FALSE NEIGHBOUR: 'it returns false'. Refute it at one input. -/
def fnExactSameTextsWrong : ChangeSpec := { name := "fnExactSameTexts", fn := fun _ => fun
  | [d1, d2, d3] => { results := [.lit (.bool false)], args := [d1, d2, d3] }
  | _ => none }
def FnExactSameTextsWrongFalsely : Prop := fnExactSameTextsRow.holds Try.pinned (OpenSpec.ofChange fnExactSameTextsWrong)

/-- 'laws.FnExactTagsOf': WHATEVER THE INPUT: true; the input reads as it did. -/
def fnExactTagsOfSpec : ChangeSpec := { name := "fnExactTagsOf", fn := fun _ => fun
  | [d1, d2] => { results := [.lit (.bool true)], args := [d1, d2] }
  | _ => none }
def fnExactTagsOfRow : OpenClaim := { program := "ytdojnaghcfhadac", sum := "c2ffab22a1faedf0c2607695356188404d6e4f0332e28d26d0fa8122312d7536", func := "loop.example/g01179/laws.FnExactTagsOf", spec := "fnExactTagsOf", unfollowed := true, recurses := true, apart := false }
def FnExactTagsOfSaid : Prop := fnExactTagsOfRow.holds Try.pinned (OpenSpec.ofChange fnExactTagsOfSpec)

/-- ITS FALSE NEIGHBOUR: 'it returns false'. Refute it at one input. -/
def fnExactTagsOfWrong : ChangeSpec := { name := "fnExactTagsOf", fn := fun _ => fun
  | [d1, d2] => { results := [.lit (.bool false)], args := [d1, d2] }
  | _ => none }
def FnExactTagsOfWrongFalsely : Prop := fnExactTagsOfRow.holds Try.pinned (OpenSpec.ofChange fnExactTagsOfWrong)

/-- 'laws.FnExactParseFrames': WHATEVER THE INPUT: true; the input reads as it did. -/
def fnExactParseFramesSpec : ChangeSpec := { name := "fnExactParseFrames", fn := fun _ => fun
  | [d1, d2] => { results := [.lit (.bool true)], args := [d1, d2] }
  | _ => none }
def fnExactParseFramesRow : OpenClaim := { program := "ytdojnaghcfhadac", sum := "c2ffab22a1faedf0c2607695356188404d6e4f0332e28d26d0fa8122312d7536", func := "loop.example/g01179/laws.FnExactParseFrames", spec := "fnExactParseFrames", unfollowed := true, recurses := true, apart := false }
def FnExactParseFramesSaid : Prop := fnExactParseFramesRow.holds Try.pinned (OpenSpec.ofChange fnExactParseFramesSpec)

/-- ITS FALSE NEIGHBOUR: 'it returns false'. Refute it at one input. -/
def fnExactParseFramesWrong : ChangeSpec := { name := "fnExactParseFrames", fn := fun _ => fun
  | [d1, d2] => { results := [.lit (.bool false)], args := [d1, d2] }
  | _ => none }
def FnExactParseFramesWrongFalsely : Prop := fnExactParseFramesRow.holds Try.pinned (OpenSpec.ofChange fnExactParseFramesWrong)

/-- 'laws.FnExactGapText': WHATEVER THE INPUT: true; the input reads as it did. -/
def fnExactGapTextSpec : ChangeSpec := { name := "fnExactGapText", fn := fun _ => fun
  | [d] => { results := [.lit (.bool true)], args := [d] }
  | _ => none }
def fnExactGapTextRow : OpenClaim := { program := "ytdojnaghcfhadac", sum := "c2ffab22a1faedf0c2607695356188404d6e4f0332e28d26d0fa8122312d7536", func := "loop.example/g01179/laws.FnExactGapText", spec := "fnExactGapText", unfollowed := true, recurses := true, apart := false }
def FnExactGapTextSaid : Prop := fnExactGapTextRow.holds Try.pinned (OpenSpec.ofChange fnExactGapTextSpec)

/-- ITS FALSE NEIGHBOUR: 'it returns false'. Refute it at one input. -/
def fnExactGapTextWrong : ChangeSpec := { name := "fnExactGapText", fn := fun _ => fun
  | [d] => { results := [.lit (.bool false)], args := [d] }
  | _ => none }
def FnExactGapTextWrongFalsely : Prop := fnExactGapTextRow.holds Try.pinned (OpenSpec.ofChange fnExactGapTextWrong)

/-- 'laws.FnExactRopeText': WHATEVER THE INPUT: true; the input reads as it did. -/
def fnExactRopeTextSpec : ChangeSpec := { name := "fnExactRopeText", fn := fun _ => fun
  | [d1, d2] => { results := [.lit (.bool true)], args := [d1, d2] }
  | _ => none }
def fnExactRopeTextRow : OpenClaim := { program := "ytdojnaghcfhadac", sum := "c2ffab22a1faedf0c2607695356188404d6e4f0332e28d26d0fa8122312d7536", func := "loop.example/g01179/laws.FnExactRopeText", spec := "fnExactRopeText", unfollowed := true, recurses := true, apart := false }
def FnExactRopeTextSaid : Prop := fnExactRopeTextRow.holds Try.pinned (OpenSpec.ofChange fnExactRopeTextSpec)

/-- ITS FALSE NEIGHBOUR: 'it returns false'. Refute it at one input. -/
def fnExactRopeTextWrong : ChangeSpec := { name := "fnExactRopeText", fn := fun _ => fun
  | [d1, d2] => { results := [.lit (.bool false)], args := [d1, d2] }
  | _ => none }
def FnExactRopeTextWrongFalsely : Prop := fnExactRopeTextRow.holds Try.pinned (OpenSpec.ofChange fnExactRopeTextWrong)

/- THE SECOND FORM. 'bulk': how many values and letters a reading holds, each counted each time it is reached (what is shared counts as often as it is met; a slice's spare places count too). A statement '..UptoSaid' is the law's where the arguments, and the package variables that the reading takes, are together of bulk at most 1048576: NARROWER than '..Said'. Prove '..Said' where nothing that the law and all that it calls make is longer than what came in: it says more and counts as full. Else prove '..UptoSaid'. A law counts once. -/
mutual
def uptoBulk {H : Type} : DataW H → Nat
  | .lit (.string bytes) => bytes.length + 1
  | .lit _ => 1
  | .nil => 1
  | .ptr d => uptoBulk d + 1
  | .slice elems spare => uptoBulkAll elems + uptoBulkAll spare + 1
  | .agg parts => uptoBulkAll parts + 1
  | .iface _ d => uptoBulk d + 1
  | .map entries => uptoBulkEntries entries + 1
  | .held _ => 1
def uptoBulkAll {H : Type} : List (DataW H) → Nat
  | [] => 0
  | d :: r => uptoBulk d + uptoBulkAll r
def uptoBulkEntries {H : Type} : List (Lit × DataW H) → Nat
  | [] => 0
  | x :: r => uptoBulkEntry x + uptoBulkEntries r
def uptoBulkEntry {H : Type} : Lit × DataW H → Nat
  | (.string bytes, d) => bytes.length + uptoBulk d + 1
  | (_, d) => uptoBulk d + 1
 end
def uptoSmall : (H : Type) → List (DataW H) → Bool := fun _ ds => decide (uptoBulkAll ds ≤ 1048576)
def OpenSpec.upto (s : _root_.Go.ChangeSpec) : _root_.Go.OpenSpec := { _root_.Go.OpenSpec.ofChange s with cond := some uptoSmall }

/-- 'laws.FnExactSharedPlaces', WHERE WHAT IT READS IS OF BULK AT MOST 1048576: true; the input reads as it did. -/
def fnExactSharedPlacesUptoRow : OpenClaim := { program := "ytdojnaghcfhadac", sum := "c2ffab22a1faedf0c2607695356188404d6e4f0332e28d26d0fa8122312d7536", func := "loop.example/g01179/laws.FnExactSharedPlaces", spec := "fnExactSharedPlaces", unfollowed := true, recurses := true, apart := false, narrowed := true }
def FnExactSharedPlacesUptoSaid : Prop := fnExactSharedPlacesUptoRow.holds Try.pinned (OpenSpec.upto fnExactSharedPlacesSpec)

/-- 'laws.FnExactIsArena', WHERE WHAT IT READS IS OF BULK AT MOST 1048576: true; the input reads as it did. -/
def fnExactIsArenaUptoRow : OpenClaim := { program := "ytdojnaghcfhadac", sum := "c2ffab22a1faedf0c2607695356188404d6e4f0332e28d26d0fa8122312d7536", func := "loop.example/g01179/laws.FnExactIsArena", spec := "fnExactIsArena", unfollowed := true, recurses := true, apart := false, narrowed := true }
def FnExactIsArenaUptoSaid : Prop := fnExactIsArenaUptoRow.holds Try.pinned (OpenSpec.upto fnExactIsArenaSpec)

/-- 'laws.FnExactIsGiven', WHERE WHAT IT READS IS OF BULK AT MOST 1048576: true; the input reads as it did. -/
def fnExactIsGivenUptoRow : OpenClaim := { program := "ytdojnaghcfhadac", sum := "c2ffab22a1faedf0c2607695356188404d6e4f0332e28d26d0fa8122312d7536", func := "loop.example/g01179/laws.FnExactIsGiven", spec := "fnExactIsGiven", unfollowed := true, recurses := true, apart := false, narrowed := true }
def FnExactIsGivenUptoSaid : Prop := fnExactIsGivenUptoRow.holds Try.pinned (OpenSpec.upto fnExactIsGivenSpec)

/-- 'laws.FnExactLeftIn', WHERE WHAT IT READS IS OF BULK AT MOST 1048576: true; the input reads as it did. -/
def fnExactLeftInUptoRow : OpenClaim := { program := "ytdojnaghcfhadac", sum := "c2ffab22a1faedf0c2607695356188404d6e4f0332e28d26d0fa8122312d7536", func := "loop.example/g01179/laws.FnExactLeftIn", spec := "fnExactLeftIn", unfollowed := true, recurses := true, apart := false, narrowed := true }
def FnExactLeftInUptoSaid : Prop := fnExactLeftInUptoRow.holds Try.pinned (OpenSpec.upto fnExactLeftInSpec)

/-- 'laws.FnExactSplitArena', WHERE WHAT IT READS IS OF BULK AT MOST 1048576: true; the input reads as it did. -/
def fnExactSplitArenaUptoRow : OpenClaim := { program := "ytdojnaghcfhadac", sum := "c2ffab22a1faedf0c2607695356188404d6e4f0332e28d26d0fa8122312d7536", func := "loop.example/g01179/laws.FnExactSplitArena", spec := "fnExactSplitArena", unfollowed := true, recurses := true, apart := false, narrowed := true }
def FnExactSplitArenaUptoSaid : Prop := fnExactSplitArenaUptoRow.holds Try.pinned (OpenSpec.upto fnExactSplitArenaSpec)

/-- 'laws.FnExactDangling', WHERE WHAT IT READS IS OF BULK AT MOST 1048576: true; the input reads as it did. -/
def fnExactDanglingUptoRow : OpenClaim := { program := "ytdojnaghcfhadac", sum := "c2ffab22a1faedf0c2607695356188404d6e4f0332e28d26d0fa8122312d7536", func := "loop.example/g01179/laws.FnExactDangling", spec := "fnExactDangling", unfollowed := true, recurses := true, apart := false, narrowed := true }
def FnExactDanglingUptoSaid : Prop := fnExactDanglingUptoRow.holds Try.pinned (OpenSpec.upto fnExactDanglingSpec)

/-- 'laws.FnExactSameTexts', WHERE WHAT IT READS IS OF BULK AT MOST 1048576: true; the input reads as it did. -/
def fnExactSameTextsUptoRow : OpenClaim := { program := "ytdojnaghcfhadac", sum := "c2ffab22a1faedf0c2607695356188404d6e4f0332e28d26d0fa8122312d7536", func := "loop.example/g01179/laws.FnExactSameTexts", spec := "fnExactSameTexts", unfollowed := true, recurses := true, apart := false, narrowed := true }
def FnExactSameTextsUptoSaid : Prop := fnExactSameTextsUptoRow.holds Try.pinned (OpenSpec.upto fnExactSameTextsSpec)

/-- 'laws.FnExactTagsOf', WHERE WHAT IT READS IS OF BULK AT MOST 1048576: true; the input reads as it did. -/
def fnExactTagsOfUptoRow : OpenClaim := { program := "ytdojnaghcfhadac", sum := "c2ffab22a1faedf0c2607695356188404d6e4f0332e28d26d0fa8122312d7536", func := "loop.example/g01179/laws.FnExactTagsOf", spec := "fnExactTagsOf", unfollowed := true, recurses := true, apart := false, narrowed := true }
def FnExactTagsOfUptoSaid : Prop := fnExactTagsOfUptoRow.holds Try.pinned (OpenSpec.upto fnExactTagsOfSpec)

/-- 'laws.FnExactParseFrames', WHERE WHAT IT READS IS OF BULK AT MOST 1048576: true; the input reads as it did. -/
def fnExactParseFramesUptoRow : OpenClaim := { program := "ytdojnaghcfhadac", sum := "c2ffab22a1faedf0c2607695356188404d6e4f0332e28d26d0fa8122312d7536", func := "loop.example/g01179/laws.FnExactParseFrames", spec := "fnExactParseFrames", unfollowed := true, recurses := true, apart := false, narrowed := true }
def FnExactParseFramesUptoSaid : Prop := fnExactParseFramesUptoRow.holds Try.pinned (OpenSpec.upto fnExactParseFramesSpec)

/-- 'laws.FnExactGapText', WHERE WHAT IT READS IS OF BULK AT MOST 1048576: true; the input reads as it did. -/
def fnExactGapTextUptoRow : OpenClaim := { program := "ytdojnaghcfhadac", sum := "c2ffab22a1faedf0c2607695356188404d6e4f0332e28d26d0fa8122312d7536", func := "loop.example/g01179/laws.FnExactGapText", spec := "fnExactGapText", unfollowed := true, recurses := true, apart := false, narrowed := true }
def FnExactGapTextUptoSaid : Prop := fnExactGapTextUptoRow.holds Try.pinned (OpenSpec.upto fnExactGapTextSpec)

/-- 'laws.FnExactRopeText', WHERE WHAT IT READS IS OF BULK AT MOST 1048576: true; the input reads as it did. -/
def fnExactRopeTextUptoRow : OpenClaim := { program := "ytdojnaghcfhadac", sum := "c2ffab22a1faedf0c2607695356188404d6e4f0332e28d26d0fa8122312d7536", func := "loop.example/g01179/laws.FnExactRopeText", spec := "fnExactRopeText", unfollowed := true, recurses := true, apart := false, narrowed := true }
def FnExactRopeTextUptoSaid : Prop := fnExactRopeTextUptoRow.holds Try.pinned (OpenSpec.upto fnExactRopeTextSpec)

end Rows
end Go.Proofs.Ytdojnaghcfhadac
