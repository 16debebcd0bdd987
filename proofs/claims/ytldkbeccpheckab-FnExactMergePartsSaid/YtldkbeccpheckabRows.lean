/-
  No cell of these rows narrows 'for every input' (looked for: loops, veiled, ifaces, maps, wideKeys, modest, calm, conditions, laid).
  DERIVED. THE GIVEN ROWS OF THIS SEAT. 9 by the template 'for every input the law returns true; each argument reads behind the call as it read before'; 0 by the template 'total and deterministic' (their statements: YtldkbeccpheckabTotals.lean).
  GIVEN WITH THE SEED: the statements are not yours to turn. If you find one false, say at which input.
  Laid BY PROGRAM, IN A SANDBOX (cutbox-rows.mjs): the forced cells as the released guide's own fill.sh prints them over the translation ac93862ee798d0c3… (all of the seat's roots in one cut). By AI agents, Wed Nov 11 2026. No macro, syntax, notation, axiom, sorry.
-/
import Derived.Test.YtldkbeccpheckabChecked
import GoSem.Claim
import GoSem.ClaimJoined
import GoSem.ClaimMapViews
import Derived.JoinedTies
import Derived.KernelRfl
namespace Go.Proofs.Ytldkbeccpheckab
/- THE CELL 'sum', in the pinned program and in every row, IS THE sha256 OF THE DUMP (.gsa) THAT YtldkbeccpheckabProg.lean LOADS. Nothing in Lean hashes anything: it is a label: what it is worth is what the hold of that sum in a sandbox is worth. -/
noncomputable def Try.pinned : Pinned := { name := "ytldkbeccpheckab", sum := "ac93862ee798d0c3da9c17431c6626c6a39064794d294b93c54a5e66fb419801", checked := Try.checked }
namespace Rows
def none {H : Type} : Left H := { results := [], args := [] }

/-- 'laws.FnExactJoinRopes': WHATEVER THE INPUT: true; the input reads as it did. -/
def fnExactJoinRopesSpec : ChangeSpec := { name := "fnExactJoinRopes", fn := fun _ => fun
  | [d1, d2, d3] => { results := [.lit (.bool true)], args := [d1, d2, d3] }
  | _ => none }
def fnExactJoinRopesRow : OpenClaim := { program := "ytldkbeccpheckab", sum := "ac93862ee798d0c3da9c17431c6626c6a39064794d294b93c54a5e66fb419801", func := "loop.example/g01179/laws.FnExactJoinRopes", spec := "fnExactJoinRopes", unfollowed := true, recurses := true, apart := false }
def FnExactJoinRopesSaid : Prop := fnExactJoinRopesRow.holds Try.pinned (OpenSpec.ofChange fnExactJoinRopesSpec)

/-- ITS FALSE NEIGHBOUR: 'it returns false'. Refute it at one input. -/
def fnExactJoinRopesWrong : ChangeSpec := { name := "fnExactJoinRopes", fn := fun _ => fun
  | [d1, d2, d3] => { results := [.lit (.bool false)], args := [d1, d2, d3] }
  | _ => none }
def FnExactJoinRopesWrongFalsely : Prop := fnExactJoinRopesRow.holds Try.pinned (OpenSpec.ofChange fnExactJoinRopesWrong)

/-- 'laws.FnExactSplitRope': WHATEVER THE INPUT: true; the input reads as it did. -/
def fnExactSplitRopeSpec : ChangeSpec := { name := "fnExactSplitRope", fn := fun _ => fun
  | [d1, d2, d3] => { results := [.lit (.bool true)], args := [d1, d2, d3] }
  | _ => none }
def fnExactSplitRopeRow : OpenClaim := { program := "ytldkbeccpheckab", sum := "ac93862ee798d0c3da9c17431c6626c6a39064794d294b93c54a5e66fb419801", func := "loop.example/g01179/laws.FnExactSplitRope", spec := "fnExactSplitRope", unfollowed := true, recurses := true, apart := false }
def FnExactSplitRopeSaid : Prop := fnExactSplitRopeRow.holds Try.pinned (OpenSpec.ofChange fnExactSplitRopeSpec)

/-- ITS FALSE NEIGHBOUR: 'it returns false'. Refute it at one input. -/
def fnExactSplitRopeWrong : ChangeSpec := { name := "fnExactSplitRope", fn := fun _ => fun
  | [d1, d2, d3] => { results := [.lit (.bool false)], args := [d1, d2, d3] }
  | _ => none }
def FnExactSplitRopeWrongFalsely : Prop := fnExactSplitRopeRow.holds Try.pinned (OpenSpec.ofChange fnExactSplitRopeWrong)

/-- 'laws.FnExactMergeParts': WHATEVER THE INPUT: true; the input reads as it did. -/
def fnExactMergePartsSpec : ChangeSpec := { name := "fnExactMergeParts", fn := fun _ => fun
  | [d1, d2] => { results := [.lit (.bool true)], args := [d1, d2] }
  | _ => none }
def fnExactMergePartsRow : OpenClaim := { program := "ytldkbeccpheckab", sum := "ac93862ee798d0c3da9c17431c6626c6a39064794d294b93c54a5e66fb419801", func := "loop.example/g01179/laws.FnExactMergeParts", spec := "fnExactMergeParts", unfollowed := true, recurses := true, apart := false }
def FnExactMergePartsSaid : Prop := fnExactMergePartsRow.holds Try.pinned (OpenSpec.ofChange fnExactMergePartsSpec)

/-- ITS FALSE NEIGHBOUR: 'it returns false'. Refute it at one input. -/
def fnExactMergePartsWrong : ChangeSpec := { name := "fnExactMergeParts", fn := fun _ => fun
  | [d1, d2] => { results := [.lit (.bool false)], args := [d1, d2] }
  | _ => none }
def FnExactMergePartsWrongFalsely : Prop := fnExactMergePartsRow.holds Try.pinned (OpenSpec.ofChange fnExactMergePartsWrong)

/-- 'laws.FnExactDeleteText': WHATEVER THE INPUT: true; the input reads as it did. -/
def fnExactDeleteTextSpec : ChangeSpec := { name := "fnExactDeleteText", fn := fun _ => fun
  | [d1, d2, d3, d4] => { results := [.lit (.bool true)], args := [d1, d2, d3, d4] }
  | _ => none }
def fnExactDeleteTextRow : OpenClaim := { program := "ytldkbeccpheckab", sum := "ac93862ee798d0c3da9c17431c6626c6a39064794d294b93c54a5e66fb419801", func := "loop.example/g01179/laws.FnExactDeleteText", spec := "fnExactDeleteText", unfollowed := true, recurses := true, apart := false }
def FnExactDeleteTextSaid : Prop := fnExactDeleteTextRow.holds Try.pinned (OpenSpec.ofChange fnExactDeleteTextSpec)

/-- ITS FALSE NEIGHBOUR: 'it returns false'. Refute it at one input. -/
def fnExactDeleteTextWrong : ChangeSpec := { name := "fnExactDeleteText", fn := fun _ => fun
  | [d1, d2, d3, d4] => { results := [.lit (.bool false)], args := [d1, d2, d3, d4] }
  | _ => none }
def FnExactDeleteTextWrongFalsely : Prop := fnExactDeleteTextRow.holds Try.pinned (OpenSpec.ofChange fnExactDeleteTextWrong)

/-- 'laws.FnExactSharedPlaces': WHATEVER THE INPUT: true; the input reads as it did. -/
def fnExactSharedPlacesSpec : ChangeSpec := { name := "fnExactSharedPlaces", fn := fun _ => fun
  | [d1, d2, d3] => { results := [.lit (.bool true)], args := [d1, d2, d3] }
  | _ => none }
def fnExactSharedPlacesRow : OpenClaim := { program := "ytldkbeccpheckab", sum := "ac93862ee798d0c3da9c17431c6626c6a39064794d294b93c54a5e66fb419801", func := "loop.example/g01179/laws.FnExactSharedPlaces", spec := "fnExactSharedPlaces", unfollowed := true, recurses := true, apart := false }
def FnExactSharedPlacesSaid : Prop := fnExactSharedPlacesRow.holds Try.pinned (OpenSpec.ofChange fnExactSharedPlacesSpec)

/-- ITS FALSE NEIGHBOUR: 'it returns false'. Refute it at one input. -/
def fnExactSharedPlacesWrong : ChangeSpec := { name := "fnExactSharedPlaces", fn := fun _ => fun
  | [d1, d2, d3] => { results := [.lit (.bool false)], args := [d1, d2, d3] }
  | _ => none }
def FnExactSharedPlacesWrongFalsely : Prop := fnExactSharedPlacesRow.holds Try.pinned (OpenSpec.ofChange fnExactSharedPlacesWrong)

/-- 'laws.FnExactDangling': WHATEVER THE INPUT: true; the input reads as it did. -/
def fnExactDanglingSpec : ChangeSpec := { name := "fnExactDangling", fn := fun _ => fun
  | [d1, d2] => { results := [.lit (.bool true)], args := [d1, d2] }
  | _ => none }
def fnExactDanglingRow : OpenClaim := { program := "ytldkbeccpheckab", sum := "ac93862ee798d0c3da9c17431c6626c6a39064794d294b93c54a5e66fb419801", func := "loop.example/g01179/laws.FnExactDangling", spec := "fnExactDangling", unfollowed := true, recurses := true, apart := false }
def FnExactDanglingSaid : Prop := fnExactDanglingRow.holds Try.pinned (OpenSpec.ofChange fnExactDanglingSpec)

/-- ITS FALSE NEIGHBOUR: 'it returns false'. Refute it at one input. -/
def fnExactDanglingWrong : ChangeSpec := { name := "fnExactDangling", fn := fun _ => fun
  | [d1, d2] => { results := [.lit (.bool false)], args := [d1, d2] }
  | _ => none }
def FnExactDanglingWrongFalsely : Prop := fnExactDanglingRow.holds Try.pinned (OpenSpec.ofChange fnExactDanglingWrong)

/-- 'laws.FnExactBestOrder': WHATEVER THE INPUT: true; the input reads as it did. -/
def fnExactBestOrderSpec : ChangeSpec := { name := "fnExactBestOrder", fn := fun _ => fun
  | [d1, d2] => { results := [.lit (.bool true)], args := [d1, d2] }
  | _ => none }
def fnExactBestOrderRow : OpenClaim := { program := "ytldkbeccpheckab", sum := "ac93862ee798d0c3da9c17431c6626c6a39064794d294b93c54a5e66fb419801", func := "loop.example/g01179/laws.FnExactBestOrder", spec := "fnExactBestOrder", unfollowed := true, recurses := true, apart := false }
def FnExactBestOrderSaid : Prop := fnExactBestOrderRow.holds Try.pinned (OpenSpec.ofChange fnExactBestOrderSpec)

/-- ITS FALSE NEIGHBOUR: 'it returns false'. Refute it at one input. -/
def fnExactBestOrderWrong : ChangeSpec := { name := "fnExactBestOrder", fn := fun _ => fun
  | [d1, d2] => { results := [.lit (.bool false)], args := [d1, d2] }
  | _ => none }
def FnExactBestOrderWrongFalsely : Prop := fnExactBestOrderRow.holds Try.pinned (OpenSpec.ofChange fnExactBestOrderWrong)

/-- 'laws.FnGrowth': WHATEVER THE INPUT: true; the input reads as it did. -/
def fnGrowthSpec : ChangeSpec := { name := "fnGrowth", fn := fun _ => fun
  | [d] => { results := [.lit (.bool true)], args := [d] }
  | _ => none }
def fnGrowthRow : OpenClaim := { program := "ytldkbeccpheckab", sum := "ac93862ee798d0c3da9c17431c6626c6a39064794d294b93c54a5e66fb419801", func := "loop.example/g01179/laws.FnGrowth", spec := "fnGrowth", unfollowed := true, recurses := true, apart := false }
def FnGrowthSaid : Prop := fnGrowthRow.holds Try.pinned (OpenSpec.ofChange fnGrowthSpec)

/-- ITS FALSE NEIGHBOUR: 'it returns false'. Refute it at one input. -/
def fnGrowthWrong : ChangeSpec := { name := "fnGrowth", fn := fun _ => fun
  | [d] => { results := [.lit (.bool false)], args := [d] }
  | _ => none }
def FnGrowthWrongFalsely : Prop := fnGrowthRow.holds Try.pinned (OpenSpec.ofChange fnGrowthWrong)

/-- 'laws.FnKeys': WHATEVER THE INPUT: true; the input reads as it did. -/
def fnKeysSpec : ChangeSpec := { name := "fnKeys", fn := fun _ => fun
  | [d] => { results := [.lit (.bool true)], args := [d] }
  | _ => none }
def fnKeysRow : OpenClaim := { program := "ytldkbeccpheckab", sum := "ac93862ee798d0c3da9c17431c6626c6a39064794d294b93c54a5e66fb419801", func := "loop.example/g01179/laws.FnKeys", spec := "fnKeys", inPlace := ["internal/bytealg.Compare"], unfollowed := true, recurses := true, apart := false }
def FnKeysSaid : Prop := fnKeysRow.holds Try.pinned (OpenSpec.ofChange fnKeysSpec)

/-- ITS FALSE NEIGHBOUR: 'it returns false'. Refute it at one input. -/
def fnKeysWrong : ChangeSpec := { name := "fnKeys", fn := fun _ => fun
  | [d] => { results := [.lit (.bool false)], args := [d] }
  | _ => none }
def FnKeysWrongFalsely : Prop := fnKeysRow.holds Try.pinned (OpenSpec.ofChange fnKeysWrong)

/- THE SECOND FORM. 'bulk': how many values and letters a reading holds, each counted each time it is reached (what is shared counts as often as it is met; a slice's spare places count too). A statement '..UptoSaid' is the law's where the arguments, and the package variables that the reading takes, are together of bulk at most 1048576: NARROWER than '..Said'. Prove '..Said' where nothing that the law and all that it calls make is longer than what came in: it says more and counts as full. Else prove '..UptoSaid'. A law counts once. -/
mutual
def uptoBulk {H : Type} : DataW H → Nat
  | .lit (.string bytes) => bytes.length + 1
  | .lit _ => 1
  | .nil => 1
  | .ptr d => uptoBulk d + 1
  | .slice elems spare => uptoBulkAll elems + uptoBulkAll spare + 1
  | .agg parts => uptoBulkAll parts + 1
  | .iface _ d => uptoBulk d + 1
  | .map entries => uptoBulkEntries entries + 1
  | .held _ => 1
def uptoBulkAll {H : Type} : List (DataW H) → Nat
  | [] => 0
  | d :: r => uptoBulk d + uptoBulkAll r
def uptoBulkEntries {H : Type} : List (Lit × DataW H) → Nat
  | [] => 0
  | x :: r => uptoBulkEntry x + uptoBulkEntries r
def uptoBulkEntry {H : Type} : Lit × DataW H → Nat
  | (.string bytes, d) => bytes.length + uptoBulk d + 1
  | (_, d) => uptoBulk d + 1
 end
def uptoSmall : (H : Type) → List (DataW H) → Bool := fun _ ds => decide (uptoBulkAll ds ≤ 1048576)
def OpenSpec.upto (s : _root_.Go.ChangeSpec) : _root_.Go.OpenSpec := { _root_.Go.OpenSpec.ofChange s with cond := some uptoSmall }

/-- 'laws.FnExactJoinRopes', WHERE WHAT IT READS IS OF BULK AT MOST 1048576: true; the input reads as it did. -/
def fnExactJoinRopesUptoRow : OpenClaim := { program := "ytldkbeccpheckab", sum := "ac93862ee798d0c3da9c17431c6626c6a39064794d294b93c54a5e66fb419801", func := "loop.example/g01179/laws.FnExactJoinRopes", spec := "fnExactJoinRopes", unfollowed := true, recurses := true, apart := false, narrowed := true }
def FnExactJoinRopesUptoSaid : Prop := fnExactJoinRopesUptoRow.holds Try.pinned (OpenSpec.upto fnExactJoinRopesSpec)

/-- 'laws.FnExactSplitRope', WHERE WHAT IT READS IS OF BULK AT MOST 1048576: true; the input reads as it did. -/
def fnExactSplitRopeUptoRow : OpenClaim := { program := "ytldkbeccpheckab", sum := "ac93862ee798d0c3da9c17431c6626c6a39064794d294b93c54a5e66fb419801", func := "loop.example/g01179/laws.FnExactSplitRope", spec := "fnExactSplitRope", unfollowed := true, recurses := true, apart := false, narrowed := true }
def FnExactSplitRopeUptoSaid : Prop := fnExactSplitRopeUptoRow.holds Try.pinned (OpenSpec.upto fnExactSplitRopeSpec)

/-- 'laws.FnExactMergeParts', WHERE WHAT IT READS IS OF BULK AT MOST 1048576: true; the input reads as it did. -/
def fnExactMergePartsUptoRow : OpenClaim := { program := "ytldkbeccpheckab", sum := "ac93862ee798d0c3da9c17431c6626c6a39064794d294b93c54a5e66fb419801", func := "loop.example/g01179/laws.FnExactMergeParts", spec := "fnExactMergeParts", unfollowed := true, recurses := true, apart := false, narrowed := true }
def FnExactMergePartsUptoSaid : Prop := fnExactMergePartsUptoRow.holds Try.pinned (OpenSpec.upto fnExactMergePartsSpec)

/-- 'laws.FnExactDeleteText', WHERE WHAT IT READS IS OF BULK AT MOST 1048576: true; the input reads as it did. -/
def fnExactDeleteTextUptoRow : OpenClaim := { program := "ytldkbeccpheckab", sum := "ac93862ee798d0c3da9c17431c6626c6a39064794d294b93c54a5e66fb419801", func := "loop.example/g01179/laws.FnExactDeleteText", spec := "fnExactDeleteText", unfollowed := true, recurses := true, apart := false, narrowed := true }
def FnExactDeleteTextUptoSaid : Prop := fnExactDeleteTextUptoRow.holds Try.pinned (OpenSpec.upto fnExactDeleteTextSpec)

/-- 'laws.FnExactSharedPlaces', WHERE WHAT IT READS IS OF BULK AT MOST 1048576: true; the input reads as it did. -/
def fnExactSharedPlacesUptoRow : OpenClaim := { program := "ytldkbeccpheckab", sum := "ac93862ee798d0c3da9c17431c6626c6a39064794d294b93c54a5e66fb419801", func := "loop.example/g01179/laws.FnExactSharedPlaces", spec := "fnExactSharedPlaces", unfollowed := true, recurses := true, apart := false, narrowed := true }
def FnExactSharedPlacesUptoSaid : Prop := fnExactSharedPlacesUptoRow.holds Try.pinned (OpenSpec.upto fnExactSharedPlacesSpec)

/-- 'laws.FnExactDangling', WHERE WHAT IT READS IS OF BULK AT MOST 1048576: true; the input reads as it did. -/
def fnExactDanglingUptoRow : OpenClaim := { program := "ytldkbeccpheckab", sum := "ac93862ee798d0c3da9c17431c6626c6a39064794d294b93c54a5e66fb419801", func := "loop.example/g01179/laws.FnExactDangling", spec := "fnExactDangling", unfollowed := true, recurses := true, apart := false, narrowed := true }
def FnExactDanglingUptoSaid : Prop := fnExactDanglingUptoRow.holds Try.pinned (OpenSpec.upto fnExactDanglingSpec)

/-- 'laws.FnExactBestOrder', WHERE WHAT IT READS IS OF BULK AT MOST 1048576: true; the input reads as it did. -/
def fnExactBestOrderUptoRow : OpenClaim := { program := "ytldkbeccpheckab", sum := "ac93862ee798d0c3da9c17431c6626c6a39064794d294b93c54a5e66fb419801", func := "loop.example/g01179/laws.FnExactBestOrder", spec := "fnExactBestOrder", unfollowed := true, recurses := true, apart := false, narrowed := true }
def FnExactBestOrderUptoSaid : Prop := fnExactBestOrderUptoRow.holds Try.pinned (OpenSpec.upto fnExactBestOrderSpec)

/-- 'laws.FnGrowth', WHERE WHAT IT READS IS OF BULK AT MOST 1048576: true; the input reads as it did. -/
def fnGrowthUptoRow : OpenClaim := { program := "ytldkbeccpheckab", sum := "ac93862ee798d0c3da9c17431c6626c6a39064794d294b93c54a5e66fb419801", func := "loop.example/g01179/laws.FnGrowth", spec := "fnGrowth", unfollowed := true, recurses := true, apart := false, narrowed := true }
def FnGrowthUptoSaid : Prop := fnGrowthUptoRow.holds Try.pinned (OpenSpec.upto fnGrowthSpec)

/-- 'laws.FnKeys', WHERE WHAT IT READS IS OF BULK AT MOST 1048576: true; the input reads as it did. -/
def fnKeysUptoRow : OpenClaim := { program := "ytldkbeccpheckab", sum := "ac93862ee798d0c3da9c17431c6626c6a39064794d294b93c54a5e66fb419801", func := "loop.example/g01179/laws.FnKeys", spec := "fnKeys", inPlace := ["internal/bytealg.Compare"], unfollowed := true, recurses := true, apart := false, narrowed := true }
def FnKeysUptoSaid : Prop := fnKeysUptoRow.holds Try.pinned (OpenSpec.upto fnKeysSpec)

end Rows
end Go.Proofs.Ytldkbeccpheckab
