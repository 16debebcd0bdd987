/-
  No cell of these rows narrows 'for every input' (looked for: loops, veiled, ifaces, maps, wideKeys, modest, calm, conditions, laid).
  DERIVED. THE GIVEN ROWS OF THIS SEAT. 11 by the template 'for every input the law returns true; each argument reads behind the call as it read before'; 0 by the template 'total and deterministic' (their statements: YtdojnaghcfhadaaTotals.lean).
  GIVEN WITH THE SEED: the statements are not yours to turn. If you find one false, say at which input.
  Laid BY PROGRAM, IN A SANDBOX (cutbox-rows.mjs): the forced cells as the released guide's own fill.sh prints them over the translation f118f5d9c777e997… (all of the seat's roots in one cut). By AI agents, Wed Nov 11 2026. No macro, syntax, notation, axiom, sorry.
-/
import Derived.Test.YtdojnaghcfhadaaChecked
import GoSem.Claim
import GoSem.ClaimJoined
import GoSem.ClaimMapViews
import Derived.JoinedTies
import Derived.KernelRfl
namespace Go.Proofs.Ytdojnaghcfhadaa
/- THE CELL 'sum', in the pinned program and in every row, IS THE sha256 OF THE DUMP (.gsa) THAT YtdojnaghcfhadaaProg.lean LOADS. Nothing in Lean hashes anything: it is a label: what it is worth is what the hold of that sum in a sandbox is worth. -/
noncomputable def Try.pinned : Pinned := { name := "ytdojnaghcfhadaa", sum := "f118f5d9c777e9974df221feeb6fbaa51d7c371422ef6397ad55fce134c7aea0", checked := Try.checked }
namespace Rows
def none {H : Type} : Left H := { results := [], args := [] }

/-- 'laws.FnExactIsRing': WHATEVER THE INPUT: true; the input reads as it did. -/
def fnExactIsRingSpec : ChangeSpec := { name := "fnExactIsRing", fn := fun _ => fun
  | [d1, d2] => { results := [.lit (.bool true)], args := [d1, d2] }
  | _ => none }
def fnExactIsRingRow : OpenClaim := { program := "ytdojnaghcfhadaa", sum := "f118f5d9c777e9974df221feeb6fbaa51d7c371422ef6397ad55fce134c7aea0", func := "loop.example/g01179/laws.FnExactIsRing", spec := "fnExactIsRing", apart := false }
def FnExactIsRingSaid : Prop := fnExactIsRingRow.holds Try.pinned (OpenSpec.ofChange fnExactIsRingSpec)

/-- ITS FALSE NEIGHBOUR: 'it returns false'. Refute it at one input. -/
def fnExactIsRingWrong : ChangeSpec := { name := "fnExactIsRing", fn := fun _ => fun
  | [d1, d2] => { results := [.lit (.bool false)], args := [d1, d2] }
  | _ => none }
def FnExactIsRingWrongFalsely : Prop := fnExactIsRingRow.holds Try.pinned (OpenSpec.ofChange fnExactIsRingWrong)

/-- 'laws.FnExactShrinkCost': WHATEVER THE INPUT: true; the input reads as it did. -/
def fnExactShrinkCostSpec : ChangeSpec := { name := "fnExactShrinkCost", fn := fun _ => fun
  | [d1, d2, d3] => { results := [.lit (.bool true)], args := [d1, d2, d3] }
  | _ => none }
def fnExactShrinkCostRow : OpenClaim := { program := "ytdojnaghcfhadaa", sum := "f118f5d9c777e9974df221feeb6fbaa51d7c371422ef6397ad55fce134c7aea0", func := "loop.example/g01179/laws.FnExactShrinkCost", spec := "fnExactShrinkCost", apart := false }
def FnExactShrinkCostSaid : Prop := fnExactShrinkCostRow.holds Try.pinned (OpenSpec.ofChange fnExactShrinkCostSpec)

/-- ITS FALSE NEIGHBOUR: 'it returns false'. Refute it at one input. -/
def fnExactShrinkCostWrong : ChangeSpec := { name := "fnExactShrinkCost", fn := fun _ => fun
  | [d1, d2, d3] => { results := [.lit (.bool false)], args := [d1, d2, d3] }
  | _ => none }
def FnExactShrinkCostWrongFalsely : Prop := fnExactShrinkCostRow.holds Try.pinned (OpenSpec.ofChange fnExactShrinkCostWrong)

/-- 'laws.FnExactNewRing': WHATEVER THE INPUT: true; the input reads as it did. -/
def fnExactNewRingSpec : ChangeSpec := { name := "fnExactNewRing", fn := fun _ => fun
  | [d1, d2] => { results := [.lit (.bool true)], args := [d1, d2] }
  | _ => none }
def fnExactNewRingRow : OpenClaim := { program := "ytdojnaghcfhadaa", sum := "f118f5d9c777e9974df221feeb6fbaa51d7c371422ef6397ad55fce134c7aea0", func := "loop.example/g01179/laws.FnExactNewRing", spec := "fnExactNewRing", apart := false }
def FnExactNewRingSaid : Prop := fnExactNewRingRow.holds Try.pinned (OpenSpec.ofChange fnExactNewRingSpec)

/-- ITS FALSE NEIGHBOUR: 'it returns false'. Refute it at one input. -/
def fnExactNewRingWrong : ChangeSpec := { name := "fnExactNewRing", fn := fun _ => fun
  | [d1, d2] => { results := [.lit (.bool false)], args := [d1, d2] }
  | _ => none }
def FnExactNewRingWrongFalsely : Prop := fnExactNewRingRow.holds Try.pinned (OpenSpec.ofChange fnExactNewRingWrong)

/-- 'laws.FnExactShrinkCaps': WHATEVER THE INPUT: true; the input reads as it did. -/
def fnExactShrinkCapsSpec : ChangeSpec := { name := "fnExactShrinkCaps", fn := fun _ => fun
  | [d1, d2, d3] => { results := [.lit (.bool true)], args := [d1, d2, d3] }
  | _ => none }
def fnExactShrinkCapsRow : OpenClaim := { program := "ytdojnaghcfhadaa", sum := "f118f5d9c777e9974df221feeb6fbaa51d7c371422ef6397ad55fce134c7aea0", func := "loop.example/g01179/laws.FnExactShrinkCaps", spec := "fnExactShrinkCaps", apart := false }
def FnExactShrinkCapsSaid : Prop := fnExactShrinkCapsRow.holds Try.pinned (OpenSpec.ofChange fnExactShrinkCapsSpec)

/-- ITS FALSE NEIGHBOUR: 'it returns false'. Refute it at one input. -/
def fnExactShrinkCapsWrong : ChangeSpec := { name := "fnExactShrinkCaps", fn := fun _ => fun
  | [d1, d2, d3] => { results := [.lit (.bool false)], args := [d1, d2, d3] }
  | _ => none }
def FnExactShrinkCapsWrongFalsely : Prop := fnExactShrinkCapsRow.holds Try.pinned (OpenSpec.ofChange fnExactShrinkCapsWrong)

/-- 'laws.FnExactRingParts': WHATEVER THE INPUT: true; the input reads as it did. -/
def fnExactRingPartsSpec : ChangeSpec := { name := "fnExactRingParts", fn := fun _ => fun
  | [d1, d2] => { results := [.lit (.bool true)], args := [d1, d2] }
  | _ => none }
def fnExactRingPartsRow : OpenClaim := { program := "ytdojnaghcfhadaa", sum := "f118f5d9c777e9974df221feeb6fbaa51d7c371422ef6397ad55fce134c7aea0", func := "loop.example/g01179/laws.FnExactRingParts", spec := "fnExactRingParts", apart := false }
def FnExactRingPartsSaid : Prop := fnExactRingPartsRow.holds Try.pinned (OpenSpec.ofChange fnExactRingPartsSpec)

/-- ITS FALSE NEIGHBOUR: 'it returns false'. Refute it at one input. -/
def fnExactRingPartsWrong : ChangeSpec := { name := "fnExactRingParts", fn := fun _ => fun
  | [d1, d2] => { results := [.lit (.bool false)], args := [d1, d2] }
  | _ => none }
def FnExactRingPartsWrongFalsely : Prop := fnExactRingPartsRow.holds Try.pinned (OpenSpec.ofChange fnExactRingPartsWrong)

/-- 'laws.FnExactPopBack': WHATEVER THE INPUT: true; the input reads as it did. -/
def fnExactPopBackSpec : ChangeSpec := { name := "fnExactPopBack", fn := fun _ => fun
  | [d1, d2] => { results := [.lit (.bool true)], args := [d1, d2] }
  | _ => none }
def fnExactPopBackRow : OpenClaim := { program := "ytdojnaghcfhadaa", sum := "f118f5d9c777e9974df221feeb6fbaa51d7c371422ef6397ad55fce134c7aea0", func := "loop.example/g01179/laws.FnExactPopBack", spec := "fnExactPopBack", apart := false }
def FnExactPopBackSaid : Prop := fnExactPopBackRow.holds Try.pinned (OpenSpec.ofChange fnExactPopBackSpec)

/-- ITS FALSE NEIGHBOUR: 'it returns false'. Refute it at one input. -/
def fnExactPopBackWrong : ChangeSpec := { name := "fnExactPopBack", fn := fun _ => fun
  | [d1, d2] => { results := [.lit (.bool false)], args := [d1, d2] }
  | _ => none }
def FnExactPopBackWrongFalsely : Prop := fnExactPopBackRow.holds Try.pinned (OpenSpec.ofChange fnExactPopBackWrong)

/-- 'laws.FnExactPopFront': WHATEVER THE INPUT: true; the input reads as it did. -/
def fnExactPopFrontSpec : ChangeSpec := { name := "fnExactPopFront", fn := fun _ => fun
  | [d1, d2] => { results := [.lit (.bool true)], args := [d1, d2] }
  | _ => none }
def fnExactPopFrontRow : OpenClaim := { program := "ytdojnaghcfhadaa", sum := "f118f5d9c777e9974df221feeb6fbaa51d7c371422ef6397ad55fce134c7aea0", func := "loop.example/g01179/laws.FnExactPopFront", spec := "fnExactPopFront", apart := false }
def FnExactPopFrontSaid : Prop := fnExactPopFrontRow.holds Try.pinned (OpenSpec.ofChange fnExactPopFrontSpec)

/-- ITS FALSE NEIGHBOUR: 'it returns false'. Refute it at one input. -/
def fnExactPopFrontWrong : ChangeSpec := { name := "fnExactPopFront", fn := fun _ => fun
  | [d1, d2] => { results := [.lit (.bool false)], args := [d1, d2] }
  | _ => none }
def FnExactPopFrontWrongFalsely : Prop := fnExactPopFrontRow.holds Try.pinned (OpenSpec.ofChange fnExactPopFrontWrong)

/-- 'laws.FnExactSameRings': WHATEVER THE INPUT: true; the input reads as it did. -/
def fnExactSameRingsSpec : ChangeSpec := { name := "fnExactSameRings", fn := fun _ => fun
  | [d1, d2, d3] => { results := [.lit (.bool true)], args := [d1, d2, d3] }
  | _ => none }
def fnExactSameRingsRow : OpenClaim := { program := "ytdojnaghcfhadaa", sum := "f118f5d9c777e9974df221feeb6fbaa51d7c371422ef6397ad55fce134c7aea0", func := "loop.example/g01179/laws.FnExactSameRings", spec := "fnExactSameRings", apart := false }
def FnExactSameRingsSaid : Prop := fnExactSameRingsRow.holds Try.pinned (OpenSpec.ofChange fnExactSameRingsSpec)

/-- ITS FALSE NEIGHBOUR: 'it returns false'. Refute it at one input. -/
def fnExactSameRingsWrong : ChangeSpec := { name := "fnExactSameRings", fn := fun _ => fun
  | [d1, d2, d3] => { results := [.lit (.bool false)], args := [d1, d2, d3] }
  | _ => none }
def FnExactSameRingsWrongFalsely : Prop := fnExactSameRingsRow.holds Try.pinned (OpenSpec.ofChange fnExactSameRingsWrong)

/-- 'laws.FnExactRingBytes': WHATEVER THE INPUT: true; the input reads as it did. -/
def fnExactRingBytesSpec : ChangeSpec := { name := "fnExactRingBytes", fn := fun _ => fun
  | [d1, d2] => { results := [.lit (.bool true)], args := [d1, d2] }
  | _ => none }
def fnExactRingBytesRow : OpenClaim := { program := "ytdojnaghcfhadaa", sum := "f118f5d9c777e9974df221feeb6fbaa51d7c371422ef6397ad55fce134c7aea0", func := "loop.example/g01179/laws.FnExactRingBytes", spec := "fnExactRingBytes", apart := false }
def FnExactRingBytesSaid : Prop := fnExactRingBytesRow.holds Try.pinned (OpenSpec.ofChange fnExactRingBytesSpec)

/-- ITS FALSE NEIGHBOUR: 'it returns false'. Refute it at one input. -/
def fnExactRingBytesWrong : ChangeSpec := { name := "fnExactRingBytes", fn := fun _ => fun
  | [d1, d2] => { results := [.lit (.bool false)], args := [d1, d2] }
  | _ => none }
def FnExactRingBytesWrongFalsely : Prop := fnExactRingBytesRow.holds Try.pinned (OpenSpec.ofChange fnExactRingBytesWrong)

/-- 'laws.FnExactFindInRing': WHATEVER THE INPUT: true; the input reads as it did. -/
def fnExactFindInRingSpec : ChangeSpec := { name := "fnExactFindInRing", fn := fun _ => fun
  | [d1, d2, d3] => { results := [.lit (.bool true)], args := [d1, d2, d3] }
  | _ => none }
def fnExactFindInRingRow : OpenClaim := { program := "ytdojnaghcfhadaa", sum := "f118f5d9c777e9974df221feeb6fbaa51d7c371422ef6397ad55fce134c7aea0", func := "loop.example/g01179/laws.FnExactFindInRing", spec := "fnExactFindInRing", inPlace := ["internal/bytealg.IndexByte"], apart := false }
def FnExactFindInRingSaid : Prop := fnExactFindInRingRow.holds Try.pinned (OpenSpec.ofChange fnExactFindInRingSpec)

/-- ITS FALSE NEIGHBOUR: 'it returns false'. Refute it at one input. -/
def fnExactFindInRingWrong : ChangeSpec := { name := "fnExactFindInRing", fn := fun _ => fun
  | [d1, d2, d3] => { results := [.lit (.bool false)], args := [d1, d2, d3] }
  | _ => none }
def FnExactFindInRingWrongFalsely : Prop := fnExactFindInRingRow.holds Try.pinned (OpenSpec.ofChange fnExactFindInRingWrong)

/-- 'laws.FnGrowth': WHATEVER THE INPUT: true; the input reads as it did. -/
def fnGrowthSpec : ChangeSpec := { name := "fnGrowth", fn := fun _ => fun
  | [d] => { results := [.lit (.bool true)], args := [d] }
  | _ => none }
def fnGrowthRow : OpenClaim := { program := "ytdojnaghcfhadaa", sum := "f118f5d9c777e9974df221feeb6fbaa51d7c371422ef6397ad55fce134c7aea0", func := "loop.example/g01179/laws.FnGrowth", spec := "fnGrowth", unfollowed := true, recurses := true, apart := false }
def FnGrowthSaid : Prop := fnGrowthRow.holds Try.pinned (OpenSpec.ofChange fnGrowthSpec)

/-- ITS FALSE NEIGHBOUR: 'it returns false'. Refute it at one input. -/
def fnGrowthWrong : ChangeSpec := { name := "fnGrowth", fn := fun _ => fun
  | [d] => { results := [.lit (.bool false)], args := [d] }
  | _ => none }
def FnGrowthWrongFalsely : Prop := fnGrowthRow.holds Try.pinned (OpenSpec.ofChange fnGrowthWrong)

/- THE SECOND FORM. 'bulk': how many values and letters a reading holds, each counted each time it is reached (what is shared counts as often as it is met; a slice's spare places count too). A statement '..UptoSaid' is the law's where the arguments, and the package variables that the reading takes, are together of bulk at most 1048576: NARROWER than '..Said'. Prove '..Said' where nothing that the law and all that it calls make is longer than what came in: it says more and counts as full. Else prove '..UptoSaid'. A law counts once. -/
mutual
def uptoBulk {H : Type} : DataW H → Nat
  | .lit (.string bytes) => bytes.length + 1
  | .lit _ => 1
  | .nil => 1
  | .ptr d => uptoBulk d + 1
  | .slice elems spare => uptoBulkAll elems + uptoBulkAll spare + 1
  | .agg parts => uptoBulkAll parts + 1
  | .iface _ d => uptoBulk d + 1
  | .map entries => uptoBulkEntries entries + 1
  | .held _ => 1
def uptoBulkAll {H : Type} : List (DataW H) → Nat
  | [] => 0
  | d :: r => uptoBulk d + uptoBulkAll r
def uptoBulkEntries {H : Type} : List (Lit × DataW H) → Nat
  | [] => 0
  | x :: r => uptoBulkEntry x + uptoBulkEntries r
def uptoBulkEntry {H : Type} : Lit × DataW H → Nat
  | (.string bytes, d) => bytes.length + uptoBulk d + 1
  | (_, d) => uptoBulk d + 1
 end
def uptoSmall : (H : Type) → List (DataW H) → Bool := fun _ ds => decide (uptoBulkAll ds ≤ 1048576)
def OpenSpec.upto (s : _root_.Go.ChangeSpec) : _root_.Go.OpenSpec := { _root_.Go.OpenSpec.ofChange s with cond := some uptoSmall }

/-- 'laws.FnExactIsRing', WHERE WHAT IT READS IS OF BULK AT MOST 1048576: true; the input reads as it did. -/
def fnExactIsRingUptoRow : OpenClaim := { program := "ytdojnaghcfhadaa", sum := "f118f5d9c777e9974df221feeb6fbaa51d7c371422ef6397ad55fce134c7aea0", func := "loop.example/g01179/laws.FnExactIsRing", spec := "fnExactIsRing", apart := false, narrowed := true }
def FnExactIsRingUptoSaid : Prop := fnExactIsRingUptoRow.holds Try.pinned (OpenSpec.upto fnExactIsRingSpec)

/-- 'laws.FnExactShrinkCost', WHERE WHAT IT READS IS OF BULK AT MOST 1048576: true; the input reads as it did. -/
def fnExactShrinkCostUptoRow : OpenClaim := { program := "ytdojnaghcfhadaa", sum := "f118f5d9c777e9974df221feeb6fbaa51d7c371422ef6397ad55fce134c7aea0", func := "loop.example/g01179/laws.FnExactShrinkCost", spec := "fnExactShrinkCost", apart := false, narrowed := true }
def FnExactShrinkCostUptoSaid : Prop := fnExactShrinkCostUptoRow.holds Try.pinned (OpenSpec.upto fnExactShrinkCostSpec)

/-- 'laws.FnExactNewRing', WHERE WHAT IT READS IS OF BULK AT MOST 1048576: true; the input reads as it did. -/
def fnExactNewRingUptoRow : OpenClaim := { program := "ytdojnaghcfhadaa", sum := "f118f5d9c777e9974df221feeb6fbaa51d7c371422ef6397ad55fce134c7aea0", func := "loop.example/g01179/laws.FnExactNewRing", spec := "fnExactNewRing", apart := false, narrowed := true }
def FnExactNewRingUptoSaid : Prop := fnExactNewRingUptoRow.holds Try.pinned (OpenSpec.upto fnExactNewRingSpec)

/-- 'laws.FnExactShrinkCaps', WHERE WHAT IT READS IS OF BULK AT MOST 1048576: true; the input reads as it did. -/
def fnExactShrinkCapsUptoRow : OpenClaim := { program := "ytdojnaghcfhadaa", sum := "f118f5d9c777e9974df221feeb6fbaa51d7c371422ef6397ad55fce134c7aea0", func := "loop.example/g01179/laws.FnExactShrinkCaps", spec := "fnExactShrinkCaps", apart := false, narrowed := true }
def FnExactShrinkCapsUptoSaid : Prop := fnExactShrinkCapsUptoRow.holds Try.pinned (OpenSpec.upto fnExactShrinkCapsSpec)

/-- 'laws.FnExactRingParts', WHERE WHAT IT READS IS OF BULK AT MOST 1048576: true; the input reads as it did. -/
def fnExactRingPartsUptoRow : OpenClaim := { program := "ytdojnaghcfhadaa", sum := "f118f5d9c777e9974df221feeb6fbaa51d7c371422ef6397ad55fce134c7aea0", func := "loop.example/g01179/laws.FnExactRingParts", spec := "fnExactRingParts", apart := false, narrowed := true }
def FnExactRingPartsUptoSaid : Prop := fnExactRingPartsUptoRow.holds Try.pinned (OpenSpec.upto fnExactRingPartsSpec)

/-- 'laws.FnExactPopBack', WHERE WHAT IT READS IS OF BULK AT MOST 1048576: true; the input reads as it did. -/
def fnExactPopBackUptoRow : OpenClaim := { program := "ytdojnaghcfhadaa", sum := "f118f5d9c777e9974df221feeb6fbaa51d7c371422ef6397ad55fce134c7aea0", func := "loop.example/g01179/laws.FnExactPopBack", spec := "fnExactPopBack", apart := false, narrowed := true }
def FnExactPopBackUptoSaid : Prop := fnExactPopBackUptoRow.holds Try.pinned (OpenSpec.upto fnExactPopBackSpec)

/-- 'laws.FnExactPopFront', WHERE WHAT IT READS IS OF BULK AT MOST 1048576: true; the input reads as it did. -/
def fnExactPopFrontUptoRow : OpenClaim := { program := "ytdojnaghcfhadaa", sum := "f118f5d9c777e9974df221feeb6fbaa51d7c371422ef6397ad55fce134c7aea0", func := "loop.example/g01179/laws.FnExactPopFront", spec := "fnExactPopFront", apart := false, narrowed := true }
def FnExactPopFrontUptoSaid : Prop := fnExactPopFrontUptoRow.holds Try.pinned (OpenSpec.upto fnExactPopFrontSpec)

/-- 'laws.FnExactSameRings', WHERE WHAT IT READS IS OF BULK AT MOST 1048576: true; the input reads as it did. -/
def fnExactSameRingsUptoRow : OpenClaim := { program := "ytdojnaghcfhadaa", sum := "f118f5d9c777e9974df221feeb6fbaa51d7c371422ef6397ad55fce134c7aea0", func := "loop.example/g01179/laws.FnExactSameRings", spec := "fnExactSameRings", apart := false, narrowed := true }
def FnExactSameRingsUptoSaid : Prop := fnExactSameRingsUptoRow.holds Try.pinned (OpenSpec.upto fnExactSameRingsSpec)

/-- 'laws.FnExactRingBytes', WHERE WHAT IT READS IS OF BULK AT MOST 1048576: true; the input reads as it did. -/
def fnExactRingBytesUptoRow : OpenClaim := { program := "ytdojnaghcfhadaa", sum := "f118f5d9c777e9974df221feeb6fbaa51d7c371422ef6397ad55fce134c7aea0", func := "loop.example/g01179/laws.FnExactRingBytes", spec := "fnExactRingBytes", apart := false, narrowed := true }
def FnExactRingBytesUptoSaid : Prop := fnExactRingBytesUptoRow.holds Try.pinned (OpenSpec.upto fnExactRingBytesSpec)

/-- 'laws.FnExactFindInRing', WHERE WHAT IT READS IS OF BULK AT MOST 1048576: true; the input reads as it did. -/
def fnExactFindInRingUptoRow : OpenClaim := { program := "ytdojnaghcfhadaa", sum := "f118f5d9c777e9974df221feeb6fbaa51d7c371422ef6397ad55fce134c7aea0", func := "loop.example/g01179/laws.FnExactFindInRing", spec := "fnExactFindInRing", inPlace := ["internal/bytealg.IndexByte"], apart := false, narrowed := true }
def FnExactFindInRingUptoSaid : Prop := fnExactFindInRingUptoRow.holds Try.pinned (OpenSpec.upto fnExactFindInRingSpec)

/-- 'laws.FnGrowth', WHERE WHAT IT READS IS OF BULK AT MOST 1048576: true; the input reads as it did. -/
def fnGrowthUptoRow : OpenClaim := { program := "ytdojnaghcfhadaa", sum := "f118f5d9c777e9974df221feeb6fbaa51d7c371422ef6397ad55fce134c7aea0", func := "loop.example/g01179/laws.FnGrowth", spec := "fnGrowth", unfollowed := true, recurses := true, apart := false, narrowed := true }
def FnGrowthUptoSaid : Prop := fnGrowthUptoRow.holds Try.pinned (OpenSpec.upto fnGrowthSpec)

end Rows
end Go.Proofs.Ytdojnaghcfhadaa
