/-
  No cell of these rows narrows 'for every input' (looked for: loops, veiled, ifaces, maps, wideKeys, modest, calm, conditions, laid).
  DERIVED. THE GIVEN ROWS OF THIS SEAT. 9 by the template 'for every input the law returns true; each argument reads behind the call as it read before'; 0 by the template 'total and deterministic' (their statements: YtldkbeccpheckaaTotals.lean).
  GIVEN WITH THE SEED: the statements are not yours to turn. If you find one false, say at which input.
  Laid BY PROGRAM, IN A SANDBOX (cutbox-rows.mjs): the forced cells as the released guide's own fill.sh prints them over the translation c20047861225c3c9… (all of the seat's roots in one cut). By AI agents, Wed Nov 11 2026. No macro, syntax, notation, axiom, sorry.
-/
import Derived.Test.YtldkbeccpheckaaChecked
import GoSem.Claim
import GoSem.ClaimJoined
import GoSem.ClaimMapViews
import Derived.JoinedTies
import Derived.KernelRfl
namespace Go.Proofs.Ytldkbeccpheckaa
/- THE CELL 'sum', in the pinned program and in every row, IS THE sha256 OF THE DUMP (.gsa) THAT YtldkbeccpheckaaProg.lean LOADS. Nothing in Lean hashes anything: it is a label: what it is worth is what the hold of that sum in a sandbox is worth. -/
noncomputable def Try.pinned : Pinned := { name := "ytldkbeccpheckaa", sum := "c20047861225c3c9a227cda518edf614dc6f2149987484784ae9970e5a85ede1", checked := Try.checked }
namespace Rows
def none {H : Type} : Left H := { results := [], args := [] }

/-- 'laws.FnExactKeyAt': WHATEVER THE INPUT: true; the input reads as it did. -/
def fnExactKeyAtSpec : ChangeSpec := { name := "fnExactKeyAt", fn := fun _ => fun
  | [d1, d2, d3] => { results := [.lit (.bool true)], args := [d1, d2, d3] }
  | _ => none }
def fnExactKeyAtRow : OpenClaim := { program := "ytldkbeccpheckaa", sum := "c20047861225c3c9a227cda518edf614dc6f2149987484784ae9970e5a85ede1", func := "loop.example/g01179/laws.FnExactKeyAt", spec := "fnExactKeyAt", unfollowed := true, recurses := true, apart := false }
def FnExactKeyAtSaid : Prop := fnExactKeyAtRow.holds Try.pinned (OpenSpec.ofChange fnExactKeyAtSpec)

/-- ITS FALSE NEIGHBOUR: 'it returns false'. Refute it at one input. -/
def fnExactKeyAtWrong : ChangeSpec := { name := "fnExactKeyAt", fn := fun _ => fun
  | [d1, d2, d3] => { results := [.lit (.bool false)], args := [d1, d2, d3] }
  | _ => none }
def FnExactKeyAtWrongFalsely : Prop := fnExactKeyAtRow.holds Try.pinned (OpenSpec.ofChange fnExactKeyAtWrong)

/-- 'laws.FnExactIsTable': WHATEVER THE INPUT: true; the input reads as it did. -/
def fnExactIsTableSpec : ChangeSpec := { name := "fnExactIsTable", fn := fun _ => fun
  | [d1, d2] => { results := [.lit (.bool true)], args := [d1, d2] }
  | _ => none }
def fnExactIsTableRow : OpenClaim := { program := "ytldkbeccpheckaa", sum := "c20047861225c3c9a227cda518edf614dc6f2149987484784ae9970e5a85ede1", func := "loop.example/g01179/laws.FnExactIsTable", spec := "fnExactIsTable", inPlace := ["internal/bytealg.Compare"], unfollowed := true, recurses := true, apart := false }
def FnExactIsTableSaid : Prop := fnExactIsTableRow.holds Try.pinned (OpenSpec.ofChange fnExactIsTableSpec)

/-- ITS FALSE NEIGHBOUR: 'it returns false'. Refute it at one input. -/
def fnExactIsTableWrong : ChangeSpec := { name := "fnExactIsTable", fn := fun _ => fun
  | [d1, d2] => { results := [.lit (.bool false)], args := [d1, d2] }
  | _ => none }
def FnExactIsTableWrongFalsely : Prop := fnExactIsTableRow.holds Try.pinned (OpenSpec.ofChange fnExactIsTableWrong)

/-- 'laws.FnExactFindEntry': WHATEVER THE INPUT: true; the input reads as it did. -/
def fnExactFindEntrySpec : ChangeSpec := { name := "fnExactFindEntry", fn := fun _ => fun
  | [d1, d2, d3] => { results := [.lit (.bool true)], args := [d1, d2, d3] }
  | _ => none }
def fnExactFindEntryRow : OpenClaim := { program := "ytldkbeccpheckaa", sum := "c20047861225c3c9a227cda518edf614dc6f2149987484784ae9970e5a85ede1", func := "loop.example/g01179/laws.FnExactFindEntry", spec := "fnExactFindEntry", inPlace := ["internal/bytealg.Compare"], unfollowed := true, recurses := true, apart := false }
def FnExactFindEntrySaid : Prop := fnExactFindEntryRow.holds Try.pinned (OpenSpec.ofChange fnExactFindEntrySpec)

/-- ITS FALSE NEIGHBOUR: 'it returns false'. Refute it at one input. -/
def fnExactFindEntryWrong : ChangeSpec := { name := "fnExactFindEntry", fn := fun _ => fun
  | [d1, d2, d3] => { results := [.lit (.bool false)], args := [d1, d2, d3] }
  | _ => none }
def FnExactFindEntryWrongFalsely : Prop := fnExactFindEntryRow.holds Try.pinned (OpenSpec.ofChange fnExactFindEntryWrong)

/-- 'laws.FnExactEntriesBetween': WHATEVER THE INPUT: true; the input reads as it did. -/
def fnExactEntriesBetweenSpec : ChangeSpec := { name := "fnExactEntriesBetween", fn := fun _ => fun
  | [d1, d2, d3, d4] => { results := [.lit (.bool true)], args := [d1, d2, d3, d4] }
  | _ => none }
def fnExactEntriesBetweenRow : OpenClaim := { program := "ytldkbeccpheckaa", sum := "c20047861225c3c9a227cda518edf614dc6f2149987484784ae9970e5a85ede1", func := "loop.example/g01179/laws.FnExactEntriesBetween", spec := "fnExactEntriesBetween", inPlace := ["internal/bytealg.Compare"], unfollowed := true, recurses := true, apart := false }
def FnExactEntriesBetweenSaid : Prop := fnExactEntriesBetweenRow.holds Try.pinned (OpenSpec.ofChange fnExactEntriesBetweenSpec)

/-- ITS FALSE NEIGHBOUR: 'it returns false'. Refute it at one input. -/
def fnExactEntriesBetweenWrong : ChangeSpec := { name := "fnExactEntriesBetween", fn := fun _ => fun
  | [d1, d2, d3, d4] => { results := [.lit (.bool false)], args := [d1, d2, d3, d4] }
  | _ => none }
def FnExactEntriesBetweenWrongFalsely : Prop := fnExactEntriesBetweenRow.holds Try.pinned (OpenSpec.ofChange fnExactEntriesBetweenWrong)

/-- 'laws.FnExactDropEntry': WHATEVER THE INPUT: true; the input reads as it did. -/
def fnExactDropEntrySpec : ChangeSpec := { name := "fnExactDropEntry", fn := fun _ => fun
  | [d1, d2, d3] => { results := [.lit (.bool true)], args := [d1, d2, d3] }
  | _ => none }
def fnExactDropEntryRow : OpenClaim := { program := "ytldkbeccpheckaa", sum := "c20047861225c3c9a227cda518edf614dc6f2149987484784ae9970e5a85ede1", func := "loop.example/g01179/laws.FnExactDropEntry", spec := "fnExactDropEntry", inPlace := ["internal/bytealg.Compare"], unfollowed := true, recurses := true, apart := false }
def FnExactDropEntrySaid : Prop := fnExactDropEntryRow.holds Try.pinned (OpenSpec.ofChange fnExactDropEntrySpec)

/-- ITS FALSE NEIGHBOUR: 'it returns false'. Refute it at one input. -/
def fnExactDropEntryWrong : ChangeSpec := { name := "fnExactDropEntry", fn := fun _ => fun
  | [d1, d2, d3] => { results := [.lit (.bool false)], args := [d1, d2, d3] }
  | _ => none }
def FnExactDropEntryWrongFalsely : Prop := fnExactDropEntryRow.holds Try.pinned (OpenSpec.ofChange fnExactDropEntryWrong)

/-- 'laws.FnExactTagsOf': WHATEVER THE INPUT: true; the input reads as it did. -/
def fnExactTagsOfSpec : ChangeSpec := { name := "fnExactTagsOf", fn := fun _ => fun
  | [d1, d2] => { results := [.lit (.bool true)], args := [d1, d2] }
  | _ => none }
def fnExactTagsOfRow : OpenClaim := { program := "ytldkbeccpheckaa", sum := "c20047861225c3c9a227cda518edf614dc6f2149987484784ae9970e5a85ede1", func := "loop.example/g01179/laws.FnExactTagsOf", spec := "fnExactTagsOf", unfollowed := true, recurses := true, apart := false }
def FnExactTagsOfSaid : Prop := fnExactTagsOfRow.holds Try.pinned (OpenSpec.ofChange fnExactTagsOfSpec)

/-- ITS FALSE NEIGHBOUR: 'it returns false'. Refute it at one input. -/
def fnExactTagsOfWrong : ChangeSpec := { name := "fnExactTagsOf", fn := fun _ => fun
  | [d1, d2] => { results := [.lit (.bool false)], args := [d1, d2] }
  | _ => none }
def FnExactTagsOfWrongFalsely : Prop := fnExactTagsOfRow.holds Try.pinned (OpenSpec.ofChange fnExactTagsOfWrong)

/-- 'laws.FnExactParseFrames': WHATEVER THE INPUT: true; the input reads as it did. -/
def fnExactParseFramesSpec : ChangeSpec := { name := "fnExactParseFrames", fn := fun _ => fun
  | [d1, d2] => { results := [.lit (.bool true)], args := [d1, d2] }
  | _ => none }
def fnExactParseFramesRow : OpenClaim := { program := "ytldkbeccpheckaa", sum := "c20047861225c3c9a227cda518edf614dc6f2149987484784ae9970e5a85ede1", func := "loop.example/g01179/laws.FnExactParseFrames", spec := "fnExactParseFrames", unfollowed := true, recurses := true, apart := false }
def FnExactParseFramesSaid : Prop := fnExactParseFramesRow.holds Try.pinned (OpenSpec.ofChange fnExactParseFramesSpec)

/-- ITS FALSE NEIGHBOUR: 'it returns false'. Refute it at one input. -/
def fnExactParseFramesWrong : ChangeSpec := { name := "fnExactParseFrames", fn := fun _ => fun
  | [d1, d2] => { results := [.lit (.bool false)], args := [d1, d2] }
  | _ => none }
def FnExactParseFramesWrongFalsely : Prop := fnExactParseFramesRow.holds Try.pinned (OpenSpec.ofChange fnExactParseFramesWrong)

/-- 'laws.FnExactSplitLoan': WHATEVER THE INPUT: true; the input reads as it did. -/
def fnExactSplitLoanSpec : ChangeSpec := { name := "fnExactSplitLoan", fn := fun _ => fun
  | [d1, d2, d3] => { results := [.lit (.bool true)], args := [d1, d2, d3] }
  | _ => none }
def fnExactSplitLoanRow : OpenClaim := { program := "ytldkbeccpheckaa", sum := "c20047861225c3c9a227cda518edf614dc6f2149987484784ae9970e5a85ede1", func := "loop.example/g01179/laws.FnExactSplitLoan", spec := "fnExactSplitLoan", unfollowed := true, recurses := true, apart := false }
def FnExactSplitLoanSaid : Prop := fnExactSplitLoanRow.holds Try.pinned (OpenSpec.ofChange fnExactSplitLoanSpec)

/-- ITS FALSE NEIGHBOUR: 'it returns false'. Refute it at one input. -/
def fnExactSplitLoanWrong : ChangeSpec := { name := "fnExactSplitLoan", fn := fun _ => fun
  | [d1, d2, d3] => { results := [.lit (.bool false)], args := [d1, d2, d3] }
  | _ => none }
def FnExactSplitLoanWrongFalsely : Prop := fnExactSplitLoanRow.holds Try.pinned (OpenSpec.ofChange fnExactSplitLoanWrong)

/-- 'laws.FnExactShareLoan': WHATEVER THE INPUT: true; the input reads as it did. -/
def fnExactShareLoanSpec : ChangeSpec := { name := "fnExactShareLoan", fn := fun _ => fun
  | [d1, d2, d3, d4] => { results := [.lit (.bool true)], args := [d1, d2, d3, d4] }
  | _ => none }
def fnExactShareLoanRow : OpenClaim := { program := "ytldkbeccpheckaa", sum := "c20047861225c3c9a227cda518edf614dc6f2149987484784ae9970e5a85ede1", func := "loop.example/g01179/laws.FnExactShareLoan", spec := "fnExactShareLoan", unfollowed := true, recurses := true, apart := false }
def FnExactShareLoanSaid : Prop := fnExactShareLoanRow.holds Try.pinned (OpenSpec.ofChange fnExactShareLoanSpec)

/-- ITS FALSE NEIGHBOUR: 'it returns false'. Refute it at one input. -/
def fnExactShareLoanWrong : ChangeSpec := { name := "fnExactShareLoan", fn := fun _ => fun
  | [d1, d2, d3, d4] => { results := [.lit (.bool false)], args := [d1, d2, d3, d4] }
  | _ => none }
def FnExactShareLoanWrongFalsely : Prop := fnExactShareLoanRow.holds Try.pinned (OpenSpec.ofChange fnExactShareLoanWrong)

/- THE SECOND FORM. 'bulk': how many values and letters a reading holds, each counted each time it is reached (what is shared counts as often as it is met; a slice's spare places count too). A statement '..UptoSaid' is the law's where the arguments, and the package variables that the reading takes, are together of bulk at most 1048576: NARROWER than '..Said'. Prove '..Said' where nothing that the law and all that it calls make is longer than what came in: it says more and counts as full. Else prove '..UptoSaid'. A law counts once. -/
mutual
def uptoBulk {H : Type} : DataW H → Nat
  | .lit (.string bytes) => bytes.length + 1
  | .lit _ => 1
  | .nil => 1
  | .ptr d => uptoBulk d + 1
  | .slice elems spare => uptoBulkAll elems + uptoBulkAll spare + 1
  | .agg parts => uptoBulkAll parts + 1
  | .iface _ d => uptoBulk d + 1
  | .map entries => uptoBulkEntries entries + 1
  | .held _ => 1
def uptoBulkAll {H : Type} : List (DataW H) → Nat
  | [] => 0
  | d :: r => uptoBulk d + uptoBulkAll r
def uptoBulkEntries {H : Type} : List (Lit × DataW H) → Nat
  | [] => 0
  | x :: r => uptoBulkEntry x + uptoBulkEntries r
def uptoBulkEntry {H : Type} : Lit × DataW H → Nat
  | (.string bytes, d) => bytes.length + uptoBulk d + 1
  | (_, d) => uptoBulk d + 1
 end
def uptoSmall : (H : Type) → List (DataW H) → Bool := fun _ ds => decide (uptoBulkAll ds ≤ 1048576)
def OpenSpec.upto (s : _root_.Go.ChangeSpec) : _root_.Go.OpenSpec := { _root_.Go.OpenSpec.ofChange s with cond := some uptoSmall }

/-- 'laws.FnExactKeyAt', WHERE WHAT IT READS IS OF BULK AT MOST 1048576: true; the input reads as it did. -/
def fnExactKeyAtUptoRow : OpenClaim := { program := "ytldkbeccpheckaa", sum := "c20047861225c3c9a227cda518edf614dc6f2149987484784ae9970e5a85ede1", func := "loop.example/g01179/laws.FnExactKeyAt", spec := "fnExactKeyAt", unfollowed := true, recurses := true, apart := false, narrowed := true }
def FnExactKeyAtUptoSaid : Prop := fnExactKeyAtUptoRow.holds Try.pinned (OpenSpec.upto fnExactKeyAtSpec)

/-- 'laws.FnExactIsTable', WHERE WHAT IT READS IS OF BULK AT MOST 1048576: true; the input reads as it did. -/
def fnExactIsTableUptoRow : OpenClaim := { program := "ytldkbeccpheckaa", sum := "c20047861225c3c9a227cda518edf614dc6f2149987484784ae9970e5a85ede1", func := "loop.example/g01179/laws.FnExactIsTable", spec := "fnExactIsTable", inPlace := ["internal/bytealg.Compare"], unfollowed := true, recurses := true, apart := false, narrowed := true }
def FnExactIsTableUptoSaid : Prop := fnExactIsTableUptoRow.holds Try.pinned (OpenSpec.upto fnExactIsTableSpec)

/-- 'laws.FnExactFindEntry', WHERE WHAT IT READS IS OF BULK AT MOST 1048576: true; the input reads as it did. -/
def fnExactFindEntryUptoRow : OpenClaim := { program := "ytldkbeccpheckaa", sum := "c20047861225c3c9a227cda518edf614dc6f2149987484784ae9970e5a85ede1", func := "loop.example/g01179/laws.FnExactFindEntry", spec := "fnExactFindEntry", inPlace := ["internal/bytealg.Compare"], unfollowed := true, recurses := true, apart := false, narrowed := true }
def FnExactFindEntryUptoSaid : Prop := fnExactFindEntryUptoRow.holds Try.pinned (OpenSpec.upto fnExactFindEntrySpec)

/-- 'laws.FnExactEntriesBetween', WHERE WHAT IT READS IS OF BULK AT MOST 1048576: true; the input reads as it did. -/
def fnExactEntriesBetweenUptoRow : OpenClaim := { program := "ytldkbeccpheckaa", sum := "c20047861225c3c9a227cda518edf614dc6f2149987484784ae9970e5a85ede1", func := "loop.example/g01179/laws.FnExactEntriesBetween", spec := "fnExactEntriesBetween", inPlace := ["internal/bytealg.Compare"], unfollowed := true, recurses := true, apart := false, narrowed := true }
def FnExactEntriesBetweenUptoSaid : Prop := fnExactEntriesBetweenUptoRow.holds Try.pinned (OpenSpec.upto fnExactEntriesBetweenSpec)

/-- 'laws.FnExactDropEntry', WHERE WHAT IT READS IS OF BULK AT MOST 1048576: true; the input reads as it did. -/
def fnExactDropEntryUptoRow : OpenClaim := { program := "ytldkbeccpheckaa", sum := "c20047861225c3c9a227cda518edf614dc6f2149987484784ae9970e5a85ede1", func := "loop.example/g01179/laws.FnExactDropEntry", spec := "fnExactDropEntry", inPlace := ["internal/bytealg.Compare"], unfollowed := true, recurses := true, apart := false, narrowed := true }
def FnExactDropEntryUptoSaid : Prop := fnExactDropEntryUptoRow.holds Try.pinned (OpenSpec.upto fnExactDropEntrySpec)

/-- 'laws.FnExactTagsOf', WHERE WHAT IT READS IS OF BULK AT MOST 1048576: true; the input reads as it did. -/
def fnExactTagsOfUptoRow : OpenClaim := { program := "ytldkbeccpheckaa", sum := "c20047861225c3c9a227cda518edf614dc6f2149987484784ae9970e5a85ede1", func := "loop.example/g01179/laws.FnExactTagsOf", spec := "fnExactTagsOf", unfollowed := true, recurses := true, apart := false, narrowed := true }
def FnExactTagsOfUptoSaid : Prop := fnExactTagsOfUptoRow.holds Try.pinned (OpenSpec.upto fnExactTagsOfSpec)

/-- 'laws.FnExactParseFrames', WHERE WHAT IT READS IS OF BULK AT MOST 1048576: true; the input reads as it did. -/
def fnExactParseFramesUptoRow : OpenClaim := { program := "ytldkbeccpheckaa", sum := "c20047861225c3c9a227cda518edf614dc6f2149987484784ae9970e5a85ede1", func := "loop.example/g01179/laws.FnExactParseFrames", spec := "fnExactParseFrames", unfollowed := true, recurses := true, apart := false, narrowed := true }
def FnExactParseFramesUptoSaid : Prop := fnExactParseFramesUptoRow.holds Try.pinned (OpenSpec.upto fnExactParseFramesSpec)

/-- 'laws.FnExactSplitLoan', WHERE WHAT IT READS IS OF BULK AT MOST 1048576: true; the input reads as it did. -/
def fnExactSplitLoanUptoRow : OpenClaim := { program := "ytldkbeccpheckaa", sum := "c20047861225c3c9a227cda518edf614dc6f2149987484784ae9970e5a85ede1", func := "loop.example/g01179/laws.FnExactSplitLoan", spec := "fnExactSplitLoan", unfollowed := true, recurses := true, apart := false, narrowed := true }
def FnExactSplitLoanUptoSaid : Prop := fnExactSplitLoanUptoRow.holds Try.pinned (OpenSpec.upto fnExactSplitLoanSpec)

/-- 'laws.FnExactShareLoan', WHERE WHAT IT READS IS OF BULK AT MOST 1048576: true; the input reads as it did. -/
def fnExactShareLoanUptoRow : OpenClaim := { program := "ytldkbeccpheckaa", sum := "c20047861225c3c9a227cda518edf614dc6f2149987484784ae9970e5a85ede1", func := "loop.example/g01179/laws.FnExactShareLoan", spec := "fnExactShareLoan", unfollowed := true, recurses := true, apart := false, narrowed := true }
def FnExactShareLoanUptoSaid : Prop := fnExactShareLoanUptoRow.holds Try.pinned (OpenSpec.upto fnExactShareLoanSpec)

end Rows
end Go.Proofs.Ytldkbeccpheckaa
