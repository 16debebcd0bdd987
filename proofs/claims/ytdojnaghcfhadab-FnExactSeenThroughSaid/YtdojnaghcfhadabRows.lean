/-
  No cell of these rows narrows 'for every input' (looked for: loops, veiled, ifaces, maps, wideKeys, modest, calm, conditions, laid).
  DERIVED. THE GIVEN ROWS OF THIS SEAT. 11 by the template 'for every input the law returns true; each argument reads behind the call as it read before'; 0 by the template 'total and deterministic' (their statements: YtdojnaghcfhadabTotals.lean).
  GIVEN WITH THE SEED: the statements are not yours to turn. If you find one false, say at which input.
  Laid BY PROGRAM, IN A SANDBOX (cutbox-rows.mjs): the forced cells as the released guide's own fill.sh prints them over the translation 5bd5c0fa1be18c2c… (all of the seat's roots in one cut). By AI agents, Wed Nov 11 2026. No macro, syntax, notation, axiom, sorry.
-/
import Derived.Test.YtdojnaghcfhadabChecked
import GoSem.Claim
import GoSem.ClaimJoined
import GoSem.ClaimMapViews
import Derived.JoinedTies
import Derived.KernelRfl
namespace Go.Proofs.Ytdojnaghcfhadab
/- THE CELL 'sum', in the pinned program and in every row, IS THE sha256 OF THE DUMP (.gsa) THAT YtdojnaghcfhadabProg.lean LOADS. Nothing in Lean hashes anything: it is a label: what it is worth is what the hold of that sum in a sandbox is worth. -/
noncomputable def Try.pinned : Pinned := { name := "ytdojnaghcfhadab", sum := "5bd5c0fa1be18c2c2412d77f8a0e3bacc4e70bab4af4e4b889b0367d6178b6e7", checked := Try.checked }
namespace Rows
def none {H : Type} : Left H := { results := [], args := [] }

/-- 'laws.FnExactMayRead': WHATEVER THE INPUT: true; the input reads as it did. -/
def fnExactMayReadSpec : ChangeSpec := { name := "fnExactMayRead", fn := fun _ => fun
  | [d1, d2, d3, d4] => { results := [.lit (.bool true)], args := [d1, d2, d3, d4] }
  | _ => none }
def fnExactMayReadRow : OpenClaim := { program := "ytdojnaghcfhadab", sum := "5bd5c0fa1be18c2c2412d77f8a0e3bacc4e70bab4af4e4b889b0367d6178b6e7", func := "loop.example/g01179/laws.FnExactMayRead", spec := "fnExactMayRead", unfollowed := true, recurses := true, apart := false }
def FnExactMayReadSaid : Prop := fnExactMayReadRow.holds Try.pinned (OpenSpec.ofChange fnExactMayReadSpec)

/-- ITS FALSE NEIGHBOUR: 'it returns false'. Refute it at one input. -/
def fnExactMayReadWrong : ChangeSpec := { name := "fnExactMayRead", fn := fun _ => fun
  | [d1, d2, d3, d4] => { results := [.lit (.bool false)], args := [d1, d2, d3, d4] }
  | _ => none }
def FnExactMayReadWrongFalsely : Prop := fnExactMayReadRow.holds Try.pinned (OpenSpec.ofChange fnExactMayReadWrong)

/-- 'laws.FnExactMayWrite': WHATEVER THE INPUT: true; the input reads as it did. -/
def fnExactMayWriteSpec : ChangeSpec := { name := "fnExactMayWrite", fn := fun _ => fun
  | [d1, d2, d3, d4] => { results := [.lit (.bool true)], args := [d1, d2, d3, d4] }
  | _ => none }
def fnExactMayWriteRow : OpenClaim := { program := "ytdojnaghcfhadab", sum := "5bd5c0fa1be18c2c2412d77f8a0e3bacc4e70bab4af4e4b889b0367d6178b6e7", func := "loop.example/g01179/laws.FnExactMayWrite", spec := "fnExactMayWrite", unfollowed := true, recurses := true, apart := false }
def FnExactMayWriteSaid : Prop := fnExactMayWriteRow.holds Try.pinned (OpenSpec.ofChange fnExactMayWriteSpec)

/-- ITS FALSE NEIGHBOUR: 'it returns false'. Refute it at one input. -/
def fnExactMayWriteWrong : ChangeSpec := { name := "fnExactMayWrite", fn := fun _ => fun
  | [d1, d2, d3, d4] => { results := [.lit (.bool false)], args := [d1, d2, d3, d4] }
  | _ => none }
def FnExactMayWriteWrongFalsely : Prop := fnExactMayWriteRow.holds Try.pinned (OpenSpec.ofChange fnExactMayWriteWrong)

/-- 'laws.FnExactIsGap': WHATEVER THE INPUT: true; the input reads as it did. -/
def fnExactIsGapSpec : ChangeSpec := { name := "fnExactIsGap", fn := fun _ => fun
  | [d] => { results := [.lit (.bool true)], args := [d] }
  | _ => none }
def fnExactIsGapRow : OpenClaim := { program := "ytdojnaghcfhadab", sum := "5bd5c0fa1be18c2c2412d77f8a0e3bacc4e70bab4af4e4b889b0367d6178b6e7", func := "loop.example/g01179/laws.FnExactIsGap", spec := "fnExactIsGap", unfollowed := true, recurses := true, apart := false }
def FnExactIsGapSaid : Prop := fnExactIsGapRow.holds Try.pinned (OpenSpec.ofChange fnExactIsGapSpec)

/-- ITS FALSE NEIGHBOUR: 'it returns false'. Refute it at one input. -/
def fnExactIsGapWrong : ChangeSpec := { name := "fnExactIsGap", fn := fun _ => fun
  | [d] => { results := [.lit (.bool false)], args := [d] }
  | _ => none }
def FnExactIsGapWrongFalsely : Prop := fnExactIsGapRow.holds Try.pinned (OpenSpec.ofChange fnExactIsGapWrong)

/-- 'laws.FnExactShareLoan': WHATEVER THE INPUT: true; the input reads as it did. -/
def fnExactShareLoanSpec : ChangeSpec := { name := "fnExactShareLoan", fn := fun _ => fun
  | [d1, d2, d3, d4] => { results := [.lit (.bool true)], args := [d1, d2, d3, d4] }
  | _ => none }
def fnExactShareLoanRow : OpenClaim := { program := "ytdojnaghcfhadab", sum := "5bd5c0fa1be18c2c2412d77f8a0e3bacc4e70bab4af4e4b889b0367d6178b6e7", func := "loop.example/g01179/laws.FnExactShareLoan", spec := "fnExactShareLoan", unfollowed := true, recurses := true, apart := false }
def FnExactShareLoanSaid : Prop := fnExactShareLoanRow.holds Try.pinned (OpenSpec.ofChange fnExactShareLoanSpec)

/-- ITS FALSE NEIGHBOUR: 'it returns false'. Refute it at one input. -/
def fnExactShareLoanWrong : ChangeSpec := { name := "fnExactShareLoan", fn := fun _ => fun
  | [d1, d2, d3, d4] => { results := [.lit (.bool false)], args := [d1, d2, d3, d4] }
  | _ => none }
def FnExactShareLoanWrongFalsely : Prop := fnExactShareLoanRow.holds Try.pinned (OpenSpec.ofChange fnExactShareLoanWrong)

/-- 'laws.FnExactInConflict': WHATEVER THE INPUT: true; the input reads as it did. -/
def fnExactInConflictSpec : ChangeSpec := { name := "fnExactInConflict", fn := fun _ => fun
  | [d1, d2, d3] => { results := [.lit (.bool true)], args := [d1, d2, d3] }
  | _ => none }
def fnExactInConflictRow : OpenClaim := { program := "ytdojnaghcfhadab", sum := "5bd5c0fa1be18c2c2412d77f8a0e3bacc4e70bab4af4e4b889b0367d6178b6e7", func := "loop.example/g01179/laws.FnExactInConflict", spec := "fnExactInConflict", unfollowed := true, recurses := true, apart := false }
def FnExactInConflictSaid : Prop := fnExactInConflictRow.holds Try.pinned (OpenSpec.ofChange fnExactInConflictSpec)

/-- ITS FALSE NEIGHBOUR: 'it returns false'. Refute it at one input. -/
def fnExactInConflictWrong : ChangeSpec := { name := "fnExactInConflict", fn := fun _ => fun
  | [d1, d2, d3] => { results := [.lit (.bool false)], args := [d1, d2, d3] }
  | _ => none }
def FnExactInConflictWrongFalsely : Prop := fnExactInConflictRow.holds Try.pinned (OpenSpec.ofChange fnExactInConflictWrong)

/-- 'laws.FnExactSplitLoan': WHATEVER THE INPUT: true; the input reads as it did. -/
def fnExactSplitLoanSpec : ChangeSpec := { name := "fnExactSplitLoan", fn := fun _ => fun
  | [d1, d2, d3] => { results := [.lit (.bool true)], args := [d1, d2, d3] }
  | _ => none }
def fnExactSplitLoanRow : OpenClaim := { program := "ytdojnaghcfhadab", sum := "5bd5c0fa1be18c2c2412d77f8a0e3bacc4e70bab4af4e4b889b0367d6178b6e7", func := "loop.example/g01179/laws.FnExactSplitLoan", spec := "fnExactSplitLoan", unfollowed := true, recurses := true, apart := false }
def FnExactSplitLoanSaid : Prop := fnExactSplitLoanRow.holds Try.pinned (OpenSpec.ofChange fnExactSplitLoanSpec)

/-- ITS FALSE NEIGHBOUR: 'it returns false'. Refute it at one input. -/
def fnExactSplitLoanWrong : ChangeSpec := { name := "fnExactSplitLoan", fn := fun _ => fun
  | [d1, d2, d3] => { results := [.lit (.bool false)], args := [d1, d2, d3] }
  | _ => none }
def FnExactSplitLoanWrongFalsely : Prop := fnExactSplitLoanRow.holds Try.pinned (OpenSpec.ofChange fnExactSplitLoanWrong)

/-- 'laws.FnExactIsRope': WHATEVER THE INPUT: true; the input reads as it did. -/
def fnExactIsRopeSpec : ChangeSpec := { name := "fnExactIsRope", fn := fun _ => fun
  | [d1, d2] => { results := [.lit (.bool true)], args := [d1, d2] }
  | _ => none }
def fnExactIsRopeRow : OpenClaim := { program := "ytdojnaghcfhadab", sum := "5bd5c0fa1be18c2c2412d77f8a0e3bacc4e70bab4af4e4b889b0367d6178b6e7", func := "loop.example/g01179/laws.FnExactIsRope", spec := "fnExactIsRope", unfollowed := true, recurses := true, apart := false }
def FnExactIsRopeSaid : Prop := fnExactIsRopeRow.holds Try.pinned (OpenSpec.ofChange fnExactIsRopeSpec)

/-- ITS FALSE NEIGHBOUR: 'it returns false'. Refute it at one input. -/
def fnExactIsRopeWrong : ChangeSpec := { name := "fnExactIsRope", fn := fun _ => fun
  | [d1, d2] => { results := [.lit (.bool false)], args := [d1, d2] }
  | _ => none }
def FnExactIsRopeWrongFalsely : Prop := fnExactIsRopeRow.holds Try.pinned (OpenSpec.ofChange fnExactIsRopeWrong)

/-- 'laws.FnExactAreLoans': WHATEVER THE INPUT: true; the input reads as it did. -/
def fnExactAreLoansSpec : ChangeSpec := { name := "fnExactAreLoans", fn := fun _ => fun
  | [d1, d2] => { results := [.lit (.bool true)], args := [d1, d2] }
  | _ => none }
def fnExactAreLoansRow : OpenClaim := { program := "ytdojnaghcfhadab", sum := "5bd5c0fa1be18c2c2412d77f8a0e3bacc4e70bab4af4e4b889b0367d6178b6e7", func := "loop.example/g01179/laws.FnExactAreLoans", spec := "fnExactAreLoans", unfollowed := true, recurses := true, apart := false }
def FnExactAreLoansSaid : Prop := fnExactAreLoansRow.holds Try.pinned (OpenSpec.ofChange fnExactAreLoansSpec)

/-- ITS FALSE NEIGHBOUR: 'it returns false'. Refute it at one input. -/
def fnExactAreLoansWrong : ChangeSpec := { name := "fnExactAreLoans", fn := fun _ => fun
  | [d1, d2] => { results := [.lit (.bool false)], args := [d1, d2] }
  | _ => none }
def FnExactAreLoansWrongFalsely : Prop := fnExactAreLoansRow.holds Try.pinned (OpenSpec.ofChange fnExactAreLoansWrong)

/-- 'laws.FnExactRopeLength': WHATEVER THE INPUT: true; the input reads as it did. -/
def fnExactRopeLengthSpec : ChangeSpec := { name := "fnExactRopeLength", fn := fun _ => fun
  | [d1, d2] => { results := [.lit (.bool true)], args := [d1, d2] }
  | _ => none }
def fnExactRopeLengthRow : OpenClaim := { program := "ytdojnaghcfhadab", sum := "5bd5c0fa1be18c2c2412d77f8a0e3bacc4e70bab4af4e4b889b0367d6178b6e7", func := "loop.example/g01179/laws.FnExactRopeLength", spec := "fnExactRopeLength", unfollowed := true, recurses := true, apart := false }
def FnExactRopeLengthSaid : Prop := fnExactRopeLengthRow.holds Try.pinned (OpenSpec.ofChange fnExactRopeLengthSpec)

/-- ITS FALSE NEIGHBOUR: 'it returns false'. Refute it at one input. -/
def fnExactRopeLengthWrong : ChangeSpec := { name := "fnExactRopeLength", fn := fun _ => fun
  | [d1, d2] => { results := [.lit (.bool false)], args := [d1, d2] }
  | _ => none }
def FnExactRopeLengthWrongFalsely : Prop := fnExactRopeLengthRow.holds Try.pinned (OpenSpec.ofChange fnExactRopeLengthWrong)

/-- 'laws.FnExactSeenThrough': WHATEVER THE INPUT: true; the input reads as it did. -/
def fnExactSeenThroughSpec : ChangeSpec := { name := "fnExactSeenThrough", fn := fun _ => fun
  | [d1, d2] => { results := [.lit (.bool true)], args := [d1, d2] }
  | _ => none }
def fnExactSeenThroughRow : OpenClaim := { program := "ytdojnaghcfhadab", sum := "5bd5c0fa1be18c2c2412d77f8a0e3bacc4e70bab4af4e4b889b0367d6178b6e7", func := "loop.example/g01179/laws.FnExactSeenThrough", spec := "fnExactSeenThrough", unfollowed := true, recurses := true, apart := false }
def FnExactSeenThroughSaid : Prop := fnExactSeenThroughRow.holds Try.pinned (OpenSpec.ofChange fnExactSeenThroughSpec)

/-- ITS FALSE NEIGHBOUR: 'it returns false'. Refute it at one input. -/
def fnExactSeenThroughWrong : ChangeSpec := { name := "fnExactSeenThrough", fn := fun _ => fun
  | [d1, d2] => { results := [.lit (.bool false)], args := [d1, d2] }
  | _ => none }
def FnExactSeenThroughWrongFalsely : Prop := fnExactSeenThroughRow.holds Try.pinned (OpenSpec.ofChange fnExactSeenThroughWrong)

/-- 'laws.FnExactFindPart': WHATEVER THE INPUT: true; the input reads as it did. -/
def fnExactFindPartSpec : ChangeSpec := { name := "fnExactFindPart", fn := fun _ => fun
  | [d1, d2, d3] => { results := [.lit (.bool true)], args := [d1, d2, d3] }
  | _ => none }
def fnExactFindPartRow : OpenClaim := { program := "ytdojnaghcfhadab", sum := "5bd5c0fa1be18c2c2412d77f8a0e3bacc4e70bab4af4e4b889b0367d6178b6e7", func := "loop.example/g01179/laws.FnExactFindPart", spec := "fnExactFindPart", unfollowed := true, recurses := true, apart := false }
def FnExactFindPartSaid : Prop := fnExactFindPartRow.holds Try.pinned (OpenSpec.ofChange fnExactFindPartSpec)

/-- ITS FALSE NEIGHBOUR: 'it returns false'. Refute it at one input. -/
def fnExactFindPartWrong : ChangeSpec := { name := "fnExactFindPart", fn := fun _ => fun
  | [d1, d2, d3] => { results := [.lit (.bool false)], args := [d1, d2, d3] }
  | _ => none }
def FnExactFindPartWrongFalsely : Prop := fnExactFindPartRow.holds Try.pinned (OpenSpec.ofChange fnExactFindPartWrong)

/- THE SECOND FORM. 'bulk': how many values and letters a reading holds, each counted each time it is reached (what is shared counts as often as it is met; a slice's spare places count too). A statement '..UptoSaid' is the law's where the arguments, and the package variables that the reading takes, are together of bulk at most 1048576: NARROWER than '..Said'. Prove '..Said' where nothing that the law and all that it calls make is longer than what came in: it says more and counts as full. Else prove '..UptoSaid'. A law counts once. -/
mutual
def uptoBulk {H : Type} : DataW H → Nat
  | .lit (.string bytes) => bytes.length + 1
  | .lit _ => 1
  | .nil => 1
  | .ptr d => uptoBulk d + 1
  | .slice elems spare => uptoBulkAll elems + uptoBulkAll spare + 1
  | .agg parts => uptoBulkAll parts + 1
  | .iface _ d => uptoBulk d + 1
  | .map entries => uptoBulkEntries entries + 1
  | .held _ => 1
def uptoBulkAll {H : Type} : List (DataW H) → Nat
  | [] => 0
  | d :: r => uptoBulk d + uptoBulkAll r
def uptoBulkEntries {H : Type} : List (Lit × DataW H) → Nat
  | [] => 0
  | x :: r => uptoBulkEntry x + uptoBulkEntries r
def uptoBulkEntry {H : Type} : Lit × DataW H → Nat
  | (.string bytes, d) => bytes.length + uptoBulk d + 1
  | (_, d) => uptoBulk d + 1
 end
def uptoSmall : (H : Type) → List (DataW H) → Bool := fun _ ds => decide (uptoBulkAll ds ≤ 1048576)
def OpenSpec.upto (s : _root_.Go.ChangeSpec) : _root_.Go.OpenSpec := { _root_.Go.OpenSpec.ofChange s with cond := some uptoSmall }

/-- 'laws.FnExactMayRead', WHERE WHAT IT READS IS OF BULK AT MOST 1048576: true; the input reads as it did. -/
def fnExactMayReadUptoRow : OpenClaim := { program := "ytdojnaghcfhadab", sum := "5bd5c0fa1be18c2c2412d77f8a0e3bacc4e70bab4af4e4b889b0367d6178b6e7", func := "loop.example/g01179/laws.FnExactMayRead", spec := "fnExactMayRead", unfollowed := true, recurses := true, apart := false, narrowed := true }
def FnExactMayReadUptoSaid : Prop := fnExactMayReadUptoRow.holds Try.pinned (OpenSpec.upto fnExactMayReadSpec)

/-- 'laws.FnExactMayWrite', WHERE WHAT IT READS IS OF BULK AT MOST 1048576: true; the input reads as it did. -/
def fnExactMayWriteUptoRow : OpenClaim := { program := "ytdojnaghcfhadab", sum := "5bd5c0fa1be18c2c2412d77f8a0e3bacc4e70bab4af4e4b889b0367d6178b6e7", func := "loop.example/g01179/laws.FnExactMayWrite", spec := "fnExactMayWrite", unfollowed := true, recurses := true, apart := false, narrowed := true }
def FnExactMayWriteUptoSaid : Prop := fnExactMayWriteUptoRow.holds Try.pinned (OpenSpec.upto fnExactMayWriteSpec)

/-- 'laws.FnExactIsGap', WHERE WHAT IT READS IS OF BULK AT MOST 1048576: true; the input reads as it did. -/
def fnExactIsGapUptoRow : OpenClaim := { program := "ytdojnaghcfhadab", sum := "5bd5c0fa1be18c2c2412d77f8a0e3bacc4e70bab4af4e4b889b0367d6178b6e7", func := "loop.example/g01179/laws.FnExactIsGap", spec := "fnExactIsGap", unfollowed := true, recurses := true, apart := false, narrowed := true }
def FnExactIsGapUptoSaid : Prop := fnExactIsGapUptoRow.holds Try.pinned (OpenSpec.upto fnExactIsGapSpec)

/-- 'laws.FnExactShareLoan', WHERE WHAT IT READS IS OF BULK AT MOST 1048576: true; the input reads as it did. -/
def fnExactShareLoanUptoRow : OpenClaim := { program := "ytdojnaghcfhadab", sum := "5bd5c0fa1be18c2c2412d77f8a0e3bacc4e70bab4af4e4b889b0367d6178b6e7", func := "loop.example/g01179/laws.FnExactShareLoan", spec := "fnExactShareLoan", unfollowed := true, recurses := true, apart := false, narrowed := true }
def FnExactShareLoanUptoSaid : Prop := fnExactShareLoanUptoRow.holds Try.pinned (OpenSpec.upto fnExactShareLoanSpec)

/-- 'laws.FnExactInConflict', WHERE WHAT IT READS IS OF BULK AT MOST 1048576: true; the input reads as it did. -/
def fnExactInConflictUptoRow : OpenClaim := { program := "ytdojnaghcfhadab", sum := "5bd5c0fa1be18c2c2412d77f8a0e3bacc4e70bab4af4e4b889b0367d6178b6e7", func := "loop.example/g01179/laws.FnExactInConflict", spec := "fnExactInConflict", unfollowed := true, recurses := true, apart := false, narrowed := true }
def FnExactInConflictUptoSaid : Prop := fnExactInConflictUptoRow.holds Try.pinned (OpenSpec.upto fnExactInConflictSpec)

/-- 'laws.FnExactSplitLoan', WHERE WHAT IT READS IS OF BULK AT MOST 1048576: true; the input reads as it did. -/
def fnExactSplitLoanUptoRow : OpenClaim := { program := "ytdojnaghcfhadab", sum := "5bd5c0fa1be18c2c2412d77f8a0e3bacc4e70bab4af4e4b889b0367d6178b6e7", func := "loop.example/g01179/laws.FnExactSplitLoan", spec := "fnExactSplitLoan", unfollowed := true, recurses := true, apart := false, narrowed := true }
def FnExactSplitLoanUptoSaid : Prop := fnExactSplitLoanUptoRow.holds Try.pinned (OpenSpec.upto fnExactSplitLoanSpec)

/-- 'laws.FnExactIsRope', WHERE WHAT IT READS IS OF BULK AT MOST 1048576: true; the input reads as it did. -/
def fnExactIsRopeUptoRow : OpenClaim := { program := "ytdojnaghcfhadab", sum := "5bd5c0fa1be18c2c2412d77f8a0e3bacc4e70bab4af4e4b889b0367d6178b6e7", func := "loop.example/g01179/laws.FnExactIsRope", spec := "fnExactIsRope", unfollowed := true, recurses := true, apart := false, narrowed := true }
def FnExactIsRopeUptoSaid : Prop := fnExactIsRopeUptoRow.holds Try.pinned (OpenSpec.upto fnExactIsRopeSpec)

/-- 'laws.FnExactAreLoans', WHERE WHAT IT READS IS OF BULK AT MOST 1048576: true; the input reads as it did. -/
def fnExactAreLoansUptoRow : OpenClaim := { program := "ytdojnaghcfhadab", sum := "5bd5c0fa1be18c2c2412d77f8a0e3bacc4e70bab4af4e4b889b0367d6178b6e7", func := "loop.example/g01179/laws.FnExactAreLoans", spec := "fnExactAreLoans", unfollowed := true, recurses := true, apart := false, narrowed := true }
def FnExactAreLoansUptoSaid : Prop := fnExactAreLoansUptoRow.holds Try.pinned (OpenSpec.upto fnExactAreLoansSpec)

/-- 'laws.FnExactRopeLength', WHERE WHAT IT READS IS OF BULK AT MOST 1048576: true; the input reads as it did. -/
def fnExactRopeLengthUptoRow : OpenClaim := { program := "ytdojnaghcfhadab", sum := "5bd5c0fa1be18c2c2412d77f8a0e3bacc4e70bab4af4e4b889b0367d6178b6e7", func := "loop.example/g01179/laws.FnExactRopeLength", spec := "fnExactRopeLength", unfollowed := true, recurses := true, apart := false, narrowed := true }
def FnExactRopeLengthUptoSaid : Prop := fnExactRopeLengthUptoRow.holds Try.pinned (OpenSpec.upto fnExactRopeLengthSpec)

/-- 'laws.FnExactSeenThrough', WHERE WHAT IT READS IS OF BULK AT MOST 1048576: true; the input reads as it did. -/
def fnExactSeenThroughUptoRow : OpenClaim := { program := "ytdojnaghcfhadab", sum := "5bd5c0fa1be18c2c2412d77f8a0e3bacc4e70bab4af4e4b889b0367d6178b6e7", func := "loop.example/g01179/laws.FnExactSeenThrough", spec := "fnExactSeenThrough", unfollowed := true, recurses := true, apart := false, narrowed := true }
def FnExactSeenThroughUptoSaid : Prop := fnExactSeenThroughUptoRow.holds Try.pinned (OpenSpec.upto fnExactSeenThroughSpec)

/-- 'laws.FnExactFindPart', WHERE WHAT IT READS IS OF BULK AT MOST 1048576: true; the input reads as it did. -/
def fnExactFindPartUptoRow : OpenClaim := { program := "ytdojnaghcfhadab", sum := "5bd5c0fa1be18c2c2412d77f8a0e3bacc4e70bab4af4e4b889b0367d6178b6e7", func := "loop.example/g01179/laws.FnExactFindPart", spec := "fnExactFindPart", unfollowed := true, recurses := true, apart := false, narrowed := true }
def FnExactFindPartUptoSaid : Prop := fnExactFindPartUptoRow.holds Try.pinned (OpenSpec.upto fnExactFindPartSpec)

end Rows
end Go.Proofs.Ytdojnaghcfhadab
