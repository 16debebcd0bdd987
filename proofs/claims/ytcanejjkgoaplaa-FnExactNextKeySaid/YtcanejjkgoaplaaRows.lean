/-
  No cell of these rows narrows 'for every input' (looked for: loops, veiled, ifaces, maps, wideKeys, modest, calm, conditions, laid).
  DERIVED. THE GIVEN ROWS OF THIS SEAT. 6 by the template 'for every input the law returns true; each argument reads behind the call as it read before'; 0 by the template 'total and deterministic' (their statements: YtcanejjkgoaplaaTotals.lean).
  GIVEN WITH THE SEED: the statements are not yours to turn. If you find one false, say at which input.
  Laid BY PROGRAM, IN A SANDBOX (cutbox-rows.mjs): the forced cells as the released guide's own fill.sh prints them over the translation 319722512cf36547… (all of the seat's roots in one cut). By AI agents, Wed Nov 11 2026. No macro, syntax, notation, axiom, sorry.
-/
import Derived.Test.YtcanejjkgoaplaaChecked
import GoSem.Claim
import GoSem.ClaimJoined
import GoSem.ClaimMapViews
import Derived.JoinedTies
import Derived.KernelRfl
namespace Go.Proofs.Ytcanejjkgoaplaa
/- THE CELL 'sum', in the pinned program and in every row, IS THE sha256 OF THE DUMP (.gsa) THAT YtcanejjkgoaplaaProg.lean LOADS. Nothing in Lean hashes anything: it is a label: what it is worth is what the hold of that sum in a sandbox is worth. -/
noncomputable def Try.pinned : Pinned := { name := "ytcanejjkgoaplaa", sum := "319722512cf36547f0ea39b95cb1cd66929183cf70ff00110e0d45284152fb7f", checked := Try.checked }
namespace Rows
def none {H : Type} : Left H := { results := [], args := [] }

/-- 'laws.FnExactLessKey': WHATEVER THE INPUT: true; the input reads as it did. -/
def fnExactLessKeySpec : ChangeSpec := { name := "fnExactLessKey", fn := fun _ => fun
  | [d1, d2] => { results := [.lit (.bool true)], args := [d1, d2] }
  | _ => none }
def fnExactLessKeyRow : OpenClaim := { program := "ytcanejjkgoaplaa", sum := "319722512cf36547f0ea39b95cb1cd66929183cf70ff00110e0d45284152fb7f", func := "loop.example/g01179/laws.FnExactLessKey", spec := "fnExactLessKey", inPlace := ["internal/bytealg.Compare"], apart := false }
def FnExactLessKeySaid : Prop := fnExactLessKeyRow.holds Try.pinned (OpenSpec.ofChange fnExactLessKeySpec)

/-- ITS FALSE NEIGHBOUR: 'it returns false'. Refute it at one input. -/
def fnExactLessKeyWrong : ChangeSpec := { name := "fnExactLessKey", fn := fun _ => fun
  | [d1, d2] => { results := [.lit (.bool false)], args := [d1, d2] }
  | _ => none }
def FnExactLessKeyWrongFalsely : Prop := fnExactLessKeyRow.holds Try.pinned (OpenSpec.ofChange fnExactLessKeyWrong)

/-- 'laws.FnExactCommonBits': WHATEVER THE INPUT: true; the input reads as it did. -/
def fnExactCommonBitsSpec : ChangeSpec := { name := "fnExactCommonBits", fn := fun _ => fun
  | [d1, d2] => { results := [.lit (.bool true)], args := [d1, d2] }
  | _ => none }
def fnExactCommonBitsRow : OpenClaim := { program := "ytcanejjkgoaplaa", sum := "319722512cf36547f0ea39b95cb1cd66929183cf70ff00110e0d45284152fb7f", func := "loop.example/g01179/laws.FnExactCommonBits", spec := "fnExactCommonBits", apart := false }
def FnExactCommonBitsSaid : Prop := fnExactCommonBitsRow.holds Try.pinned (OpenSpec.ofChange fnExactCommonBitsSpec)

/-- ITS FALSE NEIGHBOUR: 'it returns false'. Refute it at one input. -/
def fnExactCommonBitsWrong : ChangeSpec := { name := "fnExactCommonBits", fn := fun _ => fun
  | [d1, d2] => { results := [.lit (.bool false)], args := [d1, d2] }
  | _ => none }
def FnExactCommonBitsWrongFalsely : Prop := fnExactCommonBitsRow.holds Try.pinned (OpenSpec.ofChange fnExactCommonBitsWrong)

/-- 'laws.FnExactNextKey': WHATEVER THE INPUT: true; the input reads as it did. -/
def fnExactNextKeySpec : ChangeSpec := { name := "fnExactNextKey", fn := fun _ => fun
  | [d] => { results := [.lit (.bool true)], args := [d] }
  | _ => none }
def fnExactNextKeyRow : OpenClaim := { program := "ytcanejjkgoaplaa", sum := "319722512cf36547f0ea39b95cb1cd66929183cf70ff00110e0d45284152fb7f", func := "loop.example/g01179/laws.FnExactNextKey", spec := "fnExactNextKey", apart := false }
def FnExactNextKeySaid : Prop := fnExactNextKeyRow.holds Try.pinned (OpenSpec.ofChange fnExactNextKeySpec)

/-- ITS FALSE NEIGHBOUR: 'it returns false'. Refute it at one input. -/
def fnExactNextKeyWrong : ChangeSpec := { name := "fnExactNextKey", fn := fun _ => fun
  | [d] => { results := [.lit (.bool false)], args := [d] }
  | _ => none }
def FnExactNextKeyWrongFalsely : Prop := fnExactNextKeyRow.holds Try.pinned (OpenSpec.ofChange fnExactNextKeyWrong)

/-- 'laws.FnExactEncodeFrame': WHATEVER THE INPUT: true; the input reads as it did. -/
def fnExactEncodeFrameSpec : ChangeSpec := { name := "fnExactEncodeFrame", fn := fun _ => fun
  | [d1, d2] => { results := [.lit (.bool true)], args := [d1, d2] }
  | _ => none }
def fnExactEncodeFrameRow : OpenClaim := { program := "ytcanejjkgoaplaa", sum := "319722512cf36547f0ea39b95cb1cd66929183cf70ff00110e0d45284152fb7f", func := "loop.example/g01179/laws.FnExactEncodeFrame", spec := "fnExactEncodeFrame", apart := false }
def FnExactEncodeFrameSaid : Prop := fnExactEncodeFrameRow.holds Try.pinned (OpenSpec.ofChange fnExactEncodeFrameSpec)

/-- ITS FALSE NEIGHBOUR: 'it returns false'. Refute it at one input. -/
def fnExactEncodeFrameWrong : ChangeSpec := { name := "fnExactEncodeFrame", fn := fun _ => fun
  | [d1, d2] => { results := [.lit (.bool false)], args := [d1, d2] }
  | _ => none }
def FnExactEncodeFrameWrongFalsely : Prop := fnExactEncodeFrameRow.holds Try.pinned (OpenSpec.ofChange fnExactEncodeFrameWrong)

/-- 'laws.FnExactEditText': WHATEVER THE INPUT: true; the input reads as it did. -/
def fnExactEditTextSpec : ChangeSpec := { name := "fnExactEditText", fn := fun _ => fun
  | [d1, d2] => { results := [.lit (.bool true)], args := [d1, d2] }
  | _ => none }
def fnExactEditTextRow : OpenClaim := { program := "ytcanejjkgoaplaa", sum := "319722512cf36547f0ea39b95cb1cd66929183cf70ff00110e0d45284152fb7f", func := "loop.example/g01179/laws.FnExactEditText", spec := "fnExactEditText", apart := false }
def FnExactEditTextSaid : Prop := fnExactEditTextRow.holds Try.pinned (OpenSpec.ofChange fnExactEditTextSpec)

/-- ITS FALSE NEIGHBOUR: 'it returns false'. Refute it at one input. -/
def fnExactEditTextWrong : ChangeSpec := { name := "fnExactEditText", fn := fun _ => fun
  | [d1, d2] => { results := [.lit (.bool false)], args := [d1, d2] }
  | _ => none }
def FnExactEditTextWrongFalsely : Prop := fnExactEditTextRow.holds Try.pinned (OpenSpec.ofChange fnExactEditTextWrong)

/-- 'laws.FnExactDeleteText': WHATEVER THE INPUT: true; the input reads as it did. -/
def fnExactDeleteTextSpec : ChangeSpec := { name := "fnExactDeleteText", fn := fun _ => fun
  | [d1, d2, d3, d4] => { results := [.lit (.bool true)], args := [d1, d2, d3, d4] }
  | _ => none }
def fnExactDeleteTextRow : OpenClaim := { program := "ytcanejjkgoaplaa", sum := "319722512cf36547f0ea39b95cb1cd66929183cf70ff00110e0d45284152fb7f", func := "loop.example/g01179/laws.FnExactDeleteText", spec := "fnExactDeleteText", unfollowed := true, recurses := true, apart := false }
def FnExactDeleteTextSaid : Prop := fnExactDeleteTextRow.holds Try.pinned (OpenSpec.ofChange fnExactDeleteTextSpec)

/-- ITS FALSE NEIGHBOUR: 'it returns false'. Refute it at one input. -/
def fnExactDeleteTextWrong : ChangeSpec := { name := "fnExactDeleteText", fn := fun _ => fun
  | [d1, d2, d3, d4] => { results := [.lit (.bool false)], args := [d1, d2, d3, d4] }
  | _ => none }
def FnExactDeleteTextWrongFalsely : Prop := fnExactDeleteTextRow.holds Try.pinned (OpenSpec.ofChange fnExactDeleteTextWrong)

/- THE SECOND FORM. 'bulk': how many values and letters a reading holds, each counted each time it is reached (what is shared counts as often as it is met; a slice's spare places count too). A statement '..UptoSaid' is the law's where the arguments, and the package variables that the reading takes, are together of bulk at most 1048576: NARROWER than '..Said'. Prove '..Said' where nothing that the law and all that it calls make is longer than what came in: it says more and counts as full. Else prove '..UptoSaid'. A law counts once. -/
mutual
def uptoBulk {H : Type} : DataW H → Nat
  | .lit (.string bytes) => bytes.length + 1
  | .lit _ => 1
  | .nil => 1
  | .ptr d => uptoBulk d + 1
  | .slice elems spare => uptoBulkAll elems + uptoBulkAll spare + 1
  | .agg parts => uptoBulkAll parts + 1
  | .iface _ d => uptoBulk d + 1
  | .map entries => uptoBulkEntries entries + 1
  | .held _ => 1
def uptoBulkAll {H : Type} : List (DataW H) → Nat
  | [] => 0
  | d :: r => uptoBulk d + uptoBulkAll r
def uptoBulkEntries {H : Type} : List (Lit × DataW H) → Nat
  | [] => 0
  | x :: r => uptoBulkEntry x + uptoBulkEntries r
def uptoBulkEntry {H : Type} : Lit × DataW H → Nat
  | (.string bytes, d) => bytes.length + uptoBulk d + 1
  | (_, d) => uptoBulk d + 1
 end
def uptoSmall : (H : Type) → List (DataW H) → Bool := fun _ ds => decide (uptoBulkAll ds ≤ 1048576)
def OpenSpec.upto (s : _root_.Go.ChangeSpec) : _root_.Go.OpenSpec := { _root_.Go.OpenSpec.ofChange s with cond := some uptoSmall }

/-- 'laws.FnExactLessKey', WHERE WHAT IT READS IS OF BULK AT MOST 1048576: true; the input reads as it did. -/
def fnExactLessKeyUptoRow : OpenClaim := { program := "ytcanejjkgoaplaa", sum := "319722512cf36547f0ea39b95cb1cd66929183cf70ff00110e0d45284152fb7f", func := "loop.example/g01179/laws.FnExactLessKey", spec := "fnExactLessKey", inPlace := ["internal/bytealg.Compare"], apart := false, narrowed := true }
def FnExactLessKeyUptoSaid : Prop := fnExactLessKeyUptoRow.holds Try.pinned (OpenSpec.upto fnExactLessKeySpec)

/-- 'laws.FnExactCommonBits', WHERE WHAT IT READS IS OF BULK AT MOST 1048576: true; the input reads as it did. -/
def fnExactCommonBitsUptoRow : OpenClaim := { program := "ytcanejjkgoaplaa", sum := "319722512cf36547f0ea39b95cb1cd66929183cf70ff00110e0d45284152fb7f", func := "loop.example/g01179/laws.FnExactCommonBits", spec := "fnExactCommonBits", apart := false, narrowed := true }
def FnExactCommonBitsUptoSaid : Prop := fnExactCommonBitsUptoRow.holds Try.pinned (OpenSpec.upto fnExactCommonBitsSpec)

/-- 'laws.FnExactNextKey', WHERE WHAT IT READS IS OF BULK AT MOST 1048576: true; the input reads as it did. -/
def fnExactNextKeyUptoRow : OpenClaim := { program := "ytcanejjkgoaplaa", sum := "319722512cf36547f0ea39b95cb1cd66929183cf70ff00110e0d45284152fb7f", func := "loop.example/g01179/laws.FnExactNextKey", spec := "fnExactNextKey", apart := false, narrowed := true }
def FnExactNextKeyUptoSaid : Prop := fnExactNextKeyUptoRow.holds Try.pinned (OpenSpec.upto fnExactNextKeySpec)

/-- 'laws.FnExactEncodeFrame', WHERE WHAT IT READS IS OF BULK AT MOST 1048576: true; the input reads as it did. -/
def fnExactEncodeFrameUptoRow : OpenClaim := { program := "ytcanejjkgoaplaa", sum := "319722512cf36547f0ea39b95cb1cd66929183cf70ff00110e0d45284152fb7f", func := "loop.example/g01179/laws.FnExactEncodeFrame", spec := "fnExactEncodeFrame", apart := false, narrowed := true }
def FnExactEncodeFrameUptoSaid : Prop := fnExactEncodeFrameUptoRow.holds Try.pinned (OpenSpec.upto fnExactEncodeFrameSpec)

/-- 'laws.FnExactEditText', WHERE WHAT IT READS IS OF BULK AT MOST 1048576: true; the input reads as it did. -/
def fnExactEditTextUptoRow : OpenClaim := { program := "ytcanejjkgoaplaa", sum := "319722512cf36547f0ea39b95cb1cd66929183cf70ff00110e0d45284152fb7f", func := "loop.example/g01179/laws.FnExactEditText", spec := "fnExactEditText", apart := false, narrowed := true }
def FnExactEditTextUptoSaid : Prop := fnExactEditTextUptoRow.holds Try.pinned (OpenSpec.upto fnExactEditTextSpec)

/-- 'laws.FnExactDeleteText', WHERE WHAT IT READS IS OF BULK AT MOST 1048576: true; the input reads as it did. -/
def fnExactDeleteTextUptoRow : OpenClaim := { program := "ytcanejjkgoaplaa", sum := "319722512cf36547f0ea39b95cb1cd66929183cf70ff00110e0d45284152fb7f", func := "loop.example/g01179/laws.FnExactDeleteText", spec := "fnExactDeleteText", unfollowed := true, recurses := true, apart := false, narrowed := true }
def FnExactDeleteTextUptoSaid : Prop := fnExactDeleteTextUptoRow.holds Try.pinned (OpenSpec.upto fnExactDeleteTextSpec)

end Rows
end Go.Proofs.Ytcanejjkgoaplaa
