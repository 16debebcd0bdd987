/- What is proved here: what FnExactEditText's Pure says. No condition beyond those that the text states. Laid by this session's own program. -/
import Derived.Test.YtcanejjkgoaplaaPFnExactEditTextx2
import Derived.Test.YtcanejjkgoaplaaOpn
namespace Go.Proofs.Ytcanejjkgoaplaa.PFnExactEditText
open Go.RowKit Go.Proofs.YtcanejjkgoaplaaW.PrintWords
/-- The plain statement of the law. -/
def laws_FnExactEditText.Pure : Prop := ∀ (l0 : List Int) (a1_0 : Int) (a1_1 : Int) (l1_2 : List Int), (Opn.Row Opn.U8) l0 → Opn.I64 a1_0 → Opn.I64 a1_1 → (Opn.Row Opn.U8) l1_2 → ∃ k, laws_FnExactEditText.f k l0 a1_0 a1_1 l1_2 = some true
end Go.Proofs.Ytcanejjkgoaplaa.PFnExactEditText
