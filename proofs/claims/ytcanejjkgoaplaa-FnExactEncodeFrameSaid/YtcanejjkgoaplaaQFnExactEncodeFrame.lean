/- What is proved here: what FnExactEncodeFrame's Pure says. No condition beyond those that the text states. Laid by this session's own program. -/
import Derived.Test.YtcanejjkgoaplaaPFnExactEncodeFramex1
import Derived.Test.YtcanejjkgoaplaaOpn
namespace Go.Proofs.Ytcanejjkgoaplaa.PFnExactEncodeFrame
open Go.RowKit Go.Proofs.YtcanejjkgoaplaaW.PrintWords
/-- The plain statement of the law. -/
def laws_FnExactEncodeFrame.Pure : Prop := ∀ (a0 : Int) (l1 : List Int), Opn.U8 a0 → (Opn.Row Opn.U8) l1 → ∃ k, laws_FnExactEncodeFrame.f k a0 l1 = some true
end Go.Proofs.Ytcanejjkgoaplaa.PFnExactEncodeFrame
