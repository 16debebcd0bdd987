/- What is proved here: what FnExactAreLoans's Pure says. No condition beyond those that the text states. Laid by this session's own program. -/
import Derived.Test.YtdojnaghcfhadabPFnExactAreLoansx4
import Derived.Test.YtdojnaghcfhadabOpn
namespace Go.Proofs.Ytdojnaghcfhadab.PFnExactAreLoans
open Go.RowKit Go.Proofs.YtdojnaghcfhadabW.PrintWords
def ok26 (x : S26) : Prop := Opn.I64 x.f0 ∧ Opn.I64 x.f1 ∧ Opn.I64 x.f2 ∧ Opn.I64 x.f3
def ok28 (x : S28) : Prop := ok26 x.f0 ∧ Opn.Any x.f1 ∧ Opn.I64 x.f2 ∧ Opn.I64 x.f3
/-- The plain statement of the law. -/
def laws_FnExactAreLoans.Pure : Prop := ∀ (l0_0 : List (List Int)) (l1 : List (S28)), (Opn.Row (Opn.Row Opn.U8)) l0_0 → (Opn.Row ok28) l1 → ∃ k, laws_FnExactAreLoans.f k l0_0 l1 = some true
end Go.Proofs.Ytdojnaghcfhadab.PFnExactAreLoans
