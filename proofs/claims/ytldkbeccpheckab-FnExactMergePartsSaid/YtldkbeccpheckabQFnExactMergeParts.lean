/- What is proved here: what FnExactMergeParts's Pure says. No condition beyond those that the text states. Laid by this session's own program. -/
import Derived.Test.YtldkbeccpheckabPFnExactMergePartsx7
import Derived.Test.YtldkbeccpheckabOpn
namespace Go.Proofs.Ytldkbeccpheckab.PFnExactMergeParts
open Go.RowKit Go.Proofs.YtldkbeccpheckabW.PrintWords
def ok53 (x : S53) : Prop := Opn.I64 x.f0 ∧ Opn.I64 x.f1 ∧ Opn.I64 x.f2 ∧ Opn.I64 x.f3
/-- The plain statement of the law. -/
def laws_FnExactMergeParts.Pure : Prop := ∀ (l0_0 : List (List Int)) (l1_0 : List (S53)), (Opn.Row (Opn.Row Opn.U8)) l0_0 → (Opn.Row ok53) l1_0 → ∃ k, laws_FnExactMergeParts.f k l0_0 l1_0 = some true
end Go.Proofs.Ytldkbeccpheckab.PFnExactMergeParts
