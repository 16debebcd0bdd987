/- What is proved here: what FnExactRopeText's Pure says. No condition beyond those that the text states. Laid by this session's own program. -/
import Derived.Test.YtdojnaghcfhadacPFnExactRopeTextx5
import Derived.Test.YtdojnaghcfhadacOpn
namespace Go.Proofs.Ytdojnaghcfhadac.PFnExactRopeText
open Go.RowKit Go.Proofs.YtdojnaghcfhadacW.PrintWords
def ok42 (x : S42) : Prop := Opn.I64 x.f0 ∧ Opn.I64 x.f1 ∧ Opn.I64 x.f2 ∧ Opn.I64 x.f3
/-- The plain statement of the law. -/
def laws_FnExactRopeText.Pure : Prop := ∀ (l0_0 : List (List Int)) (l1_0 : List (S42)), (Opn.Row (Opn.Row Opn.U8)) l0_0 → (Opn.Row ok42) l1_0 → ∃ k, laws_FnExactRopeText.f k l0_0 l1_0 = some true
end Go.Proofs.Ytdojnaghcfhadac.PFnExactRopeText
