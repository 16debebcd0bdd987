/- What is proved here: what FnExactRopeLength's Pure says. No condition beyond those that the text states. Laid by this session's own program. -/
import Derived.Test.YtdojnaghcfhadabPFnExactRopeLengthx4
import Derived.Test.YtdojnaghcfhadabOpn
namespace Go.Proofs.Ytdojnaghcfhadab.PFnExactRopeLength
open Go.RowKit Go.Proofs.YtdojnaghcfhadabW.PrintWords
def ok26 (x : S26) : Prop := Opn.I64 x.f0 ∧ Opn.I64 x.f1 ∧ Opn.I64 x.f2 ∧ Opn.I64 x.f3
/-- The plain statement of the law. -/
def laws_FnExactRopeLength.Pure : Prop := ∀ (l0_0 : List (List Int)) (l1_0 : List (S26)), (Opn.Row (Opn.Row Opn.U8)) l0_0 → (Opn.Row ok26) l1_0 → ∃ k, laws_FnExactRopeLength.f k l0_0 l1_0 = some true
end Go.Proofs.Ytdojnaghcfhadab.PFnExactRopeLength
