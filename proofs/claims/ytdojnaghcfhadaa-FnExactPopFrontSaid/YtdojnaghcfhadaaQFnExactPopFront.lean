/- What is proved here: what FnExactPopFront's Pure says. No condition beyond those that the text states. Laid by this session's own program. -/
import Derived.Test.YtdojnaghcfhadaaPFnExactPopFrontx5
import Derived.Test.YtdojnaghcfhadaaOpn
namespace Go.Proofs.Ytdojnaghcfhadaa.PFnExactPopFront
open Go.RowKit Go.Proofs.YtdojnaghcfhadaaW.PrintWords
/-- The plain statement of the law. -/
def laws_FnExactPopFront.Pure : Prop := ∀ (l0_0 : List (List Int)) (a1_0 : Int) (a1_1 : Int) (a1_2 : Int) (a1_3 : Int) (a1_4 : Int) (a1_5 : Int), (Opn.Row (Opn.Row Opn.U8)) l0_0 → Opn.I64 a1_0 → Opn.I64 a1_1 → Opn.I64 a1_2 → Opn.I64 a1_3 → Opn.I64 a1_4 → Opn.I64 a1_5 → ∃ k, laws_FnExactPopFront.f k l0_0 a1_0 a1_1 a1_2 a1_3 a1_4 a1_5 = some true
end Go.Proofs.Ytdojnaghcfhadaa.PFnExactPopFront
