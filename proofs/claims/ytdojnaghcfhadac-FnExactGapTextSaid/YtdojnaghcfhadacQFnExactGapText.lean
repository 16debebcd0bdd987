/- What is proved here: what FnExactGapText's Pure says. No condition beyond those that the text states. Laid by this session's own program. -/
import Derived.Test.YtdojnaghcfhadacPFnExactGapTextx4
import Derived.Test.YtdojnaghcfhadacOpn
namespace Go.Proofs.Ytdojnaghcfhadac.PFnExactGapText
open Go.RowKit Go.Proofs.YtdojnaghcfhadacW.PrintWords
/-- The plain statement of the law. -/
def laws_FnExactGapText.Pure : Prop := ∀ (l0_0 : List (List Int)) (a0_1 : Int) (a0_2 : Int) (a0_3 : Int) (a0_4 : Int) (a0_5 : Int) (a0_6 : Int), (Opn.Row (Opn.Row Opn.U8)) l0_0 → Opn.I64 a0_1 → Opn.I64 a0_2 → Opn.I64 a0_3 → Opn.I64 a0_4 → Opn.I64 a0_5 → Opn.I64 a0_6 → ∃ k, laws_FnExactGapText.f k l0_0 a0_1 a0_2 a0_3 a0_4 a0_5 a0_6 = some true
end Go.Proofs.Ytdojnaghcfhadac.PFnExactGapText
