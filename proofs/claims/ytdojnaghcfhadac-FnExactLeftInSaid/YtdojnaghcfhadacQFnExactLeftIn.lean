/- What is proved here: what FnExactLeftIn's Pure says. No condition beyond those that the text states. Laid by this session's own program. -/
import Derived.Test.YtdojnaghcfhadacPFnExactLeftInx6
import Derived.Test.YtdojnaghcfhadacOpn
namespace Go.Proofs.Ytdojnaghcfhadac.PFnExactLeftIn
open Go.RowKit Go.Proofs.YtdojnaghcfhadacW.PrintWords
/-- The plain statement of the law. -/
def laws_FnExactLeftIn.Pure : Prop := ∀ (l0_0 : List (List Int)) (a0_1 : Int) (a0_2 : Int) (a0_3 : Int) (a0_4 : Int) (a0_5 : Int) (l0_6 : List Int) (a1 : Int), (Opn.Row (Opn.Row Opn.U8)) l0_0 → Opn.I64 a0_1 → Opn.I64 a0_2 → Opn.I64 a0_3 → Opn.I64 a0_4 → Opn.I64 a0_5 → (Opn.Row Opn.I64) l0_6 → Opn.I64 a1 → ∃ k, laws_FnExactLeftIn.f k l0_0 a0_1 a0_2 a0_3 a0_4 a0_5 l0_6 a1 = some true
end Go.Proofs.Ytdojnaghcfhadac.PFnExactLeftIn
