/- What is proved here: what FnExactSeenThrough's Pure says. No condition beyond those that the text states. Laid by this session's own program. -/
import Derived.Test.YtdojnaghcfhadabPFnExactSeenThroughx5
import Derived.Test.YtdojnaghcfhadabOpn
namespace Go.Proofs.Ytdojnaghcfhadab.PFnExactSeenThrough
open Go.RowKit Go.Proofs.YtdojnaghcfhadabW.PrintWords
/-- The plain statement of the law. -/
def laws_FnExactSeenThrough.Pure : Prop := ∀ (l0_0 : List (List Int)) (a0_1 : Int) (a0_2 : Int) (a0_3 : Int) (a0_4 : Int) (a0_5 : Int) (a0_6 : Int) (a1_0 : Int) (a1_1 : Int) (a1_2 : Int) (a1_3 : Int), (Opn.Row (Opn.Row Opn.U8)) l0_0 → Opn.I64 a0_1 → Opn.I64 a0_2 → Opn.I64 a0_3 → Opn.I64 a0_4 → Opn.I64 a0_5 → Opn.I64 a0_6 → Opn.I64 a1_0 → Opn.I64 a1_1 → Opn.I64 a1_2 → Opn.I64 a1_3 → ∃ k, laws_FnExactSeenThrough.f k l0_0 a0_1 a0_2 a0_3 a0_4 a0_5 a0_6 a1_0 a1_1 a1_2 a1_3 = some true
end Go.Proofs.Ytdojnaghcfhadab.PFnExactSeenThrough
