/- What is proved here: what FnExactInConflict's Pure says. No condition beyond those that the text states. Laid by this session's own program. -/
import Derived.Test.YtdojnaghcfhadabPFnExactInConflictx4
import Derived.Test.YtdojnaghcfhadabOpn
namespace Go.Proofs.Ytdojnaghcfhadab.PFnExactInConflict
open Go.RowKit Go.Proofs.YtdojnaghcfhadabW.PrintWords
/-- The plain statement of the law. -/
def laws_FnExactInConflict.Pure : Prop := ∀ (l0_0 : List (List Int)) (a1_0 : Int) (a1_1 : Int) (a1_2 : Int) (a1_3 : Int) (a1_4 : Bool) (a1_5 : Int) (a1_6 : Int) (a2_0 : Int) (a2_1 : Int) (a2_2 : Int) (a2_3 : Int) (a2_4 : Bool) (a2_5 : Int) (a2_6 : Int), (Opn.Row (Opn.Row Opn.U8)) l0_0 → Opn.I64 a1_0 → Opn.I64 a1_1 → Opn.I64 a1_2 → Opn.I64 a1_3 → Opn.I64 a1_5 → Opn.I64 a1_6 → Opn.I64 a2_0 → Opn.I64 a2_1 → Opn.I64 a2_2 → Opn.I64 a2_3 → Opn.I64 a2_5 → Opn.I64 a2_6 → ∃ k, laws_FnExactInConflict.f k l0_0 a1_0 a1_1 a1_2 a1_3 a1_4 a1_5 a1_6 a2_0 a2_1 a2_2 a2_3 a2_4 a2_5 a2_6 = some true
end Go.Proofs.Ytdojnaghcfhadab.PFnExactInConflict
