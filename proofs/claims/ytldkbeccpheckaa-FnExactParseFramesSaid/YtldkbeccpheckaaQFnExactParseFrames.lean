/- What is proved here: what FnExactParseFrames's Pure says. No condition beyond those that the text states. Laid by this session's own program. -/
import Derived.Test.YtldkbeccpheckaaPFnExactParseFramesx6
import Derived.Test.YtldkbeccpheckaaOpn
namespace Go.Proofs.Ytldkbeccpheckaa.PFnExactParseFrames
open Go.RowKit Go.Proofs.YtldkbeccpheckaaW.PrintWords
/-- The plain statement of the law. -/
def laws_FnExactParseFrames.Pure : Prop := ∀ (l0_0 : List (List Int)) (a1_0 : Int) (a1_1 : Int) (a1_2 : Int) (a1_3 : Int), (Opn.Row (Opn.Row Opn.U8)) l0_0 → Opn.I64 a1_0 → Opn.I64 a1_1 → Opn.I64 a1_2 → Opn.I64 a1_3 → ∃ k, laws_FnExactParseFrames.f k l0_0 a1_0 a1_1 a1_2 a1_3 = some true
end Go.Proofs.Ytldkbeccpheckaa.PFnExactParseFrames
