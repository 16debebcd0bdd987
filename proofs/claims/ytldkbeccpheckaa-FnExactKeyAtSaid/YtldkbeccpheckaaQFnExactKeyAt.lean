/- What is proved here: what FnExactKeyAt's Pure says. No condition beyond those that the text states. Laid by this session's own program. -/
import Derived.Test.YtldkbeccpheckaaPFnExactKeyAtx3
import Derived.Test.YtldkbeccpheckaaOpn
namespace Go.Proofs.Ytldkbeccpheckaa.PFnExactKeyAt
open Go.RowKit Go.Proofs.YtldkbeccpheckaaW.PrintWords
/-- The plain statement of the law. -/
def laws_FnExactKeyAt.Pure : Prop := ∀ (l0_0 : List (List Int)) (a1_0 : Int) (a1_1 : Int) (a1_2 : Int) (a1_3 : Int) (a2 : Int), (Opn.Row (Opn.Row Opn.U8)) l0_0 → Opn.I64 a1_0 → Opn.I64 a1_1 → Opn.I64 a1_2 → Opn.I64 a1_3 → Opn.I64 a2 → ∃ k, laws_FnExactKeyAt.f k l0_0 a1_0 a1_1 a1_2 a1_3 a2 = some true
end Go.Proofs.Ytldkbeccpheckaa.PFnExactKeyAt
