/- What is proved here: what FnExactIsTable's Pure says. No condition beyond those that the text states. Laid by this session's own program. -/
import Derived.Test.YtldkbeccpheckaaPFnExactIsTablex4
import Derived.Test.YtldkbeccpheckaaOpn
import Derived.Test.YtldkbeccpheckaaKo
namespace Go.Proofs.Ytldkbeccpheckaa.PFnExactIsTable
open Go.RowKit Go.Proofs.YtldkbeccpheckaaW.PrintWords
/-- The plain statement of the law. -/
def laws_FnExactIsTable.Pure : Prop := ∀ (l0_0 : List (List Int)) (l1 : (List Ky.En)), (Opn.Row (Opn.Row Opn.U8)) l0_0 → (Opn.Row Ky.okEn) l1 → ∃ k, laws_FnExactIsTable.f k l0_0 l1 = some true
end Go.Proofs.Ytldkbeccpheckaa.PFnExactIsTable
