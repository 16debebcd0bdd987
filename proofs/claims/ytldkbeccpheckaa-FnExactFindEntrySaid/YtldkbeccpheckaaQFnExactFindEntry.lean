/- What is proved here: what FnExactFindEntry's Pure says. No condition beyond those that the text states. Laid by this session's own program. -/
import Derived.Test.YtldkbeccpheckaaPFnExactFindEntryx4
import Derived.Test.YtldkbeccpheckaaOpn
import Derived.Test.YtldkbeccpheckaaKo
namespace Go.Proofs.Ytldkbeccpheckaa.PFnExactFindEntry
open Go.RowKit Go.Proofs.YtldkbeccpheckaaW.PrintWords
/-- The plain statement of the law. -/
def laws_FnExactFindEntry.Pure : Prop := ∀ (l0_0 : List (List Int)) (l1 : (List Ky.En)) (a2 : (List Int)), (Opn.Row (Opn.Row Opn.U8)) l0_0 → (Opn.Row Ky.okEn) l1 → Ky.Key a2 → Ky.okKey a2 → ∃ k, laws_FnExactFindEntry.f k l0_0 l1 a2 = some true
end Go.Proofs.Ytldkbeccpheckaa.PFnExactFindEntry
