/- What is proved here: what FnExactEntriesBetween's Pure says. No condition beyond those that the text states. Laid by this session's own program. -/
import Derived.Test.YtkifenbcepicjaaPFnExactEntriesBetweenx5
import Derived.Test.YtkifenbcepicjaaOpn
import Derived.Test.YtkifenbcepicjaaKo
namespace Go.Proofs.Ytkifenbcepicjaa.PFnExactEntriesBetween
open Go.RowKit Go.Proofs.YtkifenbcepicjaaW.PrintWords
/-- The plain statement of the law. -/
def laws_FnExactEntriesBetween.Pure : Prop := ∀ (l0_0 : List (List Int)) (l1 : (List Ky.En)) (a2 : (List Int)) (a3 : (List Int)), (Opn.Row (Opn.Row Opn.U8)) l0_0 → (Opn.Row Ky.okEn) l1 → Ky.Key a2 → Ky.okKey a2 → Ky.Key a3 → Ky.okKey a3 → ∃ k, laws_FnExactEntriesBetween.f k l0_0 l1 a2 a3 = some true
end Go.Proofs.Ytkifenbcepicjaa.PFnExactEntriesBetween
