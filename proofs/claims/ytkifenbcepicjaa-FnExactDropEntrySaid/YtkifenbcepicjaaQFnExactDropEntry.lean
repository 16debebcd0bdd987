/- What is proved here: what FnExactDropEntry's Pure says. No condition beyond those that the text states. Laid by this session's own program. -/
import Derived.Test.YtkifenbcepicjaaPFnExactDropEntryx6
import Derived.Test.YtkifenbcepicjaaOpn
import Derived.Test.YtkifenbcepicjaaKo
namespace Go.Proofs.Ytkifenbcepicjaa.PFnExactDropEntry
open Go.RowKit Go.Proofs.YtkifenbcepicjaaW.PrintWords
/-- The plain statement of the law. -/
def laws_FnExactDropEntry.Pure : Prop := ∀ (l0_0 : List (List Int)) (l1 : (List Ky.En)) (a2 : (List Int)), (Opn.Row (Opn.Row Opn.U8)) l0_0 → (Opn.Row Ky.okEn) l1 → Ky.Key a2 → Ky.okKey a2 → ∃ k, laws_FnExactDropEntry.f k l0_0 l1 a2 = some true
end Go.Proofs.Ytkifenbcepicjaa.PFnExactDropEntry
