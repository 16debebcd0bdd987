/- What is proved here: what FnKeys's Pure says. No condition beyond those that the text states. Laid by this session's own program. -/
import Derived.Test.YtkifenbcepicjaaPFnKeysx6
import Derived.Test.YtkifenbcepicjaaOpn
namespace Go.Proofs.Ytkifenbcepicjaa.PFnKeys
open Go.RowKit Go.Proofs.YtkifenbcepicjaaW.PrintWords
/-- The plain statement of the law. -/
def laws_FnKeys.Pure : Prop := ∀ (l0 : List Int), (Opn.Row Opn.U8) l0 → laws_FnKeys.f l0 = some true
end Go.Proofs.Ytkifenbcepicjaa.PFnKeys
