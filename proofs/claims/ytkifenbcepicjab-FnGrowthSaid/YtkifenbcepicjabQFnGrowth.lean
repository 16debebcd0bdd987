/- What is proved here: what FnGrowth's Pure says. No condition beyond those that the text states. Laid by this session's own program. -/
import Derived.Test.YtkifenbcepicjabPFnGrowthx7
import Derived.Test.YtkifenbcepicjabOpn
namespace Go.Proofs.Ytkifenbcepicjab.PFnGrowth
open Go.RowKit Go.Proofs.YtkifenbcepicjabW.PrintWords
/-- The plain statement of the law. -/
def laws_FnGrowth.Pure : Prop := ∀ (l0 : List Int), (Opn.Row Opn.U8) l0 → ∃ k, laws_FnGrowth.f k l0 = some true
end Go.Proofs.Ytkifenbcepicjab.PFnGrowth
