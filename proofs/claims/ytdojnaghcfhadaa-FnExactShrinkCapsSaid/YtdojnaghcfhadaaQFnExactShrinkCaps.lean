/- What is proved here: what FnExactShrinkCaps's Pure says. No condition beyond those that the text states. Laid by this session's own program. -/
import Derived.Test.YtdojnaghcfhadaaPFnExactShrinkCapsx4
import Derived.Test.YtdojnaghcfhadaaOpn
namespace Go.Proofs.Ytdojnaghcfhadaa.PFnExactShrinkCaps
open Go.RowKit Go.Proofs.YtdojnaghcfhadaaW.PrintWords
/-- The plain statement of the law. -/
def laws_FnExactShrinkCaps.Pure : Prop := ∀ (a0_0 : Int) (a0_1 : Int) (a0_2 : Int) (a1 : Int) (l2 : List Int), Opn.I64 a0_0 → Opn.I64 a0_1 → Opn.I64 a0_2 → Opn.I64 a1 → (Opn.Row Opn.I64) l2 → ∃ k, laws_FnExactShrinkCaps.f k a0_0 a0_1 a0_2 a1 l2 = some true
end Go.Proofs.Ytdojnaghcfhadaa.PFnExactShrinkCaps
