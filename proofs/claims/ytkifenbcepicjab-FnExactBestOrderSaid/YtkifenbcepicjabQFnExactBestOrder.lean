/- What is proved here: what FnExactBestOrder's Pure says. No condition beyond those that the text states. Laid by this session's own program. -/
import Derived.Test.YtkifenbcepicjabPFnExactBestOrderx8
import Derived.Test.YtkifenbcepicjabOpn
namespace Go.Proofs.Ytkifenbcepicjab.PFnExactBestOrder
open Go.RowKit Go.Proofs.YtkifenbcepicjabW.PrintWords
def ok97 (x : S97) : Prop := Opn.I64 x.f0 ∧ Opn.I64 x.f1
/-- The plain statement of the law. -/
def laws_FnExactBestOrder.Pure : Prop := ∀ (l0_0 : List (List Int)) (a0_1 : Int) (a0_2 : Int) (a0_3 : Int) (a0_4 : Int) (a0_5 : Int) (l0_6 : List Int) (l1 : List (S97)), (Opn.Row (Opn.Row Opn.U8)) l0_0 → Opn.I64 a0_1 → Opn.I64 a0_2 → Opn.I64 a0_3 → Opn.I64 a0_4 → Opn.I64 a0_5 → (Opn.Row Opn.I64) l0_6 → (Opn.Row ok97) l1 → ∃ k, laws_FnExactBestOrder.f k l0_0 a0_1 a0_2 a0_3 a0_4 a0_5 l0_6 l1 = some true
end Go.Proofs.Ytkifenbcepicjab.PFnExactBestOrder
