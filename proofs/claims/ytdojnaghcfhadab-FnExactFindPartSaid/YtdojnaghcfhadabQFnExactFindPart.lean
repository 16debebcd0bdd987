/- What is proved here: what FnExactFindPart's Pure says. No condition beyond those that the text states. Laid by this session's own program. -/
import Derived.Test.YtdojnaghcfhadabPFnExactFindPartx5
import Derived.Test.YtdojnaghcfhadabOpn
namespace Go.Proofs.Ytdojnaghcfhadab.PFnExactFindPart
open Go.RowKit Go.Proofs.YtdojnaghcfhadabW.PrintWords
def ok26 (x : S26) : Prop := Opn.I64 x.f0 ∧ Opn.I64 x.f1 ∧ Opn.I64 x.f2 ∧ Opn.I64 x.f3
/-- The plain statement of the law. -/
def laws_FnExactFindPart.Pure : Prop := ∀ (l0_0 : List (List Int)) (l1_0 : List (S26)) (a2 : Int), (Opn.Row (Opn.Row Opn.U8)) l0_0 → (Opn.Row ok26) l1_0 → Opn.I64 a2 → ∃ k, laws_FnExactFindPart.f k l0_0 l1_0 a2 = some true
end Go.Proofs.Ytdojnaghcfhadab.PFnExactFindPart
