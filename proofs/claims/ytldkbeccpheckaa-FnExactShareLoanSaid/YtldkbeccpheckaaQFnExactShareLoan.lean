/- What is proved here: what FnExactShareLoan's Pure says. No condition beyond those that the text states. Laid by this session's own program. -/
import Derived.Test.YtldkbeccpheckaaPFnExactShareLoanx4
import Derived.Test.YtldkbeccpheckaaOpn
namespace Go.Proofs.Ytldkbeccpheckaa.PFnExactShareLoan
open Go.RowKit Go.Proofs.YtldkbeccpheckaaW.PrintWords
/-- The plain statement of the law. -/
def laws_FnExactShareLoan.Pure : Prop := ∀ (l0_0 : List (List Int)) (a1_0 : Int) (a1_1 : Int) (a1_2 : Int) (a1_3 : Int) (a1_4 : Bool) (a1_5 : Int) (a1_6 : Int) (a2 : Int) (a3 : Int), (Opn.Row (Opn.Row Opn.U8)) l0_0 → Opn.I64 a1_0 → Opn.I64 a1_1 → Opn.I64 a1_2 → Opn.I64 a1_3 → Opn.I64 a1_5 → Opn.I64 a1_6 → Opn.I64 a2 → Opn.I64 a3 → ∃ k, laws_FnExactShareLoan.f k l0_0 a1_0 a1_1 a1_2 a1_3 a1_4 a1_5 a1_6 a2 a3 = some true
end Go.Proofs.Ytldkbeccpheckaa.PFnExactShareLoan
