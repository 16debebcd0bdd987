/- What is proved here: each Go function that is named below answers, and leaves memory, as the theorem of its name says; no condition beyond those that each theorem states. Laid by this session's own program (wip/driver.py) over the kit's print. -/
import Derived.Test.YtkifenbcepicjabProg
import Derived.Below
import Derived.Deep.Draws
import Derived.Deep.AppendLies
import Derived.Maps.AppendAt
import Derived.OwnWalk
import Derived.Laws.BytesArg
import Derived.Laws.MakeOwn
import Derived.Laws.OwnMore
import Derived.Deep.OwnRows
import Derived.Tactics
import Derived.Lib.ConvBytes
import Derived.Laws.Slices
import Derived.WalkKit
import Derived.KernelRfl
import Derived.RowKit3
import Derived.Deep.LoopGhost
import Derived.Deep.QuietTactic
import Derived.BigQuiet
import Derived.WideLaws
import Derived.Deep.DeepCutAuto
import Derived.Deep.CutBlock
import Derived.Deep.RegionHeld3
import Derived.Laws.Rows
import Derived.Lib.AppendStr
import Derived.ArgAppend
import Derived.Laws.IdiomCopy
import Derived.OrdersHeld
import Derived.Laws.BitsLemmas
import Derived.RowKit
import Derived.Lib.Hide
import Derived.StillTailTactics
import Derived.IntWalk
import Derived.Deep.Cut
import Derived.Test.YtkifenbcepicjabGf
import Derived.Test.YtkifenbcepicjabGy
import Derived.Test.YtkifenbcepicjabGx
import Derived.Test.YtkifenbcepicjabOpn
import Derived.Test.YtkifenbcepicjabCq
import Derived.Test.YtkifenbcepicjabWWords
import Derived.Test.YtkifenbcepicjabWLast
import Derived.Test.YtkifenbcepicjabWTab
import Derived.Test.YtkifenbcepicjabWQPut
import Derived.Test.YtkifenbcepicjabWApart
import Derived.Test.YtkifenbcepicjabWArr
import Derived.Test.YtkifenbcepicjabWZeros
import Derived.Test.YtkifenbcepicjabWFoot
import Derived.Test.YtkifenbcepicjabWKept
import Derived.Test.YtkifenbcepicjabWShare
import Derived.Test.YtkifenbcepicjabWN
import Derived.Test.YtkifenbcepicjabWRepsOne
import Derived.Test.YtkifenbcepicjabWGuard
import Derived.Test.YtkifenbcepicjabWNEv
import Derived.Test.YtkifenbcepicjabWMore
namespace Go.Proofs.Ytkifenbcepicjab.PFnGrowth
open Go.RowKit Go.Proofs.YtkifenbcepicjabW.PrintWords Go.Proofs.YtkifenbcepicjabW.PrintLast Go.Proofs.YtkifenbcepicjabW.PrintMore
attribute [local go_sem] max2_int min2_int max_two min_two max_three min_three max_four min_four   -- for this text's walks alone
set_option linter.unusedVariables false
set_option linter.unusedSimpArgs false



def errW : Option Int → Value
  | none => .nilIface
  | some c => .iface 0 (.int .i64 c)
theorem errW_none : errW none = .nilIface := rfl
theorem errW_some (c : Int) : errW (some c) = .iface 0 (.int .i64 c) := rfl

theorem info3 : (Try.prog.info? 3).map (fun i => (i.zero, i.size, i.bytes)) = some (some (.int .i64 0), 1, 8) := by kernel_rfl
-- the values' own types

theorem drewN_set (w : World) (n : Nat) (p : Addr) (v : Value) : (w.drewN n).setCell p v = (w.setCell p v).drewN n := rfl
end Go.Proofs.Ytkifenbcepicjab.PFnGrowth
