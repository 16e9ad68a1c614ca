/- Functions of the program as plain Lean functions, each with a proof that the call comes to what it says; lines written by a tool of the kit. -/
import Derived.Test.YteiejkkgckdihaaProg
import Derived.Below
import Derived.Deep.Draws
import Derived.Deep.AppendLies
import Derived.Maps.AppendAt
import Derived.OwnWalk
import Derived.Laws.BytesArg
import Derived.Laws.MakeOwn
import Derived.Laws.OwnMore
import Derived.Deep.OwnRows
import Derived.Tactics
import Derived.Lib.ConvBytes
import Derived.Laws.Slices
import Derived.WalkKit
import Derived.KernelRfl
import Derived.RowKit3
import Derived.Deep.LoopGhost
import Derived.Deep.QuietTactic
import Derived.BigQuiet
import Derived.WideLaws
import Derived.Deep.DeepCutAuto
import Derived.Deep.CutBlock
import Derived.Deep.RegionHeld3
import Derived.Laws.Rows
import Derived.Lib.AppendStr
import Derived.ArgAppend
import Derived.Laws.IdiomCopy
import Derived.OrdersHeld
import Derived.Laws.BitsLemmas
import Derived.RowKit
import Derived.Test.YteiejkkgckdihaaWWords
import Derived.Test.YteiejkkgckdihaaWLast
import Derived.Test.YteiejkkgckdihaaWTab
import Derived.Test.YteiejkkgckdihaaWFour
import Derived.Test.YteiejkkgckdihaaWQPut
import Derived.Test.YteiejkkgckdihaaWApart
import Derived.Test.YteiejkkgckdihaaWArr
import Derived.Test.YteiejkkgckdihaaWZeros
import Derived.Test.YteiejkkgckdihaaWFoot
import Derived.Test.YteiejkkgckdihaaWKept
import Derived.Test.YteiejkkgckdihaaWShare
import Derived.Test.YteiejkkgckdihaaWN
import Derived.Test.YteiejkkgckdihaaWFootNe
import Derived.Test.YteiejkkgckdihaaWAt
import Derived.Test.YteiejkkgckdihaaWEqStruct
import Derived.Test.YteiejkkgckdihaaWRepsOne
import Derived.Test.YteiejkkgckdihaaWInv
import Derived.Test.YteiejkkgckdihaaWInvWords
import Derived.Test.YteiejkkgckdihaaWGuard
import Derived.Test.YteiejkkgckdihaaWNEv
import Derived.Test.YteiejkkgckdihaaWMore
namespace Go.Proofs.Yteiejkkgckdihaa.A
open Go.RowKit Go.Proofs.YteiejkkgckdihaaW.PrintWords Go.Proofs.YteiejkkgckdihaaW.PrintLast Go.Proofs.YteiejkkgckdihaaW.PrintMore
attribute [local go_sem] max2_int min2_int max_two min_two max_three min_three max_four min_four   -- for this text's walks alone
set_option linter.unusedVariables false
set_option linter.unusedSimpArgs false



def errW : Option Int → Value
  | none => .nilIface
  | some c => .iface 0 (.int .i64 c)
theorem errW_none : errW none = .nilIface := rfl
theorem errW_some (c : Int) : errW (some c) = .iface 0 (.int .i64 c) := rfl

-- the values' own types

end Go.Proofs.Yteiejkkgckdihaa.A
