/- Functions of the program as plain Lean functions, each with a proof that the call comes to what it says; lines written by a tool of the kit. -/
import Derived.Test.YtpgcbdopnkbmhaaProg
import Derived.Below
import Derived.Deep.Draws
import Derived.Deep.AppendLies
import Derived.Maps.AppendAt
import Derived.OwnWalk
import Derived.Laws.BytesArg
import Derived.Laws.MakeOwn
import Derived.Laws.OwnMore
import Derived.Deep.OwnRows
import Derived.Tactics
import Derived.Lib.ConvBytes
import Derived.Laws.Slices
import Derived.WalkKit
import Derived.KernelRfl
import Derived.RowKit3
import Derived.Deep.LoopGhost
import Derived.Deep.QuietTactic
import Derived.BigQuiet
import Derived.WideLaws
import Derived.Deep.DeepCutAuto
import Derived.Deep.CutBlock
import Derived.Deep.RegionHeld3
import Derived.Laws.Rows
import Derived.Lib.AppendStr
import Derived.ArgAppend
import Derived.Laws.IdiomCopy
import Derived.OrdersHeld
import Derived.Laws.BitsLemmas
import Derived.RowKit
import Derived.Test.YtpgcbdopnkbmhaaWWords
import Derived.Test.YtpgcbdopnkbmhaaWLast
import Derived.Test.YtpgcbdopnkbmhaaWTab
import Derived.Test.YtpgcbdopnkbmhaaWFour
import Derived.Test.YtpgcbdopnkbmhaaWQPut
import Derived.Test.YtpgcbdopnkbmhaaWApart
import Derived.Test.YtpgcbdopnkbmhaaWArr
import Derived.Test.YtpgcbdopnkbmhaaWZeros
import Derived.Test.YtpgcbdopnkbmhaaWFoot
import Derived.Test.YtpgcbdopnkbmhaaWKept
import Derived.Test.YtpgcbdopnkbmhaaWShare
import Derived.Test.YtpgcbdopnkbmhaaWN
import Derived.Test.YtpgcbdopnkbmhaaWFootNe
import Derived.Test.YtpgcbdopnkbmhaaWAt
import Derived.Test.YtpgcbdopnkbmhaaWEqStruct
import Derived.Test.YtpgcbdopnkbmhaaWRepsOne
import Derived.Test.YtpgcbdopnkbmhaaWInv
import Derived.Test.YtpgcbdopnkbmhaaWInvWords
import Derived.Test.YtpgcbdopnkbmhaaWGuard
import Derived.Test.YtpgcbdopnkbmhaaWNEv
import Derived.Test.YtpgcbdopnkbmhaaWMore
namespace Go.Proofs.Ytpgcbdopnkbmhaa.A
open Go.RowKit Go.Proofs.YtpgcbdopnkbmhaaW.PrintWords Go.Proofs.YtpgcbdopnkbmhaaW.PrintLast Go.Proofs.YtpgcbdopnkbmhaaW.PrintMore
attribute [local go_sem] max2_int min2_int max_two min_two max_three min_three max_four min_four   -- for this text's walks alone
set_option linter.unusedVariables false
set_option linter.unusedSimpArgs false



def errW : Option Int → Value
  | none => .nilIface
  | some c => .iface 0 (.int .i64 c)
theorem errW_none : errW none = .nilIface := rfl
theorem errW_some (c : Int) : errW (some c) = .iface 0 (.int .i64 c) := rfl

theorem info5 : (Try.prog.info? 5).map (fun i => (i.zero, i.size, i.bytes)) = some (some (.int .u8 0), 1, 1) := by kernel_rfl
-- the values' own types

end Go.Proofs.Ytpgcbdopnkbmhaa.A
