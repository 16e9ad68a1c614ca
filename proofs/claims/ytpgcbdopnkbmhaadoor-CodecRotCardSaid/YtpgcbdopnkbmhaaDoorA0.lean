/- Functions of the program as plain Lean functions, each with a proof that the call comes to what it says; lines written by a tool of the kit. -/
import Derived.Test.YtpgcbdopnkbmhaaDoorProg
import Derived.Below
import Derived.Deep.Draws
import Derived.Deep.AppendLies
import Derived.Maps.AppendAt
import Derived.OwnWalk
import Derived.Laws.BytesArg
import Derived.Laws.MakeOwn
import Derived.Laws.OwnMore
import Derived.Deep.OwnRows
import Derived.Tactics
import Derived.Lib.ConvBytes
import Derived.Laws.Slices
import Derived.WalkKit
import Derived.KernelRfl
import Derived.RowKit3
import Derived.Deep.LoopGhost
import Derived.Deep.QuietTactic
import Derived.BigQuiet
import Derived.WideLaws
import Derived.Deep.DeepCutAuto
import Derived.Deep.CutBlock
import Derived.Deep.RegionHeld3
import Derived.Laws.Rows
import Derived.Lib.AppendStr
import Derived.ArgAppend
import Derived.Laws.IdiomCopy
import Derived.OrdersHeld
import Derived.Laws.BitsLemmas
import Derived.RowKit
import Derived.Test.YtpgcbdopnkbmhaaDoorWWords
import Derived.Test.YtpgcbdopnkbmhaaDoorWLast
import Derived.Test.YtpgcbdopnkbmhaaDoorWTab
import Derived.Test.YtpgcbdopnkbmhaaDoorWFour
import Derived.Test.YtpgcbdopnkbmhaaDoorWQPut
import Derived.Test.YtpgcbdopnkbmhaaDoorWApart
import Derived.Test.YtpgcbdopnkbmhaaDoorWArr
import Derived.Test.YtpgcbdopnkbmhaaDoorWZeros
import Derived.Test.YtpgcbdopnkbmhaaDoorWFoot
import Derived.Test.YtpgcbdopnkbmhaaDoorWKept
import Derived.Test.YtpgcbdopnkbmhaaDoorWShare
import Derived.Test.YtpgcbdopnkbmhaaDoorWN
import Derived.Test.YtpgcbdopnkbmhaaDoorWFootNe
import Derived.Test.YtpgcbdopnkbmhaaDoorWAt
import Derived.Test.YtpgcbdopnkbmhaaDoorWEqStruct
import Derived.Test.YtpgcbdopnkbmhaaDoorWRepsOne
import Derived.Test.YtpgcbdopnkbmhaaDoorWInv
import Derived.Test.YtpgcbdopnkbmhaaDoorWInvWords
import Derived.Test.YtpgcbdopnkbmhaaDoorWGuard
import Derived.Test.YtpgcbdopnkbmhaaDoorWNEv
import Derived.Test.YtpgcbdopnkbmhaaDoorWMore
namespace Go.Proofs.YtpgcbdopnkbmhaaDoor.A
open Go.RowKit Go.Proofs.YtpgcbdopnkbmhaaDoorW.PrintWords Go.Proofs.YtpgcbdopnkbmhaaDoorW.PrintLast Go.Proofs.YtpgcbdopnkbmhaaDoorW.PrintMore
attribute [local go_sem] max2_int min2_int max_two min_two max_three min_three max_four min_four   -- for this text's walks alone
set_option linter.unusedVariables false
set_option linter.unusedSimpArgs false



def errW : Option Int → Value
  | none => .nilIface
  | some c => .iface 0 (.int .i64 c)
theorem errW_none : errW none = .nilIface := rfl
theorem errW_some (c : Int) : errW (some c) = .iface 0 (.int .i64 c) := rfl

theorem info5 : (Tryd.prog.info? 5).map (fun i => (i.zero, i.size, i.bytes)) = some (some (.int .u8 0), 1, 1) := by kernel_rfl
-- the values' own types

end Go.Proofs.YtpgcbdopnkbmhaaDoor.A
