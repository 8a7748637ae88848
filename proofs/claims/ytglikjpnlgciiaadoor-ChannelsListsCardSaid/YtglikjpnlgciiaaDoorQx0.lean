-- Written by a program of this session (wip/tools/given.py) over the translation: Lean checks it.
import Derived.Test.YtglikjpnlgciiaaDoorProg
import Derived.Below
import Derived.Deep.Draws
import Derived.Deep.AppendLies
import Derived.Maps.AppendAt
import Derived.OwnWalk
import Derived.Laws.BytesArg
import Derived.Laws.MakeOwn
import Derived.Laws.OwnMore
import Derived.Deep.OwnRows
import Derived.Tactics
import Derived.Lib.ConvBytes
import Derived.Laws.Slices
import Derived.WalkKit
import Derived.KernelRfl
import Derived.RowKit3
import Derived.Deep.LoopGhost
import Derived.Deep.QuietTactic
import Derived.BigQuiet
import Derived.WideLaws
import Derived.Deep.DeepCutAuto
import Derived.Deep.CutBlock
import Derived.Deep.RegionHeld3
import Derived.Laws.Rows
import Derived.Lib.AppendStr
import Derived.ArgAppend
import Derived.Laws.IdiomCopy
import Derived.OrdersHeld
import Derived.Laws.BitsLemmas
import Derived.RowKit
import Derived.Test.YtglikjpnlgciiaaDoorWWords
import Derived.Test.YtglikjpnlgciiaaDoorWLast
import Derived.Test.YtglikjpnlgciiaaDoorWTab
import Derived.Test.YtglikjpnlgciiaaDoorWFour
import Derived.Test.YtglikjpnlgciiaaDoorWQPut
import Derived.Test.YtglikjpnlgciiaaDoorWApart
import Derived.Test.YtglikjpnlgciiaaDoorWArr
import Derived.Test.YtglikjpnlgciiaaDoorWZeros
import Derived.Test.YtglikjpnlgciiaaDoorWFoot
import Derived.Test.YtglikjpnlgciiaaDoorWKept
import Derived.Test.YtglikjpnlgciiaaDoorWShare
import Derived.Test.YtglikjpnlgciiaaDoorWN
import Derived.Test.YtglikjpnlgciiaaDoorWFootNe
import Derived.Test.YtglikjpnlgciiaaDoorWAt
import Derived.Test.YtglikjpnlgciiaaDoorWEqStruct
import Derived.Test.YtglikjpnlgciiaaDoorWRepsOne
import Derived.Test.YtglikjpnlgciiaaDoorWInv
import Derived.Test.YtglikjpnlgciiaaDoorWInvWords
import Derived.Test.YtglikjpnlgciiaaDoorWGuard
import Derived.Test.YtglikjpnlgciiaaDoorWNEv
import Derived.Test.YtglikjpnlgciiaaDoorWMore
namespace Go.Proofs.YtglikjpnlgciiaaDoor.Q
open Go.RowKit Go.Proofs.YtglikjpnlgciiaaDoorW.PrintWords Go.Proofs.YtglikjpnlgciiaaDoorW.PrintLast Go.Proofs.YtglikjpnlgciiaaDoorW.PrintMore
attribute [local go_sem] max2_int min2_int max_two min_two max_three min_three max_four min_four   -- for this text's walks alone
set_option linter.unusedVariables false
set_option linter.unusedSimpArgs false



def errW : Option Int → Value
  | none => .nilIface
  | some c => .iface 0 (.int .i64 c)
theorem errW_none : errW none = .nilIface := rfl
theorem errW_some (c : Int) : errW (some c) = .iface 0 (.int .i64 c) := rfl

theorem info3 : (Tryd.prog.info? 3).map (fun i => (i.zero, i.size, i.bytes)) = some (some (.int .i64 0), 1, 8) := by kernel_rfl
-- the values' own types

end Go.Proofs.YtglikjpnlgciiaaDoor.Q
