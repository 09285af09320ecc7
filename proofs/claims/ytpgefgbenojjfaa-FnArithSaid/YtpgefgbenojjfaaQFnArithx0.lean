-- Laid by a program of this session (wip/myprint) out of the translation, after print.sh's manner.
import Derived.Test.YtpgefgbenojjfaaProg
import Derived.Below
import Derived.Deep.Draws
import Derived.Deep.AppendLies
import Derived.Maps.AppendAt
import Derived.OwnWalk
import Derived.Laws.BytesArg
import Derived.Laws.MakeOwn
import Derived.Laws.OwnMore
import Derived.Deep.OwnRows
import Derived.Tactics
import Derived.Lib.ConvBytes
import Derived.Laws.Slices
import Derived.WalkKit
import Derived.KernelRfl
import Derived.RowKit3
import Derived.Deep.LoopGhost
import Derived.Deep.QuietTactic
import Derived.BigQuiet
import Derived.WideLaws
import Derived.Deep.DeepCutAuto
import Derived.Deep.CutBlock
import Derived.Deep.RegionHeld3
import Derived.Laws.Rows
import Derived.Lib.AppendStr
import Derived.ArgAppend
import Derived.Laws.IdiomCopy
import Derived.OrdersHeld
import Derived.Laws.BitsLemmas
import Derived.RowKit
import Derived.WalkSpells
import Derived.Lib.SliceRun
import Derived.Test.YtpgefgbenojjfaaWWords
import Derived.Test.YtpgefgbenojjfaaWLast
import Derived.Test.YtpgefgbenojjfaaWTab
import Derived.Test.YtpgefgbenojjfaaWFour
import Derived.Test.YtpgefgbenojjfaaWQPut
import Derived.Test.YtpgefgbenojjfaaWApart
import Derived.Test.YtpgefgbenojjfaaWArr
import Derived.Test.YtpgefgbenojjfaaWZeros
import Derived.Test.YtpgefgbenojjfaaWFoot
import Derived.Test.YtpgefgbenojjfaaWKept
import Derived.Test.YtpgefgbenojjfaaWShare
import Derived.Test.YtpgefgbenojjfaaWN
import Derived.Test.YtpgefgbenojjfaaWFootNe
import Derived.Test.YtpgefgbenojjfaaWAt
import Derived.Test.YtpgefgbenojjfaaWEqStruct
import Derived.Test.YtpgefgbenojjfaaWRepsOne
import Derived.Test.YtpgefgbenojjfaaWInv
import Derived.Test.YtpgefgbenojjfaaWInvWords
import Derived.Test.YtpgefgbenojjfaaWGuard
import Derived.Test.YtpgefgbenojjfaaWNEv
import Derived.Test.YtpgefgbenojjfaaWMore
namespace Go.Proofs.Ytpgefgbenojjfaa.QFnArith
open Go.RowKit Go.Proofs.YtpgefgbenojjfaaW.PrintWords Go.Proofs.YtpgefgbenojjfaaW.PrintLast Go.Proofs.YtpgefgbenojjfaaW.PrintMore
attribute [local go_sem] max2_int min2_int max_two min_two max_three min_three max_four min_four   -- for this text's walks alone
set_option linter.unusedVariables false
set_option linter.unusedSimpArgs false



def errW : Option Int → Value
  | none => .nilIface
  | some c => .iface 0 (.int .i64 c)
theorem errW_none : errW none = .nilIface := rfl
theorem errW_some (c : Int) : errW (some c) = .iface 0 (.int .i64 c) := rfl

theorem info3 : (Try.prog.info? 3).map (fun i => (i.zero, i.size, i.bytes)) = some (some (.int .i64 0), 1, 8) := by kernel_rfl
-- the values' own types

end Go.Proofs.Ytpgefgbenojjfaa.QFnArith
