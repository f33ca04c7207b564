-- Written by wip/tools/xprint.py of this work (the kit's print with contracts of its own).
import Derived.Test.YtlfahlmhkndllaaProg
import Derived.Below
import Derived.Deep.Draws
import Derived.Deep.AppendLies
import Derived.Maps.AppendAt
import Derived.OwnWalk
import Derived.Laws.BytesArg
import Derived.Laws.MakeOwn
import Derived.Laws.OwnMore
import Derived.Deep.OwnRows
import Derived.Tactics
import Derived.Lib.ConvBytes
import Derived.Laws.Slices
import Derived.WalkKit
import Derived.KernelRfl
import Derived.RowKit3
import Derived.Deep.LoopGhost
import Derived.Deep.QuietTactic
import Derived.BigQuiet
import Derived.WideLaws
import Derived.Deep.DeepCutAuto
import Derived.Deep.CutBlock
import Derived.Deep.RegionHeld3
import Derived.Laws.Rows
import Derived.Lib.AppendStr
import Derived.ArgAppend
import Derived.Laws.IdiomCopy
import Derived.OrdersHeld
import Derived.Laws.BitsLemmas
import Derived.RowKit
import Derived.Test.YtlfahlmhkndllaaRange
import Derived.Test.YtlfahlmhkndllaaRound
import Derived.Sort.LoopGhostIn
import Derived.Lib.BytesEntry
import Derived.Laws.Externs
import Derived.Lib.Hide
import Derived.WalkLawsBesides
import Derived.WalkSpells
import Derived.Lib.SlBytesConst
import Derived.Lib.SmallJoins
import Derived.Lib.Mul64
import Derived.Laws.Bits64b
import Derived.Lib.RabinKarpLaws
import Derived.Test.YtlfahlmhkndllaaWWords
import Derived.Test.YtlfahlmhkndllaaWLast
import Derived.Test.YtlfahlmhkndllaaWTab
import Derived.Test.YtlfahlmhkndllaaWFour
import Derived.Test.YtlfahlmhkndllaaWQPut
import Derived.Test.YtlfahlmhkndllaaWApart
import Derived.Test.YtlfahlmhkndllaaWArr
import Derived.Test.YtlfahlmhkndllaaWZeros
import Derived.Test.YtlfahlmhkndllaaWFoot
import Derived.Test.YtlfahlmhkndllaaWKept
import Derived.Test.YtlfahlmhkndllaaWShare
import Derived.Test.YtlfahlmhkndllaaWN
import Derived.Test.YtlfahlmhkndllaaWFootNe
import Derived.Test.YtlfahlmhkndllaaWAt
import Derived.Test.YtlfahlmhkndllaaWEqStruct
import Derived.Test.YtlfahlmhkndllaaWRepsOne
import Derived.Test.YtlfahlmhkndllaaWInv
import Derived.Test.YtlfahlmhkndllaaWInvWords
import Derived.Test.YtlfahlmhkndllaaWGuard
import Derived.Test.YtlfahlmhkndllaaWNEv
import Derived.Test.YtlfahlmhkndllaaWMore
namespace Go.Proofs.Ytlfahlmhkndllaa.PNum
open Go.RowKit Go.Proofs.YtlfahlmhkndllaaW.PrintWords Go.Proofs.YtlfahlmhkndllaaW.PrintLast Go.Proofs.YtlfahlmhkndllaaW.PrintMore
attribute [local go_sem] max2_int min2_int max_two min_two max_three min_three max_four min_four   -- for this text's walks alone
set_option linter.unusedVariables false
set_option linter.unusedSimpArgs false



def errW : Option Int → Value
  | none => .nilIface
  | some c => .iface 0 (.int .i64 c)
theorem errW_none : errW none = .nilIface := rfl
theorem errW_some (c : Int) : errW (some c) = .iface 0 (.int .i64 c) := rfl

theorem info5 : (Try.prog.info? 5).map (fun i => (i.zero, i.size, i.bytes)) = some (some (.int .u8 0), 1, 1) := by kernel_rfl
-- the values' own types

end Go.Proofs.Ytlfahlmhkndllaa.PNum
