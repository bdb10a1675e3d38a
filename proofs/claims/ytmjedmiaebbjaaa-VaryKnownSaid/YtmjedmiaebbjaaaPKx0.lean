/- Written by a program of this session (wip/hand.py, over the kit's print): functions of the given program as plain Lean functions, and that the machine's calls come to what these say. -/
import Derived.Test.YtmjedmiaebbjaaaProg
import Derived.Below
import Derived.Deep.Draws
import Derived.Deep.AppendLies
import Derived.Maps.AppendAt
import Derived.OwnWalk
import Derived.Laws.BytesArg
import Derived.Laws.MakeOwn
import Derived.Laws.OwnMore
import Derived.Deep.OwnRows
import Derived.Tactics
import Derived.Lib.ConvBytes
import Derived.Laws.Slices
import Derived.WalkKit
import Derived.KernelRfl
import Derived.RowKit3
import Derived.Deep.LoopGhost
import Derived.Deep.QuietTactic
import Derived.BigQuiet
import Derived.WideLaws
import Derived.Deep.DeepCutAuto
import Derived.Deep.CutBlock
import Derived.Deep.RegionHeld3
import Derived.Laws.Rows
import Derived.Lib.AppendStr
import Derived.ArgAppend
import Derived.Laws.IdiomCopy
import Derived.OrdersHeld
import Derived.Laws.BitsLemmas
import Derived.RowKit
import Derived.Test.YtmjedmiaebbjaaaVG
import Derived.Test.YtmjedmiaebbjaaaWWords
import Derived.Test.YtmjedmiaebbjaaaWLast
import Derived.Test.YtmjedmiaebbjaaaWTab
import Derived.Test.YtmjedmiaebbjaaaWFour
import Derived.Test.YtmjedmiaebbjaaaWQPut
import Derived.Test.YtmjedmiaebbjaaaWApart
import Derived.Test.YtmjedmiaebbjaaaWArr
import Derived.Test.YtmjedmiaebbjaaaWZeros
import Derived.Test.YtmjedmiaebbjaaaWFoot
import Derived.Test.YtmjedmiaebbjaaaWKept
import Derived.Test.YtmjedmiaebbjaaaWShare
import Derived.Test.YtmjedmiaebbjaaaWN
import Derived.Test.YtmjedmiaebbjaaaWFootNe
import Derived.Test.YtmjedmiaebbjaaaWAt
import Derived.Test.YtmjedmiaebbjaaaWEqStruct
import Derived.Test.YtmjedmiaebbjaaaWRepsOne
import Derived.Test.YtmjedmiaebbjaaaWInv
import Derived.Test.YtmjedmiaebbjaaaWInvWords
import Derived.Test.YtmjedmiaebbjaaaWGuard
import Derived.Test.YtmjedmiaebbjaaaWNEv
import Derived.Test.YtmjedmiaebbjaaaWMore
namespace Go.Proofs.Ytmjedmiaebbjaaa.PK
open Go.RowKit Go.Proofs.YtmjedmiaebbjaaaW.PrintWords Go.Proofs.YtmjedmiaebbjaaaW.PrintLast Go.Proofs.YtmjedmiaebbjaaaW.PrintMore
attribute [local go_sem] max2_int min2_int max_two min_two max_three min_three max_four min_four   -- for this text's walks alone
set_option linter.unusedVariables false
set_option linter.unusedSimpArgs false



def errW : Option Int → Value
  | none => .nilIface
  | some c => .iface 0 (.int .i64 c)
theorem errW_none : errW none = .nilIface := rfl
theorem errW_some (c : Int) : errW (some c) = .iface 0 (.int .i64 c) := rfl

-- the values' own types

end Go.Proofs.Ytmjedmiaebbjaaa.PK
