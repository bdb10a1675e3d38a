/- What the texts of this seat import. -/
import Derived.Test.YtkkaaipiaandaaaDoorProg
import Derived.Below
import Derived.Deep.Draws
import Derived.Deep.AppendLies
import Derived.Maps.AppendAt
import Derived.OwnWalk
import Derived.Laws.BytesArg
import Derived.Laws.MakeOwn
import Derived.Laws.OwnMore
import Derived.Deep.OwnRows
import Derived.Tactics
import Derived.Lib.ConvBytes
import Derived.Laws.Slices
import Derived.WalkKit
import Derived.KernelRfl
import Derived.RowKit3
import Derived.Deep.LoopGhost
import Derived.Deep.QuietTactic
import Derived.BigQuiet
import Derived.WideLaws
import Derived.Deep.DeepCutAuto
import Derived.Deep.CutBlock
import Derived.Deep.RegionHeld3
import Derived.Laws.Rows
import Derived.Lib.AppendStr
import Derived.ArgAppend
import Derived.Laws.IdiomCopy
import Derived.OrdersHeld
import Derived.Laws.BitsLemmas
import Derived.RowKit
import Derived.Test.YtkkaaipiaandaaaDoorWWords
import Derived.Test.YtkkaaipiaandaaaDoorWLast
import Derived.Test.YtkkaaipiaandaaaDoorWTab
import Derived.Test.YtkkaaipiaandaaaDoorWFour
import Derived.Test.YtkkaaipiaandaaaDoorWQPut
import Derived.Test.YtkkaaipiaandaaaDoorWApart
import Derived.Test.YtkkaaipiaandaaaDoorWArr
import Derived.Test.YtkkaaipiaandaaaDoorWZeros
import Derived.Test.YtkkaaipiaandaaaDoorWFoot
import Derived.Test.YtkkaaipiaandaaaDoorWKept
import Derived.Test.YtkkaaipiaandaaaDoorWShare
import Derived.Test.YtkkaaipiaandaaaDoorWN
import Derived.Test.YtkkaaipiaandaaaDoorWFootNe
import Derived.Test.YtkkaaipiaandaaaDoorWAt
import Derived.Test.YtkkaaipiaandaaaDoorWEqStruct
import Derived.Test.YtkkaaipiaandaaaDoorWRepsOne
import Derived.Test.YtkkaaipiaandaaaDoorWInv
import Derived.Test.YtkkaaipiaandaaaDoorWInvWords
import Derived.Test.YtkkaaipiaandaaaDoorWGuard
import Derived.Test.YtkkaaipiaandaaaDoorWNEv
import Derived.Test.YtkkaaipiaandaaaDoorWMore
namespace Go.Proofs.YtkkaaipiaandaaaDoor.PC
open Go.RowKit Go.Proofs.YtkkaaipiaandaaaDoorW.PrintWords Go.Proofs.YtkkaaipiaandaaaDoorW.PrintLast Go.Proofs.YtkkaaipiaandaaaDoorW.PrintMore
attribute [local go_sem] max2_int min2_int max_two min_two max_three min_three max_four min_four   -- for this text's walks alone
set_option linter.unusedVariables false
set_option linter.unusedSimpArgs false
end Go.Proofs.YtkkaaipiaandaaaDoor.PC
