/- Sets of ranges, all others, whether one may be, how many runes it has, is the document's. No conditions. -/
import Derived.Test.YtoihjhpabccigaaPQ4
namespace Go.Proofs.Ytoihjhpabccigaa.Pure
open Go.RowKit Go.Proofs.Ytoihjhpabccigaa.PR Go.Proofs.YtoihjhpabccigaaW.PrintWords Go.Proofs.YtoihjhpabccigaaW.PrintLast
theorem RunesSets : driftnetlaw09_RunesSets.Pure := fun l0 a1 _ _ => (PQ.sets_ev l0 a1).rounds
end Go.Proofs.Ytoihjhpabccigaa.Pure
