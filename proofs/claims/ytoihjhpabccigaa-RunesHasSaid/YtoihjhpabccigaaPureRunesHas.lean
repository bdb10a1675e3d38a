/- A set has just what one of its ranges has; Not has just the others; the join and both are as they should. No conditions. -/
import Derived.Test.YtoihjhpabccigaaPQ4
namespace Go.Proofs.Ytoihjhpabccigaa.Pure
open Go.RowKit Go.Proofs.Ytoihjhpabccigaa.PR Go.Proofs.YtoihjhpabccigaaW.PrintWords Go.Proofs.YtoihjhpabccigaaW.PrintLast
theorem RunesHas : driftnetlaw09_RunesHas.Pure := fun l0 l1 a2 _ _ _ => (PQ.has_ev l0 l1 a2).rounds
end Go.Proofs.Ytoihjhpabccigaa.Pure
