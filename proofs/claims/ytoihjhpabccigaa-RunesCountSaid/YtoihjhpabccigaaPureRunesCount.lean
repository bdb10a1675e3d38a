/- How many a join has, and how many both have, are as many as each has, together; a set and its Not have all. No conditions. -/
import Derived.Test.YtoihjhpabccigaaPQ4
namespace Go.Proofs.Ytoihjhpabccigaa.Pure
open Go.RowKit Go.Proofs.Ytoihjhpabccigaa.PR Go.Proofs.YtoihjhpabccigaaW.PrintWords Go.Proofs.YtoihjhpabccigaaW.PrintLast
theorem RunesCount : driftnetlaw09_RunesCount.Pure := fun l0 l1 _ _ => (PQ.count_ev l0 l1).rounds
end Go.Proofs.Ytoihjhpabccigaa.Pure
