/- There is just one set that may be of the same runes; Not of Not is the set itself; Not of a join is what both Nots have. No conditions. -/
import Derived.Test.YtoihjhpabccigaaPQ4
namespace Go.Proofs.Ytoihjhpabccigaa.Pure
open Go.RowKit Go.Proofs.Ytoihjhpabccigaa.PR Go.Proofs.YtoihjhpabccigaaW.PrintWords Go.Proofs.YtoihjhpabccigaaW.PrintLast
theorem RunesOnce : driftnetlaw09_RunesOnce.Pure := fun l0 l1 _ _ => (PQ.once_ev l0 l1).rounds
end Go.Proofs.Ytoihjhpabccigaa.Pure
