/- What several have, and both, and whether two are the same, is the document's. No conditions. -/
import Derived.Test.YtoihjhpabccigaaPQ4
namespace Go.Proofs.Ytoihjhpabccigaa.Pure
open Go.RowKit Go.Proofs.Ytoihjhpabccigaa.PR Go.Proofs.YtoihjhpabccigaaW.PrintWords Go.Proofs.YtoihjhpabccigaaW.PrintLast
theorem RunesTwo : driftnetlaw09_RunesTwo.Pure := fun l0 l1 _ _ => (PQ.two_ev l0 l1).rounds
end Go.Proofs.Ytoihjhpabccigaa.Pure
