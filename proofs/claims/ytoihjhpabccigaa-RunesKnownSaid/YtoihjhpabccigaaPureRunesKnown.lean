/- Chapter 9: its numbers and examples, both ends. No conditions. -/
import Derived.Test.YtoihjhpabccigaaPQ4
namespace Go.Proofs.Ytoihjhpabccigaa.Pure
open Go.RowKit Go.Proofs.Ytoihjhpabccigaa.PR Go.Proofs.YtoihjhpabccigaaW.PrintWords Go.Proofs.YtoihjhpabccigaaW.PrintLast
theorem RunesKnown : driftnetlaw09_RunesKnown.Pure := PQ.known_ev.rounds
end Go.Proofs.Ytoihjhpabccigaa.Pure
