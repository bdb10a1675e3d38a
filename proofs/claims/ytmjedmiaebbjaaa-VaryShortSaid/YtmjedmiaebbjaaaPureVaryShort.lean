/-
  VaryShort: of two numbers that may be written, the one nearer to 0 has no more bytes, and none's bytes begin the other's. For all two numbers, no condition.
-/
import Derived.Test.YtmjedmiaebbjaaaPSx1
namespace Go.Proofs.Ytmjedmiaebbjaaa.Pure
open Go.Proofs.Ytmjedmiaebbjaaa.PS
theorem VaryShort : driftnetlaw06_VaryShort.Pure := trivial
end Go.Proofs.Ytmjedmiaebbjaaa.Pure
