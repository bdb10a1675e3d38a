/-
  VaryAgain: what a reader takes off any bytes without an error, a number, a number with a sign, a text, is written as just the bytes that it took. For all bytes, no condition.
-/
import Derived.Test.YtmjedmiaebbjaaaPAx1
namespace Go.Proofs.Ytmjedmiaebbjaaa.Pure
open Go.Proofs.Ytmjedmiaebbjaaa.PA
theorem VaryAgain : driftnetlaw06_VaryAgain.Pure := trivial
end Go.Proofs.Ytmjedmiaebbjaaa.Pure
