/-
  VaryKnown: a closed statement: the chapter's examples, both ends, readers that are none: true.
-/
import Derived.Test.YtmjedmiaebbjaaaPKx1
namespace Go.Proofs.Ytmjedmiaebbjaaa.Pure
open Go.Proofs.Ytmjedmiaebbjaaa.PK
theorem VaryKnown : driftnetlaw06_VaryKnown.Pure := trivial
end Go.Proofs.Ytmjedmiaebbjaaa.Pure
