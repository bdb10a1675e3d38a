/- Written by a program of this session (wip/hand.py, over the kit's print): functions of the given program as plain Lean functions, and that the machine's calls come to what these say. -/
import Derived.Test.YtmjedmiaebbjaaaPKx0
namespace Go.Proofs.Ytmjedmiaebbjaaa.PK
open Go.RowKit Go.Proofs.YtmjedmiaebbjaaaW.PrintWords Go.Proofs.YtmjedmiaebbjaaaW.PrintLast Go.Proofs.YtmjedmiaebbjaaaW.PrintMore
attribute [local go_sem] max2_int min2_int max_two min_two max_three min_three max_four min_four   -- for this text's walks alone
set_option linter.unusedVariables false
set_option linter.unusedSimpArgs false

/-! ### driftnetlaw06_VaryKnown: function 8 (by hand) -/
def driftnetlaw06_VaryKnown.Pure : Prop := True
theorem driftnetlaw06_VaryKnown.walk (P : driftnetlaw06_VaryKnown.Pure)  (w : World)  :
    Calls Try.prog 8 #[] w fun e w' => e = .returned (.bool true) ∧ Below w.heap.size w w' := by
  exact VG.walk w


end Go.Proofs.Ytmjedmiaebbjaaa.PK
