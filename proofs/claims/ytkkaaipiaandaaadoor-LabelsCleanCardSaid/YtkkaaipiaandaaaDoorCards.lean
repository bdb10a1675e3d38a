/-
  DERIVED. GIVEN WITH THE SEED: THE CARDS: each row of YtkkaaipiaandaaaDoorRows.lean that lists a variable, with what it lists TIED to the program's text (the seventh form; the later family's looks); each row that meets fmt, with fmt's text TOLD by the authors' own Lean function (tested against real Go, not proved from fmt's source: count such statements apart). THE CARD IS WHAT COUNTS. Prove the row's statement (the work); the ties are given (YtkkaaipiaandaaaDoorTie.lean); close each card by the builder's one call (the guide's Derived/Test/ToyasCard.lean, 'card_holds'). Laid BY PROGRAM, IN A SANDBOX (cutbox-door.mjs). By AI agents, Wed Nov 11 2026. No macro, syntax, notation, axiom, sorry.
-/
import Derived.Test.YtkkaaipiaandaaaDoorRows
import GoSem.ClaimSeven
namespace Go.Proofs.YtkkaaipiaandaaaDoor
namespace Rows

/-- THE TIED CARD OF 'driftnetlaw05.LabelsClean'. -/
def labelsCleanCard : Claim7 := { stood := { row := labelsCleanRow, standIns := [], harness := (true, "35e0553211144fe7fd1e6411c34cdc39246887120b4dab639b49de2ed40a0823"), looks := false }, kinds := [], alts := [], laidByText := true, laidKinds := [.data, .data, .data, .data, .pinned], laidTests := true, laidLooks := .later }
def LabelsCleanCardSaid : Prop := Claim7.holds Tryd.pinned (.plain (OpenSpec.ofChange labelsCleanSpec)) labelsCleanCard

/-- THE SECOND FORM's CARD OF 'driftnetlaw05.LabelsClean'. -/
def labelsCleanUptoCard : Claim7 := { stood := { row := labelsCleanUptoRow, standIns := [], harness := (true, "35e0553211144fe7fd1e6411c34cdc39246887120b4dab639b49de2ed40a0823"), looks := false }, kinds := [], alts := [], laidByText := true, laidKinds := [.data, .data, .data, .data, .pinned], laidTests := true, laidLooks := .later }
def LabelsCleanUptoCardSaid : Prop := Claim7.holds Tryd.pinned (.plain (OpenSpec.upto labelsCleanSpec)) labelsCleanUptoCard
end Rows
end Go.Proofs.YtkkaaipiaandaaaDoor
