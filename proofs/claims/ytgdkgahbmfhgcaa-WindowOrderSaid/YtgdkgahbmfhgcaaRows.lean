/-
  No cell of these rows narrows 'for every input' (looked for: loops, veiled, ifaces, maps, wideKeys, modest, calm, conditions, laid).
  DERIVED. THE GIVEN ROWS OF THIS SEAT. 5 by the template 'for every input the law returns true; each argument reads behind the call as it read before'; 0 by the template 'total and deterministic' (their statements: YtgdkgahbmfhgcaaTotals.lean).
  GIVEN WITH THE SEED: the statements are not yours to turn. If you find one false, say at which input.
  Laid BY PROGRAM, IN A SANDBOX (cutbox-rows.mjs): the forced cells as the released guide's own fill.sh prints them over the translation 840afc809400a73f… (all of the seat's roots in one cut). By AI agents, Wed Nov 11 2026. No macro, syntax, notation, axiom, sorry.
-/
import Derived.Test.YtgdkgahbmfhgcaaChecked
import GoSem.Claim
import GoSem.ClaimJoined
import GoSem.ClaimMapViews
import Derived.JoinedTies
import Derived.KernelRfl
namespace Go.Proofs.Ytgdkgahbmfhgcaa
/- THE CELL 'sum', in the pinned program and in every row, IS THE sha256 OF THE DUMP (.gsa) THAT YtgdkgahbmfhgcaaProg.lean LOADS. Nothing in Lean hashes anything: it is a label: what it is worth is what the hold of that sum in a sandbox is worth. -/
noncomputable def Try.pinned : Pinned := { name := "ytgdkgahbmfhgcaa", sum := "840afc809400a73f8d415e9b830bfd3cb87f7ab8819a7af63cd3a9bf327f8569", checked := Try.checked }
namespace Rows
def none {H : Type} : Left H := { results := [], args := [] }

/-- 'driftnetlaw26.WindowBetween': WHATEVER THE INPUT: true; the input reads as it did. -/
def windowBetweenSpec : ChangeSpec := { name := "windowBetween", fn := fun _ => fun
  | [d1, d2] => { results := [.lit (.bool true)], args := [d1, d2] }
  | _ => none }
def windowBetweenRow : OpenClaim := { program := "ytgdkgahbmfhgcaa", sum := "840afc809400a73f8d415e9b830bfd3cb87f7ab8819a7af63cd3a9bf327f8569", func := "driftnet/driftnetlaw26.WindowBetween", spec := "windowBetween", unfollowed := true, recurses := true, named := ["math/bits.overflowError"], apart := false }
def WindowBetweenSaid : Prop := windowBetweenRow.holds Try.pinned (OpenSpec.ofChange windowBetweenSpec)

/-- ITS FALSE NEIGHBOUR: 'it returns false'. Refute it at one input. -/
def windowBetweenWrong : ChangeSpec := { name := "windowBetween", fn := fun _ => fun
  | [d1, d2] => { results := [.lit (.bool false)], args := [d1, d2] }
  | _ => none }
def WindowBetweenWrongFalsely : Prop := windowBetweenRow.holds Try.pinned (OpenSpec.ofChange windowBetweenWrong)

/-- 'driftnetlaw26.WindowOne': WHATEVER THE INPUT: true; the input reads as it did. -/
def windowOneSpec : ChangeSpec := { name := "windowOne", fn := fun _ => fun
  | [d1, d2] => { results := [.lit (.bool true)], args := [d1, d2] }
  | _ => none }
def windowOneRow : OpenClaim := { program := "ytgdkgahbmfhgcaa", sum := "840afc809400a73f8d415e9b830bfd3cb87f7ab8819a7af63cd3a9bf327f8569", func := "driftnet/driftnetlaw26.WindowOne", spec := "windowOne", unfollowed := true, recurses := true, named := ["math/bits.overflowError"], apart := false }
def WindowOneSaid : Prop := windowOneRow.holds Try.pinned (OpenSpec.ofChange windowOneSpec)

/-- ITS FALSE NEIGHBOUR: 'it returns false'. Refute it at one input. -/
def windowOneWrong : ChangeSpec := { name := "windowOne", fn := fun _ => fun
  | [d1, d2] => { results := [.lit (.bool false)], args := [d1, d2] }
  | _ => none }
def WindowOneWrongFalsely : Prop := windowOneRow.holds Try.pinned (OpenSpec.ofChange windowOneWrong)

/-- 'driftnetlaw26.WindowOrder': WHATEVER THE INPUT: true; the input reads as it did. -/
def windowOrderSpec : ChangeSpec := { name := "windowOrder", fn := fun _ => fun
  | [d1, d2, d3] => { results := [.lit (.bool true)], args := [d1, d2, d3] }
  | _ => none }
def windowOrderRow : OpenClaim := { program := "ytgdkgahbmfhgcaa", sum := "840afc809400a73f8d415e9b830bfd3cb87f7ab8819a7af63cd3a9bf327f8569", func := "driftnet/driftnetlaw26.WindowOrder", spec := "windowOrder", unfollowed := true, recurses := true, named := ["math/bits.overflowError"], apart := false }
def WindowOrderSaid : Prop := windowOrderRow.holds Try.pinned (OpenSpec.ofChange windowOrderSpec)

/-- ITS FALSE NEIGHBOUR: 'it returns false'. Refute it at one input. -/
def windowOrderWrong : ChangeSpec := { name := "windowOrder", fn := fun _ => fun
  | [d1, d2, d3] => { results := [.lit (.bool false)], args := [d1, d2, d3] }
  | _ => none }
def WindowOrderWrongFalsely : Prop := windowOrderRow.holds Try.pinned (OpenSpec.ofChange windowOrderWrong)

/-- 'driftnetlaw26.WindowRates': WHATEVER THE INPUT: true; the input reads as it did. -/
def windowRatesSpec : ChangeSpec := { name := "windowRates", fn := fun _ => fun
  | [d1, d2, d3] => { results := [.lit (.bool true)], args := [d1, d2, d3] }
  | _ => none }
def windowRatesRow : OpenClaim := { program := "ytgdkgahbmfhgcaa", sum := "840afc809400a73f8d415e9b830bfd3cb87f7ab8819a7af63cd3a9bf327f8569", func := "driftnet/driftnetlaw26.WindowRates", spec := "windowRates", unfollowed := true, recurses := true, named := ["math/bits.overflowError"], apart := false }
def WindowRatesSaid : Prop := windowRatesRow.holds Try.pinned (OpenSpec.ofChange windowRatesSpec)

/-- ITS FALSE NEIGHBOUR: 'it returns false'. Refute it at one input. -/
def windowRatesWrong : ChangeSpec := { name := "windowRates", fn := fun _ => fun
  | [d1, d2, d3] => { results := [.lit (.bool false)], args := [d1, d2, d3] }
  | _ => none }
def WindowRatesWrongFalsely : Prop := windowRatesRow.holds Try.pinned (OpenSpec.ofChange windowRatesWrong)

/-- 'driftnetlaw26.WindowKnown': WHATEVER THE INPUT: true; the input reads as it did. -/
def windowKnownSpec : ChangeSpec := { name := "windowKnown", fn := fun _ => fun
  | [] => { results := [.lit (.bool true)], args := [] }
  | _ => none }
def windowKnownRow : OpenClaim := { program := "ytgdkgahbmfhgcaa", sum := "840afc809400a73f8d415e9b830bfd3cb87f7ab8819a7af63cd3a9bf327f8569", func := "driftnet/driftnetlaw26.WindowKnown", spec := "windowKnown", unfollowed := true, recurses := true, named := ["math/bits.overflowError"], apart := false }
def WindowKnownSaid : Prop := windowKnownRow.holds Try.pinned (OpenSpec.ofChange windowKnownSpec)

/-- ITS FALSE NEIGHBOUR: 'it returns false'. Refute it at one input. -/
def windowKnownWrong : ChangeSpec := { name := "windowKnown", fn := fun _ => fun
  | [] => { results := [.lit (.bool false)], args := [] }
  | _ => none }
def WindowKnownWrongFalsely : Prop := windowKnownRow.holds Try.pinned (OpenSpec.ofChange windowKnownWrong)

/- THE SECOND FORM. 'bulk': how many values and letters a reading holds, each counted each time it is reached (what is shared counts as often as it is met; a slice's spare places count too). A statement '..UptoSaid' is the law's where the arguments, and the package variables that the reading takes, are together of bulk at most 1048576: NARROWER than '..Said'. Prove '..Said' where nothing that the law and all that it calls make is longer than what came in: it says more and counts as full. Else prove '..UptoSaid'. A law counts once. -/
mutual
def uptoBulk {H : Type} : DataW H → Nat
  | .lit (.string bytes) => bytes.length + 1
  | .lit _ => 1
  | .nil => 1
  | .ptr d => uptoBulk d + 1
  | .slice elems spare => uptoBulkAll elems + uptoBulkAll spare + 1
  | .agg parts => uptoBulkAll parts + 1
  | .iface _ d => uptoBulk d + 1
  | .map entries => uptoBulkEntries entries + 1
  | .held _ => 1
def uptoBulkAll {H : Type} : List (DataW H) → Nat
  | [] => 0
  | d :: r => uptoBulk d + uptoBulkAll r
def uptoBulkEntries {H : Type} : List (Lit × DataW H) → Nat
  | [] => 0
  | x :: r => uptoBulkEntry x + uptoBulkEntries r
def uptoBulkEntry {H : Type} : Lit × DataW H → Nat
  | (.string bytes, d) => bytes.length + uptoBulk d + 1
  | (_, d) => uptoBulk d + 1
 end
def uptoSmall : (H : Type) → List (DataW H) → Bool := fun _ ds => decide (uptoBulkAll ds ≤ 1048576)
def OpenSpec.upto (s : _root_.Go.ChangeSpec) : _root_.Go.OpenSpec := { _root_.Go.OpenSpec.ofChange s with cond := some uptoSmall }

/-- 'driftnetlaw26.WindowBetween', WHERE WHAT IT READS IS OF BULK AT MOST 1048576: true; the input reads as it did. -/
def windowBetweenUptoRow : OpenClaim := { program := "ytgdkgahbmfhgcaa", sum := "840afc809400a73f8d415e9b830bfd3cb87f7ab8819a7af63cd3a9bf327f8569", func := "driftnet/driftnetlaw26.WindowBetween", spec := "windowBetween", unfollowed := true, recurses := true, named := ["math/bits.overflowError"], apart := false, narrowed := true }
def WindowBetweenUptoSaid : Prop := windowBetweenUptoRow.holds Try.pinned (OpenSpec.upto windowBetweenSpec)

/-- 'driftnetlaw26.WindowOne', WHERE WHAT IT READS IS OF BULK AT MOST 1048576: true; the input reads as it did. -/
def windowOneUptoRow : OpenClaim := { program := "ytgdkgahbmfhgcaa", sum := "840afc809400a73f8d415e9b830bfd3cb87f7ab8819a7af63cd3a9bf327f8569", func := "driftnet/driftnetlaw26.WindowOne", spec := "windowOne", unfollowed := true, recurses := true, named := ["math/bits.overflowError"], apart := false, narrowed := true }
def WindowOneUptoSaid : Prop := windowOneUptoRow.holds Try.pinned (OpenSpec.upto windowOneSpec)

/-- 'driftnetlaw26.WindowOrder', WHERE WHAT IT READS IS OF BULK AT MOST 1048576: true; the input reads as it did. -/
def windowOrderUptoRow : OpenClaim := { program := "ytgdkgahbmfhgcaa", sum := "840afc809400a73f8d415e9b830bfd3cb87f7ab8819a7af63cd3a9bf327f8569", func := "driftnet/driftnetlaw26.WindowOrder", spec := "windowOrder", unfollowed := true, recurses := true, named := ["math/bits.overflowError"], apart := false, narrowed := true }
def WindowOrderUptoSaid : Prop := windowOrderUptoRow.holds Try.pinned (OpenSpec.upto windowOrderSpec)

/-- 'driftnetlaw26.WindowRates', WHERE WHAT IT READS IS OF BULK AT MOST 1048576: true; the input reads as it did. -/
def windowRatesUptoRow : OpenClaim := { program := "ytgdkgahbmfhgcaa", sum := "840afc809400a73f8d415e9b830bfd3cb87f7ab8819a7af63cd3a9bf327f8569", func := "driftnet/driftnetlaw26.WindowRates", spec := "windowRates", unfollowed := true, recurses := true, named := ["math/bits.overflowError"], apart := false, narrowed := true }
def WindowRatesUptoSaid : Prop := windowRatesUptoRow.holds Try.pinned (OpenSpec.upto windowRatesSpec)

/-- 'driftnetlaw26.WindowKnown', WHERE WHAT IT READS IS OF BULK AT MOST 1048576: true; the input reads as it did. -/
def windowKnownUptoRow : OpenClaim := { program := "ytgdkgahbmfhgcaa", sum := "840afc809400a73f8d415e9b830bfd3cb87f7ab8819a7af63cd3a9bf327f8569", func := "driftnet/driftnetlaw26.WindowKnown", spec := "windowKnown", unfollowed := true, recurses := true, named := ["math/bits.overflowError"], apart := false, narrowed := true }
def WindowKnownUptoSaid : Prop := windowKnownUptoRow.holds Try.pinned (OpenSpec.upto windowKnownSpec)

end Rows
end Go.Proofs.Ytgdkgahbmfhgcaa
