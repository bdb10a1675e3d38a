/- Literal labels: what set, Of, Set, By, Without come to at them. -/
import Derived.Test.YtkkaaipiaandaaaDoorB6
namespace Go.Proofs.YtkkaaipiaandaaaDoor.PC
open Go.RowKit Go.Lib Go.Shelf Go.Maps Go.Proofs.YtkkaaipiaandaaaDoorW.PrintWords Go.Proofs.YtkkaaipiaandaaaDoorW.PrintLast Go.Proofs.YtkkaaipiaandaaaDoorW.PrintMore
set_option linter.unusedVariables false
set_option linter.unusedSimpArgs false
def xA1 : List PB := [(⟨#[97]⟩, ⟨#[49]⟩)]
def xB2 : List PB := [(⟨#[98]⟩, ⟨#[50]⟩)]
def xA1B2 : List PB := [(⟨#[97]⟩, ⟨#[49]⟩), (⟨#[98]⟩, ⟨#[50]⟩)]
def xA1A2 : List PB := [(⟨#[97]⟩, ⟨#[49]⟩), (⟨#[97]⟩, ⟨#[50]⟩)]
def xA1C3 : List PB := [(⟨#[97]⟩, ⟨#[49]⟩), (⟨#[99]⟩, ⟨#[51]⟩)]
def xA1B2C3 : List PB := [(⟨#[97]⟩, ⟨#[49]⟩), (⟨#[98]⟩, ⟨#[50]⟩), (⟨#[99]⟩, ⟨#[51]⟩)]
def xB2A1C : List PB := [(⟨#[98]⟩, ⟨#[50]⟩), (⟨#[97]⟩, ⟨#[49]⟩), (⟨#[99]⟩, ⟨#[]⟩)]
def xA1B2C : List PB := [(⟨#[97]⟩, ⟨#[49]⟩), (⟨#[98]⟩, ⟨#[50]⟩), (⟨#[99]⟩, ⟨#[]⟩)]
def xA1BQ : List PB := [(⟨#[97]⟩, ⟨#[49]⟩), (⟨#[98]⟩, ⟨#[34]⟩)]
def xABC : List PB := [(⟨#[97]⟩, ⟨#[98, 99]⟩)]
def xBX : List ByteArray := [⟨#[98]⟩, ⟨#[120]⟩]
theorem x_set (s : ByteArray) (L : List PB) (w : World) (hs : s.size ≤ 1000) (h : (setP s.data.toList).map toPB = L) : Calls Tryd.prog 8 #[.string s] w fun e w' => (∃ u, e = .returned u ∧ RowP w.heap.size w' 36 u L) ∧ Below w.heap.size w w' := by
  rw [← h]
  exact lset_calls s w hs
theorem x1 : (setP (⟨#[98, 50, 97, 49, 99, 45]⟩ : ByteArray).data.toList).map toPB = xB2A1C := by rfl
theorem x2 : (setP (⟨#[97, 49, 97, 50]⟩ : ByteArray).data.toList).map toPB = xA1A2 := by rfl
theorem x3 : (setP (⟨#[97, 49, 98, 50]⟩ : ByteArray).data.toList).map toPB = xA1B2 := by rfl
theorem x4 : (setP (⟨#[97, 49, 99, 51]⟩ : ByteArray).data.toList).map toPB = xA1C3 := by rfl
theorem x5 : (setP (⟨#[97, 49, 98, 50, 99, 51]⟩ : ByteArray).data.toList).map toPB = xA1B2C3 := by rfl
theorem x6 : (setP (⟨#[97, 49]⟩ : ByteArray).data.toList).map toPB = xA1 := by rfl
theorem x7 : (setP (⟨#[98, 50]⟩ : ByteArray).data.toList).map toPB = xB2 := by rfl
theorem x8 : (setP (⟨#[97, 49, 98, 34]⟩ : ByteArray).data.toList).map toPB = xA1BQ := by rfl
theorem up_nodup {l : List PB} (h : UpL l) : (l.map (fun p => p.1.data.toList)).Nodup := by
  refine List.pairwise_map.2 (h.imp (fun {x y} hxy he => ?_))
  have h1 : compareBytes x.1.data.toList y.1.data.toList < 0 := hxy
  rw [he] at h1
  exact cb_asym h1 h1
theorem of_dup {l : List PB} {B : Nat} {e : Ending} {w' : World} (hn : ¬ (l.map (fun p => p.1.data.toList)).Nodup) (h : OfPost l B e w') : e = .returned (.tuple #[.slice none 0 0, .int .i64 50]) := by
  rcases h with ⟨ds, hp, ⟨hu, -⟩ | ⟨-, h⟩⟩
  · exact absurd (((hp.map (fun p => p.1.data.toList)).nodup_iff).1 (up_nodup hu)) hn
  · exact h
theorem of_up {l L M : List PB} {B : Nat} {e : Ending} {w' : World} (hL : UpL L) (hp : L.Perm l) (hf : L.filter (fun x => !empB x) = M) (hc : checkB M = true) (h : OfPost l B e w') : ∃ u, e = .returned (.tuple #[u, .int .i64 0]) ∧ RowP B w' 36 u M := by
  rcases h with ⟨ds, hp2, ⟨hu, h⟩ | ⟨hn, h⟩⟩
  · have e0 : ds = L := List.Perm.eq_of_pairwise (fun a b ha hb h1 h2 => absurd h2 (cb_asym h1)) hu hL (hp2.trans hp.symm)
    subst e0
    rw [hf] at h
    rcases h with ⟨-, h⟩ | ⟨h1, -⟩
    · exact h
    · rw [hc] at h1; cases h1
  · exact absurd (((hp.map (fun p => p.1.data.toList)).nodup_iff).1 (up_nodup hL)) hn
theorem y1 : UpL xA1B2C := by unfold UpL xA1B2C; simp only [cfL]; decide
theorem y2 : xA1B2C.Perm xB2A1C := List.Perm.trans (List.Perm.swap _ _ _) (List.Perm.refl _)
theorem y3 : xA1B2C.filter (fun x => !empB x) = xA1B2 := by simp [xA1B2C, xA1B2, empB, ByteArray.toList_eq]
theorem z1 : inOB xA1B2 = true := by simp [inOB, okAt, xA1B2, List.range, List.range.loop, ByteArray.toList_eq]; decide
theorem z2 : inOB xA1C3 = true := by simp [inOB, okAt, xA1C3, List.range, List.range.loop, ByteArray.toList_eq]; decide
theorem z3 : inOB xA1 = true := by simp [inOB, okAt, xA1, List.range, List.range.loop, ByteArray.toList_eq]
theorem y4 : checkB xA1B2 = true := by
  unfold checkB
  rw [z1]
  decide +kernel
theorem y5 : ¬ (xA1A2.map (fun p => p.1.data.toList)).Nodup := by decide +kernel
theorem s1 : setL xA1C3 ⟨#[98]⟩ ⟨#[50]⟩ = xA1B2C3 := by
  unfold setL chooseB
  rw [if_pos z2, if_pos z2]
  simp [isN, xA1C3, ByteArray.toList_eq]
  rfl
theorem s2 : setL xA1 ⟨#[97]⟩ ⟨#[]⟩ = [] := by
  unfold setL chooseB
  rw [if_pos z3, if_pos z3]
  simp [isN, xA1, ByteArray.toList_eq]
theorem s3 : byB xA1B2 xBX = xB2 := by
  unfold byB chooseB
  rw [if_pos z1]
  rfl
theorem s4 : woB xA1B2 xBX = xA1 := by
  unfold woB chooseB
  rw [if_pos z1]
  rfl
theorem c1 : cleanP (⟨#[57, 45, 120]⟩ : ByteArray).data.toList = [95, 57, 95, 120] := by decide +kernel
theorem c2 : textP xA1BQ = [123, 97, 61, 34, 49, 34, 44, 32, 98, 61, 34, 92, 34, 34, 125] := by decide +kernel
theorem c3 : keyP xABC = [49, 58, 97, 50, 58, 98, 99] := by simp [keyP, cntP, xABC]; decide +kernel
theorem eq_self (l : List PB) : eqL l l = true := eqL_iff.2 rfl
end Go.Proofs.YtkkaaipiaandaaaDoor.PC
