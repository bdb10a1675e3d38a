/- What the document's find and Set answer, as contracts. -/
import Derived.Test.YtpobgpfkohlokaaRB
namespace Go.Proofs.Ytpobgpfkohlokaa.PC
open Go.RowKit Go.Lib Go.Shelf Go.Maps Go.Proofs.YtpobgpfkohlokaaW.PrintWords Go.Proofs.YtpobgpfkohlokaaW.PrintLast Go.Proofs.YtpobgpfkohlokaaW.PrintMore
set_option linter.unusedVariables false
set_option linter.unusedSimpArgs false
theorem seg2 {F : List Value} {j : Nat} {a b : Value} (h0 : F[j * 2]? = some a) (h1 : F[j * 2 + 1]? = some b) : (F.drop (j * 2)).take 2 = [a, b] := by
  obtain ⟨l0, e0⟩ := List.getElem?_eq_some_iff.1 h0
  obtain ⟨l1, e1⟩ := List.getElem?_eq_some_iff.1 h1
  rw [List.drop_eq_getElem_cons l0, List.drop_eq_getElem_cons l1, List.take_succ_cons, List.take_succ_cons, List.take_zero, e0, e1]
theorem seg2_inv {F : List Value} {j : Nat} {a b : Value} (h : (F.drop (j * 2)).take 2 = [a, b]) : F[j * 2]? = some a ∧ F[j * 2 + 1]? = some b := by
  have h0 : ((F.drop (j * 2)).take 2)[0]? = some a := by rw [h]; rfl
  have h1 : ((F.drop (j * 2)).take 2)[1]? = some b := by rw [h]; rfl
  rw [List.getElem?_take_of_lt (by decide), List.getElem?_drop] at h0 h1
  exact ⟨h0, h1⟩
theorem toS_get {l : List PB} {j : Nat} {x : S74} (h : (l.map toS)[j]? = some x) : ∃ p, l[j]? = some p ∧ x = toS p := by
  rw [List.getElem?_map] at h
  cases hp : l[j]? with
  | none => rw [hp] at h; cases h
  | some p => rw [hp] at h; cases h; exact ⟨p, rfl, rfl⟩
theorem kd_of_row {w : World} {B : Nat} {v : Value} {l : List PB} (h : RowP B w 74 v l) : Kd.R k74 74 w B (fun _ => True) v (l.map toS) := by
  refine ⟨fun _ _ => trivial, cellsB l, ?_, ?_⟩
  · rw [List.length_map]; exact h
  · refine ⟨by rw [List.length_map, cellsB_len]; rfl, fun j x hx => ?_⟩
    obtain ⟨p, hp, rfl⟩ := toS_get hx
    obtain ⟨h0, h1⟩ := cellsB_get l j p hp
    show k74.M _ _ _ _ (((cellsB l).drop (j * 2)).take 2)
    rw [seg2 h0 h1]
    exact k74_mkM _ _ _ _
theorem row_of_kd {w : World} {B : Nat} {ok : Nat → Prop} {v : Value} {l : List PB} (h : Kd.R k74 74 w B ok v (l.map toS)) : RowP B w 74 v l := by
  obtain ⟨-, inner, ho, hl, hr⟩ := h
  rw [List.length_map] at ho
  have hl2 : inner.length = l.length * 2 := by rw [hl, List.length_map]; rfl
  have e : inner = cellsB l := by
    refine List.ext_getElem? fun i => ?_
    rcases Nat.lt_or_ge i (l.length * 2) with hi | hi
    · obtain ⟨p, hp⟩ : ∃ p, l[i / 2]? = some p := ⟨l[i / 2]'(by omega), List.getElem?_eq_getElem _⟩
      have hx : (l.map toS)[i / 2]? = some (toS p) := by rw [List.getElem?_map, hp]; rfl
      have hs := seg2_inv (k74_openM (hr _ _ hx))
      obtain ⟨h0, h1⟩ := cellsB_get l _ p hp
      rcases Nat.mod_two_eq_zero_or_one i with hm | hm
      · have e : i / 2 * 2 = i := by omega
        rw [e] at h0
        rw [h0]
        exact (congrArg (fun k => inner[k]?) e.symm).trans hs.1
      · have e : i / 2 * 2 + 1 = i := by omega
        rw [e] at h1
        rw [h1]
        exact (congrArg (fun k => inner[k]?) e.symm).trans hs.2
    · rw [List.getElem?_eq_none (by omega), List.getElem?_eq_none (by rw [cellsB_len]; omega)]
  rw [e] at ho
  exact ho
theorem find_calls (s b : ByteArray) (hb : b.data.toList ≠ []) (hs : s.size ≤ 1000000) (hbs : b.size ≤ 1000000) (w : World) : Calls Try.prog 34 #[.string s, .string b] w fun e w' => e = .returned (.int .i64 (index s.data.toList b.data.toList)) ∧ Drawn0 w w' := by
  obtain ⟨k, hk⟩ := (find_ev s b hb hs hbs (s.size + 1) 0 (by omega) (fun j hj => absurd hj (Nat.not_lt_zero _))).ex
  exact driftnetref18_find.calls k s b _ w hk
theorem set_calls (l : List PB) (p q : ByteArray) (B : Nat) (v : Value) (w : World) (hr : RowP B w 74 v l) (ho : InO l) (hl : l.length ≤ 1000) (ha : ∀ r ∈ l, r.1.data.toList ≠ p.data.toList) :
    Calls Try.prog 35 #[v, .string p, .string q] w fun e w' => (∃ u, e = .returned u ∧ RowP w.heap.size w' 74 u (setR l (p, q))) ∧ Below w.heap.size w w' := by
  obtain ⟨k, hk⟩ := (set_ev l (p, q) ho hl ha).ex
  obtain ⟨A, c, rfl, hc, hC⟩ := (kd_of_row hr).2.reads
  have hC2 : Kd.C k74 w A (l.map toS).length (l.map toS) := hC.imp_ (Below.refl _ _) (fun _ _ h => k74.K_of_M h)
  refine (driftnetref05_Set.calls k A c (l.map toS) p q _ w hC2 hc hk).mono ?_
  rintro e w' ⟨u, rfl, h1, h2⟩
  exact ⟨⟨u, rfl, row_of_kd h1⟩, h2⟩
end Go.Proofs.Ytpobgpfkohlokaa.PC
