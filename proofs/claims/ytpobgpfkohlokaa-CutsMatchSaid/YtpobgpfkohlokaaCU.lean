/- labels.Get. -/
import Derived.Test.YtpobgpfkohlokaaCW
namespace Go.Proofs.Ytpobgpfkohlokaa.PC
open Go.RowKit Go.Lib Go.Shelf Go.Maps Go.Proofs.YtpobgpfkohlokaaW.PrintWords Go.Proofs.YtpobgpfkohlokaaW.PrintLast Go.Proofs.YtpobgpfkohlokaaW.PrintMore
set_option linter.unusedVariables false
set_option linter.unusedSimpArgs false
def isN (n : ByteArray) (p : PB) : Bool := p.1.toList == n.toList
set_option maxHeartbeats 4000000 in
theorem closure38 (x : PB) (n : ByteArray) (g : Nat) (W : World) (hc : W.cell? ⟨g, 0, none⟩ = some (.string n)) : Calls Try.prog 38 #[.agg #[.string x.1, .string x.2], .pointer (some ⟨g, 0, none⟩)] W fun e w' => e = .returned (.bool (isN n x)) ∧ Below W.heap.size W w' := by
  have c1 := cell_bl (below_alloc (Below.refl W.heap.size W) (.cells #[.string x.1, .string x.2] 74)) hc
  obtain ⟨d, hd⟩ : ∃ d, d = isN n x := ⟨_, rfl⟩
  have hd2 : (x.1.toList == n.toList) = d := hd.symm
  rw [← hd]
  clear hd
  go_enter Try.func38, Try.ntmps38
  go_wp2
  go_ret
  exact ⟨rfl, below_alloc (Below.refl _ _) _⟩
theorem find_at {α : Type} (f : α → Bool) {l : List α} {k : Nat} {p : α} (h : l[k]? = some p) (ha : (l.take k).all (fun x => !f x) = true) (hp : f p = true) : l.find? f = some p := by
  rw [← List.take_append_drop k l, List.find?_append]
  have h1 : (l.take k).find? f = none := by
    rw [List.find?_eq_none]
    intro x hx
    have := List.all_eq_true.1 ha x hx
    simpa using this
  rw [h1, List.drop_eq_getElem?_toList_append, h]
  show ([p] ++ _).find? f = some p
  simp [hp]
theorem find_none {α : Type} (f : α → Bool) {l : List α} (ha : l.all (fun x => !f x) = true) : l.find? f = none := by
  rw [List.find?_eq_none]
  intro x hx
  have := List.all_eq_true.1 ha x hx
  simpa using this
set_option maxHeartbeats 4000000 in
set_option maxRecDepth 100000 in
theorem idx37_calls (l : List PB) (n : ByteArray) (B g : Nat) (v : Value) (w : World) (hr : RowP B w 74 v l) (hl : l.length ≤ 1000000) (hc : w.cell? ⟨g, 0, none⟩ = some (.string n)) :
    Calls Try.prog 37 #[v, .func (.func 38) #[] #[.pointer (some ⟨g, 0, none⟩)]] w fun e w' => ((e = .returned (.int .i64 (-1)) ∧ l.find? (isN n) = none) ∨ (∃ (k : Nat) (p : PB), e = .returned (.int .i64 k) ∧ l[k]? = some p ∧ l.find? (isN n) = some p)) ∧ Below w.heap.size w w' := by
  obtain ⟨A, c, rfl, hcl⟩ := own_slice hr
  obtain ⟨nl, hnl⟩ : ∃ nl, nl = l.length := ⟨_, rfl⟩
  rw [← hnl] at hcl hr hl
  have HR := Aside0.mk (show RowP B w 74 (.slice A nl c) l from by rw [hnl] at hr ⊢; exact hr)
  have HN := Aside0.mk hnl
  have HC := Aside0.mk hc
  obtain ⟨fo, hfo⟩ : ∃ fo, fo = l.find? (isN n) := ⟨_, rfl⟩
  rw [← hnl, ← hfo]
  have HFO := Aside0.mk hfo
  clear hr hnl hc hfo
  go_enter Try.func37, Try.ntmps37
  go_wp2
  go_loopg [8] nl (fun g1 v8 wr => ∃ i : Nat, v8 = .int .i64 i ∧ Aside0 (i + g1 = nl) ∧ Aside0 ((l.take i).all (fun x => !isN n x) = true) ∧ Aside0 (Below w.heap.size w wr))
  case atStart => exact ⟨0, rfl, ⟨by omega⟩, ⟨rfl⟩, ⟨Below.refl _ _⟩⟩
  case round =>
    obtain ⟨i, rfl, HI, HA, HB⟩ := hrel
    by_cases hlt : i < nl
    · have hz : (i : Int) < (nl : Int) := by omega
      have hwi : IntKind.i64.wrap ((i : Int) + 1) = ((i + 1 : Nat) : Int) := (i64_w _).trans ((w64 (by omega) (by omega)).trans (by omega))
      obtain ⟨p, hp⟩ : ∃ p, l[i]? = some p := ⟨l[i]'(by rw [← HN.out]; exact hlt), List.getElem?_eq_getElem _⟩
      obtain ⟨r, rfl, -, hr, hr0, hr1⟩ := rowP_get HR.out hp
      have c0 := cell_bl HB.out hr0
      have c1 := cell_bl HB.out hr1
      have HP := Aside0.mk hp
      have HSN := Aside0.mk (show l.take (i + 1) = l.take i ++ [p] by rw [List.take_add_one, hp]; rfl)
      clear hp hr0 hr1 hr
      have HO := closure38 p n g wr (cell_bl HB.out HC.out)
      cases hd : isN n p with
      | false =>
        rw [hd] at HO
        have HD := Aside0.mk hd
        clear hd
        go_wp2_with (go_at_call 38; refine HO.mono ?_; rintro e w' ⟨rfl, hb⟩; have HB2 := Aside0.mk (below_then HB.out hb); clear hb)
        go_roundg (nl - (i + 1))
        case measure => have := HI.out; omega
        case rel => exact ⟨i + 1, by first | rfl | rw [hwi], ⟨by have := HI.out; omega⟩, ⟨by rw [HSN.out, List.all_append, HA.out, Bool.true_and]; show (!isN n p && true) = true; rw [HD.out]; rfl⟩, HB2⟩
      | true =>
        rw [hd] at HO
        have HD := Aside0.mk hd
        clear hd
        go_wp2_with (go_at_call 38; refine HO.mono ?_; rintro e w' ⟨rfl, hb⟩; have HB2 := Aside0.mk (below_then HB.out hb); clear hb)
        go_ret
        exact ⟨.inr ⟨i, p, rfl, HP.out, by rw [HFO.out]; exact find_at _ HP.out HA.out HD.out⟩, HB2.out⟩
    · have hz : ¬ (i : Int) < (nl : Int) := by omega
      have HAA := Aside0.mk (show l.all (fun x => !isN n x) = true by
        have ha := HA.out
        rw [List.take_of_length_le (by have := HN.out; omega)] at ha
        exact ha)
      go_wp2
      go_ret
      exact ⟨.inl ⟨rfl, by rw [HFO.out]; exact find_none _ HAA.out⟩, HB.out⟩
/-- The value of a name: "": there is none. -/
def getB (l : List PB) (n : ByteArray) : ByteArray := match l.find? (isN n) with | some p => p.2 | none => ⟨#[]⟩
set_option maxHeartbeats 4000000 in
set_option maxRecDepth 100000 in
theorem get_calls (l : List PB) (n : ByteArray) (B : Nat) (v : Value) (w : World) (hr : RowP B w 74 v l) (hl : l.length ≤ 1000000) : Calls Try.prog 20 #[v, .string n] w fun e w' => e = .returned (.string (getB l n)) ∧ Below w.heap.size w w' := by
  have hk : Kb (fun _ => False) w (w.alloc (.cells #[.string n] 9)) := (Kb.refl _ w).alloc _
  have hr1 : RowP B (w.alloc (.cells #[.string n] 9)) 74 v l := hr.kb hk (fun _ _ h => h)
  have hi := idx37_calls l n B w.heap.size v (w.alloc (.cells #[.string n] 9)) hr1 hl ((blk_cell (World.alloc_heap_new w _) 0).trans rfl)
  have HB0 := Aside0.mk (below_alloc (Below.refl w.heap.size w) (.cells #[.string n] 9))
  obtain ⟨A, c, rfl, hcl⟩ := own_slice hr
  obtain ⟨nl, hnl⟩ : ∃ nl, nl = l.length := ⟨_, rfl⟩
  rw [← hnl] at hi ⊢
  have HR := Aside0.mk hr1
  have HN := Aside0.mk hnl
  clear hr hk hr1 hnl
  cases hf : l.find? (isN n) with
  | none =>
    have HX := Aside0.mk (show getB l n = ⟨#[]⟩ by unfold getB; rw [hf])
    have hi := hi.mono (R' := fun e w' => e = .returned (.int .i64 (-1)) ∧ Below (w.alloc (.cells #[.string n] 9)).heap.size (w.alloc (.cells #[.string n] 9)) w') (by
      rintro e w' ⟨⟨h1, -⟩ | ⟨k, p, h1, h2, h3⟩, hb⟩
      · exact ⟨h1, hb⟩
      · rw [hf] at h3; cases h3)
    clear hf
    go_enter Try.func20, Try.ntmps20
    go_wp2_with (go_at_call 37; refine hi.mono ?_; rintro e w' ⟨rfl, hb⟩; have HB := Aside0.mk (below_then HB0.out hb); clear hb)
    go_ret
    exact ⟨by rw [HX.out]; rfl, HB.out⟩
  | some q =>
    have HX := Aside0.mk (show getB l n = q.2 by unfold getB; rw [hf])
    have hi := hi.mono (R' := fun e w' => (∃ k : Nat, e = .returned (.int .i64 k) ∧ l[k]? = some q) ∧ Below (w.alloc (.cells #[.string n] 9)).heap.size (w.alloc (.cells #[.string n] 9)) w') (by
      rintro e w' ⟨⟨h1, h2⟩ | ⟨k, p, h1, h2, h3⟩, hb⟩
      · rw [hf] at h2; cases h2
      · rw [hf] at h3; cases h3; exact ⟨⟨k, h1, h2⟩, hb⟩)
    clear hf
    go_enter Try.func20, Try.ntmps20
    go_wp2_with fail
    refine hi.mono ?_
    rintro e w1 ⟨⟨k, rfl, hk⟩, hb⟩
    have hlt : k < nl := by
      rw [HN.out]
      rcases Nat.lt_or_ge k l.length with h | h
      · exact h
      · rw [List.getElem?_eq_none h] at hk; cases hk
    have hz : (k : Int) < (nl : Int) := by omega
    have hz2 : ¬ (k : Int) < 0 := by omega
    obtain ⟨r, rfl, -, hr, hr0, hr1⟩ := rowP_get HR.out hk
    have c0 := cell_bl hb hr0
    have c1 := cell_bl hb hr1
    have HB := Aside0.mk (below_then HB0.out hb)
    clear hb hr0 hr1 hr hk
    go_wp2_with fail
    go_ret
    exact ⟨by rw [HX.out]; rfl, HB.out⟩
end Go.Proofs.Ytpobgpfkohlokaa.PC
