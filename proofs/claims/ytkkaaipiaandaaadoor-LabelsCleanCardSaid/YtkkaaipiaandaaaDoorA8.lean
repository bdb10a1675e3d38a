/- labels.Of. -/
import Derived.Test.YtkkaaipiaandaaaDoorA7
import Derived.Deep.QuietTactic
namespace Go.Proofs.YtkkaaipiaandaaaDoor.PC
open Go.RowKit Go.Lib Go.Shelf Go.Maps Go.Proofs.YtkkaaipiaandaaaDoorW.PrintWords Go.Proofs.YtkkaaipiaandaaaDoorW.PrintLast Go.Proofs.YtkkaaipiaandaaaDoorW.PrintMore
set_option linter.unusedVariables false
set_option linter.unusedSimpArgs false
/-- Labels by rising names. -/
def UpL (l : List PB) : Prop := l.Pairwise (fun x y => cfL x y < 0)
/-- What Of tells of labels that are l in order. -/
def OfPost (l : List PB) (B : Nat) (e : Ending) (w' : World) : Prop :=
  ∃ ds : List PB, ds.Perm l ∧ ((UpL ds ∧ ((checkB (ds.filter (fun x => !empB x)) = true ∧ ∃ u, e = .returned (.tuple #[u, .int .i64 0]) ∧ RowP B w' 36 u (ds.filter (fun x => !empB x))) ∨ (checkB (ds.filter (fun x => !empB x)) = false ∧ e = .returned (.tuple #[.slice none 0 0, .int .i64 50])))) ∨ (¬ (l.map (fun p => p.1.data.toList)).Nodup ∧ e = .returned (.tuple #[.slice none 0 0, .int .i64 50])))
theorem up_of_neighbours {ds : List PB} (hs : ds.Pairwise (fun x y => ¬ compareBytes y.1.data.toList x.1.data.toList < 0)) (hn : ∀ i (p q : PB), ds[i]? = some p → ds[i + 1]? = some q → (q.1.toList == p.1.toList) = false) : UpL ds := by
  unfold UpL
  rw [List.pairwise_iff_getElem]
  intro i j hi hj hij
  have step : ∀ i (h : i + 1 < ds.length), cfL (ds[i]'(by omega)) ds[i + 1] < 0 := by
    intro i h
    have h1 := hn i _ _ (List.getElem?_eq_getElem (by omega)) (List.getElem?_eq_getElem h)
    have h2 := List.pairwise_iff_getElem.1 hs i (i + 1) (by omega) h (by omega)
    rcases cb_tri (ds[i]'(by omega)).1.data.toList (ds[i + 1]).1.data.toList with h3 | h3 | h3
    · exact h3
    · rw [ByteArray.toList_eq, ByteArray.toList_eq, h3] at h1
      simp at h1
    · exact absurd h3 h2
  have key : ∀ d i (hd : i + d + 1 < ds.length), cfL (ds[i]'(by omega)) ds[i + d + 1] < 0 := by
    intro d
    induction d with
    | zero => intro i hd; exact step i hd
    | succ d ih =>
      intro i hd
      exact cb_trans (ih i (by omega)) (step (i + d + 1) hd)
  have := key (j - i - 1) i (by omega)
  have e : i + (j - i - 1) + 1 = j := by omega
  simp only [e] at this
  exact this
theorem dup_of {ds l : List PB} (hp : ds.Perm l) {i : Nat} {p q : PB} (h : ds[i]? = some p) (h' : ds[i + 1]? = some q) (he : (q.1.toList == p.1.toList) = true) : ¬ (l.map (fun p => p.1.data.toList)).Nodup := by
  intro hn
  have hn2 := ((hp.map (fun p => p.1.data.toList)).nodup_iff).2 hn
  have h1 := List.pairwise_iff_getElem.1 hn2
  obtain ⟨l1, e1⟩ := List.getElem?_eq_some_iff.1 h
  obtain ⟨l2, e2⟩ := List.getElem?_eq_some_iff.1 h'
  have h3 := h1 i (i + 1) (by simpa using l1) (by simpa using l2) (by omega)
  simp only [List.getElem_map, e1, e2] at h3
  rw [ByteArray.toList_eq, ByteArray.toList_eq] at he
  exact h3 (beq_iff_eq.1 he).symm
set_option maxHeartbeats 16000000 in
set_option maxRecDepth 100000 in
theorem of_calls (l : List PB) (A : Option Addr) (n c : Nat) (w : World) (hn : n = l.length) (hr : CellsP w A l) (h0 : A = none → n = 0 ∧ c = 0) (hl : l.length ≤ 1000000) :
    Calls Tryd.prog 7 #[.slice A n c] w fun e w' => OfPost l w.heap.size e w' ∧ Below w.heap.size w w' := by
  have mixed : Tryd.prog.follows .mixedOrders = true := by kernel_rfl
  have hcl := clone_calls l A n c w hn hr h0 hl
  obtain ⟨BB, hBB⟩ : ∃ BB, BB = w.heap.size := ⟨_, rfl⟩
  rw [← hBB] at hcl ⊢
  have HBB := Aside0.mk hBB
  clear hr h0 hn hBB
  go_enter Tryd.func7, Tryd.ntmps7
  go_wp2_with fail
  refine hcl.mono ?_
  rintro e w1 ⟨⟨v1, rfl, hv1⟩, hb⟩
  have HB1 := Aside0.mk hb
  have hso := sort_rows w w1 v1 l (by rw [← HBB.out]; exact hv1) (by rw [← HBB.out]; exact hb) hl
  obtain ⟨A1, c1, rfl, hc1⟩ := own_slice hv1
  clear hcl hb hv1
  go_wp2_with fail
  refine hso.mono ?_
  rintro e w2 ⟨rfl, ds, hp, hpw, hr2, hb2⟩
  have HP := Aside0.mk hp
  have HPW := Aside0.mk hpw
  obtain ⟨nl, hnl⟩ : ∃ nl, nl = l.length := ⟨_, rfl⟩
  have hdl : ds.length = nl := by rw [hnl]; exact hp.length_eq
  have HDL := Aside0.mk hdl
  rw [← hnl] at hr2 hl hc1 ⊢
  have HR2 := Aside0.mk (show RowP BB w2 36 (.slice A1 nl c1) ds by rw [HBB.out]; exact hr2)
  have HB2 := Aside0.mk (show Below BB w w2 by rw [HBB.out]; exact hb2)
  have HNL := Aside0.mk hnl
  clear hso hr2 hb2 hp hpw hnl hdl HB1
  go_wp2_with fail
  go_loopg [13] nl (fun g1 v13 wr => ∃ i : Nat, v13 = .int .i64 i ∧ i ≤ nl ∧ Aside0 (i + g1 = nl) ∧ Aside0 (∀ j (p q : PB), j + 1 < i → ds[j]? = some p → ds[j + 1]? = some q → (q.1.toList == p.1.toList) = false) ∧ Aside0 (Below w2.heap.size w2 wr))
  case atStart => exact ⟨0, rfl, Nat.zero_le _, ⟨by omega⟩, ⟨fun j p q h => absurd h (by omega)⟩, ⟨Below.refl _ _⟩⟩
  case round =>
    obtain ⟨i, rfl, hin, HI, HA, HB⟩ := hrel
    by_cases hlt : i < nl
    · have hz : (i : Int) < (nl : Int) := by omega
      have hwi : IntKind.i64.wrap ((i : Int) + 1) = ((i + 1 : Nat) : Int) := (i64_w _).trans ((w64 (by omega) (by omega)).trans (by omega))
      by_cases hi : 0 < i
      · have hz2 : (0 : Int) < (i : Int) := by omega
        obtain ⟨j, hj⟩ : ∃ j, j + 1 = i := ⟨i - 1, by omega⟩
        have hwj : IntKind.i64.wrap ((i : Int) - 1) = (j : Int) := (i64_w _).trans ((w64 (by omega) (by omega)).trans (by omega))
        have hjl : j < nl := by omega
        obtain ⟨q, hq⟩ : ∃ q, ds[i]? = some q := ⟨ds[i]'(by rw [HDL.out]; exact hlt), List.getElem?_eq_getElem _⟩
        obtain ⟨p, hp⟩ : ∃ p, ds[j]? = some p := ⟨ds[j]'(by rw [HDL.out]; exact hjl), List.getElem?_eq_getElem _⟩
        obtain ⟨r, rfl, -, -, q0, -⟩ := rowP_get HR2.out hq
        obtain ⟨r2, hr2, -, -, p0, -⟩ := rowP_get HR2.out hp
        cases hr2
        have c0 := cell_bl HB.out q0
        have c1' := cell_bl HB.out p0
        have HQ := Aside0.mk (show ds[j + 1]? = some q by rw [hj]; exact hq)
        have HPP := Aside0.mk hp
        have HJ := Aside0.mk hj
        clear hq hp q0 p0 hj
        cases heq : (q.1.toList == p.1.toList) with
        | true =>
          have HDUP := Aside0.mk (dup_of HP.out HPP.out HQ.out heq)
          go_wp2_with fail
          go_quiet (fail)
          go_wp2_with fail
          go_ret2
          exact ⟨⟨ds, HP.out, .inr ⟨HDUP.out, rfl⟩⟩, below_kb (by rw [← HBB.out]; exact HB2.out) (Kb.of_below (pw_below_drewN HB.out _)) |> (fun h => by rw [HBB.out]; exact h)⟩
        | false =>
          have HNE := Aside0.mk heq
          go_wp2_with fail
          go_quiet (fail)
          go_wp2_with fail
          go_roundg (nl - (i + 1))
          case measure => have := HI.out; omega
          case rel => exact ⟨i + 1, by first | rfl | rw [hwi], hlt, ⟨by have := HI.out; omega⟩, ⟨fun j2 p2 q2 h2 e1 e2 => by
            rcases Nat.lt_or_eq_of_le (Nat.le_of_lt_succ h2) with h3 | h3
            · exact HA.out j2 p2 q2 h3 e1 e2
            · have h4 : j2 = j := by have := HJ.out; omega
              subst h4
              rw [HPP.out] at e1
              rw [HQ.out] at e2
              cases e1; cases e2
              exact HNE.out⟩, ⟨pw_below_drewN HB.out _⟩⟩
      · have hz2 : ¬ (0 : Int) < (i : Int) := by omega
        go_wp2_with fail
        go_quiet (fail)
        go_wp2_with fail
        go_roundg (nl - (i + 1))
        case measure => have := HI.out; omega
        case rel => exact ⟨i + 1, by first | rfl | rw [hwi], hlt, ⟨by have := HI.out; omega⟩, ⟨fun j2 p2 q2 h2 e1 e2 => absurd h2 (by omega)⟩, ⟨pw_below_drewN HB.out _⟩⟩
    · have hz : ¬ (i : Int) < (nl : Int) := by omega
      have HUP := Aside0.mk (show UpL ds from up_of_neighbours (HPW.out.imp (fun h => by omega)) (fun j p q e1 e2 => HA.out j p q (by
        have := (List.getElem?_eq_some_iff.1 e2).1
        rw [HDL.out] at this
        omega) e1 e2))
      have HR3 := Aside0.mk (RowP.kb HR2.out (Kb.of_below (S := fun _ => False) HB.out) (fun _ _ h => h))
      have HB3 := Aside0.mk (show Below BB w wr by rw [HBB.out]; exact below_kb (by rw [← HBB.out]; exact HB2.out) (Kb.of_below HB.out))
      have hde := delete_calls ds BB (.slice A1 nl c1) wr (by rw [HBB.out]; exact HB3.out.size) HR3.out (by rw [HDL.out]; exact hl)
      obtain ⟨fl, hfl⟩ : ∃ fl, fl = ds.filter (fun x => !empB x) := ⟨_, rfl⟩
      rw [← hfl] at hde
      have HFL := Aside0.mk hfl
      have hfn : fl.length ≤ 1000000 := by rw [hfl]; exact Nat.le_trans (List.length_filter_le _ _) (by rw [HDL.out]; exact hl)
      clear hfl HR2 HB2 HB HA HI
      go_wp2_with fail
      refine hde.mono ?_
      rintro e w4 ⟨⟨v4, rfl, hr4⟩, hk4⟩
      have HR4 := Aside0.mk hr4
      have HB4 := Aside0.mk (show Below BB w w4 by
        have h1 : Below w.heap.size w wr := by rw [← HBB.out]; exact HB3.out
        have h2 := below_kb h1 (by rw [← HBB.out]; exact hk4)
        rw [HBB.out]; exact h2)
      have hck := check_calls fl BB v4 w4 hr4 hfn
      obtain ⟨A4, c4, rfl, hc4⟩ := own_slice hr4
      clear hde hr4 hk4 HR3 HB3
      cases hcb : checkB fl with
      | true =>
        have hce : checkE fl = 0 := if_pos hcb
        rw [hce] at hck
        have HCB := Aside0.mk hcb
        clear hce hcb
        go_wp2_with fail
        refine hck.mono ?_
        rintro e w5 ⟨rfl, hb5⟩
        have HR5 := Aside0.mk (RowP.kb HR4.out (Kb.of_below (S := fun _ => False) hb5) (fun _ _ h => h))
        have HB5 := Aside0.mk (show Below BB w w5 by
          have h1 : Below w.heap.size w w4 := by rw [← HBB.out]; exact HB4.out
          rw [HBB.out]; exact below_then h1 hb5)
        clear hck hb5
        go_wp2_with fail
        go_ret2
        exact ⟨⟨ds, HP.out, .inl ⟨HUP.out, .inl (by rw [← HFL.out]; exact ⟨HCB.out, _, rfl, HR5.out⟩)⟩⟩, HB5.out⟩
      | false =>
        have hce : checkE fl = 50 := if_neg (by rw [hcb]; decide)
        rw [hce] at hck
        have HCB := Aside0.mk hcb
        clear hce hcb
        go_wp2_with fail
        refine hck.mono ?_
        rintro e w5 ⟨rfl, hb5⟩
        have HB5 := Aside0.mk (show Below BB w w5 by
          have h1 : Below w.heap.size w w4 := by rw [← HBB.out]; exact HB4.out
          rw [HBB.out]; exact below_then h1 hb5)
        clear hck hb5
        go_wp2_with fail
        go_ret2
        exact ⟨⟨ds, HP.out, .inl ⟨HUP.out, .inr (by rw [← HFL.out]; exact ⟨HCB.out, rfl⟩)⟩⟩, HB5.out⟩
end Go.Proofs.YtkkaaipiaandaaaDoor.PC
