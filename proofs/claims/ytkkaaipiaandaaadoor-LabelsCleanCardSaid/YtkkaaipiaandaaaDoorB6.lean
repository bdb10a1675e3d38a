/- labels.Text, of labels whose values are of bytes 32 to 126. -/
import Derived.Test.YtkkaaipiaandaaaDoorB5
namespace Go.Proofs.YtkkaaipiaandaaaDoor.PC
open Go.RowKit Go.Lib Go.Shelf Go.Maps Go.Proofs.YtkkaaipiaandaaaDoorW.PrintWords Go.Proofs.YtkkaaipiaandaaaDoorW.PrintLast Go.Proofs.YtkkaaipiaandaaaDoorW.PrintMore
set_option linter.unusedVariables false
set_option linter.unusedSimpArgs false
/-- A label's text. -/
def itemP (p : PB) : List UInt8 := p.1.data.toList ++ [61] ++ quoP p.2.data.toList
/-- labels.Text, plainly. -/
def textP (l : List PB) : List UInt8 := [123] ++ Lib.join (l.map itemP) [44, 32] ++ [125]
theorem quoP_len (l : List UInt8) : (quoP l).length ≤ 2 + 2 * l.length := by
  unfold quoP
  have : (l.flatMap escQ).length ≤ 2 * l.length := by
    induction l with
    | nil => exact Nat.le_refl _
    | cons x l ih =>
      have := esc_len x
      simp only [List.flatMap_cons, List.length_append, List.length_cons]
      omega
  simp only [List.length_cons, List.length_append, List.length_nil]
  omega
theorem join_len (sep : List UInt8) (k : Nat) : ∀ xs : List (List UInt8), (∀ x ∈ xs, x.length ≤ k) → (Lib.join xs sep).length ≤ xs.length * (k + sep.length)
  | [], _ => Nat.zero_le _
  | [x], h => by
    have h1 := h x List.mem_cons_self
    have e : Lib.join [x] sep = x := by simp [Lib.join, List.intercalate]
    rw [e]
    show x.length ≤ 1 * (k + sep.length)
    omega
  | x :: y :: r, h => by
    have h1 := h x List.mem_cons_self
    have h2 := join_len sep k (y :: r) (fun z hz => h z (List.mem_cons_of_mem _ hz))
    have e : Lib.join (x :: y :: r) sep = x ++ (sep ++ Lib.join (y :: r) sep) := by simp [Lib.join, List.intercalate]
    rw [e, List.length_append, List.length_append]
    have h3 : (x :: y :: r).length * (k + sep.length) = (y :: r).length * (k + sep.length) + 1 * (k + sep.length) := Nat.add_mul _ _ _
    omega
section
variable {ops : Array Oper} {o : Oper} {a : Act} {K : Act → World → Prop} {Q : Exit → Act → World → Prop} {w : World} {E : Prop}
theorem append_ET (hw : Region.wanted o (yielded ops a.tmps) = true) (s x : Operand) (ho : o.op = .call { callee := .builtin .append, args := #[s, x], argTypes := #[32, 32] }) {B : Nat} {v : Value} {l : List ByteArray} (hs : a.eval s = v) (hown : RowT B w v l)
    {g c : Nat} (hx : a.eval x = .slice (some ⟨g, 0, none⟩) 1 c) {u : ByteArray} (hu : w.cell? ⟨g, 0, none⟩ = some (.string u)) (hl : l.length ≤ 1000000) (hB : B ≤ w.heap.size)
    (h : ∀ g' c' w', RowT B w' (.slice (some ⟨g', 0, none⟩) (l.length + 1) c') (l ++ [u]) → Kb (fun k => B ≤ k) w w' → K (a.put o.dst (.slice (some ⟨g', 0, none⟩) (l.length + 1) c')) w') :
    if Region.wanted o (yielded ops a.tmps) = true then Oper.wp Tryd.prog o a w K Q else E := by
  rw [if_pos hw]
  obtain ⟨i, hi, hz, h4, h5⟩ := info_parts i9
  obtain ⟨v', w', hrun, h1, h2, h3⟩ := run_append_own (P := Tryd.prog) w B 32 o.type 9 i _ 1 16 Tryd.underlying32 hi hz h4 h5 rfl (by omega) v l.length _ hown ⟨g, 0, none⟩ 1 c [.string u] rfl (fun j q hj => by
    match j, hj with
    | 0, hj => cases hj; exact hu
    | j + 1, hj => cases hj) (fun q hq => by
    cases hq with
    | head => rfl
    | tail _ hq => cases hq) (by simp only [maxLen]; omega) (by omega) hB
  have hk : Kb (fun k => B ≤ k) w w' := kb_grown hown h2
  rcases h1.2 with ⟨-, h0⟩ | ⟨g', c', cur, h6, -⟩
  · omega
  · subst h6
    have hfin := h g' c' w' (by unfold RowT; rw [List.map_append, List.length_append]; exact h1) hk
    unfold Oper.wp
    simp [execOp, ho, resolve, invoke, builtin, hs, hx, hrun, Result.andThen]
    exact hfin
end
theorem rowT_cells {B : Nat} {w : World} {g n c : Nat} {l : List ByteArray} (h : RowT B w (.slice (some ⟨g, 0, none⟩) n c) l) : (∀ (j : Nat) x, l[j]? = some x → w.cell? ⟨g, 0 + j, none⟩ = some (.string x)) ∧ g < w.heap.size ∧ n = l.length ∧ l.length ≤ c := by
  have hn : n = l.length := by
    rcases h.2 with ⟨h1, -⟩ | ⟨g', cap, cur, h1, -⟩
    · cases h1
    · cases h1; rfl
  subst hn
  rcases h.2 with ⟨h1, -⟩ | ⟨g', cap, cur, h1, h2, h3, h4, h5, h6, h7⟩
  · cases h1
  · cases h1
    refine ⟨fun j x hj => ?_, blk_lt h3, rfl, h4⟩
    rw [Nat.zero_add, blk_cell h3]
    have h8 : (l.map Value.string)[j]? = some (.string x) := by rw [List.getElem?_map, hj]; rfl
    rw [← h7, List.getElem?_take] at h8
    split at h8
    · simpa using h8
    · cases h8
set_option maxHeartbeats 16000000 in
set_option maxRecDepth 100000 in
theorem text_calls (l : List PB) (B : Nat) (v : Value) (w : World) (hr : RowP B w 36 v l) (hl : l.length ≤ 1000) (hz : ∀ p ∈ l, p.1.size ≤ 1000 ∧ p.2.size ≤ 1000 ∧ ∀ x ∈ p.2.data.toList, 32 ≤ x.toNat ∧ x.toNat < 127) : Calls Tryd.prog 13 #[v] w fun e w' => (∃ t : ByteArray, e = .returned (.string t) ∧ t.data.toList = textP l) ∧ Below w.heap.size w w' := by
  have mixed : Tryd.prog.follows .mixedOrders = true := by kernel_rfl
  obtain ⟨A, c, rfl, hcl⟩ := own_slice hr
  obtain ⟨nl, hnl⟩ : ∃ nl, nl = l.length := ⟨_, rfl⟩
  rw [← hnl] at hcl hl hr ⊢
  have HR := Aside0.mk (show RowP B w 36 (.slice A nl c) l from by rw [hnl] at hr ⊢; exact hr)
  have HN := Aside0.mk hnl
  have HZ := Aside0.mk hz
  have hu25 := Tryd.underlying36
  obtain ⟨BB, hBB⟩ : ∃ BB, BB = w.heap.size := ⟨_, rfl⟩
  have HBB := Aside0.mk hBB
  rw [← hBB]
  clear hr hnl hz hBB
  go_enter Tryd.func13, Tryd.ntmps13
  go_wp2_with fail
  go_loopg [3, 8] nl (fun g1 v3 v8 wr => ∃ (i : Nat) (A3 : Option Addr) (c3 : Nat) (ou : List ByteArray), v8 = .int .i64 i ∧ v3 = .slice A3 ou.length c3 ∧ i ≤ nl ∧ Aside0 (ou.length = i) ∧ Aside0 (i + g1 = nl) ∧ Aside0 (ou.map (fun t => t.data.toList) = (l.take i).map itemP) ∧ Aside0 (RowT BB wr (.slice A3 ou.length c3) ou) ∧ Aside0 (Below BB w wr))
  case atStart => exact ⟨0, none, 0, [], rfl, rfl, Nat.zero_le _, ⟨rfl⟩, ⟨by omega⟩, ⟨rfl⟩, ⟨⟨rfl, .inl ⟨rfl, rfl⟩⟩⟩, ⟨Below.refl _ _⟩⟩
  case round =>
    obtain ⟨i, A3, c3, ou, rfl, rfl, hin, HOL, HI, HOU, HRT, HB⟩ := hrel
    by_cases hlt : i < nl
    · have hz1 : (i : Int) < (nl : Int) := by omega
      have hwi : IntKind.i64.wrap ((i : Int) + 1) = ((i + 1 : Nat) : Int) := (i64_w _).trans ((w64 (by omega) (by omega)).trans (by omega))
      obtain ⟨p, hp⟩ : ∃ p, l[i]? = some p := ⟨l[i]'(by rw [← HN.out]; exact hlt), List.getElem?_eq_getElem _⟩
      obtain ⟨r, rfl, -, -, hr0, hr1⟩ := rowP_get HR.out hp
      have c0 := cell_bl (by rw [← HBB.out]; exact HB.out) hr0
      have c1 := cell_bl (by rw [← HBB.out]; exact HB.out) hr1
      have HTK := Aside0.mk (show (l.take (i + 1)).map itemP = (l.take i).map itemP ++ [itemP p] by rw [List.take_add_one, hp, List.map_append]; rfl)
      have hpz := HZ.out p (List.mem_of_getElem? hp)
      have hq1 := hpz.1
      have hq2 := hpz.2.1
      have hs1 : ¬ 9223372036854775807 < p.1.size + 1 := by omega
      have HQC := Aside0.mk (fun W => quote_calls p.2 W (by omega) hpz.2.2)
      have hnew0 := World.alloc_heap_new wr (.cells #[.string p.1, .string p.2] 36)
      obtain ⟨w1, hw1⟩ : ∃ w1, w1 = wr.alloc (.cells #[.string p.1, .string p.2] 36) := ⟨_, rfl⟩
      rw [← hw1] at hnew0
      have HRT1 := Aside0.mk (show RowT BB w1 (.slice A3 ou.length c3) ou by rw [hw1]; exact RowT.kb HRT.out ((Kb.refl (fun _ => False) wr).alloc _) (fun _ _ h => h))
      have HB1 := Aside0.mk (show Below BB w w1 by
        have h1 := HB.out
        rw [HBB.out] at h1 ⊢
        rw [hw1]
        exact below_alloc h1 _)
      obtain ⟨gb, hgb⟩ : ∃ gb, gb = wr.heap.size := ⟨_, rfl⟩
      rw [← hgb] at hnew0
      have HNB := Aside0.mk hnew0
      clear hr0 hr1 hp hpz HRT HB
      go_wp2_with fail
      rw [← hw1, ← hgb]
      clear hw1 hgb hnew0 c0 c1
      refine wp_region_any (by assumption) ?_
      try (change wpAny _ _ _ _ _ _ _ (World.drew _))
      have HR1' := Aside0.mk (HRT1.out.kb ((Kb.refl (fun _ => False) w1).drew) (fun _ _ h => h))
      have HB1' := Aside0.mk (below_drew1 HB1.out)
      have HN1' := Aside0.mk (show w1.drew.heap[gb]? = some (.cells #[.string p.1, .string p.2] 36 (0, 0)) from HNB.out)
      have c0 : w1.drew.cell? ⟨gb, 0, none⟩ = some (.string p.1) := (blk_cell HNB.out 0).trans rfl
      have c1 : w1.drew.cell? ⟨gb, 1, none⟩ = some (.string p.2) := (blk_cell HNB.out 1).trans rfl
      clear HRT1 HB1 HNB
      generalize w1.drew = wa at HR1' HB1' HN1' c0 c1 ⊢
      refine wpAny_take (i := 0) (v := ?vT1) rfl (by kernel_rfl) (by kernel_rfl) (by kernel_rfl) (fun _ _ _ h => h) (Or.inl ⟨by rfl, ?hyT1⟩) ?_
      case hyT1 => intro w; go_simp; (first | done | (with_reducible rfl))
      refine wpAny_take (i := 1) (v := ?vT2) rfl (by kernel_rfl) (by kernel_rfl) (by kernel_rfl) (fun _ _ _ h => h) (Or.inl ⟨by rfl, ?hyT2⟩) ?_
      case hyT2 => intro w; go_simp; (first | done | (with_reducible rfl))
      refine wpAny_take (i := 4) (v := ?vT3) rfl (by kernel_rfl) (by kernel_rfl) (by kernel_rfl) (fun _ _ _ h => h) (Or.inl ⟨by rfl, ?hyT3⟩) ?_
      case hyT3 => intro w; go_simp; (first | done | (with_reducible rfl))
      refine wpAny_ready (rs := [2, 5]) (by kernel_rfl) (by simp) ?_
      refine AllReady.cons rfl (fun K hK => ?_) ?_
      · go_simp
        refine hK _ _ ?_
        clear hK K
        skip
        refine wpAny_take (i := 3) (v := ?vT4) rfl (by kernel_rfl) (by kernel_rfl) (by kernel_rfl) (fun _ _ _ h => h) (Or.inl ⟨by rfl, ?hyT4⟩) ?_
        case hyT4 => intro w; go_simp; (first | done | (with_reducible rfl))
        refine wpAny_ready (rs := [5]) (by kernel_rfl) (by simp) ?_
        refine AllReady.cons rfl (fun K hK => ?_) ?_
        · go_simp
          refine hK _ _ ?_
          clear hK K
          skip
          refine wpAny_ready (rs := [6]) (by kernel_rfl) (by simp) ?_
          refine AllReady.cons rfl (fun K hK => ?_) ?_
          · go_simp
            refine (HQC.out _).mono ?_
            rintro e wb ⟨⟨t, rfl, ht⟩, hbb⟩
            refine hK _ _ ?_
            clear hK K
            have HR2 := Aside0.mk (HR1'.out.kb (Kb.of_below (S := fun _ => False) hbb) (fun _ _ h => h))
            have HB2 := Aside0.mk (show Below BB w wb by
              have h1 := HB1'.out
              rw [HBB.out] at h1 ⊢
              exact below_then h1 hbb)
            have e0 : wb.cell? ⟨gb, 0, none⟩ = some (.string p.1) := cell_bl hbb c0
            obtain ⟨y, hy⟩ : ∃ y : ByteArray, y = (p.1 ++ (⟨#[61]⟩ : ByteArray)) ++ t := ⟨_, rfl⟩
            have hys : y.data.toList = itemP p := by rw [hy, lk_app, lk_app, ht]; rfl
            have htz : t.size ≤ 2002 := by rw [← lk_size, ht]; have := quoP_len p.2.data.toList; rw [lk_size] at this; omega
            have HYS := Aside0.mk hys
            have hs2 : ¬ 9223372036854775807 < p.1.size + 1 + t.size := by omega
            have HY := Aside0.mk hy
            clear hbb hys hy ht c0 c1
            refine wpAny_take (i := 7) (v := ?vT5) rfl (by kernel_rfl) (by kernel_rfl) (by kernel_rfl) (fun _ _ _ h => h) (Or.inl ⟨by rfl, ?hyT5⟩) ?_
            case hyT5 => intro w; go_simp; (first | done | (with_reducible rfl))
            refine wpAny_ready (rs := [8]) (by kernel_rfl) (by simp) ?_
            refine AllReady.cons rfl (fun K hK => ?_) ?_
            · go_simp
              refine hK _ _ ?_
              clear hK K
              (try rw [← HY.out])
              have hnew := World.alloc_heap_new wb (.cells #[.string y] 9)
              have HR3 := Aside0.mk (HR2.out.kb ((Kb.refl (fun _ => False) wb).alloc (.cells #[.string y] 9)) (fun _ _ h => h))
              have HB3 := Aside0.mk (show Below BB w (wb.alloc (.cells #[.string y] 9)) by
                have h1 := HB2.out
                rw [HBB.out] at h1 ⊢
                exact below_alloc h1 _)
              have d0 := (blk_cell hnew 0).trans rfl
              clear hnew
              refine wpAny_ready (rs := [9]) (by kernel_rfl) (by simp) ?_
              refine AllReady.cons rfl (fun K hK => ?_) ?_
              · refine append_ET (u := y) (by rfl) (.tmp 12) (.tmp 20) rfl rfl HR3.out rfl d0 (by have := HOL.out; omega) (by have := HB3.out.size; rw [HBB.out]; omega) ?_
                intro g3 c3' w3 hr3 hk3
                have HR4 := Aside0.mk hr3
                have HB4 := Aside0.mk (show Below BB w w3 by
                  have h1 := HB3.out
                  rw [HBB.out] at h1 hk3 ⊢
                  exact below_kb h1 hk3)
                clear hr3 hk3
                refine hK _ _ ?_
                clear hK K
                skip
                refine wpAny_take (i := 10) (v := ?vT6) rfl (by kernel_rfl) (by kernel_rfl) (by kernel_rfl) (fun _ _ _ h => h) (Or.inl ⟨by rfl, ?hyT6⟩) ?_
                case hyT6 => intro w; go_simp; (first | done | (with_reducible rfl))
                refine wpAny_done (by kernel_rfl) ?_ _
                go_wp2_with fail
                go_roundg (nl - (i + 1))
                case measure => have := HI.out; omega
                case rel => exact ⟨i + 1, some ⟨g3, 0, none⟩, c3', ou ++ [y], by first | rfl | rw [hwi], by rw [List.length_append]; rfl, hlt, ⟨by rw [List.length_append, HOL.out]; rfl⟩, ⟨by have := HI.out; omega⟩, ⟨by rw [HTK.out, List.map_append, HOU.out, ← HYS.out]; rfl⟩, by rw [List.length_append]; exact HR4, HB4⟩
              exact AllReady.nil
            exact AllReady.nil
          exact AllReady.nil
        exact AllReady.nil
      refine AllReady.cons rfl (fun K hK => ?_) ?_
      · go_simp
        refine hK _ _ ?_
        clear hK K
        skip
        refine wpAny_ready (rs := [2, 6]) (by kernel_rfl) (by simp) ?_
        refine AllReady.cons rfl (fun K hK => ?_) ?_
        · go_simp
          refine hK _ _ ?_
          clear hK K
          skip
          refine wpAny_take (i := 3) (v := ?vT7) rfl (by kernel_rfl) (by kernel_rfl) (by kernel_rfl) (fun _ _ _ h => h) (Or.inl ⟨by rfl, ?hyT7⟩) ?_
          case hyT7 => intro w; go_simp; (first | done | (with_reducible rfl))
          refine wpAny_ready (rs := [6]) (by kernel_rfl) (by simp) ?_
          refine AllReady.cons rfl (fun K hK => ?_) ?_
          · go_simp
            refine (HQC.out _).mono ?_
            rintro e wb ⟨⟨t, rfl, ht⟩, hbb⟩
            refine hK _ _ ?_
            clear hK K
            have HR2 := Aside0.mk (HR1'.out.kb (Kb.of_below (S := fun _ => False) hbb) (fun _ _ h => h))
            have HB2 := Aside0.mk (show Below BB w wb by
              have h1 := HB1'.out
              rw [HBB.out] at h1 ⊢
              exact below_then h1 hbb)
            have e0 : wb.cell? ⟨gb, 0, none⟩ = some (.string p.1) := cell_bl hbb c0
            obtain ⟨y, hy⟩ : ∃ y : ByteArray, y = (p.1 ++ (⟨#[61]⟩ : ByteArray)) ++ t := ⟨_, rfl⟩
            have hys : y.data.toList = itemP p := by rw [hy, lk_app, lk_app, ht]; rfl
            have htz : t.size ≤ 2002 := by rw [← lk_size, ht]; have := quoP_len p.2.data.toList; rw [lk_size] at this; omega
            have HYS := Aside0.mk hys
            have hs2 : ¬ 9223372036854775807 < p.1.size + 1 + t.size := by omega
            have HY := Aside0.mk hy
            clear hbb hys hy ht c0 c1
            refine wpAny_take (i := 7) (v := ?vT8) rfl (by kernel_rfl) (by kernel_rfl) (by kernel_rfl) (fun _ _ _ h => h) (Or.inl ⟨by rfl, ?hyT8⟩) ?_
            case hyT8 => intro w; go_simp; (first | done | (with_reducible rfl))
            refine wpAny_ready (rs := [8]) (by kernel_rfl) (by simp) ?_
            refine AllReady.cons rfl (fun K hK => ?_) ?_
            · go_simp
              refine hK _ _ ?_
              clear hK K
              (try rw [← HY.out])
              have hnew := World.alloc_heap_new wb (.cells #[.string y] 9)
              have HR3 := Aside0.mk (HR2.out.kb ((Kb.refl (fun _ => False) wb).alloc (.cells #[.string y] 9)) (fun _ _ h => h))
              have HB3 := Aside0.mk (show Below BB w (wb.alloc (.cells #[.string y] 9)) by
                have h1 := HB2.out
                rw [HBB.out] at h1 ⊢
                exact below_alloc h1 _)
              have d0 := (blk_cell hnew 0).trans rfl
              clear hnew
              refine wpAny_ready (rs := [9]) (by kernel_rfl) (by simp) ?_
              refine AllReady.cons rfl (fun K hK => ?_) ?_
              · refine append_ET (u := y) (by rfl) (.tmp 12) (.tmp 20) rfl rfl HR3.out rfl d0 (by have := HOL.out; omega) (by have := HB3.out.size; rw [HBB.out]; omega) ?_
                intro g3 c3' w3 hr3 hk3
                have HR4 := Aside0.mk hr3
                have HB4 := Aside0.mk (show Below BB w w3 by
                  have h1 := HB3.out
                  rw [HBB.out] at h1 hk3 ⊢
                  exact below_kb h1 hk3)
                clear hr3 hk3
                refine hK _ _ ?_
                clear hK K
                skip
                refine wpAny_take (i := 10) (v := ?vT9) rfl (by kernel_rfl) (by kernel_rfl) (by kernel_rfl) (fun _ _ _ h => h) (Or.inl ⟨by rfl, ?hyT9⟩) ?_
                case hyT9 => intro w; go_simp; (first | done | (with_reducible rfl))
                refine wpAny_done (by kernel_rfl) ?_ _
                go_wp2_with fail
                go_roundg (nl - (i + 1))
                case measure => have := HI.out; omega
                case rel => exact ⟨i + 1, some ⟨g3, 0, none⟩, c3', ou ++ [y], by first | rfl | rw [hwi], by rw [List.length_append]; rfl, hlt, ⟨by rw [List.length_append, HOL.out]; rfl⟩, ⟨by have := HI.out; omega⟩, ⟨by rw [HTK.out, List.map_append, HOU.out, ← HYS.out]; rfl⟩, by rw [List.length_append]; exact HR4, HB4⟩
              exact AllReady.nil
            exact AllReady.nil
          exact AllReady.nil
        refine AllReady.cons rfl (fun K hK => ?_) ?_
        · go_simp
          refine (HQC.out _).mono ?_
          rintro e wb ⟨⟨t, rfl, ht⟩, hbb⟩
          refine hK _ _ ?_
          clear hK K
          have HR2 := Aside0.mk (HR1'.out.kb (Kb.of_below (S := fun _ => False) hbb) (fun _ _ h => h))
          have HB2 := Aside0.mk (show Below BB w wb by
            have h1 := HB1'.out
            rw [HBB.out] at h1 ⊢
            exact below_then h1 hbb)
          have e0 : wb.cell? ⟨gb, 0, none⟩ = some (.string p.1) := cell_bl hbb c0
          obtain ⟨y, hy⟩ : ∃ y : ByteArray, y = (p.1 ++ (⟨#[61]⟩ : ByteArray)) ++ t := ⟨_, rfl⟩
          have hys : y.data.toList = itemP p := by rw [hy, lk_app, lk_app, ht]; rfl
          have htz : t.size ≤ 2002 := by rw [← lk_size, ht]; have := quoP_len p.2.data.toList; rw [lk_size] at this; omega
          have HYS := Aside0.mk hys
          have hs2 : ¬ 9223372036854775807 < p.1.size + 1 + t.size := by omega
          have HY := Aside0.mk hy
          clear hbb hys hy ht c0 c1
          refine wpAny_ready (rs := [2]) (by kernel_rfl) (by simp) ?_
          refine AllReady.cons rfl (fun K hK => ?_) ?_
          · go_simp
            refine hK _ _ ?_
            clear hK K
            skip
            refine wpAny_take (i := 3) (v := ?vT10) rfl (by kernel_rfl) (by kernel_rfl) (by kernel_rfl) (fun _ _ _ h => h) (Or.inl ⟨by rfl, ?hyT10⟩) ?_
            case hyT10 => intro w; go_simp; (first | done | (with_reducible rfl))
            refine wpAny_take (i := 7) (v := ?vT11) rfl (by kernel_rfl) (by kernel_rfl) (by kernel_rfl) (fun _ _ _ h => h) (Or.inl ⟨by rfl, ?hyT11⟩) ?_
            case hyT11 => intro w; go_simp; (first | done | (with_reducible rfl))
            refine wpAny_ready (rs := [8]) (by kernel_rfl) (by simp) ?_
            refine AllReady.cons rfl (fun K hK => ?_) ?_
            · go_simp
              refine hK _ _ ?_
              clear hK K
              (try rw [← HY.out])
              have hnew := World.alloc_heap_new wb (.cells #[.string y] 9)
              have HR3 := Aside0.mk (HR2.out.kb ((Kb.refl (fun _ => False) wb).alloc (.cells #[.string y] 9)) (fun _ _ h => h))
              have HB3 := Aside0.mk (show Below BB w (wb.alloc (.cells #[.string y] 9)) by
                have h1 := HB2.out
                rw [HBB.out] at h1 ⊢
                exact below_alloc h1 _)
              have d0 := (blk_cell hnew 0).trans rfl
              clear hnew
              refine wpAny_ready (rs := [9]) (by kernel_rfl) (by simp) ?_
              refine AllReady.cons rfl (fun K hK => ?_) ?_
              · refine append_ET (u := y) (by rfl) (.tmp 12) (.tmp 20) rfl rfl HR3.out rfl d0 (by have := HOL.out; omega) (by have := HB3.out.size; rw [HBB.out]; omega) ?_
                intro g3 c3' w3 hr3 hk3
                have HR4 := Aside0.mk hr3
                have HB4 := Aside0.mk (show Below BB w w3 by
                  have h1 := HB3.out
                  rw [HBB.out] at h1 hk3 ⊢
                  exact below_kb h1 hk3)
                clear hr3 hk3
                refine hK _ _ ?_
                clear hK K
                skip
                refine wpAny_take (i := 10) (v := ?vT12) rfl (by kernel_rfl) (by kernel_rfl) (by kernel_rfl) (fun _ _ _ h => h) (Or.inl ⟨by rfl, ?hyT12⟩) ?_
                case hyT12 => intro w; go_simp; (first | done | (with_reducible rfl))
                refine wpAny_done (by kernel_rfl) ?_ _
                go_wp2_with fail
                go_roundg (nl - (i + 1))
                case measure => have := HI.out; omega
                case rel => exact ⟨i + 1, some ⟨g3, 0, none⟩, c3', ou ++ [y], by first | rfl | rw [hwi], by rw [List.length_append]; rfl, hlt, ⟨by rw [List.length_append, HOL.out]; rfl⟩, ⟨by have := HI.out; omega⟩, ⟨by rw [HTK.out, List.map_append, HOU.out, ← HYS.out]; rfl⟩, by rw [List.length_append]; exact HR4, HB4⟩
              exact AllReady.nil
            exact AllReady.nil
          exact AllReady.nil
        exact AllReady.nil
      exact AllReady.nil
    · have hz1 : ¬ (i : Int) < (nl : Int) := by omega
      have hou := HOL.out
      have HE := Aside0.mk (show ou.map (fun t => t.data.toList) = l.map itemP by rw [HOU.out, List.take_of_length_le (by rw [← HN.out]; omega)])
      have hjl : (Lib.join (ou.map (fun t => t.data.toList)) [44, 32]).length ≤ 1000 * 5000 := by
        have h1 := join_len [44, 32] 4000 (ou.map (fun t => t.data.toList)) (fun x hx => by
          rw [HE.out] at hx
          obtain ⟨p, hp, rfl⟩ := List.mem_map.1 hx
          have h2 := HZ.out p hp
          have h3 := quoP_len p.2.data.toList
          unfold itemP
          rw [List.length_append, List.length_append, lk_size]
          rw [lk_size] at h3
          show p.1.size + 1 + _ ≤ _
          omega)
        rw [List.length_map] at h1
        have : ou.length * (4000 + 2) ≤ 1000 * 4002 := Nat.mul_le_mul_right _ (by omega)
        show _ ≤ _
        simp only [List.length_cons, List.length_nil] at h1
        omega
      have hjoin : Calls Tryd.prog 36 #[.slice A3 ou.length c3, .string ⟨#[44, 32]⟩] wr fun e w' => (∃ t : ByteArray, e = .returned (.string t) ∧ t.data.toList = Lib.join (l.map itemP) [44, 32]) ∧ Below wr.heap.size wr w' := by
        rw [← HE.out]
        cases hA : A3 with
        | none =>
          have h0 : ou.length = 0 := by
            rcases HRT.out.2 with ⟨-, h⟩ | ⟨g, cap, cur, h, -⟩
            · exact h
            · rw [hA] at h; cases h
          have h1 : ou = [] := List.eq_nil_of_length_eq_zero h0
          rw [h1]
          refine (Tryd.strings_Join_none none c3 ⟨#[44, 32]⟩ wr).mono ?_
          rintro e w' ⟨rfl, rfl⟩
          exact ⟨⟨_, rfl, rfl⟩, Below.refl _ _⟩
        | some ad =>
          obtain ⟨g, cap, cur, h, -⟩ : ∃ g cap cur, (Value.slice A3 ou.length c3) = .slice (some ⟨g, 0, none⟩) ou.length cap ∧ cur = cur := by
            rcases HRT.out.2 with ⟨h, -⟩ | ⟨g, cap, cur, h, -⟩
            · rw [hA] at h; cases h
            · exact ⟨g, cap, cur, h, rfl⟩
          rw [hA] at h
          cases h
          obtain ⟨hc1, hc2, -, hc4⟩ := rowT_cells (by have := HRT.out; rw [hA] at this; exact this)
          refine (Tryd.strings_Join g 0 c3 ou ⟨#[44, 32]⟩ wr hc1 hc2 (by omega) hc4 (by show (Lib.join (ou.map (fun t => t.data.toList)) [44, 32]).length ≤ _; omega)).mono ?_
          rintro e w' ⟨rfl, hb⟩
          exact ⟨⟨_, rfl, rfl⟩, hb⟩
      have hjl2 : (Lib.join (l.map itemP) [44, 32]).length ≤ 1000 * 5000 := by rw [← HE.out]; exact hjl
      have HJL := Aside0.mk hjl2
      clear hjl hjl2 hou
      go_wp2_with fail
      refine hjoin.mono ?_
      rintro e w2 ⟨⟨t, rfl, ht⟩, hb⟩
      have hts : t.size ≤ 5000000 := by rw [← lk_size, ht]; have := HJL.out; omega
      have HT := Aside0.mk ht
      have HB2 := Aside0.mk (show Below BB w w2 by
        have h1 := HB.out
        rw [HBB.out] at h1 ⊢
        exact below_then h1 hb)
      clear hjoin ht hb
      go_wp2_with fail
      go_ret
      exact ⟨⟨_, rfl, by rw [lk_app, lk_app, HT.out]; rfl⟩, HB2.out⟩
end Go.Proofs.YtkkaaipiaandaaaDoor.PC
