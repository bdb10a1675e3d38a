/- slices.BinarySearchFunc at labels in order: how many are below. -/
import Derived.Test.YtkkaaipiaandaaaDoorA2
import Derived.Deep.RegionHeld3
namespace Go.Proofs.YtkkaaipiaandaaaDoor.PC
open Go.RowKit Go.Lib Go.Shelf Go.Maps Go.Proofs.YtkkaaipiaandaaaDoorW.PrintWords Go.Proofs.YtkkaaipiaandaaaDoorW.PrintLast Go.Proofs.YtkkaaipiaandaaaDoorW.PrintMore
set_option linter.unusedVariables false
set_option linter.unusedSimpArgs false
/-- How many labels are below a name. -/
def posL (l : List PB) (x : PB) : Nat := (l.takeWhile (fun p => decide (cfL p x < 0))).length
theorem pos_take {α : Type} (f : α → Bool) : ∀ (l : List α) (i : Nat), i ≤ l.length → (∀ t p, t < i → l[t]? = some p → f p = true) → (∀ t p, i ≤ t → l[t]? = some p → f p = false) → (l.takeWhile f).length = i
  | [], i, h, _, _ => by simp at h; subst h; rfl
  | p :: l, 0, h, _, h2 => by
    have := h2 0 p (Nat.le_refl _) rfl
    simp [List.takeWhile_cons, this]
  | p :: l, i + 1, h, h1, h2 => by
    have e := h1 0 p (Nat.zero_lt_succ _) rfl
    rw [List.takeWhile_cons, if_pos e]
    show (l.takeWhile f).length + 1 = i + 1
    rw [pos_take f l i (by simpa using h) (fun t q ht hq => h1 (t + 1) q (by omega) hq) (fun t q ht hq => h2 (t + 1) q (by omega) hq)]
theorem pos_le (l : List PB) (x : PB) : posL l x ≤ l.length := by
  unfold posL
  exact (List.takeWhile_sublist _).length_le
structure Srt (l : List PB) (x : PB) (i j : Nat) : Prop where
  lo : ∀ t p, t < i → l[t]? = some p → cfL p x < 0
  hi : ∀ t p, j ≤ t → l[t]? = some p → ¬ cfL p x < 0
theorem up_get {l : List PB} (ho : InO l) {s t : Nat} {p q : PB} (h : s < t) (hp : l[s]? = some p) (hq : l[t]? = some q) : compareBytes p.1.data.toList q.1.data.toList < 0 := by
  obtain ⟨h1, e1⟩ := List.getElem?_eq_some_iff.1 hp
  obtain ⟨h2, e2⟩ := List.getElem?_eq_some_iff.1 hq
  have := List.pairwise_iff_getElem.1 ho.up s t h1 h2 h
  rw [e1, e2] at this
  exact this
theorem Srt.low {l : List PB} {x : PB} {i j h : Nat} {p : PB} (ho : InO l) (s : Srt l x i j) (hp : l[h]? = some p) (hc : cfL p x < 0) : Srt l x (h + 1) j := by
  refine ⟨fun t q ht hq => ?_, s.hi⟩
  rcases Nat.lt_or_eq_of_le (Nat.le_of_lt_succ ht) with h1 | h1
  · exact cb_trans (up_get ho h1 hq hp) hc
  · subst h1
    rw [hp] at hq
    cases hq
    exact hc
theorem Srt.high {l : List PB} {x : PB} {i j h : Nat} {p : PB} (ho : InO l) (s : Srt l x i j) (hp : l[h]? = some p) (hc : ¬ cfL p x < 0) : Srt l x i h := by
  refine ⟨s.lo, fun t q ht hq h2 => ?_⟩
  rcases Nat.lt_or_eq_of_le ht with h1 | h1
  · exact hc (cb_trans (up_get ho h1 hp hq) h2)
  · subst h1
    rw [hp] at hq
    cases hq
    exact hc h2
theorem Srt.pos {l : List PB} {x : PB} {i : Nat} (s : Srt l x i i) (h : i ≤ l.length) : posL l x = i :=
  pos_take _ l i h (fun t p ht hp => decide_eq_true (s.lo t p ht hp)) (fun t p ht hp => decide_eq_false (s.hi t p ht hp))
set_option maxHeartbeats 8000000 in
set_option maxRecDepth 100000 in
theorem search_calls (l : List PB) (x : PB) (B : Nat) (v : Value) (w : World) (hr : RowP B w 36 v l) (hl : l.length ≤ 1000000) (ho : InO l) :
    Calls Tryd.prog 29 #[v, .agg #[.string x.1, .string x.2], .func (.func 22) #[] #[]] w fun e w' => (∃ b, e = .returned (.tuple #[.int .i64 (posL l x : Nat), .bool b])) ∧ Below w.heap.size w w' := by
  have mixed : Tryd.prog.follows .mixedOrders = true := by kernel_rfl
  have HB0 := Aside0.mk (below_alloc (Below.refl w.heap.size w) (.cells #[.string x.1, .string x.2] 36))
  have hbx := World.alloc_heap_new w (.cells #[.string x.1, .string x.2] 36)
  obtain ⟨w0, hw0⟩ : ∃ w0, w0 = w.alloc (.cells #[.string x.1, .string x.2] 36) := ⟨_, rfl⟩
  rw [← hw0] at hbx
  have hr0 : RowP B w0 36 v l := by rw [hw0]; exact hr.kb ((Kb.refl (fun _ => False) w).alloc _) (fun _ _ h => h)
  rw [← hw0] at HB0
  obtain ⟨A, c, rfl, hcl⟩ := own_slice hr
  obtain ⟨nl, hnl⟩ : ∃ nl, nl = l.length := ⟨_, rfl⟩
  rw [← hnl] at hcl hr0 hl ⊢
  have HR := Aside0.mk (show RowP B w0 36 (.slice A nl c) l from by rw [hnl] at hr0 ⊢; exact hr0)
  have HN := Aside0.mk hnl
  have HO := Aside0.mk ho
  have HBX := Aside0.mk hbx
  have hu25 := Tryd.underlying36
  have HPS : Aside0 (∀ i, i ≤ nl → Srt l x i i → posL l x = i) := ⟨fun i hi hs => hs.pos (by rw [← hnl]; exact hi)⟩
  obtain ⟨ps, hps⟩ : ∃ ps, ps = posL l x := ⟨_, rfl⟩
  rw [← hps] at HPS ⊢
  clear hr hnl ho hr0 hbx hps
  go_enter Tryd.func29, Tryd.ntmps29
  go_wp2_with fail
  rw [← hw0]
  clear hw0
  go_loopg [9, 10] nl (fun g1 v9 v10 wr => ∃ i j : Nat, v9 = .int .i64 i ∧ v10 = .int .i64 j ∧ i ≤ j ∧ j ≤ nl ∧ Aside0 (j - i ≤ g1) ∧ Aside0 (Srt l x i j) ∧ Aside0 (Below w0.heap.size w0 wr))
  case atStart => exact ⟨0, nl, rfl, rfl, Nat.zero_le _, Nat.le_refl _, ⟨Nat.le_refl _⟩, ⟨⟨fun t p h => absurd h (Nat.not_lt_zero _), fun t p h hp => by rw [List.getElem?_eq_none (by rw [← HN.out]; exact h)] at hp; cases hp⟩⟩, ⟨Below.refl _ _⟩⟩
  case round =>
    obtain ⟨i, j, rfl, rfl, hij, hjn, HI, HS, HB⟩ := hrel
    by_cases hlt : i < j
    · have hz : (i : Int) < (j : Int) := by omega
      obtain ⟨h, hh⟩ : ∃ h, h = (i + j) / 2 := ⟨_, rfl⟩
      have h1 : i ≤ h := by omega
      have h2 : h < nl := by omega
      have h3 : h < j := by omega
      have e1 : IntKind.i64.wrap ((i : Int) + (j : Int)) = ((i + j : Nat) : Int) := (i64_w _).trans ((w64 (by omega) (by omega)).trans (by omega))
      have e2 : IntKind.u64.wrap (((i + j : Nat) : Int)) = ((i + j : Nat) : Int) := u64_w (by omega) (by omega)
      have e4 : IntKind.u64.wrap (h : Int) = (h : Int) := u64_w (by omega) (by omega)
      have e5 : IntKind.i64.wrap (h : Int) = (h : Int) := (i64_w _).trans (w64 (by omega) (by omega))
      have e6 : IntKind.i64.wrap ((h : Int) + 1) = ((h + 1 : Nat) : Int) := (i64_w _).trans ((w64 (by omega) (by omega)).trans (by omega))
      have e7 : ((i + j : Nat) : Int) / 2 = (h : Int) := by omega
      have e8 : (i + j) >>> 1 = h := by rw [Nat.shiftRight_eq_div_pow]; omega
      have e9 : (i + j) / 2 = h := hh.symm
      obtain ⟨p, hp⟩ : ∃ p, l[h]? = some p := ⟨l[h]'(by rw [← HN.out]; exact h2), List.getElem?_eq_getElem _⟩
      obtain ⟨r, rfl, -, hr, hr0, hr1⟩ := rowP_get HR.out hp
      have c0 := cell_bl HB.out hr0
      have c1 := cell_bl HB.out hr1
      have hxx : wr.heap[w.heap.size]? = some (.cells #[.string x.1, .string x.2] 36 (0, 0)) := Kb.blk HBX.out (Kb.of_below (S := fun _ => False) HB.out) (fun h => h)
      have b0 := (blk_cell hxx 0).trans rfl
      have b1 := (blk_cell hxx 1).trans rfl
      have HSL : Aside0 (cfL p x < 0 → Srt l x (h + 1) j) := ⟨fun hc => HS.out.low HO.out hp hc⟩
      have HSH : Aside0 (¬ cfL p x < 0 → Srt l x i h) := ⟨fun hc => HS.out.high HO.out hp hc⟩
      obtain ⟨cv, hcv⟩ : ∃ cv, cv = cfL p x := ⟨_, rfl⟩
      rw [← hcv] at HSL HSH
      have HCV := Aside0.mk hcv
      have e10 : ((i : Int) + (j : Int)) / 2 = (h : Int) := by omega
      clear hp hr0 hr1 hr hxx hcv hh
      by_cases hlow : cv < 0
      · skip
        go_wp2_with fail
        refine wp_region_any (by assumption) ?_
        try (change wpAny _ _ _ _ _ _ _ (World.drew _))
        have c0' : wr.drew.cell? ⟨r, h * 2, none⟩ = some (.string p.1) := c0
        have c1' : wr.drew.cell? ⟨r, h * 2 + 1, none⟩ = some (.string p.2) := c1
        have b0' : wr.drew.cell? ⟨w.heap.size, 0, none⟩ = some (.string x.1) := b0
        have b1' : wr.drew.cell? ⟨w.heap.size, 1, none⟩ = some (.string x.2) := b1
        have HB' := Aside0.mk (below_drew1 HB.out)
        clear c0 c1 b0 b1
        generalize wr.drew = wa at c0' c1' b0' b1' HB' ⊢
        refine wpAny_take (i := 0) (v := ?vL1) rfl (by kernel_rfl) (by kernel_rfl) (by kernel_rfl) (fun _ _ _ h => h) (Or.inl ⟨by rfl, ?hyL1⟩) ?_
        case hyL1 => intro w; go_simp; (first | done | (with_reducible rfl))
        refine wpAny_take (i := 1) (v := ?vL2) rfl (by kernel_rfl) (by kernel_rfl) (by kernel_rfl) (fun _ _ _ h => h) (Or.inl ⟨by rfl, ?hyL2⟩) ?_
        case hyL2 => intro w; go_simp; (first | done | (with_reducible rfl))
        refine wpAny_take (i := 2) (v := ?vL3) rfl (by kernel_rfl) (by kernel_rfl) (by kernel_rfl) (fun _ _ _ h => h) (Or.inl ⟨by rfl, ?hyL3⟩) ?_
        case hyL3 => intro w; go_simp; (first | done | (with_reducible rfl))
        refine wpAny_take (i := 3) (v := ?vL4) rfl (by kernel_rfl) (by kernel_rfl) (by kernel_rfl) (fun _ _ _ h => h) (Or.inl ⟨by rfl, ?hyL4⟩) ?_
        case hyL4 => intro w; go_simp; (first | done | (with_reducible rfl))
        refine wpAny_ready (rs := [4, 5]) (by kernel_rfl) (by simp) ?_
        refine AllReady.cons rfl (fun K hK => ?_) ?_
        · go_simp
          refine hK _ _ ?_
          clear hK K
          skip
          refine wpAny_ready (rs := [5]) (by kernel_rfl) (by simp) ?_
          refine AllReady.cons rfl (fun K hK => ?_) ?_
          · go_simp
            refine hK _ _ ?_
            clear hK K
            skip
            refine wpAny_ready (rs := [6]) (by kernel_rfl) (by simp) ?_
            refine AllReady.cons rfl (fun K hK => ?_) ?_
            · go_simp
              refine (byname_calls p x _).mono ?_
              rintro e wb ⟨rfl, hbb⟩
              refine hK _ _ ?_
              clear hK K
              rw [← HCV.out]
              have HB2 := Aside0.mk (below_then HB'.out hbb)
              clear hbb
              refine wpAny_take (i := 7) (v := ?vL5) rfl (by kernel_rfl) (by kernel_rfl) (by kernel_rfl) (fun _ _ _ h => h) (Or.inl ⟨by rfl, ?hyL5⟩) ?_
              case hyL5 => intro w; go_simp; (first | done | (with_reducible rfl))
              refine wpAny_done (by kernel_rfl) ?_ _
              go_wp2_with fail
              go_roundg (j - (h + 1))
              case measure => have := HI.out; omega
              case rel => exact ⟨h + 1, j, by first | rfl | rw [e6], rfl, h3, hjn, ⟨by omega⟩, ⟨HSL.out hlow⟩, HB2⟩
            exact AllReady.nil
          exact AllReady.nil
        refine AllReady.cons rfl (fun K hK => ?_) ?_
        · go_simp
          refine hK _ _ ?_
          clear hK K
          skip
          refine wpAny_ready (rs := [4]) (by kernel_rfl) (by simp) ?_
          refine AllReady.cons rfl (fun K hK => ?_) ?_
          · go_simp
            refine hK _ _ ?_
            clear hK K
            skip
            refine wpAny_ready (rs := [6]) (by kernel_rfl) (by simp) ?_
            refine AllReady.cons rfl (fun K hK => ?_) ?_
            · go_simp
              refine (byname_calls p x _).mono ?_
              rintro e wb ⟨rfl, hbb⟩
              refine hK _ _ ?_
              clear hK K
              rw [← HCV.out]
              have HB2 := Aside0.mk (below_then HB'.out hbb)
              clear hbb
              refine wpAny_take (i := 7) (v := ?vL6) rfl (by kernel_rfl) (by kernel_rfl) (by kernel_rfl) (fun _ _ _ h => h) (Or.inl ⟨by rfl, ?hyL6⟩) ?_
              case hyL6 => intro w; go_simp; (first | done | (with_reducible rfl))
              refine wpAny_done (by kernel_rfl) ?_ _
              go_wp2_with fail
              go_roundg (j - (h + 1))
              case measure => have := HI.out; omega
              case rel => exact ⟨h + 1, j, by first | rfl | rw [e6], rfl, h3, hjn, ⟨by omega⟩, ⟨HSL.out hlow⟩, HB2⟩
            exact AllReady.nil
          exact AllReady.nil
        exact AllReady.nil
      · skip
        go_wp2_with fail
        refine wp_region_any (by assumption) ?_
        try (change wpAny _ _ _ _ _ _ _ (World.drew _))
        have c0' : wr.drew.cell? ⟨r, h * 2, none⟩ = some (.string p.1) := c0
        have c1' : wr.drew.cell? ⟨r, h * 2 + 1, none⟩ = some (.string p.2) := c1
        have b0' : wr.drew.cell? ⟨w.heap.size, 0, none⟩ = some (.string x.1) := b0
        have b1' : wr.drew.cell? ⟨w.heap.size, 1, none⟩ = some (.string x.2) := b1
        have HB' := Aside0.mk (below_drew1 HB.out)
        clear c0 c1 b0 b1
        generalize wr.drew = wa at c0' c1' b0' b1' HB' ⊢
        refine wpAny_take (i := 0) (v := ?vH1) rfl (by kernel_rfl) (by kernel_rfl) (by kernel_rfl) (fun _ _ _ h => h) (Or.inl ⟨by rfl, ?hyH1⟩) ?_
        case hyH1 => intro w; go_simp; (first | done | (with_reducible rfl))
        refine wpAny_take (i := 1) (v := ?vH2) rfl (by kernel_rfl) (by kernel_rfl) (by kernel_rfl) (fun _ _ _ h => h) (Or.inl ⟨by rfl, ?hyH2⟩) ?_
        case hyH2 => intro w; go_simp; (first | done | (with_reducible rfl))
        refine wpAny_take (i := 2) (v := ?vH3) rfl (by kernel_rfl) (by kernel_rfl) (by kernel_rfl) (fun _ _ _ h => h) (Or.inl ⟨by rfl, ?hyH3⟩) ?_
        case hyH3 => intro w; go_simp; (first | done | (with_reducible rfl))
        refine wpAny_take (i := 3) (v := ?vH4) rfl (by kernel_rfl) (by kernel_rfl) (by kernel_rfl) (fun _ _ _ h => h) (Or.inl ⟨by rfl, ?hyH4⟩) ?_
        case hyH4 => intro w; go_simp; (first | done | (with_reducible rfl))
        refine wpAny_ready (rs := [4, 5]) (by kernel_rfl) (by simp) ?_
        refine AllReady.cons rfl (fun K hK => ?_) ?_
        · go_simp
          refine hK _ _ ?_
          clear hK K
          skip
          refine wpAny_ready (rs := [5]) (by kernel_rfl) (by simp) ?_
          refine AllReady.cons rfl (fun K hK => ?_) ?_
          · go_simp
            refine hK _ _ ?_
            clear hK K
            skip
            refine wpAny_ready (rs := [6]) (by kernel_rfl) (by simp) ?_
            refine AllReady.cons rfl (fun K hK => ?_) ?_
            · go_simp
              refine (byname_calls p x _).mono ?_
              rintro e wb ⟨rfl, hbb⟩
              refine hK _ _ ?_
              clear hK K
              rw [← HCV.out]
              have HB2 := Aside0.mk (below_then HB'.out hbb)
              clear hbb
              refine wpAny_take (i := 7) (v := ?vH5) rfl (by kernel_rfl) (by kernel_rfl) (by kernel_rfl) (fun _ _ _ h => h) (Or.inl ⟨by rfl, ?hyH5⟩) ?_
              case hyH5 => intro w; go_simp; (first | done | (with_reducible rfl))
              refine wpAny_done (by kernel_rfl) ?_ _
              go_wp2_with fail
              go_roundg (h - i)
              case measure => have := HI.out; omega
              case rel => exact ⟨i, h, rfl, rfl, h1, by omega, ⟨by omega⟩, ⟨HSH.out hlow⟩, HB2⟩
            exact AllReady.nil
          exact AllReady.nil
        refine AllReady.cons rfl (fun K hK => ?_) ?_
        · go_simp
          refine hK _ _ ?_
          clear hK K
          skip
          refine wpAny_ready (rs := [4]) (by kernel_rfl) (by simp) ?_
          refine AllReady.cons rfl (fun K hK => ?_) ?_
          · go_simp
            refine hK _ _ ?_
            clear hK K
            skip
            refine wpAny_ready (rs := [6]) (by kernel_rfl) (by simp) ?_
            refine AllReady.cons rfl (fun K hK => ?_) ?_
            · go_simp
              refine (byname_calls p x _).mono ?_
              rintro e wb ⟨rfl, hbb⟩
              refine hK _ _ ?_
              clear hK K
              rw [← HCV.out]
              have HB2 := Aside0.mk (below_then HB'.out hbb)
              clear hbb
              refine wpAny_take (i := 7) (v := ?vH6) rfl (by kernel_rfl) (by kernel_rfl) (by kernel_rfl) (fun _ _ _ h => h) (Or.inl ⟨by rfl, ?hyH6⟩) ?_
              case hyH6 => intro w; go_simp; (first | done | (with_reducible rfl))
              refine wpAny_done (by kernel_rfl) ?_ _
              go_wp2_with fail
              go_roundg (h - i)
              case measure => have := HI.out; omega
              case rel => exact ⟨i, h, rfl, rfl, h1, by omega, ⟨by omega⟩, ⟨HSH.out hlow⟩, HB2⟩
            exact AllReady.nil
          exact AllReady.nil
        exact AllReady.nil
    · have hz : ¬ (i : Int) < (j : Int) := by omega
      obtain rfl : i = j := by omega
      have HP := Aside0.mk (HPS.out i hjn HS.out)
      by_cases hin : i < nl
      · have hz2 : (i : Int) < (nl : Int) := by omega
        obtain ⟨p, hp⟩ : ∃ p, l[i]? = some p := ⟨l[i]'(by rw [← HN.out]; exact hin), List.getElem?_eq_getElem _⟩
        obtain ⟨r, rfl, -, hr, hr0, hr1⟩ := rowP_get HR.out hp
        have c0 := cell_bl HB.out hr0
        have c1 := cell_bl HB.out hr1
        have hxx : wr.heap[w.heap.size]? = some (.cells #[.string x.1, .string x.2] 36 (0, 0)) := Kb.blk HBX.out (Kb.of_below (S := fun _ => False) HB.out) (fun h => h)
        have b0 := (blk_cell hxx 0).trans rfl
        have b1 := (blk_cell hxx 1).trans rfl
        clear hp hr0 hr1 hr hxx
        go_wp2_with fail
        go_region_held3 (fun w' => w'.cell? ⟨r, i * 2, none⟩ = some (.string p.1) ∧ w'.cell? ⟨r, i * 2 + 1, none⟩ = some (.string p.2) ∧ w'.cell? ⟨w.heap.size, 0, none⟩ = some (.string x.1) ∧ w'.cell? ⟨w.heap.size, 1, none⟩ = some (.string x.2)) (first | exact ⟨by assumption, by assumption, by assumption, by assumption⟩ | go_keep) ((first | (go_at_call 22; (with_reducible refine (byname_calls p x _).mono ?_); rintro y w2 ⟨rfl, hb⟩; have d0 : w2.cell? ⟨r, i * 2, none⟩ = some (.string p.1) := (pw_cell_below hb (by with_unfolding_all exact c0)); have d1 : w2.cell? ⟨r, i * 2 + 1, none⟩ = some (.string p.2) := (pw_cell_below hb (by with_unfolding_all exact c1)); have f0 : w2.cell? ⟨w.heap.size, 0, none⟩ = some (.string x.1) := (pw_cell_below hb (by with_unfolding_all exact b0)); have f1 : w2.cell? ⟨w.heap.size, 1, none⟩ = some (.string x.2) := (pw_cell_below hb (by with_unfolding_all exact b1)); have HB2 := Aside0.mk (below_then (w := w0) (below_drew1 HB.out) hb); clear hb)))
        all_goals go_wp2_with fail
        all_goals go_ret2
        all_goals exact ⟨⟨_, by rw [HP.out]; rfl⟩, below_then HB0.out HB2.out⟩
      · have hz2 : ¬ (i : Int) < (nl : Int) := by omega
        go_wp2_with fail
        go_quiet (fail)
        go_wp2_with fail
        go_ret2
        exact ⟨⟨_, by rw [HP.out]; rfl⟩, below_then HB0.out (pw_below_drewN HB.out _)⟩
end Go.Proofs.YtkkaaipiaandaaaDoor.PC
