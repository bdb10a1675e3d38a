/- labels.Set of a name beyond all. -/
import Derived.Test.YtpobgpfkohlokaaLO
namespace Go.Proofs.Ytpobgpfkohlokaa.PC
open Go.RowKit Go.Lib Go.Shelf Go.Maps Go.Proofs.YtpobgpfkohlokaaW.PrintWords Go.Proofs.YtpobgpfkohlokaaW.PrintLast Go.Proofs.YtpobgpfkohlokaaW.PrintMore
set_option linter.unusedVariables false
set_option linter.unusedSimpArgs false
set_option maxHeartbeats 4000000 in
theorem closure72 (x : PB) (n : ByteArray) (g : Nat) (W : World) (hc : W.cell? ⟨g, 0, none⟩ = some (.string n)) : Calls Try.prog 72 #[.agg #[.string x.1, .string x.2], .pointer (some ⟨g, 0, none⟩)] W fun e w' => e = .returned (.bool (!isN n x)) ∧ Below W.heap.size W w' := by
  have c1 := cell_bl (below_alloc (Below.refl W.heap.size W) (.cells #[.string x.1, .string x.2] 74)) hc
  obtain ⟨d, hd⟩ : ∃ d, d = isN n x := ⟨_, rfl⟩
  have hd2 : (x.1.toList == n.toList) = d := hd.symm
  rw [← hd]
  clear hd
  go_enter Try.func72, Try.ntmps72
  go_wp2
  go_ret
  exact ⟨rfl, below_alloc (Below.refl _ _) _⟩
set_option maxHeartbeats 4000000 in
set_option maxRecDepth 100000 in
theorem drop_calls (l : List PB) (n : ByteArray) (B : Nat) (v : Value) (w : World) (hr : RowP B w 74 v l) (hl : l.length ≤ 1000000) (ho : InO l) : Calls Try.prog 46 #[v, .string n] w fun e w' => ∃ u, e = .returned u ∧ RowP w.heap.size w' 74 u (l.filter (fun x => !isN n x)) ∧ Below w.heap.size w w' := by
  have HB0 := Aside0.mk (below_alloc (Below.refl w.heap.size w) (.cells #[.string n] 9))
  have hb := World.alloc_heap_new w (.cells #[.string n] 9)
  have hc := choose72_calls l (fun x => !isN n x) B w.heap.size v (w.alloc (.cells #[.string n] 9)) (hr.kb ((Kb.refl (fun _ => False) w).alloc _) (fun _ _ h => h)) hl ho
    (fun W x _ hW => closure72 x n _ W (cell_bl hW ((blk_cell hb 0).trans rfl)))
  clear hr hb
  go_enter Try.func46, Try.ntmps46
  go_wp2_with fail
  refine hc.mono ?_
  rintro e w1 ⟨u, rfl, hu, hb1⟩
  have HU := Aside0.mk hu
  have HB1 := Aside0.mk (below_then HB0.out hb1)
  clear hu hb1 hc
  go_wp2_with fail
  go_ret
  exact ⟨u, rfl, own_base HU.out HB0.out.size, HB1.out⟩
set_option maxHeartbeats 4000000 in
theorem byname_calls (x y : PB) (W : World) : Calls Try.prog 48 #[.agg #[.string x.1, .string x.2], .agg #[.string y.1, .string y.2]] W fun e w' => e = .returned (.int .i64 (cfL x y)) ∧ Below W.heap.size W w' := by
  have hcon := fun W' => Try.strings_Compare x.1 y.1 W'
  unfold cfL
  generalize compareBytes x.1.data.toList y.1.data.toList = r at hcon ⊢
  go_enter Try.func48, Try.ntmps48
  go_wp2_with (go_at_call 33; refine (hcon _).mono ?_; rintro e w' ⟨rfl, rfl⟩)
  go_ret
  exact ⟨rfl, below_alloc (below_alloc (Below.refl _ _) _) _⟩
theorem u64_w {x : Int} (h0 : 0 ≤ x) (h1 : x < 18446744073709551616) : IntKind.u64.wrap x = x := by simp [IntKind.wrap, IntKind.bits, IntKind.signed]; omega
set_option maxHeartbeats 8000000 in
set_option maxRecDepth 100000 in
/-- Where a label goes whose name is beyond all: behind them. -/
theorem search_calls (l : List PB) (x : PB) (B : Nat) (v : Value) (w : World) (hr : RowP B w 74 v l) (hl : l.length ≤ 1000000) (hx : ∀ p ∈ l, cfL p x < 0) :
    Calls Try.prog 47 #[v, .agg #[.string x.1, .string x.2], .func (.func 48) #[] #[]] w fun e w' => e = .returned (.tuple #[.int .i64 (l.length : Int), .bool false]) ∧ Below w.heap.size w w' := by
  have mixed : Try.prog.follows .mixedOrders = true := by kernel_rfl
  have HB0 := Aside0.mk (below_alloc (Below.refl w.heap.size w) (.cells #[.string x.1, .string x.2] 74))
  have hbx := World.alloc_heap_new w (.cells #[.string x.1, .string x.2] 74)
  obtain ⟨w0, hw0⟩ : ∃ w0, w0 = w.alloc (.cells #[.string x.1, .string x.2] 74) := ⟨_, rfl⟩
  rw [← hw0] at hbx
  have hr0 : RowP B w0 74 v l := by rw [hw0]; exact hr.kb ((Kb.refl (fun _ => False) w).alloc _) (fun _ _ h => h)
  rw [← hw0] at HB0
  obtain ⟨A, c, rfl, hcl⟩ := own_slice hr
  obtain ⟨nl, hnl⟩ : ∃ nl, nl = l.length := ⟨_, rfl⟩
  rw [← hnl] at hcl hr0 hl ⊢
  have HR := Aside0.mk (show RowP B w0 74 (.slice A nl c) l from by rw [hnl] at hr0 ⊢; exact hr0)
  have HN := Aside0.mk hnl
  have HX := Aside0.mk hx
  have HBX := Aside0.mk hbx
  have hu74 := Try.underlying74
  clear hr hnl hx hr0 hbx
  go_enter Try.func47, Try.ntmps47
  go_wp2_with fail
  rw [← hw0]
  clear hw0
  go_loopg [9, 10] nl (fun g1 v9 v10 wr => ∃ i : Nat, v9 = .int .i64 i ∧ v10 = .int .i64 nl ∧ i ≤ nl ∧ Aside0 (nl - i ≤ g1) ∧ Aside0 (Below w0.heap.size w0 wr))
  case atStart => exact ⟨0, rfl, rfl, Nat.zero_le _, ⟨Nat.le_refl _⟩, ⟨Below.refl _ _⟩⟩
  case round =>
    obtain ⟨i, rfl, rfl, hin, HI, HB⟩ := hrel
    by_cases hlt : i < nl
    · have hz : (i : Int) < (nl : Int) := by omega
      obtain ⟨h, hh⟩ : ∃ h, h = (i + nl) / 2 := ⟨_, rfl⟩
      have h1 : i ≤ h := by omega
      have h2 : h < nl := by omega
      have e1 : IntKind.i64.wrap ((i : Int) + (nl : Int)) = ((i + nl : Nat) : Int) := (i64_w _).trans ((w64 (by omega) (by omega)).trans (by omega))
      have e2 : IntKind.u64.wrap (((i + nl : Nat) : Int)) = ((i + nl : Nat) : Int) := u64_w (by omega) (by omega)
      have e4 : IntKind.u64.wrap (h : Int) = (h : Int) := u64_w (by omega) (by omega)
      have e5 : IntKind.i64.wrap (h : Int) = (h : Int) := (i64_w _).trans (w64 (by omega) (by omega))
      have e6 : IntKind.i64.wrap ((h : Int) + 1) = ((h + 1 : Nat) : Int) := (i64_w _).trans ((w64 (by omega) (by omega)).trans (by omega))
      have e7 : ((i + nl : Nat) : Int) / 2 = (h : Int) := by omega
      have e8 : (i + nl) >>> 1 = h := by rw [Nat.shiftRight_eq_div_pow]; omega
      have e9 : (i + nl) / 2 = h := hh.symm
      obtain ⟨p, hp⟩ : ∃ p, l[h]? = some p := ⟨l[h]'(by rw [← HN.out]; exact h2), List.getElem?_eq_getElem _⟩
      obtain ⟨r, rfl, -, hr, hr0, hr1⟩ := rowP_get HR.out hp
      have c0 := cell_bl HB.out hr0
      have c1 := cell_bl HB.out hr1
      have hxx : wr.heap[w.heap.size]? = some (.cells #[.string x.1, .string x.2] 74 (0, 0)) := Kb.blk HBX.out (Kb.of_below (S := fun _ => False) HB.out) (fun h => h)
      have b0 := (blk_cell hxx 0).trans rfl
      have b1 := (blk_cell hxx 1).trans rfl
      have hlow := HX.out p (List.mem_of_getElem? hp)
      obtain ⟨cv, hcv⟩ : ∃ cv, cv = cfL p x := ⟨_, rfl⟩
      rw [← hcv] at hlow
      have HCV := Aside0.mk hcv
      have e10 : ((i : Int) + (nl : Int)) / 2 = (h : Int) := by omega
      clear hp hr0 hr1 hr hxx hcv hh
      go_wp2_with fail
      refine wp_region_any (by assumption) ?_
      try (change wpAny _ _ _ _ _ _ _ (World.drew _))
      have c0' : wr.drew.cell? ⟨r, h * 2, none⟩ = some (.string p.1) := c0
      have c1' : wr.drew.cell? ⟨r, h * 2 + 1, none⟩ = some (.string p.2) := c1
      have b0' : wr.drew.cell? ⟨w.heap.size, 0, none⟩ = some (.string x.1) := b0
      have b1' : wr.drew.cell? ⟨w.heap.size, 1, none⟩ = some (.string x.2) := b1
      have HB' := Aside0.mk (below_drew1 HB.out)
      clear c0 c1 b0 b1
      generalize wr.drew = wa at c0' c1' b0' b1' HB' ⊢
      refine wpAny_take (i := 0) (v := ?vS1) rfl (by kernel_rfl) (by kernel_rfl) (by kernel_rfl) (fun _ _ _ h => h) (Or.inl ⟨by rfl, ?hyS1⟩) ?_
      case hyS1 => intro w; go_simp; (first | done | (with_reducible rfl))
      refine wpAny_take (i := 1) (v := ?vS2) rfl (by kernel_rfl) (by kernel_rfl) (by kernel_rfl) (fun _ _ _ h => h) (Or.inl ⟨by rfl, ?hyS2⟩) ?_
      case hyS2 => intro w; go_simp; (first | done | (with_reducible rfl))
      refine wpAny_take (i := 2) (v := ?vS3) rfl (by kernel_rfl) (by kernel_rfl) (by kernel_rfl) (fun _ _ _ h => h) (Or.inl ⟨by rfl, ?hyS3⟩) ?_
      case hyS3 => intro w; go_simp; (first | done | (with_reducible rfl))
      refine wpAny_take (i := 3) (v := ?vS4) rfl (by kernel_rfl) (by kernel_rfl) (by kernel_rfl) (fun _ _ _ h => h) (Or.inl ⟨by rfl, ?hyS4⟩) ?_
      case hyS4 => intro w; go_simp; (first | done | (with_reducible rfl))
      refine wpAny_ready (rs := [4, 5]) (by kernel_rfl) (by simp) ?_
      refine AllReady.cons rfl (fun K hK => ?_) ?_
      · go_simp
        refine hK _ _ ?_
        clear hK K
        skip
        refine wpAny_ready (rs := [5]) (by kernel_rfl) (by simp) ?_
        refine AllReady.cons rfl (fun K hK => ?_) ?_
        · go_simp
          refine hK _ _ ?_
          clear hK K
          skip
          refine wpAny_ready (rs := [6]) (by kernel_rfl) (by simp) ?_
          refine AllReady.cons rfl (fun K hK => ?_) ?_
          · go_simp
            refine (byname_calls p x _).mono ?_
            rintro e wb ⟨rfl, hbb⟩
            refine hK _ _ ?_
            clear hK K
            rw [← HCV.out]
            have HB2 := Aside0.mk (below_then HB'.out hbb)
            clear hbb
            refine wpAny_take (i := 7) (v := ?vS5) rfl (by kernel_rfl) (by kernel_rfl) (by kernel_rfl) (fun _ _ _ h => h) (Or.inl ⟨by rfl, ?hyS5⟩) ?_
            case hyS5 => intro w; go_simp; (first | done | (with_reducible rfl))
            refine wpAny_done (by kernel_rfl) ?_ _
            go_wp2_with fail
            go_roundg (nl - (h + 1))
            case measure => have := HI.out; omega
            case rel => exact ⟨h + 1, by first | rfl | rw [e6], rfl, h2, ⟨by omega⟩, HB2⟩
          exact AllReady.nil
        exact AllReady.nil
      refine AllReady.cons rfl (fun K hK => ?_) ?_
      · go_simp
        refine hK _ _ ?_
        clear hK K
        skip
        refine wpAny_ready (rs := [4]) (by kernel_rfl) (by simp) ?_
        refine AllReady.cons rfl (fun K hK => ?_) ?_
        · go_simp
          refine hK _ _ ?_
          clear hK K
          skip
          refine wpAny_ready (rs := [6]) (by kernel_rfl) (by simp) ?_
          refine AllReady.cons rfl (fun K hK => ?_) ?_
          · go_simp
            refine (byname_calls p x _).mono ?_
            rintro e wb ⟨rfl, hbb⟩
            refine hK _ _ ?_
            clear hK K
            rw [← HCV.out]
            have HB2 := Aside0.mk (below_then HB'.out hbb)
            clear hbb
            refine wpAny_take (i := 7) (v := ?vS6) rfl (by kernel_rfl) (by kernel_rfl) (by kernel_rfl) (fun _ _ _ h => h) (Or.inl ⟨by rfl, ?hyS6⟩) ?_
            case hyS6 => intro w; go_simp; (first | done | (with_reducible rfl))
            refine wpAny_done (by kernel_rfl) ?_ _
            go_wp2_with fail
            go_roundg (nl - (h + 1))
            case measure => have := HI.out; omega
            case rel => exact ⟨h + 1, by first | rfl | rw [e6], rfl, h2, ⟨by omega⟩, HB2⟩
          exact AllReady.nil
        exact AllReady.nil
      exact AllReady.nil
    · have hz : ¬ (i : Int) < (nl : Int) := by omega
      obtain rfl : i = nl := by omega
      go_wp2_with fail
      go_quiet (fail)
      go_wp2_with fail
      go_ret2
      exact ⟨rfl, below_then HB0.out (pw_below_drewN HB.out _)⟩
end Go.Proofs.Ytpobgpfkohlokaa.PC
