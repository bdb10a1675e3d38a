/- Written by a program of this session (wip/hand.py, over the kit's print): functions of the given program as plain Lean functions, and that the machine's calls come to what these say. -/
import Derived.Test.YtoihjhpabccigaaPN
import Derived.Test.YtoihjhpabccigaaHA
import Derived.Test.YtoihjhpabccigaaHL
import Derived.Test.YtoihjhpabccigaaPRx0
import Derived.Test.YtoihjhpabccigaaPRx3
import Derived.Test.YtoihjhpabccigaaPRx4
namespace Go.Proofs.Ytoihjhpabccigaa.PR
open Go.RowKit Go.Proofs.YtoihjhpabccigaaW.PrintWords Go.Proofs.YtoihjhpabccigaaW.PrintLast Go.Proofs.YtoihjhpabccigaaW.PrintMore
attribute [local go_sem] max2_int min2_int max_two min_two max_three min_three max_four min_four   -- for this text's walks alone
set_option linter.unusedVariables false
set_option linter.unusedSimpArgs false

/-! ### driftnetlaw09_ranges: function 17 -/
def driftnetlaw09_ranges.l0 : Nat → List (S38) → List (S41) → Int → Option ((List (S41)))
  | 0, _, _, _ => none
  | k + 1, x0, x3, x4 => if x4 < (x0.length : Int) then (if 0 ≤ x4 then (if x3.length < 8796093022208 then (driftnetlaw09_ranges.l0 k x0 (x3 ++ [(⟨(rd_T38 x0 x4).f0, (rd_T38 x0 x4).f1⟩ : S41)]) (wrap64 (x4 + 1))) else (none)) else (none)) else (some x3)
def driftnetlaw09_ranges.f (k : Nat) (l0 : List (S38)) : Option ((List (S41))) := driftnetlaw09_ranges.l0 k l0 ([] : List (S41)) 0
theorem driftnetlaw09_ranges.mono_l : ∀ k, (∀ y0 y1 y2, LeO (driftnetlaw09_ranges.l0 k y0 y1 y2) (driftnetlaw09_ranges.l0 (k + 1) y0 y1 y2))
  | 0 => fun _ _ _ r h => by simp [driftnetlaw09_ranges.l0] at h
  | k + 1 => by
    have ih0 := driftnetlaw09_ranges.mono_l k
    · intro y0 y1 y2
      unfold driftnetlaw09_ranges.l0
      repeat' first
      | (with_reducible exact ih0 _ _ _)
      | (with_reducible exact LeO.refl _)
      | (with_reducible exact LeO.none _)
      | (with_reducible refine LeO.ite ?_ ?_)
      | (with_reducible refine LeO.bind ?_ (fun _ => ?_))
      | exact ih0 _ _ _
      | exact LeO.none _
      | refine LeO.ite ?_ ?_
      | refine LeO.bind ?_ (fun _ => ?_)
theorem driftnetlaw09_ranges.mono : ∀ a0 k, LeO (driftnetlaw09_ranges.f k a0) (driftnetlaw09_ranges.f (k + 1) a0) := by
  intro a0 k
  have ih0 := driftnetlaw09_ranges.mono_l k
  unfold driftnetlaw09_ranges.f
  repeat' first
      | (with_reducible exact ih0 _ _ _)
      | (with_reducible exact LeO.refl _)
      | (with_reducible exact LeO.none _)
      | (with_reducible refine LeO.ite ?_ ?_)
      | (with_reducible refine LeO.bind ?_ (fun _ => ?_))
      | exact ih0 _ _ _
      | exact LeO.none _
      | refine LeO.ite ?_ ?_
      | refine LeO.bind ?_ (fun _ => ?_)
def driftnetlaw09_ranges.T5 : Bool × List (List Nat × List Nat) := (true, [([], []), ([], []), ([], []), ([1, 2], [1, 2]), ([3], [3]), ([4], [4]), ([], []), ([], []), ([6, 7], [6, 7]), ([8], [8]), ([9], [9]), ([5, 10], [5, 10]), ([11], [11]), ([0, 12], [0, 12]), ([13, 13, 0, 1, 2, 3, 4, 5, 6, 7, 8, 9, 10, 11, 12, 13], [0, 13])])
def driftnetlaw09_ranges.B5 : List Nat := [0, 0, 0, 6, 14, 30, 0, 0, 192, 448, 960, 2046, 4094, 8191, 16383]
theorem driftnetlaw09_ranges.tab5 : rtab .any (opsOf Try.f17 5) = driftnetlaw09_ranges.T5 := by kernel_rfl
theorem driftnetlaw09_ranges.bits5 : waitsOk driftnetlaw09_ranges.T5.2 driftnetlaw09_ranges.B5 = true := by kernel_rfl
set_option maxHeartbeats 8000000 in
set_option maxRecDepth 100000 in
theorem driftnetlaw09_ranges.calls (k : Nat) (A0 : Option Addr) (c0 : Nat) (l0 : List (S38)) (r : List (S41)) (w : World) (hr0 : Kd.C k38 w A0 l0.length l0) (hc0 : l0.length ≤ c0) (h : driftnetlaw09_ranges.f k l0 = some r) :
    Calls Try.prog 17 #[.slice A0 l0.length c0] w fun e w' => ∃ v0_ : Value, e = .returned (v0_) ∧ Kd.R k41 41 w' w.heap.size (fun _ => True) v0_ r ∧ Below w.heap.size w w' := by
  have hu41 := Try.underlying41
  have HR0 := Aside0.mk hr0
  have HC0 := Aside0.mk hc0
  clear hr0 hc0
  have HB := Aside0.mk (Below.refl w.heap.size w)
  have H : (driftnetlaw09_ranges.l0 k l0 ([] : List (S41)) 0) = some r := h
  clear h
  have H' := Aside0.mk H
  clear H
  go_enter Try.func17, Try.ntmps17
  go_wp2
  go_loopg [3, 4] k (fun kq v3 v4 w' => ∃ (x3_1 : List (S41)) (x4_1 : Int), v4 = .int .i64 x4_1 ∧ Aside0 (driftnetlaw09_ranges.l0 kq l0 x3_1 x4_1 = some r) ∧ Aside0 (kq ≤ k) ∧ Aside0 (Kd.R k41 41 w' w.heap.size (fun _ => True) v3 x3_1) ∧ Aside0 (Below w.heap.size w w'))
  case atStart => exact ⟨(([] : List (S41))), (0), (by first | rfl | (simp; done) | (simp [*]; done)), H', ⟨Nat.le_refl _⟩, ⟨by first | exact Kd.R_nil _ _ _ _ _ | exact Kd.N_nil _ _ _ _ _ | exact Kd.V_nil _ _ _ _ _ | exact Kd.Q_nil _ _ _ _ _ | exact Kd.S_nil _ _ _ _ _⟩, ⟨by repeat (first | (with_reducible first | exact HB.out | apply below_alloc | apply pw_below_drewN | apply below_drew1) | exact HB.out)⟩⟩
  case round =>
    clear H'
    try clear c1
    obtain ⟨x3_1, x4_1, rfl, HA, HK1, HO_3, HB⟩ := hrel
    cases gk with
    | zero => exact absurd HA.out (by simp [driftnetlaw09_ranges.l0])
    | succ k1 =>
      have H := HA.out
      clear HA
      simp only [driftnetlaw09_ranges.l0] at H
      by_cases c2 : x4_1 < (l0.length : Int)
      · rw [if_pos c2] at H
        have c2b0 : decide (x4_1 < (l0.length : Int)) = true := decide_eq_true c2
        clear c2
        by_cases c3 : 0 ≤ x4_1
        · rw [if_pos c3] at H
          have c3b0 : decide (0 ≤ x4_1) = true := decide_eq_true c3
          clear c3
          by_cases c4 : x3_1.length < 8796093022208
          · rw [if_pos c4] at H
            have LMc4 := Aside0.mk c4
            clear c4
            obtain ⟨y164, hy164⟩ : ∃ y_ : List (S41), y_ = (x3_1 ++ [(⟨(rd_T38 l0 x4_1).f0, (rd_T38 l0 x4_1).f1⟩ : S41)]) := ⟨_, rfl⟩
            replace H : (driftnetlaw09_ranges.l0 k1 l0 y164 (wrap64 (x4_1 + 1))) = some r := by first | (rw [hy164]; with_reducible exact H) | (have H2_ := (Option.bind_some _ _).symm.trans H; rw [hy164]; with_reducible exact H2_) | (have H2_ := (Option.bind_some _ _).symm.trans H; with_reducible exact H2_) | with_reducible exact H | (rw [hy164]; exact H) | exact H
            have Ny164 := Aside0.mk hy164
            clear hy164
            have H' := Aside0.mk H
            clear H
            try go_wp2
            have n0_ := Aside0.mk (Kd.R_drew HO_3.out)
            have n1_ := Aside0.mk (below_drew1 HB.out)
            clear HO_3
            clear HB
            have HO_3 := n0_
            have HB := n1_
            clear n0_ n1_
            have p162 : 0 ≤ (x4_1 : Int) := of_decide_eq_true (by first | (with_reducible assumption) | assumption)
            have q162 : x4_1 < (l0.length : Int) := of_decide_eq_true (by first | (with_reducible assumption) | assumption)
            obtain ⟨ad162, e162, hx162_0, hx162_1⟩ := at_T38 HR0.out x4_1 p162 q162
            have hw162_1 := hx162_1
            have hw162_0 := hx162_0
            cases e162
            replace hx162_0 := (HB.out.cell (World.block_lt_of_cell? w _ hx162_0)).trans hx162_0
            replace hx162_1 := (HB.out.cell (World.block_lt_of_cell? w _ hx162_1)).trans hx162_1
            replace p162 := eq_true p162
            replace q162 := eq_true q162
            have p163 : 0 ≤ (x4_1 : Int) := of_decide_eq_true (by first | (with_reducible assumption) | assumption)
            have q163 : x4_1 < (l0.length : Int) := of_decide_eq_true (by first | (with_reducible assumption) | assumption)
            obtain ⟨ad163, e163, hx163_0, hx163_1⟩ := at_T38 HR0.out x4_1 p163 q163
            have hw163_1 := hx163_1
            have hw163_0 := hx163_0
            obtain rfl : ad162 = ad163 := (by injection e163)
            replace hx163_0 := (HB.out.cell (World.block_lt_of_cell? w _ hx163_0)).trans hx163_0
            replace hx163_1 := (HB.out.cell (World.block_lt_of_cell? w _ hx163_1)).trans hx163_1
            replace p163 := eq_true p163
            replace q163 := eq_true q163
            refine start_ (n := 15) (S := fun w' => w'.cell? (ad162.add ((x4_1).toNat * 2)) = some (.int .i64 ((rd_T38 l0 x4_1).f0)) ∧ w'.cell? ⟨(ad162.add ((x4_1).toNat * 2)).block, (ad162.add ((x4_1).toNat * 2)).off + 1, none⟩ = some (.int .i64 ((rd_T38 l0 x4_1).f1)) ∧ w'.cell? (ad162.add ((x4_1).toNat * 2)) = some (.int .i64 ((rd_T38 l0 x4_1).f0)) ∧ w'.cell? ⟨(ad162.add ((x4_1).toNat * 2)).block, (ad162.add ((x4_1).toNat * 2)).off + 1, none⟩ = some (.int .i64 ((rd_T38 l0 x4_1).f1))) (ds := []) #[false, false, false, false, false, false, false, false, false, false, false, false, false, false, false] (by kernel_rfl) rfl rfl ⟨((HB.out.cell (World.block_lt_of_cell? w _ hw162_0)).trans hw162_0), ((HB.out.cell (World.block_lt_of_cell? w _ hw162_1)).trans hw162_1), ((HB.out.cell (World.block_lt_of_cell? w _ hw163_0)).trans hw163_0), ((HB.out.cell (World.block_lt_of_cell? w _ hw163_1)).trans hw163_1)⟩ (fun hHeld => ?_); refine with_tabW driftnetlaw09_ranges.tab5 driftnetlaw09_ranges.bits5 (fun HT_ HW_ => ?_)
            generalize wr.drew = w5 at HO_3 HB hx162_0 hx162_1 hx163_0 hx163_1 hHeld ⊢
            refine pure_ (i := 0) (N := some 11) (v := ?_) (a' := ?_) #[true, false, false, false, false, false, false, false, false, false, false, false, false, false, false] rfl rfl (any_of HT_.out (by kernel_rfl)) (fun _ _ _ h => h) (Or.inl ⟨by rfl, ?_⟩) ?_ ?_
            rotate_left
            · intro w'
              go_simp
              with_reducible rfl
            rotate_left
            · simp only [Act.put, List.setIfInBounds_toArray, List.set_cons_zero, List.set_cons_succ, i64_w, i32_w]
              rfl
            refine pure_ (i := 1) (N := some 12) (v := ?_) (a' := ?_) #[true, true, false, false, false, false, false, false, false, false, false, false, false, false, false] rfl rfl (any_of HT_.out (by kernel_rfl)) (fun _ _ _ h => h) (Or.inl ⟨by rfl, ?_⟩) ?_ ?_
            rotate_left
            · intro w'
              go_simp
              with_reducible rfl
            rotate_left
            · simp only [Act.put, List.setIfInBounds_toArray, List.set_cons_zero, List.set_cons_succ, i64_w, i32_w]
              rfl
            refine pure_ (i := 2) (N := some 13) (v := ?_) (a' := ?_) #[true, true, true, false, false, false, false, false, false, false, false, false, false, false, false] rfl rfl (any_of HT_.out (by kernel_rfl)) (fun _ _ _ h => h) (Or.inl ⟨by rfl, ?_⟩) ?_ ?_
            rotate_left
            · intro w'
              go_simp
              with_reducible rfl
            rotate_left
            · simp only [Act.put, List.setIfInBounds_toArray, List.set_cons_zero, List.set_cons_succ, i64_w, i32_w]
              rfl
            refine pure_ (i := 3) (N := some 14) (v := ?_) (a' := ?_) #[true, true, true, true, false, false, false, false, false, false, false, false, false, false, false] rfl rfl (any_of HT_.out (by kernel_rfl)) (fun _ _ _ h => h) (Or.inl ⟨by rfl, ?_⟩) ?_ ?_
            rotate_left
            · intro w'
              go_simp
              with_reducible rfl
            rotate_left
            · simp only [Act.put, List.setIfInBounds_toArray, List.set_cons_zero, List.set_cons_succ, i64_w, i32_w]
              rfl
            refine pure_ (i := 4) (N := some 15) (v := ?_) (a' := ?_) #[true, true, true, true, true, false, false, false, false, false, false, false, false, false, false] rfl rfl (any_of HT_.out (by kernel_rfl)) (fun _ _ _ h => h) (Or.inl ⟨by rfl, ?_⟩) ?_ ?_
            rotate_left
            · intro w'
              go_simp
              with_reducible rfl
            rotate_left
            · simp only [Act.put, List.setIfInBounds_toArray, List.set_cons_zero, List.set_cons_succ, i64_w, i32_w]
              rfl
            refine pure_ (i := 6) (N := some 17) (v := ?_) (a' := ?_) #[true, true, true, true, true, false, true, false, false, false, false, false, false, false, false] rfl rfl (any_of HT_.out (by kernel_rfl)) (fun _ _ _ h => h) (Or.inl ⟨by rfl, ?_⟩) ?_ ?_
            rotate_left
            · intro w'
              go_simp
              with_reducible rfl
            rotate_left
            · simp only [Act.put, List.setIfInBounds_toArray, List.set_cons_zero, List.set_cons_succ, i64_w, i32_w]
              rfl
            refine pure_ (i := 7) (N := some 18) (v := ?_) (a' := ?_) #[true, true, true, true, true, false, true, true, false, false, false, false, false, false, false] rfl rfl (any_of HT_.out (by kernel_rfl)) (fun _ _ _ h => h) (Or.inl ⟨by rfl, ?_⟩) ?_ ?_
            rotate_left
            · intro w'
              go_simp
              with_reducible rfl
            rotate_left
            · simp only [Act.put, List.setIfInBounds_toArray, List.set_cons_zero, List.set_cons_succ, i64_w, i32_w]
              rfl
            refine pure_ (i := 8) (N := some 19) (v := ?_) (a' := ?_) #[true, true, true, true, true, false, true, true, true, false, false, false, false, false, false] rfl rfl (any_of HT_.out (by kernel_rfl)) (fun _ _ _ h => h) (Or.inl ⟨by rfl, ?_⟩) ?_ ?_
            rotate_left
            · intro w'
              go_simp
              with_reducible rfl
            rotate_left
            · simp only [Act.put, List.setIfInBounds_toArray, List.set_cons_zero, List.set_cons_succ, i64_w, i32_w]
              rfl
            refine pure_ (i := 9) (N := some 20) (v := ?_) (a' := ?_) #[true, true, true, true, true, false, true, true, true, true, false, false, false, false, false] rfl rfl (any_of HT_.out (by kernel_rfl)) (fun _ _ _ h => h) (Or.inl ⟨by rfl, ?_⟩) ?_ ?_
            rotate_left
            · intro w'
              go_simp
              with_reducible rfl
            rotate_left
            · simp only [Act.put, List.setIfInBounds_toArray, List.set_cons_zero, List.set_cons_succ, i64_w, i32_w]
              rfl
            refine take_ (i := 5) (N := some 16) (v := ?_) (a' := ?_) #[true, true, true, true, true, true, true, true, true, true, false, false, false, false, false] rfl rfl (take_ofW HT_.out HW_.out (by kernel_rfl)) (fun _ _ _ h => h) (Or.inl ⟨by rfl, ?_⟩) hHeld ?_ ?_
            rotate_left
            · rintro w' ⟨s0, s1, s2, s3⟩
              go_simp
              with_reducible rfl
            rotate_left
            · simp only [Act.put, List.setIfInBounds_toArray, List.set_cons_zero, List.set_cons_succ, i64_w, i32_w]
              rfl
            refine take_ (i := 10) (N := some 21) (v := ?_) (a' := ?_) #[true, true, true, true, true, true, true, true, true, true, true, false, false, false, false] rfl rfl (take_ofW HT_.out HW_.out (by kernel_rfl)) (fun _ _ _ h => h) (Or.inl ⟨by rfl, ?_⟩) hHeld ?_ ?_
            rotate_left
            · rintro w' ⟨s0, s1, s2, s3⟩
              go_simp
              with_reducible rfl
            rotate_left
            · simp only [Act.put, List.setIfInBounds_toArray, List.set_cons_zero, List.set_cons_succ, i64_w, i32_w]
              rfl
            refine pure_ (i := 11) (N := some 22) (v := ?_) (a' := ?_) #[true, true, true, true, true, true, true, true, true, true, true, true, false, false, false] rfl rfl (any_of HT_.out (by kernel_rfl)) (fun _ _ _ h => h) (Or.inl ⟨by rfl, ?_⟩) ?_ ?_
            rotate_left
            · intro w'
              go_simp
              with_reducible rfl
            rotate_left
            · simp only [Act.put, List.setIfInBounds_toArray, List.set_cons_zero, List.set_cons_succ, i64_w, i32_w]
              rfl
            refine one_ (i := 12) (N := some 23) #[true, true, true, true, true, true, true, true, true, true, true, true, true, false, false] rfl rfl (one_of HT_.out (by kernel_rfl)) (by decide) (fun K hK => ?_)
            refine value_ (w1 := ?_) (v := ?_) (by rfl) rfl ?_ ?_
            rotate_left 2
            · go_simp
              constructor
              · rfl
              · rfl
            refine hK.out _ _ ⟨(World.cell?_alloc_lt _ _ _ (World.block_lt_of_cell? _ _ (((HB.out.cell (World.block_lt_of_cell? w _ hw162_0)).trans hw162_0)))).trans (((HB.out.cell (World.block_lt_of_cell? w _ hw162_0)).trans hw162_0)), (World.cell?_alloc_lt _ _ _ (World.block_lt_of_cell? _ _ (((HB.out.cell (World.block_lt_of_cell? w _ hw162_1)).trans hw162_1)))).trans (((HB.out.cell (World.block_lt_of_cell? w _ hw162_1)).trans hw162_1)), (World.cell?_alloc_lt _ _ _ (World.block_lt_of_cell? _ _ (((HB.out.cell (World.block_lt_of_cell? w _ hw163_0)).trans hw163_0)))).trans (((HB.out.cell (World.block_lt_of_cell? w _ hw163_0)).trans hw163_0)), (World.cell?_alloc_lt _ _ _ (World.block_lt_of_cell? _ _ (((HB.out.cell (World.block_lt_of_cell? w _ hw163_1)).trans hw163_1)))).trans (((HB.out.cell (World.block_lt_of_cell? w _ hw163_1)).trans hw163_1))⟩ (fun hHeld => ?_)
            clear hK K
            refine norm_ (a' := ?_) ?_ ?_
            rotate_left
            · show Act.put _ (some 23) _ = _
              simp only [Act.put, List.setIfInBounds_toArray, List.set_cons_zero, List.set_cons_succ, i64_w, i32_w]
              rfl
            refine one_ (i := 13) (N := some 24) #[true, true, true, true, true, true, true, true, true, true, true, true, true, true, false] rfl rfl (one_of HT_.out (by kernel_rfl)) (by decide) (fun K hK => ?_)
            refine Kd.R_append_step k41 (w0 := w) w.heap.size (by rfl) (.tmp 11) (.tmp 23) 22 41 (.agg #[(.int .i64 0), (.int .i64 0)]) 16 rfl Try.underlying22 info41 rfl (by decide) (by omega) u3 x3_1 (⟨(rd_T38 l0 x4_1).f0, (rd_T38 l0 x4_1).f1⟩ : S41) [.int .i64 ((rd_T38 l0 x4_1).f0), .int .i64 ((rd_T38 l0 x4_1).f1)] (fun _ => True) (fun _ => False) rfl rfl ?aP (fun _ hk => hk.elim) ?aF ?aO ?aB ?aS ?aL ?_
            (case aP => exact k41_mkM _ _ _ (⟨(rd_T38 l0 x4_1).f0, (rd_T38 l0 x4_1).f1⟩ : S41))
            (case aB => exact (by repeat (first | (with_reducible first | exact HB.out | apply below_alloc | apply pw_below_drewN | apply below_drew1) | exact HB.out)))
            (case aF => exact (fun _ _ => trivial))
            (case aO => exact (by (with_reducible repeat (first | apply Kd.R_alloc | apply Kd.R_drewN | apply Kd.R_drew)); exact HO_3.out))
            (case aS => exact (below_size (by repeat (first | (with_reducible first | exact HB.out | apply below_alloc | apply pw_below_drewN | apply below_drew1) | exact HB.out))))
            (case aL => have := LMc4.out; omega)
            intro v165 w6 ho hb hg hat
            rw [← Ny164.out] at ho
            have n0_ := Aside0.mk (hb)
            have n1_ := Aside0.mk (ho)
            clear HB
            clear HO_3
            have HB := n0_
            have HO166 := n1_
            clear n0_ n1_
            clear ho hb hg hat
            refine hK.out _ _ ⟨((HB.out.cell (World.block_lt_of_cell? w _ hw162_0)).trans hw162_0), ((HB.out.cell (World.block_lt_of_cell? w _ hw162_1)).trans hw162_1), ((HB.out.cell (World.block_lt_of_cell? w _ hw163_0)).trans hw163_0), ((HB.out.cell (World.block_lt_of_cell? w _ hw163_1)).trans hw163_1)⟩ (fun hHeld => ?_)
            clear hK K
            refine norm_ (a' := ?_) ?_ ?_
            rotate_left
            · show Act.put _ (some 24) _ = _
              simp only [Act.put, List.setIfInBounds_toArray, List.set_cons_zero, List.set_cons_succ, i64_w, i32_w]
              rfl
            refine pure_ (i := 14) (N := some 3) (v := ?_) (a' := ?_) #[true, true, true, true, true, true, true, true, true, true, true, true, true, true, true] rfl rfl (any_of HT_.out (by kernel_rfl)) (fun _ _ _ h => h) (Or.inl ⟨by rfl, ?_⟩) ?_ ?_
            rotate_left
            · intro w'
              go_simp
              with_reducible rfl
            rotate_left
            · simp only [Act.put, List.setIfInBounds_toArray, List.set_cons_zero, List.set_cons_succ, i64_w, i32_w]
              rfl
            refine done_ (done_of HT_.out (by kernel_rfl)) ?_
            try go_wp2
            go_roundg k1
            case measure => have := HK1.out; omega
            case rel => exact ⟨(y164), (wrap64 (x4_1 + 1)), (by first | rfl | (simp; done) | (simp [*]; done)), H', ⟨by have := HK1.out; omega⟩, ⟨by (with_reducible repeat (first | apply Kd.R_alloc | apply Kd.R_drewN | apply Kd.R_drew)); exact HO166.out⟩, ⟨by repeat (first | (with_reducible first | exact HB.out | apply below_alloc | apply pw_below_drewN | apply below_drew1) | exact HB.out)⟩⟩
          · rw [if_neg c4] at H
            exact absurd H (by simp)
        · rw [if_neg c3] at H
          exact absurd H (by simp)
      · rw [if_neg c2] at H
        have c2b0 : decide (x4_1 < (l0.length : Int)) = false := decide_eq_false c2
        clear c2
        obtain rfl := Option.some.inj H
        go_wp2
        go_ret
        exact ⟨_, by first | rfl | (simp [errW_none, errW_some] <;> rfl) | (simp [*, errW_none, errW_some] <;> rfl), by (with_reducible repeat (first | apply Kd.R_alloc | apply Kd.R_drewN | apply Kd.R_drew)); exact HO_3.out, by repeat (first | (with_reducible first | exact HB.out | apply below_alloc | apply pw_below_drewN | apply below_drew1) | exact HB.out)⟩

/-! ### driftnetlaw09_RunesCount: function 3 (by hand) -/
def driftnetlaw09_RunesCount.T1 : Bool × List (List Nat × List Nat) := (true, [([], []), ([], []), ([1], [1]), ([2], [2]), ([0, 3], [0, 3]), ([4], [4]), ([], []), ([], []), ([7], [7]), ([8], [8]), ([6, 9], [6, 9]), ([10, 5], [10]), ([5, 11, 0, 1, 2, 3, 4, 5], [5]), ([11, 12, 0, 1, 2, 3, 4, 5, 6, 7, 8, 9, 10, 11, 12], [11])])
def driftnetlaw09_RunesCount.B1 : List Nat := [0, 0, 2, 6, 15, 31, 0, 0, 128, 384, 960, 2047, 4095, 8191]
theorem driftnetlaw09_RunesCount.tab1 : rtab .any (opsOf Try.f3 1) = driftnetlaw09_RunesCount.T1 := by kernel_rfl
theorem driftnetlaw09_RunesCount.bits1 : waitsOk driftnetlaw09_RunesCount.T1.2 driftnetlaw09_RunesCount.B1 = true := by kernel_rfl
def driftnetlaw09_RunesCount.f (k : Nat) (l0 : List (S41)) (l1 : List (S41)) : Option Bool := (driftnetlaw09_set.f k (l0.take 15)).bind fun x => ((driftnetlaw09_set.f k (l1.take 15)).bind fun y => ((runes_Join.f [x, y]).bind fun jn => ((runes_Set_Size.f k jn).bind fun sj => ((runes_Both.f k x y).bind fun bo => ((runes_Set_Size.f k bo).bind fun sb => ((runes_Set_Size.f k x).bind fun sx => ((runes_Set_Size.f k y).bind fun sy => (if 0 ≤ sj ∧ sj ≤ 10000000 ∧ 0 ≤ sb ∧ sb ≤ 10000000 ∧ 0 ≤ sx ∧ sx ≤ 10000000 ∧ 0 ≤ sy ∧ sy ≤ 10000000 then (if sj + sb = sx + sy then ((runes_Set_Not.f k x).bind fun nx => ((runes_Set_Size.f k nx).bind fun sn => (if 0 ≤ sn ∧ sn ≤ 10000000 then (if sx + sn = 1114112 then ((driftnetlaw09_awake.f k).bind fun e1 => if e1 = true then (some true) else none) else none) else none))) else none) else none))))))))
theorem driftnetlaw09_RunesCount.mono : ∀ a0 a1 k, LeO (driftnetlaw09_RunesCount.f k a0 a1) (driftnetlaw09_RunesCount.f (k + 1) a0 a1) := by
  intro a0 a1 k
  unfold driftnetlaw09_RunesCount.f
  repeat' first
      | (with_reducible exact driftnetlaw09_set.mono _ _)
      | (with_reducible exact runes_Set_Size.mono _ _)
      | (with_reducible exact runes_Both.mono _ _ _)
      | (with_reducible exact runes_Set_Not.mono _ _)
      | (with_reducible exact driftnetlaw09_awake.mono _)
      | (with_reducible exact LeO.refl _)
      | (with_reducible exact LeO.none _)
      | (with_reducible refine LeO.ite ?_ ?_)
      | (with_reducible refine LeO.bind ?_ (fun _ => ?_))
      | exact driftnetlaw09_set.mono _ _
      | exact runes_Set_Size.mono _ _
      | exact runes_Both.mono _ _ _
      | exact runes_Set_Not.mono _ _
      | exact driftnetlaw09_awake.mono _
      | exact LeO.refl _
      | exact LeO.none _
      | refine LeO.ite ?_ ?_
      | refine LeO.bind ?_ (fun _ => ?_)
set_option maxHeartbeats 6000000 in
set_option maxRecDepth 100000 in
theorem driftnetlaw09_RunesCount.calls (k : Nat) (A0 : Option Addr) (c0 : Nat) (l0 : List (S41)) (A1 : Option Addr) (c1 : Nat) (l1 : List (S41)) (r : Bool) (w : World) (hrl0 : Kd.C k41 w A0 l0.length l0) (hcl0 : l0.length ≤ c0) (hrl1 : Kd.C k41 w A1 l1.length l1) (hcl1 : l1.length ≤ c1) (h : driftnetlaw09_RunesCount.f k l0 l1 = some r) :
    Calls Try.prog 3 #[.slice A0 l0.length c0, .slice A1 l1.length c1] w fun e w' => e = .returned (.bool r) ∧ Below w.heap.size w w' := by
  unfold driftnetlaw09_RunesCount.f at h
  obtain ⟨x, a_, h_⟩ := Option.bind_eq_some_iff.mp h
  clear h
  have h := h_
  clear h_
  have Hx := Aside0.mk a_
  clear a_
  obtain ⟨y, a_, h_⟩ := Option.bind_eq_some_iff.mp h
  clear h
  have h := h_
  clear h_
  have Hy := Aside0.mk a_
  clear a_
  obtain ⟨jn, a_, h_⟩ := Option.bind_eq_some_iff.mp h
  clear h
  have h := h_
  clear h_
  have Hjn := Aside0.mk a_
  clear a_
  obtain ⟨sj, a_, h_⟩ := Option.bind_eq_some_iff.mp h
  clear h
  have h := h_
  clear h_
  have Hsj := Aside0.mk a_
  clear a_
  obtain ⟨bo, a_, h_⟩ := Option.bind_eq_some_iff.mp h
  clear h
  have h := h_
  clear h_
  have Hbo := Aside0.mk a_
  clear a_
  obtain ⟨sb, a_, h_⟩ := Option.bind_eq_some_iff.mp h
  clear h
  have h := h_
  clear h_
  have Hsb := Aside0.mk a_
  clear a_
  obtain ⟨sx, a_, h_⟩ := Option.bind_eq_some_iff.mp h
  clear h
  have h := h_
  clear h_
  have Hsx := Aside0.mk a_
  clear a_
  obtain ⟨sy, a_, h_⟩ := Option.bind_eq_some_iff.mp h
  clear h
  have h := h_
  clear h_
  have Hsy := Aside0.mk a_
  clear a_
  by_cases hc_ : 0 ≤ sj ∧ sj ≤ 10000000 ∧ 0 ≤ sb ∧ sb ≤ 10000000 ∧ 0 ≤ sx ∧ sx ≤ 10000000 ∧ 0 ≤ sy ∧ sy ≤ 10000000
  rotate_left
  · rw [if_neg hc_] at h; cases h
  rw [if_pos hc_] at h
  have HQ0 := Aside0.mk hc_
  clear hc_
  by_cases hc_ : sj + sb = sx + sy
  rotate_left
  · rw [if_neg hc_] at h; cases h
  rw [if_pos hc_] at h
  have HQ1 := Aside0.mk hc_
  clear hc_
  obtain ⟨nx, a_, h_⟩ := Option.bind_eq_some_iff.mp h
  clear h
  have h := h_
  clear h_
  have Hnx := Aside0.mk a_
  clear a_
  obtain ⟨sn, a_, h_⟩ := Option.bind_eq_some_iff.mp h
  clear h
  have h := h_
  clear h_
  have Hsn := Aside0.mk a_
  clear a_
  by_cases hc_ : 0 ≤ sn ∧ sn ≤ 10000000
  rotate_left
  · rw [if_neg hc_] at h; cases h
  rw [if_pos hc_] at h
  have HQ2 := Aside0.mk hc_
  clear hc_
  by_cases hc_ : sx + sn = 1114112
  rotate_left
  · rw [if_neg hc_] at h; cases h
  rw [if_pos hc_] at h
  have HQ3 := Aside0.mk hc_
  clear hc_
  obtain ⟨e1, a_, h_⟩ := Option.bind_eq_some_iff.mp h
  clear h
  have h := h_
  clear h_
  have He1 := Aside0.mk a_
  clear a_
  by_cases hc_ : e1 = true
  rotate_left
  · rw [if_neg hc_] at h; cases h
  rw [if_pos hc_] at h
  rw [hc_] at He1
  clear hc_
  obtain rfl := Option.some.inj h
  clear h
  have R_l0 := Aside0.mk hrl0
  have C_l0 := Aside0.mk hcl0
  clear hrl0 hcl0
  have B_l0 := Aside0.mk (Below.refl w.heap.size w)
  have R_l1 := Aside0.mk hrl1
  have C_l1 := Aside0.mk hcl1
  clear hrl1 hcl1
  have B_l1 := Aside0.mk (Below.refl w.heap.size w)
  have HB := Aside0.mk (Below.refl w.heap.size w)
  obtain ⟨m_l0, hm_l0⟩ : ∃ m_ : Int, (if 15 < (l0.length : Int) then 15 else (l0.length : Int)) = m_ := ⟨_, rfl⟩
  have q0_l0 : 0 ≤ m_l0 := by rw [← hm_l0]; split <;> omega
  have q1_l0 : m_l0 ≤ (l0.length : Int) := by rw [← hm_l0]; split <;> omega
  have q2_l0 : l0.take m_l0.toNat = l0.take 15 := by
    rw [← hm_l0]
    split
    · rfl
    · rw [Int.toNat_natCast, List.take_of_length_le (Nat.le_refl _), List.take_of_length_le (by omega)]
  obtain ⟨i_l0, hi_l0, _, _, _⟩ := info_parts info41
  have hcut_l0 := cut_to (P := Try.prog) 22 41 .i64 Try.underlying22 hi_l0 A0 l0.length c0 m_l0 q0_l0 q1_l0 C_l0.out
  have hr_l0 := Kd.C_take (m := m_l0.toNat) R_l0.out (by omega)
  have hl_l0 : (l0.take m_l0.toNat).length = m_l0.toNat := by rw [List.length_take]; omega
  rw [← hl_l0] at hcut_l0
  rw [q2_l0] at hr_l0 hcut_l0
  have hc_l0 : (l0.take 15).length ≤ c0 := by have := C_l0.out; rw [List.length_take]; omega
  obtain ⟨a, hy_l0⟩ : ∃ y_, y_ = l0.take 15 := ⟨_, rfl⟩
  rw [← hy_l0] at hr_l0 hcut_l0 hc_l0
  have R_a := Aside0.mk hr_l0
  have C_a := Aside0.mk hc_l0
  have Y_a := Aside0.mk hy_l0
  clear hr_l0 hc_l0 hy_l0 q2_l0 hl_l0 hi_l0
  obtain ⟨m_l1, hm_l1⟩ : ∃ m_ : Int, (if 15 < (l1.length : Int) then 15 else (l1.length : Int)) = m_ := ⟨_, rfl⟩
  have q0_l1 : 0 ≤ m_l1 := by rw [← hm_l1]; split <;> omega
  have q1_l1 : m_l1 ≤ (l1.length : Int) := by rw [← hm_l1]; split <;> omega
  have q2_l1 : l1.take m_l1.toNat = l1.take 15 := by
    rw [← hm_l1]
    split
    · rfl
    · rw [Int.toNat_natCast, List.take_of_length_le (Nat.le_refl _), List.take_of_length_le (by omega)]
  obtain ⟨i_l1, hi_l1, _, _, _⟩ := info_parts info41
  have hcut_l1 := cut_to (P := Try.prog) 22 41 .i64 Try.underlying22 hi_l1 A1 l1.length c1 m_l1 q0_l1 q1_l1 C_l1.out
  have hr_l1 := Kd.C_take (m := m_l1.toNat) R_l1.out (by omega)
  have hl_l1 : (l1.take m_l1.toNat).length = m_l1.toNat := by rw [List.length_take]; omega
  rw [← hl_l1] at hcut_l1
  rw [q2_l1] at hr_l1 hcut_l1
  have hc_l1 : (l1.take 15).length ≤ c1 := by have := C_l1.out; rw [List.length_take]; omega
  obtain ⟨b, hy_l1⟩ : ∃ y_, y_ = l1.take 15 := ⟨_, rfl⟩
  rw [← hy_l1] at hr_l1 hcut_l1 hc_l1
  have R_b := Aside0.mk hr_l1
  have C_b := Aside0.mk hc_l1
  have Y_b := Aside0.mk hy_l1
  clear hr_l1 hc_l1 hy_l1 q2_l1 hl_l1 hi_l1
  simp only [← Y_a.out, ← Y_b.out] at Hx Hy
  go_enter Try.func3, Try.ntmps3
  try go_wp2
  have B_a := Aside0.mk (below_drew1 (Below.refl w.heap.size w))
  have B_b := Aside0.mk (below_drew1 (Below.refl w.heap.size w))
  have hb := below_drew1 (Below.refl w.heap.size w)
  have Z_ := Aside0.mk (below_step (by repeat (first | exact B_l0.out | apply below_alloc | apply pw_below_drewN | apply below_drew1)) hb)
  clear B_l0
  have B_l0 := Z_
  clear Z_
  have Z_ := Aside0.mk (below_step (by repeat (first | exact B_l1.out | apply below_alloc | apply pw_below_drewN | apply below_drew1)) hb)
  clear B_l1
  have B_l1 := Z_
  clear Z_
  have Z_ := Aside0.mk (below_step (by repeat (first | exact HB.out | apply below_alloc | apply pw_below_drewN | apply below_drew1)) hb)
  clear HB
  have HB := Z_
  clear Z_
  clear hb
  refine start_ (n := 14) (S := fun w' => True) (ds := []) #[false, false, false, false, false, false, false, false, false, false, false, false, false, false] (by kernel_rfl) rfl rfl trivial (fun hHeld => ?_); refine with_tabW driftnetlaw09_RunesCount.tab1 driftnetlaw09_RunesCount.bits1 (fun HT_ HW_ => ?_)
  generalize w.drew = w100 at B_a B_b B_l0 B_l1 HB hHeld ⊢
  refine pure_ (i := 0) (N := some 7) (v := ?_) (a' := ?_) #[true, false, false, false, false, false, false, false, false, false, false, false, false, false] rfl rfl (any_of HT_.out (by kernel_rfl)) (fun _ _ _ h => h) (Or.inl ⟨by rfl, ?_⟩) ?_ ?_
  rotate_left
  · intro w'
    go_simp
    with_reducible rfl
  rotate_left
  · simp only [Act.put, List.setIfInBounds_toArray, List.set_cons_zero, List.set_cons_succ, i64_w, i32_w]
    rfl
  refine pure_ (i := 1) (N := some 8) (v := ?_) (a' := ?_) #[true, true, false, false, false, false, false, false, false, false, false, false, false, false] rfl rfl (any_of HT_.out (by kernel_rfl)) (fun _ _ _ h => h) (Or.inl ⟨by rfl, ?_⟩) ?_ ?_
  rotate_left
  · intro w'
    go_simp
    with_reducible rfl
  rotate_left
  · simp only [Act.put, List.setIfInBounds_toArray, List.set_cons_zero, List.set_cons_succ, i64_w, i32_w]
    rfl
  refine pure_ (i := 2) (N := some 9) (v := ?_) (a' := ?_) #[true, true, true, false, false, false, false, false, false, false, false, false, false, false] rfl rfl (any_of HT_.out (by kernel_rfl)) (fun _ _ _ h => h) (Or.inl ⟨by rfl, ?_⟩) ?_ ?_
  rotate_left
  · intro w'
    go_simp
    with_reducible rfl
  rotate_left
  · simp only [Act.put, List.setIfInBounds_toArray, List.set_cons_zero, List.set_cons_succ, i64_w, i32_w]
    rfl
  refine pure_ (i := 3) (N := some 10) (v := ?_) (a' := ?_) #[true, true, true, true, false, false, false, false, false, false, false, false, false, false] rfl rfl (any_of HT_.out (by kernel_rfl)) (fun _ _ _ h => h) (Or.inl ⟨by rfl, ?_⟩) ?_ ?_
  rotate_left
  · intro w'
    go_simp
    with_reducible rfl
  rotate_left
  · simp only [Act.put, List.setIfInBounds_toArray, List.set_cons_zero, List.set_cons_succ, i64_w, i32_w]
    rfl
  refine pure_ (i := 4) (N := some 11) (v := ?_) (a' := ?_) #[true, true, true, true, true, false, false, false, false, false, false, false, false, false] rfl rfl (any_of HT_.out (by kernel_rfl)) (fun _ _ _ h => h) (Or.inl ⟨by rfl, ?_⟩) ?_ ?_
  rotate_left
  · intro w'
    go_simp
    with_reducible rfl
  rotate_left
  · simp only [Act.put, List.setIfInBounds_toArray, List.set_cons_zero, List.set_cons_succ, i64_w, i32_w]
    rfl
  refine pure_ (i := 6) (N := some 13) (v := ?_) (a' := ?_) #[true, true, true, true, true, false, true, false, false, false, false, false, false, false] rfl rfl (any_of HT_.out (by kernel_rfl)) (fun _ _ _ h => h) (Or.inl ⟨by rfl, ?_⟩) ?_ ?_
  rotate_left
  · intro w'
    go_simp
    with_reducible rfl
  rotate_left
  · simp only [Act.put, List.setIfInBounds_toArray, List.set_cons_zero, List.set_cons_succ, i64_w, i32_w]
    rfl
  refine pure_ (i := 7) (N := some 14) (v := ?_) (a' := ?_) #[true, true, true, true, true, false, true, true, false, false, false, false, false, false] rfl rfl (any_of HT_.out (by kernel_rfl)) (fun _ _ _ h => h) (Or.inl ⟨by rfl, ?_⟩) ?_ ?_
  rotate_left
  · intro w'
    go_simp
    with_reducible rfl
  rotate_left
  · simp only [Act.put, List.setIfInBounds_toArray, List.set_cons_zero, List.set_cons_succ, i64_w, i32_w]
    rfl
  refine pure_ (i := 8) (N := some 15) (v := ?_) (a' := ?_) #[true, true, true, true, true, false, true, true, true, false, false, false, false, false] rfl rfl (any_of HT_.out (by kernel_rfl)) (fun _ _ _ h => h) (Or.inl ⟨by rfl, ?_⟩) ?_ ?_
  rotate_left
  · intro w'
    go_simp
    with_reducible rfl
  rotate_left
  · simp only [Act.put, List.setIfInBounds_toArray, List.set_cons_zero, List.set_cons_succ, i64_w, i32_w]
    rfl
  refine pure_ (i := 9) (N := some 16) (v := ?_) (a' := ?_) #[true, true, true, true, true, false, true, true, true, true, false, false, false, false] rfl rfl (any_of HT_.out (by kernel_rfl)) (fun _ _ _ h => h) (Or.inl ⟨by rfl, ?_⟩) ?_ ?_
  rotate_left
  · intro w'
    go_simp
    with_reducible rfl
  rotate_left
  · simp only [Act.put, List.setIfInBounds_toArray, List.set_cons_zero, List.set_cons_succ, i64_w, i32_w]
    rfl
  refine pure_ (i := 10) (N := some 17) (v := ?_) (a' := ?_) #[true, true, true, true, true, false, true, true, true, true, true, false, false, false] rfl rfl (any_of HT_.out (by kernel_rfl)) (fun _ _ _ h => h) (Or.inl ⟨by rfl, ?_⟩) ?_ ?_
  rotate_left
  · intro w'
    go_simp
    with_reducible rfl
  rotate_left
  · simp only [Act.put, List.setIfInBounds_toArray, List.set_cons_zero, List.set_cons_succ, i64_w, i32_w]
    rfl
  refine one_ (i := 5) (N := some 12) #[true, true, true, true, true, true, true, true, true, true, true, false, false, false] rfl rfl (one_of HT_.out (by kernel_rfl)) (by decide) (fun K hK => ?_)
  refine goes_ Try.func9 (by kernel_rfl) rfl #[.slice A0 a.length c0] (by rfl) rfl rfl (by (try simp only [List.map_toArray, List.map_cons, List.map_nil]); first | done | rfl) ?_
  with_reducible refine (driftnetlaw09_set.calls k _ _ a _ _ (by repeat (first | exact (Kd.C_below R_a.out B_a.out) | (with_reducible refine Kd.C_alloc ?_ _) | (with_reducible refine Kd.C_drewN ?_ _) | (with_reducible refine Kd.C_drew ?_))) C_a.out Hx.out).mono ?_
  rintro e w101 ⟨v, rfl, ho, hb⟩
  refine ⟨_, rfl, ?_⟩
  obtain ⟨A_x, c_x, rfl, hlo, hC⟩ := Kd.R_reads ho
  clear ho
  have Z_ := Aside0.mk (below_step (by repeat (first | exact B_l0.out | apply below_alloc | apply pw_below_drewN | apply below_drew1)) hb)
  clear B_l0
  have B_l0 := Z_
  clear Z_
  have Z_ := Aside0.mk (below_step (by repeat (first | exact B_l1.out | apply below_alloc | apply pw_below_drewN | apply below_drew1)) hb)
  clear B_l1
  have B_l1 := Z_
  clear Z_
  have Z_ := Aside0.mk (below_step (by repeat (first | exact B_a.out | apply below_alloc | apply pw_below_drewN | apply below_drew1)) hb)
  clear B_a
  have B_a := Z_
  clear Z_
  have Z_ := Aside0.mk (below_step (by repeat (first | exact B_b.out | apply below_alloc | apply pw_below_drewN | apply below_drew1)) hb)
  clear B_b
  have B_b := Z_
  clear Z_
  have Z_ := Aside0.mk (below_step (by repeat (first | exact HB.out | apply below_alloc | apply pw_below_drewN | apply below_drew1)) hb)
  clear HB
  have HB := Z_
  clear Z_
  clear hb
  have R_x := Aside0.mk hC
  have C_x := Aside0.mk hlo
  clear hC hlo
  have B_x := Aside0.mk (Below.refl w101.heap.size w101)
  refine hK.out _ _ trivial (fun hHeld => ?_)
  clear hK K
  refine norm_ (a' := ?_) ?_ ?_
  rotate_left
  · show Act.put _ (some 12) _ = _
    simp only [Act.put, List.setIfInBounds_toArray, List.set_cons_zero, List.set_cons_succ, i64_w, i32_w]
    rfl
  refine one_ (i := 11) (N := some 18) #[true, true, true, true, true, true, true, true, true, true, true, true, false, false] rfl rfl (one_of HT_.out (by kernel_rfl)) (by decide) (fun K hK => ?_)
  refine goes_ Try.func9 (by kernel_rfl) rfl #[.slice A1 b.length c1] (by rfl) rfl rfl (by (try simp only [List.map_toArray, List.map_cons, List.map_nil]); first | done | rfl) ?_
  with_reducible refine (driftnetlaw09_set.calls k _ _ b _ _ (by repeat (first | exact (Kd.C_below R_b.out B_b.out) | (with_reducible refine Kd.C_alloc ?_ _) | (with_reducible refine Kd.C_drewN ?_ _) | (with_reducible refine Kd.C_drew ?_))) C_b.out Hy.out).mono ?_
  rintro e w102 ⟨v, rfl, ho, hb⟩
  refine ⟨_, rfl, ?_⟩
  obtain ⟨A_y, c_y, rfl, hlo, hC⟩ := Kd.R_reads ho
  clear ho
  have Z_ := Aside0.mk (below_step (by repeat (first | exact B_l0.out | apply below_alloc | apply pw_below_drewN | apply below_drew1)) hb)
  clear B_l0
  have B_l0 := Z_
  clear Z_
  have Z_ := Aside0.mk (below_step (by repeat (first | exact B_l1.out | apply below_alloc | apply pw_below_drewN | apply below_drew1)) hb)
  clear B_l1
  have B_l1 := Z_
  clear Z_
  have Z_ := Aside0.mk (below_step (by repeat (first | exact B_a.out | apply below_alloc | apply pw_below_drewN | apply below_drew1)) hb)
  clear B_a
  have B_a := Z_
  clear Z_
  have Z_ := Aside0.mk (below_step (by repeat (first | exact B_b.out | apply below_alloc | apply pw_below_drewN | apply below_drew1)) hb)
  clear B_b
  have B_b := Z_
  clear Z_
  have Z_ := Aside0.mk (below_step (by repeat (first | exact B_x.out | apply below_alloc | apply pw_below_drewN | apply below_drew1)) hb)
  clear B_x
  have B_x := Z_
  clear Z_
  have Z_ := Aside0.mk (below_step (by repeat (first | exact HB.out | apply below_alloc | apply pw_below_drewN | apply below_drew1)) hb)
  clear HB
  have HB := Z_
  clear Z_
  clear hb
  have R_y := Aside0.mk hC
  have C_y := Aside0.mk hlo
  clear hC hlo
  have B_y := Aside0.mk (Below.refl w102.heap.size w102)
  refine hK.out _ _ trivial (fun hHeld => ?_)
  clear hK K
  refine norm_ (a' := ?_) ?_ ?_
  rotate_left
  · show Act.put _ (some 18) _ = _
    simp only [Act.put, List.setIfInBounds_toArray, List.set_cons_zero, List.set_cons_succ, i64_w, i32_w]
    rfl
  refine pure_ (i := 12) (N := some 5) (v := ?_) (a' := ?_) #[true, true, true, true, true, true, true, true, true, true, true, true, true, false] rfl rfl (any_of HT_.out (by kernel_rfl)) (fun _ _ _ h => h) (Or.inl ⟨by rfl, ?_⟩) ?_ ?_
  rotate_left
  · intro w'
    go_simp
    with_reducible rfl
  rotate_left
  · simp only [Act.put, List.setIfInBounds_toArray, List.set_cons_zero, List.set_cons_succ, i64_w, i32_w]
    rfl
  refine pure_ (i := 13) (N := some 6) (v := ?_) (a' := ?_) #[true, true, true, true, true, true, true, true, true, true, true, true, true, true] rfl rfl (any_of HT_.out (by kernel_rfl)) (fun _ _ _ h => h) (Or.inl ⟨by rfl, ?_⟩) ?_ ?_
  rotate_left
  · intro w'
    go_simp
    with_reducible rfl
  rotate_left
  · simp only [Act.put, List.setIfInBounds_toArray, List.set_cons_zero, List.set_cons_succ, i64_w, i32_w]
    rfl
  refine done_ (done_of HT_.out (by kernel_rfl)) ?_
  clear R_a C_a B_a
  clear R_b C_b B_b
  clear R_l0 C_l0 B_l0
  clear R_l1 C_l1 B_l1
  clear hcut_l0 hcut_l1 q0_l0 q1_l0 q0_l1 q1_l1 hm_l0 hm_l1
  go_wp2_with fail
  with_reducible refine (join2c _ _ _ _ x y _ _ (by repeat (first | exact (Kd.C_below R_x.out B_x.out) | (with_reducible refine Kd.C_alloc ?_ _) | (with_reducible refine Kd.C_drewN ?_ _) | (with_reducible refine Kd.C_drew ?_))) C_x.out (by repeat (first | exact (Kd.C_below R_y.out B_y.out) | (with_reducible refine Kd.C_alloc ?_ _) | (with_reducible refine Kd.C_drewN ?_ _) | (with_reducible refine Kd.C_drew ?_))) C_y.out Hjn.out).mono ?_
  rintro e w103 ⟨v, rfl, ho, hb⟩
  obtain ⟨A_jn, c_jn, rfl, hlo, hC⟩ := Kd.R_reads ho
  clear ho
  have Z_ := Aside0.mk (below_step (by repeat (first | exact B_x.out | apply below_alloc | apply pw_below_drewN | apply below_drew1)) hb)
  clear B_x
  have B_x := Z_
  clear Z_
  have Z_ := Aside0.mk (below_step (by repeat (first | exact B_y.out | apply below_alloc | apply pw_below_drewN | apply below_drew1)) hb)
  clear B_y
  have B_y := Z_
  clear Z_
  have Z_ := Aside0.mk (below_step (by repeat (first | exact HB.out | apply below_alloc | apply pw_below_drewN | apply below_drew1)) hb)
  clear HB
  have HB := Z_
  clear Z_
  clear hb
  have R_jn := Aside0.mk hC
  have C_jn := Aside0.mk hlo
  clear hC hlo
  have B_jn := Aside0.mk (Below.refl w103.heap.size w103)
  go_wp2_with fail
  with_reducible refine (runes_Set_Size.calls k _ _ jn _ _ (by repeat (first | exact (Kd.C_below R_jn.out B_jn.out) | (with_reducible refine Kd.C_alloc ?_ _) | (with_reducible refine Kd.C_drewN ?_ _) | (with_reducible refine Kd.C_drew ?_))) C_jn.out Hsj.out).mono ?_
  rintro e w104 ⟨rfl, hb⟩
  have Z_ := Aside0.mk (below_step (by repeat (first | exact B_x.out | apply below_alloc | apply pw_below_drewN | apply below_drew1)) hb)
  clear B_x
  have B_x := Z_
  clear Z_
  have Z_ := Aside0.mk (below_step (by repeat (first | exact B_y.out | apply below_alloc | apply pw_below_drewN | apply below_drew1)) hb)
  clear B_y
  have B_y := Z_
  clear Z_
  have Z_ := Aside0.mk (below_step (by repeat (first | exact B_jn.out | apply below_alloc | apply pw_below_drewN | apply below_drew1)) hb)
  clear B_jn
  have B_jn := Z_
  clear Z_
  have Z_ := Aside0.mk (below_step (by repeat (first | exact HB.out | apply below_alloc | apply pw_below_drewN | apply below_drew1)) hb)
  clear HB
  have HB := Z_
  clear Z_
  clear hb
  clear R_jn C_jn B_jn
  go_wp2_with fail
  with_reducible refine (runes_Both.calls k _ _ x _ _ y _ _ (by repeat (first | exact (Kd.C_below R_x.out B_x.out) | (with_reducible refine Kd.C_alloc ?_ _) | (with_reducible refine Kd.C_drewN ?_ _) | (with_reducible refine Kd.C_drew ?_))) C_x.out (by repeat (first | exact (Kd.C_below R_y.out B_y.out) | (with_reducible refine Kd.C_alloc ?_ _) | (with_reducible refine Kd.C_drewN ?_ _) | (with_reducible refine Kd.C_drew ?_))) C_y.out Hbo.out).mono ?_
  rintro e w105 ⟨v, rfl, ho, hb⟩
  obtain ⟨A_bo, c_bo, rfl, hlo, hC⟩ := Kd.R_reads ho
  clear ho
  have Z_ := Aside0.mk (below_step (by repeat (first | exact B_x.out | apply below_alloc | apply pw_below_drewN | apply below_drew1)) hb)
  clear B_x
  have B_x := Z_
  clear Z_
  have Z_ := Aside0.mk (below_step (by repeat (first | exact B_y.out | apply below_alloc | apply pw_below_drewN | apply below_drew1)) hb)
  clear B_y
  have B_y := Z_
  clear Z_
  have Z_ := Aside0.mk (below_step (by repeat (first | exact HB.out | apply below_alloc | apply pw_below_drewN | apply below_drew1)) hb)
  clear HB
  have HB := Z_
  clear Z_
  clear hb
  have R_bo := Aside0.mk hC
  have C_bo := Aside0.mk hlo
  clear hC hlo
  have B_bo := Aside0.mk (Below.refl w105.heap.size w105)
  go_wp2_with fail
  with_reducible refine (runes_Set_Size.calls k _ _ bo _ _ (by repeat (first | exact (Kd.C_below R_bo.out B_bo.out) | (with_reducible refine Kd.C_alloc ?_ _) | (with_reducible refine Kd.C_drewN ?_ _) | (with_reducible refine Kd.C_drew ?_))) C_bo.out Hsb.out).mono ?_
  rintro e w106 ⟨rfl, hb⟩
  have Z_ := Aside0.mk (below_step (by repeat (first | exact B_x.out | apply below_alloc | apply pw_below_drewN | apply below_drew1)) hb)
  clear B_x
  have B_x := Z_
  clear Z_
  have Z_ := Aside0.mk (below_step (by repeat (first | exact B_y.out | apply below_alloc | apply pw_below_drewN | apply below_drew1)) hb)
  clear B_y
  have B_y := Z_
  clear Z_
  have Z_ := Aside0.mk (below_step (by repeat (first | exact B_bo.out | apply below_alloc | apply pw_below_drewN | apply below_drew1)) hb)
  clear B_bo
  have B_bo := Z_
  clear Z_
  have Z_ := Aside0.mk (below_step (by repeat (first | exact HB.out | apply below_alloc | apply pw_below_drewN | apply below_drew1)) hb)
  clear HB
  have HB := Z_
  clear Z_
  clear hb
  clear R_bo C_bo B_bo
  obtain ⟨g0, g1, g2, g3, g4, g5, g6, g7⟩ := HQ0.out
  have ge := HQ1.out
  go_wp2_with fail
  with_reducible refine (runes_Set_Size.calls k _ _ x _ _ (by repeat (first | exact (Kd.C_below R_x.out B_x.out) | (with_reducible refine Kd.C_alloc ?_ _) | (with_reducible refine Kd.C_drewN ?_ _) | (with_reducible refine Kd.C_drew ?_))) C_x.out Hsx.out).mono ?_
  rintro e w107 ⟨rfl, hb⟩
  have Z_ := Aside0.mk (below_step (by repeat (first | exact B_x.out | apply below_alloc | apply pw_below_drewN | apply below_drew1)) hb)
  clear B_x
  have B_x := Z_
  clear Z_
  have Z_ := Aside0.mk (below_step (by repeat (first | exact B_y.out | apply below_alloc | apply pw_below_drewN | apply below_drew1)) hb)
  clear B_y
  have B_y := Z_
  clear Z_
  have Z_ := Aside0.mk (below_step (by repeat (first | exact HB.out | apply below_alloc | apply pw_below_drewN | apply below_drew1)) hb)
  clear HB
  have HB := Z_
  clear Z_
  clear hb
  go_wp2_with fail
  with_reducible refine (runes_Set_Size.calls k _ _ y _ _ (by repeat (first | exact (Kd.C_below R_y.out B_y.out) | (with_reducible refine Kd.C_alloc ?_ _) | (with_reducible refine Kd.C_drewN ?_ _) | (with_reducible refine Kd.C_drew ?_))) C_y.out Hsy.out).mono ?_
  rintro e w108 ⟨rfl, hb⟩
  have Z_ := Aside0.mk (below_step (by repeat (first | exact B_x.out | apply below_alloc | apply pw_below_drewN | apply below_drew1)) hb)
  clear B_x
  have B_x := Z_
  clear Z_
  have Z_ := Aside0.mk (below_step (by repeat (first | exact B_y.out | apply below_alloc | apply pw_below_drewN | apply below_drew1)) hb)
  clear B_y
  have B_y := Z_
  clear Z_
  have Z_ := Aside0.mk (below_step (by repeat (first | exact HB.out | apply below_alloc | apply pw_below_drewN | apply below_drew1)) hb)
  clear HB
  have HB := Z_
  clear Z_
  clear hb
  have gb : ((sj + sb) != (sx + sy)) = false := by rw [ge]; simp
  have gb2 : ((sj + sb) == (sx + sy)) = true := by rw [ge]; simp
  clear ge
  go_wp2_with fail
  with_reducible refine (runes_Set_Size.calls k _ _ x _ _ (by repeat (first | exact (Kd.C_below R_x.out B_x.out) | (with_reducible refine Kd.C_alloc ?_ _) | (with_reducible refine Kd.C_drewN ?_ _) | (with_reducible refine Kd.C_drew ?_))) C_x.out Hsx.out).mono ?_
  rintro e w109 ⟨rfl, hb⟩
  have Z_ := Aside0.mk (below_step (by repeat (first | exact B_x.out | apply below_alloc | apply pw_below_drewN | apply below_drew1)) hb)
  clear B_x
  have B_x := Z_
  clear Z_
  have Z_ := Aside0.mk (below_step (by repeat (first | exact B_y.out | apply below_alloc | apply pw_below_drewN | apply below_drew1)) hb)
  clear B_y
  have B_y := Z_
  clear Z_
  have Z_ := Aside0.mk (below_step (by repeat (first | exact HB.out | apply below_alloc | apply pw_below_drewN | apply below_drew1)) hb)
  clear HB
  have HB := Z_
  clear Z_
  clear hb
  go_wp2_with fail
  with_reducible refine (runes_Set_Not.calls k _ _ x _ _ (by repeat (first | exact (Kd.C_below R_x.out B_x.out) | (with_reducible refine Kd.C_alloc ?_ _) | (with_reducible refine Kd.C_drewN ?_ _) | (with_reducible refine Kd.C_drew ?_))) C_x.out Hnx.out).mono ?_
  rintro e w110 ⟨v, rfl, ho, hb⟩
  obtain ⟨A_nx, c_nx, rfl, hlo, hC⟩ := Kd.R_reads ho
  clear ho
  have Z_ := Aside0.mk (below_step (by repeat (first | exact B_x.out | apply below_alloc | apply pw_below_drewN | apply below_drew1)) hb)
  clear B_x
  have B_x := Z_
  clear Z_
  have Z_ := Aside0.mk (below_step (by repeat (first | exact B_y.out | apply below_alloc | apply pw_below_drewN | apply below_drew1)) hb)
  clear B_y
  have B_y := Z_
  clear Z_
  have Z_ := Aside0.mk (below_step (by repeat (first | exact HB.out | apply below_alloc | apply pw_below_drewN | apply below_drew1)) hb)
  clear HB
  have HB := Z_
  clear Z_
  clear hb
  have R_nx := Aside0.mk hC
  have C_nx := Aside0.mk hlo
  clear hC hlo
  have B_nx := Aside0.mk (Below.refl w110.heap.size w110)
  obtain ⟨g8, g9⟩ := HQ2.out
  have ge := HQ3.out
  go_wp2_with fail
  with_reducible refine (runes_Set_Size.calls k _ _ nx _ _ (by repeat (first | exact (Kd.C_below R_nx.out B_nx.out) | (with_reducible refine Kd.C_alloc ?_ _) | (with_reducible refine Kd.C_drewN ?_ _) | (with_reducible refine Kd.C_drew ?_))) C_nx.out Hsn.out).mono ?_
  rintro e w111 ⟨rfl, hb⟩
  have Z_ := Aside0.mk (below_step (by repeat (first | exact B_x.out | apply below_alloc | apply pw_below_drewN | apply below_drew1)) hb)
  clear B_x
  have B_x := Z_
  clear Z_
  have Z_ := Aside0.mk (below_step (by repeat (first | exact B_y.out | apply below_alloc | apply pw_below_drewN | apply below_drew1)) hb)
  clear B_y
  have B_y := Z_
  clear Z_
  have Z_ := Aside0.mk (below_step (by repeat (first | exact B_nx.out | apply below_alloc | apply pw_below_drewN | apply below_drew1)) hb)
  clear B_nx
  have B_nx := Z_
  clear Z_
  have Z_ := Aside0.mk (below_step (by repeat (first | exact HB.out | apply below_alloc | apply pw_below_drewN | apply below_drew1)) hb)
  clear HB
  have HB := Z_
  clear Z_
  clear hb
  have gc : ((sx + sn) == 1114112) = true := by rw [ge]; rfl
  have gc2 : ((sx + sn) != 1114112) = false := by rw [ge]; rfl
  clear ge
  go_wp2_with fail
  with_reducible refine (driftnetlaw09_awake.calls k _ _ He1.out).mono ?_
  rintro e w112 ⟨rfl, hb⟩
  have Z_ := Aside0.mk (below_step (by repeat (first | exact B_x.out | apply below_alloc | apply pw_below_drewN | apply below_drew1)) hb)
  clear B_x
  have B_x := Z_
  clear Z_
  have Z_ := Aside0.mk (below_step (by repeat (first | exact B_y.out | apply below_alloc | apply pw_below_drewN | apply below_drew1)) hb)
  clear B_y
  have B_y := Z_
  clear Z_
  have Z_ := Aside0.mk (below_step (by repeat (first | exact B_nx.out | apply below_alloc | apply pw_below_drewN | apply below_drew1)) hb)
  clear B_nx
  have B_nx := Z_
  clear Z_
  have Z_ := Aside0.mk (below_step (by repeat (first | exact HB.out | apply below_alloc | apply pw_below_drewN | apply below_drew1)) hb)
  clear HB
  have HB := Z_
  clear Z_
  clear hb
  go_wp2_with fail
  go_ret
  exact ⟨rfl, by repeat (first | exact HB.out | apply below_alloc | apply pw_below_drewN | apply below_drew1)⟩
def wf41 (x : S41) : Prop := ((Lit.int .i64 x.f0).wf = true) ∧ ((Lit.int .i64 x.f1).wf = true)
/-- THE ONE PURE STATEMENT of driftnetlaw09_RunesCount. -/
def driftnetlaw09_RunesCount.Pure : Prop := ∀ (l0 : List (S41)) (l1 : List (S41)), (l0.length * 16 ≤ 140737488351232 ∧ l0.length ≤ maxLen ∧ ∀ y ∈ l0, wf41 y) → (l1.length * 16 ≤ 140737488351232 ∧ l1.length ≤ maxLen ∧ ∀ y ∈ l1, wf41 y) → ∃ k, driftnetlaw09_RunesCount.f k l0 l1 = some true
theorem driftnetlaw09_RunesCount.walk (P : driftnetlaw09_RunesCount.Pure) (A0 : Option Addr) (c0 : Nat) (l0 : List (S41)) (A1 : Option Addr) (c1 : Nat) (l1 : List (S41)) (w : World) (hr0 : Kd.C k41 w A0 l0.length l0) (hc0 : l0.length ≤ c0) (hr1 : Kd.C k41 w A1 l1.length l1) (hc1 : l1.length ≤ c1) (hw0 : l0.length * 16 ≤ 140737488351232 ∧ l0.length ≤ maxLen ∧ ∀ y ∈ l0, wf41 y) (hw1 : l1.length * 16 ≤ 140737488351232 ∧ l1.length ≤ maxLen ∧ ∀ y ∈ l1, wf41 y) :
    Calls Try.prog 3 #[.slice A0 l0.length c0, .slice A1 l1.length c1] w fun e w' => e = .returned (.bool true) ∧ Below w.heap.size w w' := by
  obtain ⟨k, h⟩ := P l0 l1 hw0 hw1
  refine (driftnetlaw09_RunesCount.calls k _ _ l0 _ _ l1 true w hr0 hc0 hr1 hc1 h).mono ?_
  rintro e w' ⟨rfl, hd⟩
  exact ⟨rfl, hd⟩


end Go.Proofs.Ytoihjhpabccigaa.PR
