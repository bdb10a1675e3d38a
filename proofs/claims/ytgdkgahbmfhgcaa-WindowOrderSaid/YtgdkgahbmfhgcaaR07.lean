/- What the statement rests on, part 7: RD2 RD3 RD4. -/
import Derived.Test.YtgdkgahbmfhgcaaR06
set_option linter.unusedVariables false
set_option linter.unusedSimpArgs false
set_option maxHeartbeats 4000000
set_option maxRecDepth 100000
namespace Go.Proofs.Ytgdkgahbmfhgcaa.PN
open Go.RowKit Go.Proofs.Ytgdkgahbmfhgcaa.NS Go.Proofs.Ytgdkgahbmfhgcaa.Limbs Go.Proofs.YtgdkgahbmfhgcaaW.PrintWords Go.Proofs.YtgdkgahbmfhgcaaW.PrintLast Go.Proofs.YtgdkgahbmfhgcaaW.PrintMore
def RSub.T4 : Bool × List (List Nat × List Nat) := (true, [([], []), ([0], [0]), ([], []), ([2], [2]), ([], []), ([4], [4]), ([3, 5], [3, 5]), ([6], [6]), ([], []), ([8], [8]), ([9], [9]), ([], []), ([11], [11]), ([], []), ([13], [13]), ([12, 14], [12, 14]), ([15, 7], [15]), ([1, 7, 10, 16, 16], [1, 7, 10, 16]), ([17], [17]), ([18], [18]), ([18], [18]), ([19, 17, 0, 1, 2, 3, 4, 5, 6, 7, 8, 9, 10, 11, 12, 13, 14, 15, 16, 17, 18, 19], [19]), ([20, 21, 0, 1, 2, 3, 4, 5, 6, 7, 8, 9, 10, 11, 12, 13, 14, 15, 16, 17, 18, 19, 20, 21], [20])])
def RSub.B4 : List Nat := [0, 1, 0, 4, 0, 16, 60, 124, 0, 256, 768, 0, 2048, 0, 8192, 30720, 63740, 131071, 262143, 524287, 524287, 1048575, 4194303]
theorem RSub.tab4 : rtab .any (opsOf Try.f59 4) = RSub.T4 := by kernel_rfl
theorem RSub.bits4 : waitsOk RSub.T4.2 RSub.B4 = true := by kernel_rfl
theorem rsub_calls  (s0 : Bool) (m0 d0 : Nat) (o0 : OkR s0 m0 d0) (s1 : Bool) (m1 d1 : Nat) (o1 : OkR s1 m1 d1) (A0 : Option Addr) (c0 : Nat) (A1 : Option Addr) (c1 : Nat) (A2 : Option Addr) (c2 : Nat) (A3 : Option Addr) (c3 : Nat) (w : World)
 (hrm0 : Kd.C (Kd.int .u32) w A0 (limbs m0).length (limbs m0)) (hcm0 : (limbs m0).length ≤ c0) (hrd0 : Kd.C (Kd.int .u32) w A1 (limbs d0).length (limbs d0)) (hcd0 : (limbs d0).length ≤ c1) (hrm1 : Kd.C (Kd.int .u32) w A2 (limbs m1).length (limbs m1)) (hcm1 : (limbs m1).length ≤ c2) (hrd1 : Kd.C (Kd.int .u32) w A3 (limbs d1).length (limbs d1)) (hcd1 : (limbs d1).length ≤ c3)  :
 Calls Try.prog 59 #[.agg #[.bool s0, .slice A0 (limbs m0).length c0, .slice A1 (limbs d0).length c1], .agg #[.bool s1, .slice A2 (limbs m1).length c2, .slice A3 (limbs d1).length c3]] w fun e w' => ∃ v1 v2, e = .returned (.tuple #[.agg #[.bool (red (sumB s0 (m0 * d1) (!s1) (m1 * d0)).1 (sumB s0 (m0 * d1) (!s1) (m1 * d0)).2 (d0 * d1)).1, v1, v2], .int .i64 (red (sumB s0 (m0 * d1) (!s1) (m1 * d0)).1 (sumB s0 (m0 * d1) (!s1) (m1 * d0)).2 (d0 * d1)).2.2.2]) ∧ Rd w.heap.size w' v1 (limbs (red (sumB s0 (m0 * d1) (!s1) (m1 * d0)).1 (sumB s0 (m0 * d1) (!s1) (m1 * d0)).2 (d0 * d1)).2.1) ∧ Rd w.heap.size w' v2 (limbs (red (sumB s0 (m0 * d1) (!s1) (m1 * d0)).1 (sumB s0 (m0 * d1) (!s1) (m1 * d0)).2 (d0 * d1)).2.2.1) ∧ Below w.heap.size w w' := by
 have R_m0 := a0_ hrm0
 have C_m0 := a0_ hcm0
 clear hrm0 hcm0
 have B_m0 := a0_ (Below.refl w.heap.size w)
 have R_d0 := a0_ hrd0
 have C_d0 := a0_ hcd0
 clear hrd0 hcd0
 have B_d0 := a0_ (Below.refl w.heap.size w)
 have R_m1 := a0_ hrm1
 have C_m1 := a0_ hcm1
 clear hrm1 hcm1
 have B_m1 := a0_ (Below.refl w.heap.size w)
 have R_d1 := a0_ hrd1
 have C_d1 := a0_ hcd1
 clear hrd1 hcd1
 have B_d1 := a0_ (Below.refl w.heap.size w)
 have HB := a0_ (Below.refl w.heap.size w)
 have hu30 := Try.underlying30
 have hu88 := Try.underlying88
 go_enter Try.func59, Try.ntmps59
 go_wp2_with (first | ((with_reducible refine gd_ 2 rfl ?_); refine bx_ (N := 2) #[.bool s0, .slice A0 (limbs m0).length c0, .slice A1 (limbs d0).length c1] 30 ?_; intro g_x hg w101 hbox hb; have G_x := rd_b HB hg; replace B_m0 := bl_b B_m0 hb; replace B_d0 := bl_b B_d0 hb; replace B_m1 := bl_b B_m1 hb; replace B_d1 := bl_b B_d1 hb; replace HB := bl_b HB hb; clear hb; have K_x := a0_ hbox; have B_x := a0_ (Below.refl w101.heap.size w101); clear hbox hg) | ((with_reducible refine gd_ 3 rfl ?_); refine bx_ (N := 3) #[.bool s1, .slice A2 (limbs m1).length c2, .slice A3 (limbs d1).length c3] 30 ?_; intro g_y hg w102 hbox hb; have G_y := rd_b HB hg; have N_y_x := rd_b B_x hg; replace B_m0 := bl_b B_m0 hb; replace B_d0 := bl_b B_d0 hb; replace B_m1 := bl_b B_m1 hb; replace B_d1 := bl_b B_d1 hb; replace HB := bl_b HB hb; replace B_x := bl_b B_x hb; clear hb; have K_y := a0_ hbox; have B_y := a0_ (Below.refl w102.heap.size w102); clear hbox hg) | ((with_reducible refine gd_ 4 rfl ?_); refine bx_ (N := 4) #[.bool false, .slice none 0 0, .slice none 0 0] 30 ?_; intro g_r hg w103 hbox hb; have G_r := rd_b HB hg; have N_r_x := rd_b B_x hg; have N_r_y := rd_b B_y hg; replace B_m0 := bl_b B_m0 hb; replace B_d0 := bl_b B_d0 hb; replace B_m1 := bl_b B_m1 hb; replace B_d1 := bl_b B_d1 hb; replace HB := bl_b HB hb; replace B_x := bl_b B_x hb; replace B_y := bl_b B_y hb; clear hb; have K_r := a0_ hbox; have B_r := a0_ (Below.refl w103.heap.size w103); clear hbox hg; have bk_x := blk_below K_x.out B_x.out; have hz_x_0 : w103.cell? ⟨g_x, 0, none⟩ = some (.bool s0) := (blk_cell bk_x 0).trans rfl; have hz_x_1 : w103.cell? ⟨g_x, 1, none⟩ = some (.slice A0 (limbs m0).length c0) := (blk_cell bk_x 1).trans rfl; have hz_x_2 : w103.cell? ⟨g_x, 2, none⟩ = some (.slice A1 (limbs d0).length c1) := (blk_cell bk_x 2).trans rfl; clear bk_x; have bk_y := blk_below K_y.out B_y.out; have hz_y_0 : w103.cell? ⟨g_y, 0, none⟩ = some (.bool s1) := (blk_cell bk_y 0).trans rfl; have hz_y_1 : w103.cell? ⟨g_y, 1, none⟩ = some (.slice A2 (limbs m1).length c2) := (blk_cell bk_y 1).trans rfl; have hz_y_2 : w103.cell? ⟨g_y, 2, none⟩ = some (.slice A3 (limbs d1).length c3) := (blk_cell bk_y 2).trans rfl; clear bk_y))
 with_reducible refine (rboth_calls s0 m0 d0 o0 s1 m1 d1 o1 _ _ _ _ _ _ _ _ _ (Kd.C_below R_m0.out B_m0.out) C_m0.out (Kd.C_below R_d0.out B_d0.out) C_d0.out (Kd.C_below R_m1.out B_m1.out) C_m1.out (Kd.C_below R_d1.out B_d1.out) C_d1.out).mono ?_
 rintro e w104 ⟨rfl, hb⟩
 clear hz_x_0 hz_x_1 hz_x_2
 clear hz_y_0 hz_y_1 hz_y_2
 replace B_m0 := bl_b B_m0 hb
 replace B_d0 := bl_b B_d0 hb
 replace B_m1 := bl_b B_m1 hb
 replace B_d1 := bl_b B_d1 hb
 replace HB := bl_b HB hb
 replace B_x := bl_b B_x hb
 replace B_y := bl_b B_y hb
 replace B_r := bl_b B_r hb
 clear hb
 go_wp2_with fail
 have hb : Below w104.heap.size w104 w104.drew := below_drew1 (Below.refl _ _)
 replace B_m0 := bl_b B_m0 hb
 replace B_d0 := bl_b B_d0 hb
 replace B_m1 := bl_b B_m1 hb
 replace B_d1 := bl_b B_d1 hb
 replace HB := bl_b HB hb
 replace B_x := bl_b B_x hb
 replace B_y := bl_b B_y hb
 replace B_r := bl_b B_r hb
 clear hb
 have bk_x := blk_below K_x.out B_x.out
 have hz_x_0 : w104.drew.cell? ⟨g_x, 0, none⟩ = some (.bool s0) := (blk_cell bk_x 0).trans rfl
 have hz_x_1 : w104.drew.cell? ⟨g_x, 1, none⟩ = some (.slice A0 (limbs m0).length c0) := (blk_cell bk_x 1).trans rfl
 have hz_x_2 : w104.drew.cell? ⟨g_x, 2, none⟩ = some (.slice A1 (limbs d0).length c1) := (blk_cell bk_x 2).trans rfl
 clear bk_x
 have bk_y := blk_below K_y.out B_y.out
 have hz_y_0 : w104.drew.cell? ⟨g_y, 0, none⟩ = some (.bool s1) := (blk_cell bk_y 0).trans rfl
 have hz_y_1 : w104.drew.cell? ⟨g_y, 1, none⟩ = some (.slice A2 (limbs m1).length c2) := (blk_cell bk_y 1).trans rfl
 have hz_y_2 : w104.drew.cell? ⟨g_y, 2, none⟩ = some (.slice A3 (limbs d1).length c3) := (blk_cell bk_y 2).trans rfl
 clear bk_y
 refine start_ (n := 23) (S := fun w' => w'.cell? ⟨g_x, 0, none⟩ = some (.bool s0) ∧ w'.cell? ⟨g_x, 1, none⟩ = some (.slice A0 (limbs m0).length c0) ∧ w'.cell? ⟨g_x, 2, none⟩ = some (.slice A1 (limbs d0).length c1) ∧ w'.cell? ⟨g_y, 0, none⟩ = some (.bool s1) ∧ w'.cell? ⟨g_y, 1, none⟩ = some (.slice A2 (limbs m1).length c2) ∧ w'.cell? ⟨g_y, 2, none⟩ = some (.slice A3 (limbs d1).length c3)) (ds := []) (tB_ 23 0) (by kernel_rfl) rfl (by kernel_rfl) ⟨hz_x_0, hz_x_1, hz_x_2, hz_y_0, hz_y_1, hz_y_2⟩ (fun hHeld => ?_)
 refine with_tabW RSub.tab4 RSub.bits4 (fun HT_ HW_ => ?_)
 clear hz_x_0 hz_x_1 hz_x_2 hz_y_0 hz_y_1 hz_y_2
 generalize w104.drew = w105 at B_m0 B_d0 B_m1 B_d1 HB B_x B_y B_r hHeld ⊢
 refine pu_ 0 (some 17) 1 HT_ ?_
 refine pu_ 2 (some 19) 5 HT_ ?_
 refine pu_ 4 (some 21) 21 HT_ ?_
 refine pu_ 8 (some 25) 277 HT_ ?_
 refine pu_ 11 (some 28) 2325 HT_ ?_
 refine pu_ 13 (some 30) 10517 HT_ ?_
 refine tk_ 1 (some 18) 10519 HT_ HW_ hHeld ?_ ?_ ?_ ?_ ?_
 rotate_left
 · rintro w' ⟨s0, s1, s2, s3, s4, s5⟩
   go_simp
   with_reducible rfl
 rotate_left
 · simp only [PU]
   rfl
 refine tk_ 3 (some 20) 10527 HT_ HW_ hHeld ?_ ?_ ?_ ?_ ?_
 rotate_left
 · rintro w' ⟨s0, s1, s2, s3, s4, s5⟩
   go_simp
   with_reducible rfl
 rotate_left
 · simp only [PU]
   rfl
 refine tk_ 5 (some 22) 10559 HT_ HW_ hHeld ?_ ?_ ?_ ?_ ?_
 rotate_left
 · rintro w' ⟨s0, s1, s2, s3, s4, s5⟩
   go_simp
   with_reducible rfl
 rotate_left
 · simp only [PU]
   rfl
 refine tk_ 9 (some 26) 11071 HT_ HW_ hHeld ?_ ?_ ?_ ?_ ?_
 rotate_left
 · rintro w' ⟨s0, s1, s2, s3, s4, s5⟩
   go_simp
   with_reducible rfl
 rotate_left
 · simp only [PU]
   rfl
 refine tk_ 12 (some 29) 15167 HT_ HW_ hHeld ?_ ?_ ?_ ?_ ?_
 rotate_left
 · rintro w' ⟨s0, s1, s2, s3, s4, s5⟩
   go_simp
   with_reducible rfl
 rotate_left
 · simp only [PU]
   rfl
 refine tk_ 14 (some 31) 31551 HT_ HW_ hHeld ?_ ?_ ?_ ?_ ?_
 rotate_left
 · rintro w' ⟨s0, s1, s2, s3, s4, s5⟩
   go_simp
   with_reducible rfl
 rotate_left
 · simp only [PU]
   rfl
 refine pu_ 10 (some 27) 32575 HT_ ?_
 have B_z := a0_ (Below.refl w105.heap.size w105)
 refine join_ (σ := Value × Value × Value × Value) 6 (tB_ 23 131071) (fun s => [(23, s.1), (24, s.2.1), (32, s.2.2.1), (33, s.2.2.2)]) (fun s w' => Rd w105.heap.size w' s.2.1 (limbs (m0 * d1)) ∧ Rd w105.heap.size w' s.2.2.2 (limbs (m1 * d0)) ∧ Below w105.heap.size w105 w' ∧ (w'.cell? ⟨g_x, 0, none⟩ = some (.bool s0) ∧ w'.cell? ⟨g_x, 1, none⟩ = some (.slice A0 (limbs m0).length c0) ∧ w'.cell? ⟨g_x, 2, none⟩ = some (.slice A1 (limbs d0).length c1) ∧ w'.cell? ⟨g_y, 0, none⟩ = some (.bool s1) ∧ w'.cell? ⟨g_y, 1, none⟩ = some (.slice A2 (limbs m1).length c2) ∧ w'.cell? ⟨g_y, 2, none⟩ = some (.slice A3 (limbs d1).length c3))) ?hcont ?hord
 rotate_left
 · intro HC
   refine tw_ 6 15 (some 23) (some 32) 32639 65343 HT_ (fun K hK => ?_) (fun K hK => ?_)
   · skip
     refine vl_ ?_
     refine hK.out _ _ (by obtain ⟨q0, q1, q2, q3, q4, q5⟩ := hHeld; exact ⟨pw_cell_below (below_alloc (Below.refl _ _) _) q0, pw_cell_below (below_alloc (Below.refl _ _) _) q1, pw_cell_below (below_alloc (Below.refl _ _) _) q2, pw_cell_below (below_alloc (Below.refl _ _) _) q3, pw_cell_below (below_alloc (Below.refl _ _) _) q4, pw_cell_below (below_alloc (Below.refl _ _) _) q5⟩) (fun hHeld => ?_)
     clear hK K
     refine nm_ (some 23) ?_
     have hb : Below w105.heap.size w105 (w105.alloc (.cells #[.slice A0 (limbs m0).length c0, .slice A3 (limbs d1).length c3] 28 (0, 0))) := below_alloc (Below.refl _ _) _
     have hl0 : (w105.alloc (.cells #[.slice A0 (limbs m0).length c0, .slice A3 (limbs d1).length c3] 28 (0, 0))).cell? ⟨w105.heap.size, 0, none⟩ = some (.slice A0 (limbs m0).length c0) := (blk_cell (blk_new w105 _) 0).trans rfl
     have hl1 : (w105.alloc (.cells #[.slice A0 (limbs m0).length c0, .slice A3 (limbs d1).length c3] 28 (0, 0))).cell? ⟨w105.heap.size, 1, none⟩ = some (.slice A3 (limbs d1).length c3) := (blk_cell (blk_new w105 _) 1).trans rfl
     obtain ⟨w106, hw_⟩ : ∃ x, x = w105.alloc (.cells #[.slice A0 (limbs m0).length c0, .slice A3 (limbs d1).length c3] 28 (0, 0)) := ⟨_, rfl⟩
     rw [← hw_] at hb hl0 hl1 hHeld ⊢
     obtain ⟨gl0, hgl0⟩ : ∃ x, x = w105.heap.size := ⟨_, rfl⟩
     rw [← hgl0] at hl0 hl1 ⊢
     clear hgl0 hw_
     replace B_m0 := bl_b B_m0 hb
     replace B_d0 := bl_b B_d0 hb
     replace B_m1 := bl_b B_m1 hb
     replace B_d1 := bl_b B_d1 hb
     replace HB := bl_b HB hb
     replace B_x := bl_b B_x hb
     replace B_y := bl_b B_y hb
     replace B_r := bl_b B_r hb
     replace B_z := bl_b B_z hb
     clear hb
     have LA0 := a0_ hl0
     have LB0 := a0_ hl1
     clear hl0 hl1
     have B_L0 := a0_ (Below.refl w106.heap.size w106)
     refine tw_ 7 15 (some 24) (some 32) 32767 65407 HT_ (fun K hK => ?_) (fun K hK => ?_)
     · skip
       refine gs_ Try.func36 #[.slice (some ⟨gl0, 0, none⟩) 2 2] ?_
       refine (product2_calls m0 d1 (fits16 o0.2.2.2.1) (fits16 o1.2.2.2.2) gl0 _ _ _ _ _ (pw_cell_below B_L0.out LA0.out) (pw_cell_below B_L0.out LB0.out) (Kd.C_below R_m0.out B_m0.out) C_m0.out (Kd.C_below R_d1.out B_d1.out) C_d1.out).mono ?_
       rintro e w107 ⟨v0, rfl, h1, hb⟩
       refine ⟨_, rfl, ?_⟩
       refine hK.out _ _ (by obtain ⟨q0, q1, q2, q3, q4, q5⟩ := hHeld; exact ⟨pw_cell_below hb q0, pw_cell_below hb q1, pw_cell_below hb q2, pw_cell_below hb q3, pw_cell_below hb q4, pw_cell_below hb q5⟩) (fun hHeld => ?_)
       clear hK K
       refine nm_ (some 24) ?_
       have D_p0 := a0_ (Rd.lower h1 (below_size B_z.out))
       clear h1
       replace B_m0 := bl_b B_m0 hb
       replace B_d0 := bl_b B_d0 hb
       replace B_m1 := bl_b B_m1 hb
       replace B_d1 := bl_b B_d1 hb
       replace HB := bl_b HB hb
       replace B_x := bl_b B_x hb
       replace B_y := bl_b B_y hb
       replace B_r := bl_b B_r hb
       replace B_z := bl_b B_z hb
       replace B_L0 := bl_b B_L0 hb
       clear hb
       have B_p0 := a0_ (Below.refl w107.heap.size w107)
       refine on_ 15 (some 32) 65535 HT_ (fun K hK => ?_)
       refine vl_ ?_
       refine hK.out _ _ (by obtain ⟨q0, q1, q2, q3, q4, q5⟩ := hHeld; exact ⟨pw_cell_below (below_alloc (Below.refl _ _) _) q0, pw_cell_below (below_alloc (Below.refl _ _) _) q1, pw_cell_below (below_alloc (Below.refl _ _) _) q2, pw_cell_below (below_alloc (Below.refl _ _) _) q3, pw_cell_below (below_alloc (Below.refl _ _) _) q4, pw_cell_below (below_alloc (Below.refl _ _) _) q5⟩) (fun hHeld => ?_)
       clear hK K
       refine nm_ (some 32) ?_
       have hb : Below w107.heap.size w107 (w107.alloc (.cells #[.slice A2 (limbs m1).length c2, .slice A1 (limbs d0).length c1] 28 (0, 0))) := below_alloc (Below.refl _ _) _
       have hl0 : (w107.alloc (.cells #[.slice A2 (limbs m1).length c2, .slice A1 (limbs d0).length c1] 28 (0, 0))).cell? ⟨w107.heap.size, 0, none⟩ = some (.slice A2 (limbs m1).length c2) := (blk_cell (blk_new w107 _) 0).trans rfl
       have hl1 : (w107.alloc (.cells #[.slice A2 (limbs m1).length c2, .slice A1 (limbs d0).length c1] 28 (0, 0))).cell? ⟨w107.heap.size, 1, none⟩ = some (.slice A1 (limbs d0).length c1) := (blk_cell (blk_new w107 _) 1).trans rfl
       obtain ⟨w108, hw_⟩ : ∃ x, x = w107.alloc (.cells #[.slice A2 (limbs m1).length c2, .slice A1 (limbs d0).length c1] 28 (0, 0)) := ⟨_, rfl⟩
       rw [← hw_] at hb hl0 hl1 hHeld ⊢
       obtain ⟨gl1, hgl1⟩ : ∃ x, x = w107.heap.size := ⟨_, rfl⟩
       rw [← hgl1] at hl0 hl1 ⊢
       clear hgl1 hw_
       replace B_m0 := bl_b B_m0 hb
       replace B_d0 := bl_b B_d0 hb
       replace B_m1 := bl_b B_m1 hb
       replace B_d1 := bl_b B_d1 hb
       replace HB := bl_b HB hb
       replace B_x := bl_b B_x hb
       replace B_y := bl_b B_y hb
       replace B_r := bl_b B_r hb
       replace B_z := bl_b B_z hb
       replace B_L0 := bl_b B_L0 hb
       replace B_p0 := bl_b B_p0 hb
       clear hb
       have LA1 := a0_ hl0
       have LB1 := a0_ hl1
       clear hl0 hl1
       have B_L1 := a0_ (Below.refl w108.heap.size w108)
       refine on_ 16 (some 33) 131071 HT_ (fun K hK => ?_)
       refine gs_ Try.func36 #[.slice (some ⟨gl1, 0, none⟩) 2 2] ?_
       refine (product2_calls m1 d0 (fits16 o1.2.2.2.1) (fits16 o0.2.2.2.2) gl1 _ _ _ _ _ (pw_cell_below B_L1.out LA1.out) (pw_cell_below B_L1.out LB1.out) (Kd.C_below R_m1.out B_m1.out) C_m1.out (Kd.C_below R_d0.out B_d0.out) C_d0.out).mono ?_
       rintro e w109 ⟨v1, rfl, h1, hb⟩
       refine ⟨_, rfl, ?_⟩
       refine hK.out _ _ (by obtain ⟨q0, q1, q2, q3, q4, q5⟩ := hHeld; exact ⟨pw_cell_below hb q0, pw_cell_below hb q1, pw_cell_below hb q2, pw_cell_below hb q3, pw_cell_below hb q4, pw_cell_below hb q5⟩) (fun hHeld => ?_)
       clear hK K
       refine nm_ (some 33) ?_
       have D_p1 := a0_ (Rd.lower h1 (below_size B_z.out))
       clear h1
       replace B_m0 := bl_b B_m0 hb
       replace B_d0 := bl_b B_d0 hb
       replace B_m1 := bl_b B_m1 hb
       replace B_d1 := bl_b B_d1 hb
       replace HB := bl_b HB hb
       replace B_x := bl_b B_x hb
       replace B_y := bl_b B_y hb
       replace B_r := bl_b B_r hb
       replace B_z := bl_b B_z hb
       replace B_L0 := bl_b B_L0 hb
       replace B_p0 := bl_b B_p0 hb
       replace B_L1 := bl_b B_L1 hb
       clear hb
       have B_p1 := a0_ (Below.refl w109.heap.size w109)
       exact HC (.slice (some ⟨gl0, 0, none⟩) 2 2, v0, .slice (some ⟨gl1, 0, none⟩) 2 2, v1) _ ⟨Rd.below D_p0.out B_p0.out, Rd.below D_p1.out B_p1.out, B_z.out, hHeld⟩
     · skip
       refine vl_ ?_
       refine hK.out _ _ (by obtain ⟨q0, q1, q2, q3, q4, q5⟩ := hHeld; exact ⟨pw_cell_below (below_alloc (Below.refl _ _) _) q0, pw_cell_below (below_alloc (Below.refl _ _) _) q1, pw_cell_below (below_alloc (Below.refl _ _) _) q2, pw_cell_below (below_alloc (Below.refl _ _) _) q3, pw_cell_below (below_alloc (Below.refl _ _) _) q4, pw_cell_below (below_alloc (Below.refl _ _) _) q5⟩) (fun hHeld => ?_)
       clear hK K
       refine nm_ (some 32) ?_
       have hb : Below w106.heap.size w106 (w106.alloc (.cells #[.slice A2 (limbs m1).length c2, .slice A1 (limbs d0).length c1] 28 (0, 0))) := below_alloc (Below.refl _ _) _
       have hl0 : (w106.alloc (.cells #[.slice A2 (limbs m1).length c2, .slice A1 (limbs d0).length c1] 28 (0, 0))).cell? ⟨w106.heap.size, 0, none⟩ = some (.slice A2 (limbs m1).length c2) := (blk_cell (blk_new w106 _) 0).trans rfl
       have hl1 : (w106.alloc (.cells #[.slice A2 (limbs m1).length c2, .slice A1 (limbs d0).length c1] 28 (0, 0))).cell? ⟨w106.heap.size, 1, none⟩ = some (.slice A1 (limbs d0).length c1) := (blk_cell (blk_new w106 _) 1).trans rfl
       obtain ⟨w107, hw_⟩ : ∃ x, x = w106.alloc (.cells #[.slice A2 (limbs m1).length c2, .slice A1 (limbs d0).length c1] 28 (0, 0)) := ⟨_, rfl⟩
       rw [← hw_] at hb hl0 hl1 hHeld ⊢
       obtain ⟨gl1, hgl1⟩ : ∃ x, x = w106.heap.size := ⟨_, rfl⟩
       rw [← hgl1] at hl0 hl1 ⊢
       clear hgl1 hw_
       replace B_m0 := bl_b B_m0 hb
       replace B_d0 := bl_b B_d0 hb
       replace B_m1 := bl_b B_m1 hb
       replace B_d1 := bl_b B_d1 hb
       replace HB := bl_b HB hb
       replace B_x := bl_b B_x hb
       replace B_y := bl_b B_y hb
       replace B_r := bl_b B_r hb
       replace B_z := bl_b B_z hb
       replace B_L0 := bl_b B_L0 hb
       clear hb
       have LA1 := a0_ hl0
       have LB1 := a0_ hl1
       clear hl0 hl1
       have B_L1 := a0_ (Below.refl w107.heap.size w107)
       refine on_ 7 (some 24) 65535 HT_ (fun K hK => ?_)
       refine gs_ Try.func36 #[.slice (some ⟨gl0, 0, none⟩) 2 2] ?_
       refine (product2_calls m0 d1 (fits16 o0.2.2.2.1) (fits16 o1.2.2.2.2) gl0 _ _ _ _ _ (pw_cell_below B_L0.out LA0.out) (pw_cell_below B_L0.out LB0.out) (Kd.C_below R_m0.out B_m0.out) C_m0.out (Kd.C_below R_d1.out B_d1.out) C_d1.out).mono ?_
       rintro e w108 ⟨v0, rfl, h1, hb⟩
       refine ⟨_, rfl, ?_⟩
       refine hK.out _ _ (by obtain ⟨q0, q1, q2, q3, q4, q5⟩ := hHeld; exact ⟨pw_cell_below hb q0, pw_cell_below hb q1, pw_cell_below hb q2, pw_cell_below hb q3, pw_cell_below hb q4, pw_cell_below hb q5⟩) (fun hHeld => ?_)
       clear hK K
       refine nm_ (some 24) ?_
       have D_p0 := a0_ (Rd.lower h1 (below_size B_z.out))
       clear h1
       replace B_m0 := bl_b B_m0 hb
       replace B_d0 := bl_b B_d0 hb
       replace B_m1 := bl_b B_m1 hb
       replace B_d1 := bl_b B_d1 hb
       replace HB := bl_b HB hb
       replace B_x := bl_b B_x hb
       replace B_y := bl_b B_y hb
       replace B_r := bl_b B_r hb
       replace B_z := bl_b B_z hb
       replace B_L0 := bl_b B_L0 hb
       replace B_L1 := bl_b B_L1 hb
       clear hb
       have B_p0 := a0_ (Below.refl w108.heap.size w108)
       refine on_ 16 (some 33) 131071 HT_ (fun K hK => ?_)
       refine gs_ Try.func36 #[.slice (some ⟨gl1, 0, none⟩) 2 2] ?_
       refine (product2_calls m1 d0 (fits16 o1.2.2.2.1) (fits16 o0.2.2.2.2) gl1 _ _ _ _ _ (pw_cell_below B_L1.out LA1.out) (pw_cell_below B_L1.out LB1.out) (Kd.C_below R_m1.out B_m1.out) C_m1.out (Kd.C_below R_d0.out B_d0.out) C_d0.out).mono ?_
       rintro e w109 ⟨v1, rfl, h1, hb⟩
       refine ⟨_, rfl, ?_⟩
       refine hK.out _ _ (by obtain ⟨q0, q1, q2, q3, q4, q5⟩ := hHeld; exact ⟨pw_cell_below hb q0, pw_cell_below hb q1, pw_cell_below hb q2, pw_cell_below hb q3, pw_cell_below hb q4, pw_cell_below hb q5⟩) (fun hHeld => ?_)
       clear hK K
       refine nm_ (some 33) ?_
       have D_p1 := a0_ (Rd.lower h1 (below_size B_z.out))
       clear h1
       replace B_m0 := bl_b B_m0 hb
       replace B_d0 := bl_b B_d0 hb
       replace B_m1 := bl_b B_m1 hb
       replace B_d1 := bl_b B_d1 hb
       replace HB := bl_b HB hb
       replace B_x := bl_b B_x hb
       replace B_y := bl_b B_y hb
       replace B_r := bl_b B_r hb
       replace B_z := bl_b B_z hb
       replace B_L0 := bl_b B_L0 hb
       replace B_L1 := bl_b B_L1 hb
       replace B_p0 := bl_b B_p0 hb
       clear hb
       have B_p1 := a0_ (Below.refl w109.heap.size w109)
       exact HC (.slice (some ⟨gl0, 0, none⟩) 2 2, v0, .slice (some ⟨gl1, 0, none⟩) 2 2, v1) _ ⟨Rd.below D_p0.out B_p0.out, Rd.below D_p1.out B_p1.out, B_z.out, hHeld⟩
   · skip
     refine vl_ ?_
     refine hK.out _ _ (by obtain ⟨q0, q1, q2, q3, q4, q5⟩ := hHeld; exact ⟨pw_cell_below (below_alloc (Below.refl _ _) _) q0, pw_cell_below (below_alloc (Below.refl _ _) _) q1, pw_cell_below (below_alloc (Below.refl _ _) _) q2, pw_cell_below (below_alloc (Below.refl _ _) _) q3, pw_cell_below (below_alloc (Below.refl _ _) _) q4, pw_cell_below (below_alloc (Below.refl _ _) _) q5⟩) (fun hHeld => ?_)
     clear hK K
     refine nm_ (some 32) ?_
     have hb : Below w105.heap.size w105 (w105.alloc (.cells #[.slice A2 (limbs m1).length c2, .slice A1 (limbs d0).length c1] 28 (0, 0))) := below_alloc (Below.refl _ _) _
     have hl0 : (w105.alloc (.cells #[.slice A2 (limbs m1).length c2, .slice A1 (limbs d0).length c1] 28 (0, 0))).cell? ⟨w105.heap.size, 0, none⟩ = some (.slice A2 (limbs m1).length c2) := (blk_cell (blk_new w105 _) 0).trans rfl
     have hl1 : (w105.alloc (.cells #[.slice A2 (limbs m1).length c2, .slice A1 (limbs d0).length c1] 28 (0, 0))).cell? ⟨w105.heap.size, 1, none⟩ = some (.slice A1 (limbs d0).length c1) := (blk_cell (blk_new w105 _) 1).trans rfl
     obtain ⟨w106, hw_⟩ : ∃ x, x = w105.alloc (.cells #[.slice A2 (limbs m1).length c2, .slice A1 (limbs d0).length c1] 28 (0, 0)) := ⟨_, rfl⟩
     rw [← hw_] at hb hl0 hl1 hHeld ⊢
     obtain ⟨gl1, hgl1⟩ : ∃ x, x = w105.heap.size := ⟨_, rfl⟩
     rw [← hgl1] at hl0 hl1 ⊢
     clear hgl1 hw_
     replace B_m0 := bl_b B_m0 hb
     replace B_d0 := bl_b B_d0 hb
     replace B_m1 := bl_b B_m1 hb
     replace B_d1 := bl_b B_d1 hb
     replace HB := bl_b HB hb
     replace B_x := bl_b B_x hb
     replace B_y := bl_b B_y hb
     replace B_r := bl_b B_r hb
     replace B_z := bl_b B_z hb
     clear hb
     have LA1 := a0_ hl0
     have LB1 := a0_ hl1
     clear hl0 hl1
     have B_L1 := a0_ (Below.refl w106.heap.size w106)
     refine on_ 6 (some 23) 65407 HT_ (fun K hK => ?_)
     refine vl_ ?_
     refine hK.out _ _ (by obtain ⟨q0, q1, q2, q3, q4, q5⟩ := hHeld; exact ⟨pw_cell_below (below_alloc (Below.refl _ _) _) q0, pw_cell_below (below_alloc (Below.refl _ _) _) q1, pw_cell_below (below_alloc (Below.refl _ _) _) q2, pw_cell_below (below_alloc (Below.refl _ _) _) q3, pw_cell_below (below_alloc (Below.refl _ _) _) q4, pw_cell_below (below_alloc (Below.refl _ _) _) q5⟩) (fun hHeld => ?_)
     clear hK K
     refine nm_ (some 23) ?_
     have hb : Below w106.heap.size w106 (w106.alloc (.cells #[.slice A0 (limbs m0).length c0, .slice A3 (limbs d1).length c3] 28 (0, 0))) := below_alloc (Below.refl _ _) _
     have hl0 : (w106.alloc (.cells #[.slice A0 (limbs m0).length c0, .slice A3 (limbs d1).length c3] 28 (0, 0))).cell? ⟨w106.heap.size, 0, none⟩ = some (.slice A0 (limbs m0).length c0) := (blk_cell (blk_new w106 _) 0).trans rfl
     have hl1 : (w106.alloc (.cells #[.slice A0 (limbs m0).length c0, .slice A3 (limbs d1).length c3] 28 (0, 0))).cell? ⟨w106.heap.size, 1, none⟩ = some (.slice A3 (limbs d1).length c3) := (blk_cell (blk_new w106 _) 1).trans rfl
     obtain ⟨w107, hw_⟩ : ∃ x, x = w106.alloc (.cells #[.slice A0 (limbs m0).length c0, .slice A3 (limbs d1).length c3] 28 (0, 0)) := ⟨_, rfl⟩
     rw [← hw_] at hb hl0 hl1 hHeld ⊢
     obtain ⟨gl0, hgl0⟩ : ∃ x, x = w106.heap.size := ⟨_, rfl⟩
     rw [← hgl0] at hl0 hl1 ⊢
     clear hgl0 hw_
     replace B_m0 := bl_b B_m0 hb
     replace B_d0 := bl_b B_d0 hb
     replace B_m1 := bl_b B_m1 hb
     replace B_d1 := bl_b B_d1 hb
     replace HB := bl_b HB hb
     replace B_x := bl_b B_x hb
     replace B_y := bl_b B_y hb
     replace B_r := bl_b B_r hb
     replace B_z := bl_b B_z hb
     replace B_L1 := bl_b B_L1 hb
     clear hb
     have LA0 := a0_ hl0
     have LB0 := a0_ hl1
     clear hl0 hl1
     have B_L0 := a0_ (Below.refl w107.heap.size w107)
     refine on_ 7 (some 24) 65535 HT_ (fun K hK => ?_)
     refine gs_ Try.func36 #[.slice (some ⟨gl0, 0, none⟩) 2 2] ?_
     refine (product2_calls m0 d1 (fits16 o0.2.2.2.1) (fits16 o1.2.2.2.2) gl0 _ _ _ _ _ (pw_cell_below B_L0.out LA0.out) (pw_cell_below B_L0.out LB0.out) (Kd.C_below R_m0.out B_m0.out) C_m0.out (Kd.C_below R_d1.out B_d1.out) C_d1.out).mono ?_
     rintro e w108 ⟨v0, rfl, h1, hb⟩
     refine ⟨_, rfl, ?_⟩
     refine hK.out _ _ (by obtain ⟨q0, q1, q2, q3, q4, q5⟩ := hHeld; exact ⟨pw_cell_below hb q0, pw_cell_below hb q1, pw_cell_below hb q2, pw_cell_below hb q3, pw_cell_below hb q4, pw_cell_below hb q5⟩) (fun hHeld => ?_)
     clear hK K
     refine nm_ (some 24) ?_
     have D_p0 := a0_ (Rd.lower h1 (below_size B_z.out))
     clear h1
     replace B_m0 := bl_b B_m0 hb
     replace B_d0 := bl_b B_d0 hb
     replace B_m1 := bl_b B_m1 hb
     replace B_d1 := bl_b B_d1 hb
     replace HB := bl_b HB hb
     replace B_x := bl_b B_x hb
     replace B_y := bl_b B_y hb
     replace B_r := bl_b B_r hb
     replace B_z := bl_b B_z hb
     replace B_L1 := bl_b B_L1 hb
     replace B_L0 := bl_b B_L0 hb
     clear hb
     have B_p0 := a0_ (Below.refl w108.heap.size w108)
     refine on_ 16 (some 33) 131071 HT_ (fun K hK => ?_)
     refine gs_ Try.func36 #[.slice (some ⟨gl1, 0, none⟩) 2 2] ?_
     refine (product2_calls m1 d0 (fits16 o1.2.2.2.1) (fits16 o0.2.2.2.2) gl1 _ _ _ _ _ (pw_cell_below B_L1.out LA1.out) (pw_cell_below B_L1.out LB1.out) (Kd.C_below R_m1.out B_m1.out) C_m1.out (Kd.C_below R_d0.out B_d0.out) C_d0.out).mono ?_
     rintro e w109 ⟨v1, rfl, h1, hb⟩
     refine ⟨_, rfl, ?_⟩
     refine hK.out _ _ (by obtain ⟨q0, q1, q2, q3, q4, q5⟩ := hHeld; exact ⟨pw_cell_below hb q0, pw_cell_below hb q1, pw_cell_below hb q2, pw_cell_below hb q3, pw_cell_below hb q4, pw_cell_below hb q5⟩) (fun hHeld => ?_)
     clear hK K
     refine nm_ (some 33) ?_
     have D_p1 := a0_ (Rd.lower h1 (below_size B_z.out))
     clear h1
     replace B_m0 := bl_b B_m0 hb
     replace B_d0 := bl_b B_d0 hb
     replace B_m1 := bl_b B_m1 hb
     replace B_d1 := bl_b B_d1 hb
     replace HB := bl_b HB hb
     replace B_x := bl_b B_x hb
     replace B_y := bl_b B_y hb
     replace B_r := bl_b B_r hb
     replace B_z := bl_b B_z hb
     replace B_L1 := bl_b B_L1 hb
     replace B_L0 := bl_b B_L0 hb
     replace B_p0 := bl_b B_p0 hb
     clear hb
     have B_p1 := a0_ (Below.refl w109.heap.size w109)
     exact HC (.slice (some ⟨gl0, 0, none⟩) 2 2, v0, .slice (some ⟨gl1, 0, none⟩) 2 2, v1) _ ⟨Rd.below D_p0.out B_p0.out, Rd.below D_p1.out B_p1.out, B_z.out, hHeld⟩
 clear B_z
 rintro ⟨l0_, v0, l1_, v1⟩ w125 ⟨h1, h2, hb, hHeld⟩
 refine norm_ (a' := ?_) ?_ ?_
 rotate_left
 · simp only [putAll, PU]
   rfl
 have hs_ := below_size (by repeat (first | exact HB.out | apply below_alloc | apply pw_below_drewN | apply below_drew1) : Below w.heap.size w w105)
 have D_p0 := a0_ (Rd.lower h1 hs_)
 have D_p1 := a0_ (Rd.lower h2 hs_)
 clear hs_
 obtain ⟨A_p0, c_p0, rfl, hlo0, hC0⟩ := Rd.reads h1
 clear h1
 obtain ⟨A_p1, c_p1, rfl, hlo1, hC1⟩ := Rd.reads h2
 clear h2
 replace B_m0 := bl_b B_m0 hb
 replace B_d0 := bl_b B_d0 hb
 replace B_m1 := bl_b B_m1 hb
 replace B_d1 := bl_b B_d1 hb
 replace HB := bl_b HB hb
 replace B_x := bl_b B_x hb
 replace B_y := bl_b B_y hb
 replace B_r := bl_b B_r hb
 clear hb
 have R_p0 := a0_ hC0
 have C_p0 := a0_ hlo0
 clear hC0 hlo0
 have B_p0 := a0_ (Below.refl w125.heap.size w125)
 have R_p1 := a0_ hC1
 have C_p1 := a0_ hlo1
 clear hC1 hlo1
 have B_p1 := a0_ (Below.refl w125.heap.size w125)
 refine on_ 17 (some 34) 262143 HT_ (fun K hK => ?_)
 refine gs_ Try.func37 #[.bool s0, .slice A_p0 (limbs (m0 * d1)).length c_p0, .bool (!s1), .slice A_p1 (limbs (m1 * d0)).length c_p1] ?_
 refine (sum_calls s0 (!s1) (m0 * d1) (m1 * d0) (fits32 (fits_mul o0.2.2.2.1 o1.2.2.2.2)) (fits32 (fits_mul o1.2.2.2.1 o0.2.2.2.2)) _ _ _ _ _ (Kd.C_below R_p0.out B_p0.out) C_p0.out (Kd.C_below R_p1.out B_p1.out) C_p1.out).mono ?_
 rintro e w126 ⟨v, rfl, ho, hb⟩
 refine ⟨_, rfl, ?_⟩
 refine hK.out _ _ (by obtain ⟨q0, q1, q2, q3, q4, q5⟩ := hHeld; exact ⟨pw_cell_below hb q0, pw_cell_below hb q1, pw_cell_below hb q2, pw_cell_below hb q3, pw_cell_below hb q4, pw_cell_below hb q5⟩) (fun hHeld => ?_)
 clear hK K
 refine nm_ (some 34) ?_
 obtain ⟨A_s, c_s, rfl, hlo, hC⟩ := Rd.reads ho
 clear ho
 replace B_m0 := bl_b B_m0 hb
 replace B_d0 := bl_b B_d0 hb
 replace B_m1 := bl_b B_m1 hb
 replace B_d1 := bl_b B_d1 hb
 replace B_p0 := bl_b B_p0 hb
 replace B_p1 := bl_b B_p1 hb
 replace HB := bl_b HB hb
 replace B_x := bl_b B_x hb
 replace B_y := bl_b B_y hb
 replace B_r := bl_b B_r hb
 clear hb
 have R_s := a0_ hC
 have C_s := a0_ hlo
 clear hC hlo
 have B_s := a0_ (Below.refl w126.heap.size w126)
 clear R_p0 C_p0 B_p0
 clear R_p1 C_p1 B_p1
 clear R_m0 C_m0 B_m0
 clear R_m1 C_m1 B_m1
 refine pu_ 18 (some 16) 524287 HT_ ?_
 refine pu_ 19 (some 35) 1048575 HT_ ?_
 refine pu_ 20 (some 36) 2097151 HT_ ?_
 refine pu_ 21 (some 7) 4194303 HT_ ?_
 refine pu_ 22 (some 8) 8388607 HT_ ?_
 refine do_ HT_ ?_
 clear HT_ HW_ hHeld
 have bk_x := blk_below K_x.out B_x.out
 have hz_x_0 : w126.cell? ⟨g_x, 0, none⟩ = some (.bool s0) := (blk_cell bk_x 0).trans rfl
 have hz_x_1 : w126.cell? ⟨g_x, 1, none⟩ = some (.slice A0 (limbs m0).length c0) := (blk_cell bk_x 1).trans rfl
 have hz_x_2 : w126.cell? ⟨g_x, 2, none⟩ = some (.slice A1 (limbs d0).length c1) := (blk_cell bk_x 2).trans rfl
 clear bk_x
 have bk_y := blk_below K_y.out B_y.out
 have hz_y_0 : w126.cell? ⟨g_y, 0, none⟩ = some (.bool s1) := (blk_cell bk_y 0).trans rfl
 have hz_y_1 : w126.cell? ⟨g_y, 1, none⟩ = some (.slice A2 (limbs m1).length c2) := (blk_cell bk_y 1).trans rfl
 have hz_y_2 : w126.cell? ⟨g_y, 2, none⟩ = some (.slice A3 (limbs d1).length c3) := (blk_cell bk_y 2).trans rfl
 clear bk_y
 go_wp2_with fail
 clear hz_x_0 hz_x_1 hz_x_2
 clear hz_y_0 hz_y_1 hz_y_2
 have hb : Below w126.heap.size w126 (w126.alloc (.cells #[.slice A1 (limbs d0).length c1, .slice A3 (limbs d1).length c3] 28 (0, 0))) := below_alloc (Below.refl _ _) _
 have hl0 : (w126.alloc (.cells #[.slice A1 (limbs d0).length c1, .slice A3 (limbs d1).length c3] 28 (0, 0))).cell? ⟨w126.heap.size, 0, none⟩ = some (.slice A1 (limbs d0).length c1) := (blk_cell (blk_new w126 _) 0).trans rfl
 have hl1 : (w126.alloc (.cells #[.slice A1 (limbs d0).length c1, .slice A3 (limbs d1).length c3] 28 (0, 0))).cell? ⟨w126.heap.size, 1, none⟩ = some (.slice A3 (limbs d1).length c3) := (blk_cell (blk_new w126 _) 1).trans rfl
 obtain ⟨w127, hw_⟩ : ∃ x, x = w126.alloc (.cells #[.slice A1 (limbs d0).length c1, .slice A3 (limbs d1).length c3] 28 (0, 0)) := ⟨_, rfl⟩
 rw [← hw_] at hb hl0 hl1 ⊢
 clear hw_
 replace B_d0 := bl_b B_d0 hb
 replace B_d1 := bl_b B_d1 hb
 replace B_s := bl_b B_s hb
 replace HB := bl_b HB hb
 replace B_x := bl_b B_x hb
 replace B_y := bl_b B_y hb
 replace B_r := bl_b B_r hb
 clear hb
 refine (product2_calls d0 d1 (fits16 o0.2.2.2.2) (fits16 o1.2.2.2.2) _ _ _ _ _ _ hl0 hl1 (Kd.C_below R_d0.out B_d0.out) C_d0.out (Kd.C_below R_d1.out B_d1.out) C_d1.out).mono ?_
 rintro e w128 ⟨v, rfl, ho, hb⟩
 clear hl0 hl1
 obtain ⟨A_q, c_q, rfl, hlo, hC⟩ := Rd.reads ho
 clear ho
 replace B_d0 := bl_b B_d0 hb
 replace B_d1 := bl_b B_d1 hb
 replace B_s := bl_b B_s hb
 replace HB := bl_b HB hb
 replace B_x := bl_b B_x hb
 replace B_y := bl_b B_y hb
 replace B_r := bl_b B_r hb
 clear hb
 have R_q := a0_ hC
 have C_q := a0_ hlo
 clear hC hlo
 have B_q := a0_ (Below.refl w128.heap.size w128)
 clear R_d0 C_d0 B_d0
 clear R_d1 C_d1 B_d1
 have L_r : Aside0 (g_r < w128.heap.size) := ⟨blk_lt (blk_below K_r.out B_r.out)⟩
 have S_r : Aside0 (w.heap.size ≤ w128.heap.size) := ⟨below_size HB.out⟩
 go_wp2_with fail
 refine (reduced_calls (sumB s0 (m0 * d1) (!s1) (m1 * d0)).1 (sumB s0 (m0 * d1) (!s1) (m1 * d0)).2 (d0 * d1) (Nat.mul_pos o0.2.1 o1.2.1) (fits_sum (fits_mul o0.2.2.2.1 o1.2.2.2.2) (fits_mul o1.2.2.2.1 o0.2.2.2.2)) (fits32 (fits_mul o0.2.2.2.2 o1.2.2.2.2)) _ _ _ _ _ (Kd.C_below R_s.out B_s.out) C_s.out (Kd.C_below R_q.out B_q.out) C_q.out).mono ?_
 rintro e w129 ⟨v1, v2, rfl, h1, h2, hb⟩
 have D_M := a0_ h1
 have D_D := a0_ h2
 obtain ⟨A_M, c_M, rfl, -, -⟩ := Rd.reads h1
 obtain ⟨A_D, c_D, rfl, -, -⟩ := Rd.reads h2
 clear h1 h2
 replace B_s := bl_b B_s hb
 replace B_q := bl_b B_q hb
 replace HB := bl_b HB hb
 replace B_x := bl_b B_x hb
 replace B_y := bl_b B_y hb
 replace B_r := bl_b B_r hb
 clear hb
 have B_M := a0_ (Below.refl w129.heap.size w129)
 have bk_r := blk_below K_r.out B_r.out
 have hz_r_0 : w129.cell? ⟨g_r, 0, none⟩ = some (.bool false) := (blk_cell bk_r 0).trans rfl
 have hf_r_0 := blk_frozen bk_r 0
 have hz_r_1 : w129.cell? ⟨g_r, 1, none⟩ = some (.slice none 0 0) := (blk_cell bk_r 1).trans rfl
 have hf_r_1 := blk_frozen bk_r 1
 have hz_r_2 : w129.cell? ⟨g_r, 2, none⟩ = some (.slice none 0 0) := (blk_cell bk_r 2).trans rfl
 have hf_r_2 := blk_frozen bk_r 2
 clear bk_r
 go_wp2_with fail
 refine bodyPost_ret (results_ct rfl _ _ g_r 30 #[.bool (red (sumB s0 (m0 * d1) (!s1) (m1 * d0)).1 (sumB s0 (m0 * d1) (!s1) (m1 * d0)).2 (d0 * d1)).1, .slice A_M (limbs (red (sumB s0 (m0 * d1) (!s1) (m1 * d0)).1 (sumB s0 (m0 * d1) (!s1) (m1 * d0)).2 (d0 * d1)).2.1).length c_M, .slice A_D (limbs (red (sumB s0 (m0 * d1) (!s1) (m1 * d0)).1 (sumB s0 (m0 * d1) (!s1) (m1 * d0)).2 (d0 * d1)).2.2.1).length c_D] (0, 0) _ rfl (by (with_reducible repeat (first | refine blk_drewN ?_ _ | refine blk_drew ?_ | refine blk_alloc ?_ _)); refine blk_put (cs := #[.bool (red (sumB s0 (m0 * d1) (!s1) (m1 * d0)).1 (sumB s0 (m0 * d1) (!s1) (m1 * d0)).2 (d0 * d1)).1, .slice A_M (limbs (red (sumB s0 (m0 * d1) (!s1) (m1 * d0)).1 (sumB s0 (m0 * d1) (!s1) (m1 * d0)).2 (d0 * d1)).2.1).length c_M, .slice none 0 0]) ?_ 2 _ rfl; (with_reducible repeat (first | refine blk_drewN ?_ _ | refine blk_drew ?_ | refine blk_alloc ?_ _)); refine blk_put (cs := #[.bool (red (sumB s0 (m0 * d1) (!s1) (m1 * d0)).1 (sumB s0 (m0 * d1) (!s1) (m1 * d0)).2 (d0 * d1)).1, .slice none 0 0, .slice none 0 0]) ?_ 1 _ rfl; (with_reducible repeat (first | refine blk_drewN ?_ _ | refine blk_drew ?_ | refine blk_alloc ?_ _)); refine blk_put (cs := #[.bool false, .slice none 0 0, .slice none 0 0]) ?_ 0 _ rfl; (with_reducible repeat (first | refine blk_drewN ?_ _ | refine blk_drew ?_ | refine blk_alloc ?_ _)); exact blk_below K_r.out B_r.out) Try.underlying30 rfl (by kernel_rfl)) rfl ?_
 exact ⟨_, _, rfl, Rd.lower (Rd.set (Rd.set (Rd.set (Rd.below D_M.out B_M.out) _ L_r.out _) _ L_r.out _) _ L_r.out _) S_r.out, Rd.lower (Rd.set (Rd.set (Rd.set (Rd.below D_D.out B_M.out) _ L_r.out _) _ L_r.out _) _ L_r.out _) S_r.out, below_set (below_set (below_set HB.out G_r.out) G_r.out) G_r.out⟩
def RMul.T4 : Bool × List (List Nat × List Nat) := (true, [([], []), ([0], [0]), ([], []), ([2], [2]), ([1, 3], [1, 3]), ([], []), ([5], [5]), ([], []), ([7], [7]), ([6, 8], [6, 8]), ([9], [9]), ([], []), ([11], [11]), ([], []), ([13], [13]), ([12, 14], [12, 14]), ([15, 10], [15]), ([4, 10, 16, 16], [4, 10, 16]), ([17], [17]), ([17], [17]), ([18, 17, 0, 1, 2, 3, 4, 5, 6, 7, 8, 9, 10, 11, 12, 13, 14, 15, 16, 17, 18, 19], [18]), ([19, 20, 0, 1, 2, 3, 4, 5, 6, 7, 8, 9, 10, 11, 12, 13, 14, 15, 16, 17, 18, 19, 20], [19])])
def RMul.B4 : List Nat := [0, 1, 0, 4, 15, 0, 32, 0, 128, 480, 992, 0, 2048, 0, 8192, 30720, 65504, 131071, 262143, 262143, 1048575, 2097151]
theorem RMul.tab4 : rtab .any (opsOf Try.f19 4) = RMul.T4 := by kernel_rfl
theorem RMul.bits4 : waitsOk RMul.T4.2 RMul.B4 = true := by kernel_rfl
theorem rmul_calls  (s0 : Bool) (m0 d0 : Nat) (o0 : OkR s0 m0 d0) (s1 : Bool) (m1 d1 : Nat) (o1 : OkR s1 m1 d1) (A0 : Option Addr) (c0 : Nat) (A1 : Option Addr) (c1 : Nat) (A2 : Option Addr) (c2 : Nat) (A3 : Option Addr) (c3 : Nat) (w : World)
 (hrm0 : Kd.C (Kd.int .u32) w A0 (limbs m0).length (limbs m0)) (hcm0 : (limbs m0).length ≤ c0) (hrd0 : Kd.C (Kd.int .u32) w A1 (limbs d0).length (limbs d0)) (hcd0 : (limbs d0).length ≤ c1) (hrm1 : Kd.C (Kd.int .u32) w A2 (limbs m1).length (limbs m1)) (hcm1 : (limbs m1).length ≤ c2) (hrd1 : Kd.C (Kd.int .u32) w A3 (limbs d1).length (limbs d1)) (hcd1 : (limbs d1).length ≤ c3)  :
 Calls Try.prog 19 #[.agg #[.bool s0, .slice A0 (limbs m0).length c0, .slice A1 (limbs d0).length c1], .agg #[.bool s1, .slice A2 (limbs m1).length c2, .slice A3 (limbs d1).length c3]] w fun e w' => ∃ v1 v2, e = .returned (.tuple #[.agg #[.bool (red (s0 != s1) (m0 * m1) (d0 * d1)).1, v1, v2], .int .i64 (red (s0 != s1) (m0 * m1) (d0 * d1)).2.2.2]) ∧ Rd w.heap.size w' v1 (limbs (red (s0 != s1) (m0 * m1) (d0 * d1)).2.1) ∧ Rd w.heap.size w' v2 (limbs (red (s0 != s1) (m0 * m1) (d0 * d1)).2.2.1) ∧ Below w.heap.size w w' := by
 have R_m0 := a0_ hrm0
 have C_m0 := a0_ hcm0
 clear hrm0 hcm0
 have B_m0 := a0_ (Below.refl w.heap.size w)
 have R_d0 := a0_ hrd0
 have C_d0 := a0_ hcd0
 clear hrd0 hcd0
 have B_d0 := a0_ (Below.refl w.heap.size w)
 have R_m1 := a0_ hrm1
 have C_m1 := a0_ hcm1
 clear hrm1 hcm1
 have B_m1 := a0_ (Below.refl w.heap.size w)
 have R_d1 := a0_ hrd1
 have C_d1 := a0_ hcd1
 clear hrd1 hcd1
 have B_d1 := a0_ (Below.refl w.heap.size w)
 have HB := a0_ (Below.refl w.heap.size w)
 have hu30 := Try.underlying30
 have hu88 := Try.underlying88
 go_enter Try.func19, Try.ntmps19
 go_wp2_with (first | ((with_reducible refine gd_ 2 rfl ?_); refine bx_ (N := 2) #[.bool s0, .slice A0 (limbs m0).length c0, .slice A1 (limbs d0).length c1] 30 ?_; intro g_x hg w101 hbox hb; have G_x := rd_b HB hg; replace B_m0 := bl_b B_m0 hb; replace B_d0 := bl_b B_d0 hb; replace B_m1 := bl_b B_m1 hb; replace B_d1 := bl_b B_d1 hb; replace HB := bl_b HB hb; clear hb; have K_x := a0_ hbox; have B_x := a0_ (Below.refl w101.heap.size w101); clear hbox hg) | ((with_reducible refine gd_ 3 rfl ?_); refine bx_ (N := 3) #[.bool s1, .slice A2 (limbs m1).length c2, .slice A3 (limbs d1).length c3] 30 ?_; intro g_y hg w102 hbox hb; have G_y := rd_b HB hg; have N_y_x := rd_b B_x hg; replace B_m0 := bl_b B_m0 hb; replace B_d0 := bl_b B_d0 hb; replace B_m1 := bl_b B_m1 hb; replace B_d1 := bl_b B_d1 hb; replace HB := bl_b HB hb; replace B_x := bl_b B_x hb; clear hb; have K_y := a0_ hbox; have B_y := a0_ (Below.refl w102.heap.size w102); clear hbox hg) | ((with_reducible refine gd_ 4 rfl ?_); refine bx_ (N := 4) #[.bool false, .slice none 0 0, .slice none 0 0] 30 ?_; intro g_r hg w103 hbox hb; have G_r := rd_b HB hg; have N_r_x := rd_b B_x hg; have N_r_y := rd_b B_y hg; replace B_m0 := bl_b B_m0 hb; replace B_d0 := bl_b B_d0 hb; replace B_m1 := bl_b B_m1 hb; replace B_d1 := bl_b B_d1 hb; replace HB := bl_b HB hb; replace B_x := bl_b B_x hb; replace B_y := bl_b B_y hb; clear hb; have K_r := a0_ hbox; have B_r := a0_ (Below.refl w103.heap.size w103); clear hbox hg; have bk_x := blk_below K_x.out B_x.out; have hz_x_0 : w103.cell? ⟨g_x, 0, none⟩ = some (.bool s0) := (blk_cell bk_x 0).trans rfl; have hz_x_1 : w103.cell? ⟨g_x, 1, none⟩ = some (.slice A0 (limbs m0).length c0) := (blk_cell bk_x 1).trans rfl; have hz_x_2 : w103.cell? ⟨g_x, 2, none⟩ = some (.slice A1 (limbs d0).length c1) := (blk_cell bk_x 2).trans rfl; clear bk_x; have bk_y := blk_below K_y.out B_y.out; have hz_y_0 : w103.cell? ⟨g_y, 0, none⟩ = some (.bool s1) := (blk_cell bk_y 0).trans rfl; have hz_y_1 : w103.cell? ⟨g_y, 1, none⟩ = some (.slice A2 (limbs m1).length c2) := (blk_cell bk_y 1).trans rfl; have hz_y_2 : w103.cell? ⟨g_y, 2, none⟩ = some (.slice A3 (limbs d1).length c3) := (blk_cell bk_y 2).trans rfl; clear bk_y))
 with_reducible refine (rboth_calls s0 m0 d0 o0 s1 m1 d1 o1 _ _ _ _ _ _ _ _ _ (Kd.C_below R_m0.out B_m0.out) C_m0.out (Kd.C_below R_d0.out B_d0.out) C_d0.out (Kd.C_below R_m1.out B_m1.out) C_m1.out (Kd.C_below R_d1.out B_d1.out) C_d1.out).mono ?_
 rintro e w104 ⟨rfl, hb⟩
 clear hz_x_0 hz_x_1 hz_x_2
 clear hz_y_0 hz_y_1 hz_y_2
 replace B_m0 := bl_b B_m0 hb
 replace B_d0 := bl_b B_d0 hb
 replace B_m1 := bl_b B_m1 hb
 replace B_d1 := bl_b B_d1 hb
 replace HB := bl_b HB hb
 replace B_x := bl_b B_x hb
 replace B_y := bl_b B_y hb
 replace B_r := bl_b B_r hb
 clear hb
 go_wp2_with fail
 have hb : Below w104.heap.size w104 w104.drew := below_drew1 (Below.refl _ _)
 replace B_m0 := bl_b B_m0 hb
 replace B_d0 := bl_b B_d0 hb
 replace B_m1 := bl_b B_m1 hb
 replace B_d1 := bl_b B_d1 hb
 replace HB := bl_b HB hb
 replace B_x := bl_b B_x hb
 replace B_y := bl_b B_y hb
 replace B_r := bl_b B_r hb
 clear hb
 have bk_x := blk_below K_x.out B_x.out
 have hz_x_0 : w104.drew.cell? ⟨g_x, 0, none⟩ = some (.bool s0) := (blk_cell bk_x 0).trans rfl
 have hz_x_1 : w104.drew.cell? ⟨g_x, 1, none⟩ = some (.slice A0 (limbs m0).length c0) := (blk_cell bk_x 1).trans rfl
 have hz_x_2 : w104.drew.cell? ⟨g_x, 2, none⟩ = some (.slice A1 (limbs d0).length c1) := (blk_cell bk_x 2).trans rfl
 clear bk_x
 have bk_y := blk_below K_y.out B_y.out
 have hz_y_0 : w104.drew.cell? ⟨g_y, 0, none⟩ = some (.bool s1) := (blk_cell bk_y 0).trans rfl
 have hz_y_1 : w104.drew.cell? ⟨g_y, 1, none⟩ = some (.slice A2 (limbs m1).length c2) := (blk_cell bk_y 1).trans rfl
 have hz_y_2 : w104.drew.cell? ⟨g_y, 2, none⟩ = some (.slice A3 (limbs d1).length c3) := (blk_cell bk_y 2).trans rfl
 clear bk_y
 refine start_ (n := 22) (S := fun w' => w'.cell? ⟨g_x, 0, none⟩ = some (.bool s0) ∧ w'.cell? ⟨g_x, 1, none⟩ = some (.slice A0 (limbs m0).length c0) ∧ w'.cell? ⟨g_x, 2, none⟩ = some (.slice A1 (limbs d0).length c1) ∧ w'.cell? ⟨g_y, 0, none⟩ = some (.bool s1) ∧ w'.cell? ⟨g_y, 1, none⟩ = some (.slice A2 (limbs m1).length c2) ∧ w'.cell? ⟨g_y, 2, none⟩ = some (.slice A3 (limbs d1).length c3)) (ds := []) (tB_ 22 0) (by kernel_rfl) rfl (by kernel_rfl) ⟨hz_x_0, hz_x_1, hz_x_2, hz_y_0, hz_y_1, hz_y_2⟩ (fun hHeld => ?_)
 refine with_tabW RMul.tab4 RMul.bits4 (fun HT_ HW_ => ?_)
 clear hz_x_0 hz_x_1 hz_x_2 hz_y_0 hz_y_1 hz_y_2
 generalize w104.drew = w105 at B_m0 B_d0 B_m1 B_d1 HB B_x B_y B_r hHeld ⊢
 refine pu_ 0 (some 14) 1 HT_ ?_
 refine pu_ 2 (some 16) 5 HT_ ?_
 refine pu_ 5 (some 19) 37 HT_ ?_
 refine pu_ 7 (some 21) 165 HT_ ?_
 refine pu_ 11 (some 25) 2213 HT_ ?_
 refine pu_ 13 (some 27) 10405 HT_ ?_
 refine tk_ 1 (some 15) 10407 HT_ HW_ hHeld ?_ ?_ ?_ ?_ ?_
 rotate_left
 · rintro w' ⟨s0, s1, s2, s3, s4, s5⟩
   go_simp
   with_reducible rfl
 rotate_left
 · simp only [PU]
   rfl
 refine tk_ 3 (some 17) 10415 HT_ HW_ hHeld ?_ ?_ ?_ ?_ ?_
 rotate_left
 · rintro w' ⟨s0, s1, s2, s3, s4, s5⟩
   go_simp
   with_reducible rfl
 rotate_left
 · simp only [PU]
   rfl
 refine tk_ 6 (some 20) 10479 HT_ HW_ hHeld ?_ ?_ ?_ ?_ ?_
 rotate_left
 · rintro w' ⟨s0, s1, s2, s3, s4, s5⟩
   go_simp
   with_reducible rfl
 rotate_left
 · simp only [PU]
   rfl
 refine tk_ 8 (some 22) 10735 HT_ HW_ hHeld ?_ ?_ ?_ ?_ ?_
 rotate_left
 · rintro w' ⟨s0, s1, s2, s3, s4, s5⟩
   go_simp
   with_reducible rfl
 rotate_left
 · simp only [PU]
   rfl
 refine tk_ 12 (some 26) 14831 HT_ HW_ hHeld ?_ ?_ ?_ ?_ ?_
 rotate_left
 · rintro w' ⟨s0, s1, s2, s3, s4, s5⟩
   go_simp
   with_reducible rfl
 rotate_left
 · simp only [PU]
   rfl
 refine tk_ 14 (some 28) 31215 HT_ HW_ hHeld ?_ ?_ ?_ ?_ ?_
 rotate_left
 · rintro w' ⟨s0, s1, s2, s3, s4, s5⟩
   go_simp
   with_reducible rfl
 rotate_left
 · simp only [PU]
   rfl
 refine pu_ 4 (some 18) 31231 HT_ ?_
 have B_z := a0_ (Below.refl w105.heap.size w105)
 refine join_ (σ := Value × Value × Value × Value) 5 (tB_ 22 131071) (fun s => [(23, s.1), (24, s.2.1), (29, s.2.2.1), (30, s.2.2.2)]) (fun s w' => Rd w105.heap.size w' s.2.1 (limbs (m0 * m1)) ∧ Rd w105.heap.size w' s.2.2.2 (limbs (d0 * d1)) ∧ Below w105.heap.size w105 w' ∧ (w'.cell? ⟨g_x, 0, none⟩ = some (.bool s0) ∧ w'.cell? ⟨g_x, 1, none⟩ = some (.slice A0 (limbs m0).length c0) ∧ w'.cell? ⟨g_x, 2, none⟩ = some (.slice A1 (limbs d0).length c1) ∧ w'.cell? ⟨g_y, 0, none⟩ = some (.bool s1) ∧ w'.cell? ⟨g_y, 1, none⟩ = some (.slice A2 (limbs m1).length c2) ∧ w'.cell? ⟨g_y, 2, none⟩ = some (.slice A3 (limbs d1).length c3))) ?hcont ?hord
 rotate_left
 · intro HC
   refine tw_ 9 15 (some 23) (some 29) 31743 63999 HT_ (fun K hK => ?_) (fun K hK => ?_)
   · skip
     refine vl_ ?_
     refine hK.out _ _ (by obtain ⟨q0, q1, q2, q3, q4, q5⟩ := hHeld; exact ⟨pw_cell_below (below_alloc (Below.refl _ _) _) q0, pw_cell_below (below_alloc (Below.refl _ _) _) q1, pw_cell_below (below_alloc (Below.refl _ _) _) q2, pw_cell_below (below_alloc (Below.refl _ _) _) q3, pw_cell_below (below_alloc (Below.refl _ _) _) q4, pw_cell_below (below_alloc (Below.refl _ _) _) q5⟩) (fun hHeld => ?_)
     clear hK K
     refine nm_ (some 23) ?_
     have hb : Below w105.heap.size w105 (w105.alloc (.cells #[.slice A0 (limbs m0).length c0, .slice A2 (limbs m1).length c2] 28 (0, 0))) := below_alloc (Below.refl _ _) _
     have hl0 : (w105.alloc (.cells #[.slice A0 (limbs m0).length c0, .slice A2 (limbs m1).length c2] 28 (0, 0))).cell? ⟨w105.heap.size, 0, none⟩ = some (.slice A0 (limbs m0).length c0) := (blk_cell (blk_new w105 _) 0).trans rfl
     have hl1 : (w105.alloc (.cells #[.slice A0 (limbs m0).length c0, .slice A2 (limbs m1).length c2] 28 (0, 0))).cell? ⟨w105.heap.size, 1, none⟩ = some (.slice A2 (limbs m1).length c2) := (blk_cell (blk_new w105 _) 1).trans rfl
     obtain ⟨w106, hw_⟩ : ∃ x, x = w105.alloc (.cells #[.slice A0 (limbs m0).length c0, .slice A2 (limbs m1).length c2] 28 (0, 0)) := ⟨_, rfl⟩
     rw [← hw_] at hb hl0 hl1 hHeld ⊢
     obtain ⟨gl0, hgl0⟩ : ∃ x, x = w105.heap.size := ⟨_, rfl⟩
     rw [← hgl0] at hl0 hl1 ⊢
     clear hgl0 hw_
     replace B_m0 := bl_b B_m0 hb
     replace B_d0 := bl_b B_d0 hb
     replace B_m1 := bl_b B_m1 hb
     replace B_d1 := bl_b B_d1 hb
     replace HB := bl_b HB hb
     replace B_x := bl_b B_x hb
     replace B_y := bl_b B_y hb
     replace B_r := bl_b B_r hb
     replace B_z := bl_b B_z hb
     clear hb
     have LA0 := a0_ hl0
     have LB0 := a0_ hl1
     clear hl0 hl1
     have B_L0 := a0_ (Below.refl w106.heap.size w106)
     refine tw_ 10 15 (some 24) (some 29) 32767 64511 HT_ (fun K hK => ?_) (fun K hK => ?_)
     · skip
       refine gs_ Try.func36 #[.slice (some ⟨gl0, 0, none⟩) 2 2] ?_
       refine (product2_calls m0 m1 (fits16 o0.2.2.2.1) (fits16 o1.2.2.2.1) gl0 _ _ _ _ _ (pw_cell_below B_L0.out LA0.out) (pw_cell_below B_L0.out LB0.out) (Kd.C_below R_m0.out B_m0.out) C_m0.out (Kd.C_below R_m1.out B_m1.out) C_m1.out).mono ?_
       rintro e w107 ⟨v0, rfl, h1, hb⟩
       refine ⟨_, rfl, ?_⟩
       refine hK.out _ _ (by obtain ⟨q0, q1, q2, q3, q4, q5⟩ := hHeld; exact ⟨pw_cell_below hb q0, pw_cell_below hb q1, pw_cell_below hb q2, pw_cell_below hb q3, pw_cell_below hb q4, pw_cell_below hb q5⟩) (fun hHeld => ?_)
       clear hK K
       refine nm_ (some 24) ?_
       have D_p0 := a0_ (Rd.lower h1 (below_size B_z.out))
       clear h1
       replace B_m0 := bl_b B_m0 hb
       replace B_d0 := bl_b B_d0 hb
       replace B_m1 := bl_b B_m1 hb
       replace B_d1 := bl_b B_d1 hb
       replace HB := bl_b HB hb
       replace B_x := bl_b B_x hb
       replace B_y := bl_b B_y hb
       replace B_r := bl_b B_r hb
       replace B_z := bl_b B_z hb
       replace B_L0 := bl_b B_L0 hb
       clear hb
       have B_p0 := a0_ (Below.refl w107.heap.size w107)
       refine on_ 15 (some 29) 65535 HT_ (fun K hK => ?_)
       refine vl_ ?_
       refine hK.out _ _ (by obtain ⟨q0, q1, q2, q3, q4, q5⟩ := hHeld; exact ⟨pw_cell_below (below_alloc (Below.refl _ _) _) q0, pw_cell_below (below_alloc (Below.refl _ _) _) q1, pw_cell_below (below_alloc (Below.refl _ _) _) q2, pw_cell_below (below_alloc (Below.refl _ _) _) q3, pw_cell_below (below_alloc (Below.refl _ _) _) q4, pw_cell_below (below_alloc (Below.refl _ _) _) q5⟩) (fun hHeld => ?_)
       clear hK K
       refine nm_ (some 29) ?_
       have hb : Below w107.heap.size w107 (w107.alloc (.cells #[.slice A1 (limbs d0).length c1, .slice A3 (limbs d1).length c3] 28 (0, 0))) := below_alloc (Below.refl _ _) _
       have hl0 : (w107.alloc (.cells #[.slice A1 (limbs d0).length c1, .slice A3 (limbs d1).length c3] 28 (0, 0))).cell? ⟨w107.heap.size, 0, none⟩ = some (.slice A1 (limbs d0).length c1) := (blk_cell (blk_new w107 _) 0).trans rfl
       have hl1 : (w107.alloc (.cells #[.slice A1 (limbs d0).length c1, .slice A3 (limbs d1).length c3] 28 (0, 0))).cell? ⟨w107.heap.size, 1, none⟩ = some (.slice A3 (limbs d1).length c3) := (blk_cell (blk_new w107 _) 1).trans rfl
       obtain ⟨w108, hw_⟩ : ∃ x, x = w107.alloc (.cells #[.slice A1 (limbs d0).length c1, .slice A3 (limbs d1).length c3] 28 (0, 0)) := ⟨_, rfl⟩
       rw [← hw_] at hb hl0 hl1 hHeld ⊢
       obtain ⟨gl1, hgl1⟩ : ∃ x, x = w107.heap.size := ⟨_, rfl⟩
       rw [← hgl1] at hl0 hl1 ⊢
       clear hgl1 hw_
       replace B_m0 := bl_b B_m0 hb
       replace B_d0 := bl_b B_d0 hb
       replace B_m1 := bl_b B_m1 hb
       replace B_d1 := bl_b B_d1 hb
       replace HB := bl_b HB hb
       replace B_x := bl_b B_x hb
       replace B_y := bl_b B_y hb
       replace B_r := bl_b B_r hb
       replace B_z := bl_b B_z hb
       replace B_L0 := bl_b B_L0 hb
       replace B_p0 := bl_b B_p0 hb
       clear hb
       have LA1 := a0_ hl0
       have LB1 := a0_ hl1
       clear hl0 hl1
       have B_L1 := a0_ (Below.refl w108.heap.size w108)
       refine on_ 16 (some 30) 131071 HT_ (fun K hK => ?_)
       refine gs_ Try.func36 #[.slice (some ⟨gl1, 0, none⟩) 2 2] ?_
       refine (product2_calls d0 d1 (fits16 o0.2.2.2.2) (fits16 o1.2.2.2.2) gl1 _ _ _ _ _ (pw_cell_below B_L1.out LA1.out) (pw_cell_below B_L1.out LB1.out) (Kd.C_below R_d0.out B_d0.out) C_d0.out (Kd.C_below R_d1.out B_d1.out) C_d1.out).mono ?_
       rintro e w109 ⟨v1, rfl, h1, hb⟩
       refine ⟨_, rfl, ?_⟩
       refine hK.out _ _ (by obtain ⟨q0, q1, q2, q3, q4, q5⟩ := hHeld; exact ⟨pw_cell_below hb q0, pw_cell_below hb q1, pw_cell_below hb q2, pw_cell_below hb q3, pw_cell_below hb q4, pw_cell_below hb q5⟩) (fun hHeld => ?_)
       clear hK K
       refine nm_ (some 30) ?_
       have D_p1 := a0_ (Rd.lower h1 (below_size B_z.out))
       clear h1
       replace B_m0 := bl_b B_m0 hb
       replace B_d0 := bl_b B_d0 hb
       replace B_m1 := bl_b B_m1 hb
       replace B_d1 := bl_b B_d1 hb
       replace HB := bl_b HB hb
       replace B_x := bl_b B_x hb
       replace B_y := bl_b B_y hb
       replace B_r := bl_b B_r hb
       replace B_z := bl_b B_z hb
       replace B_L0 := bl_b B_L0 hb
       replace B_p0 := bl_b B_p0 hb
       replace B_L1 := bl_b B_L1 hb
       clear hb
       have B_p1 := a0_ (Below.refl w109.heap.size w109)
       exact HC (.slice (some ⟨gl0, 0, none⟩) 2 2, v0, .slice (some ⟨gl1, 0, none⟩) 2 2, v1) _ ⟨Rd.below D_p0.out B_p0.out, Rd.below D_p1.out B_p1.out, B_z.out, hHeld⟩
     · skip
       refine vl_ ?_
       refine hK.out _ _ (by obtain ⟨q0, q1, q2, q3, q4, q5⟩ := hHeld; exact ⟨pw_cell_below (below_alloc (Below.refl _ _) _) q0, pw_cell_below (below_alloc (Below.refl _ _) _) q1, pw_cell_below (below_alloc (Below.refl _ _) _) q2, pw_cell_below (below_alloc (Below.refl _ _) _) q3, pw_cell_below (below_alloc (Below.refl _ _) _) q4, pw_cell_below (below_alloc (Below.refl _ _) _) q5⟩) (fun hHeld => ?_)
       clear hK K
       refine nm_ (some 29) ?_
       have hb : Below w106.heap.size w106 (w106.alloc (.cells #[.slice A1 (limbs d0).length c1, .slice A3 (limbs d1).length c3] 28 (0, 0))) := below_alloc (Below.refl _ _) _
       have hl0 : (w106.alloc (.cells #[.slice A1 (limbs d0).length c1, .slice A3 (limbs d1).length c3] 28 (0, 0))).cell? ⟨w106.heap.size, 0, none⟩ = some (.slice A1 (limbs d0).length c1) := (blk_cell (blk_new w106 _) 0).trans rfl
       have hl1 : (w106.alloc (.cells #[.slice A1 (limbs d0).length c1, .slice A3 (limbs d1).length c3] 28 (0, 0))).cell? ⟨w106.heap.size, 1, none⟩ = some (.slice A3 (limbs d1).length c3) := (blk_cell (blk_new w106 _) 1).trans rfl
       obtain ⟨w107, hw_⟩ : ∃ x, x = w106.alloc (.cells #[.slice A1 (limbs d0).length c1, .slice A3 (limbs d1).length c3] 28 (0, 0)) := ⟨_, rfl⟩
       rw [← hw_] at hb hl0 hl1 hHeld ⊢
       obtain ⟨gl1, hgl1⟩ : ∃ x, x = w106.heap.size := ⟨_, rfl⟩
       rw [← hgl1] at hl0 hl1 ⊢
       clear hgl1 hw_
       replace B_m0 := bl_b B_m0 hb
       replace B_d0 := bl_b B_d0 hb
       replace B_m1 := bl_b B_m1 hb
       replace B_d1 := bl_b B_d1 hb
       replace HB := bl_b HB hb
       replace B_x := bl_b B_x hb
       replace B_y := bl_b B_y hb
       replace B_r := bl_b B_r hb
       replace B_z := bl_b B_z hb
       replace B_L0 := bl_b B_L0 hb
       clear hb
       have LA1 := a0_ hl0
       have LB1 := a0_ hl1
       clear hl0 hl1
       have B_L1 := a0_ (Below.refl w107.heap.size w107)
       refine on_ 10 (some 24) 65535 HT_ (fun K hK => ?_)
       refine gs_ Try.func36 #[.slice (some ⟨gl0, 0, none⟩) 2 2] ?_
       refine (product2_calls m0 m1 (fits16 o0.2.2.2.1) (fits16 o1.2.2.2.1) gl0 _ _ _ _ _ (pw_cell_below B_L0.out LA0.out) (pw_cell_below B_L0.out LB0.out) (Kd.C_below R_m0.out B_m0.out) C_m0.out (Kd.C_below R_m1.out B_m1.out) C_m1.out).mono ?_
       rintro e w108 ⟨v0, rfl, h1, hb⟩
       refine ⟨_, rfl, ?_⟩
       refine hK.out _ _ (by obtain ⟨q0, q1, q2, q3, q4, q5⟩ := hHeld; exact ⟨pw_cell_below hb q0, pw_cell_below hb q1, pw_cell_below hb q2, pw_cell_below hb q3, pw_cell_below hb q4, pw_cell_below hb q5⟩) (fun hHeld => ?_)
       clear hK K
       refine nm_ (some 24) ?_
       have D_p0 := a0_ (Rd.lower h1 (below_size B_z.out))
       clear h1
       replace B_m0 := bl_b B_m0 hb
       replace B_d0 := bl_b B_d0 hb
       replace B_m1 := bl_b B_m1 hb
       replace B_d1 := bl_b B_d1 hb
       replace HB := bl_b HB hb
       replace B_x := bl_b B_x hb
       replace B_y := bl_b B_y hb
       replace B_r := bl_b B_r hb
       replace B_z := bl_b B_z hb
       replace B_L0 := bl_b B_L0 hb
       replace B_L1 := bl_b B_L1 hb
       clear hb
       have B_p0 := a0_ (Below.refl w108.heap.size w108)
       refine on_ 16 (some 30) 131071 HT_ (fun K hK => ?_)
       refine gs_ Try.func36 #[.slice (some ⟨gl1, 0, none⟩) 2 2] ?_
       refine (product2_calls d0 d1 (fits16 o0.2.2.2.2) (fits16 o1.2.2.2.2) gl1 _ _ _ _ _ (pw_cell_below B_L1.out LA1.out) (pw_cell_below B_L1.out LB1.out) (Kd.C_below R_d0.out B_d0.out) C_d0.out (Kd.C_below R_d1.out B_d1.out) C_d1.out).mono ?_
       rintro e w109 ⟨v1, rfl, h1, hb⟩
       refine ⟨_, rfl, ?_⟩
       refine hK.out _ _ (by obtain ⟨q0, q1, q2, q3, q4, q5⟩ := hHeld; exact ⟨pw_cell_below hb q0, pw_cell_below hb q1, pw_cell_below hb q2, pw_cell_below hb q3, pw_cell_below hb q4, pw_cell_below hb q5⟩) (fun hHeld => ?_)
       clear hK K
       refine nm_ (some 30) ?_
       have D_p1 := a0_ (Rd.lower h1 (below_size B_z.out))
       clear h1
       replace B_m0 := bl_b B_m0 hb
       replace B_d0 := bl_b B_d0 hb
       replace B_m1 := bl_b B_m1 hb
       replace B_d1 := bl_b B_d1 hb
       replace HB := bl_b HB hb
       replace B_x := bl_b B_x hb
       replace B_y := bl_b B_y hb
       replace B_r := bl_b B_r hb
       replace B_z := bl_b B_z hb
       replace B_L0 := bl_b B_L0 hb
       replace B_L1 := bl_b B_L1 hb
       replace B_p0 := bl_b B_p0 hb
       clear hb
       have B_p1 := a0_ (Below.refl w109.heap.size w109)
       exact HC (.slice (some ⟨gl0, 0, none⟩) 2 2, v0, .slice (some ⟨gl1, 0, none⟩) 2 2, v1) _ ⟨Rd.below D_p0.out B_p0.out, Rd.below D_p1.out B_p1.out, B_z.out, hHeld⟩
   · skip
     refine vl_ ?_
     refine hK.out _ _ (by obtain ⟨q0, q1, q2, q3, q4, q5⟩ := hHeld; exact ⟨pw_cell_below (below_alloc (Below.refl _ _) _) q0, pw_cell_below (below_alloc (Below.refl _ _) _) q1, pw_cell_below (below_alloc (Below.refl _ _) _) q2, pw_cell_below (below_alloc (Below.refl _ _) _) q3, pw_cell_below (below_alloc (Below.refl _ _) _) q4, pw_cell_below (below_alloc (Below.refl _ _) _) q5⟩) (fun hHeld => ?_)
     clear hK K
     refine nm_ (some 29) ?_
     have hb : Below w105.heap.size w105 (w105.alloc (.cells #[.slice A1 (limbs d0).length c1, .slice A3 (limbs d1).length c3] 28 (0, 0))) := below_alloc (Below.refl _ _) _
     have hl0 : (w105.alloc (.cells #[.slice A1 (limbs d0).length c1, .slice A3 (limbs d1).length c3] 28 (0, 0))).cell? ⟨w105.heap.size, 0, none⟩ = some (.slice A1 (limbs d0).length c1) := (blk_cell (blk_new w105 _) 0).trans rfl
     have hl1 : (w105.alloc (.cells #[.slice A1 (limbs d0).length c1, .slice A3 (limbs d1).length c3] 28 (0, 0))).cell? ⟨w105.heap.size, 1, none⟩ = some (.slice A3 (limbs d1).length c3) := (blk_cell (blk_new w105 _) 1).trans rfl
     obtain ⟨w106, hw_⟩ : ∃ x, x = w105.alloc (.cells #[.slice A1 (limbs d0).length c1, .slice A3 (limbs d1).length c3] 28 (0, 0)) := ⟨_, rfl⟩
     rw [← hw_] at hb hl0 hl1 hHeld ⊢
     obtain ⟨gl1, hgl1⟩ : ∃ x, x = w105.heap.size := ⟨_, rfl⟩
     rw [← hgl1] at hl0 hl1 ⊢
     clear hgl1 hw_
     replace B_m0 := bl_b B_m0 hb
     replace B_d0 := bl_b B_d0 hb
     replace B_m1 := bl_b B_m1 hb
     replace B_d1 := bl_b B_d1 hb
     replace HB := bl_b HB hb
     replace B_x := bl_b B_x hb
     replace B_y := bl_b B_y hb
     replace B_r := bl_b B_r hb
     replace B_z := bl_b B_z hb
     clear hb
     have LA1 := a0_ hl0
     have LB1 := a0_ hl1
     clear hl0 hl1
     have B_L1 := a0_ (Below.refl w106.heap.size w106)
     refine on_ 9 (some 23) 64511 HT_ (fun K hK => ?_)
     refine vl_ ?_
     refine hK.out _ _ (by obtain ⟨q0, q1, q2, q3, q4, q5⟩ := hHeld; exact ⟨pw_cell_below (below_alloc (Below.refl _ _) _) q0, pw_cell_below (below_alloc (Below.refl _ _) _) q1, pw_cell_below (below_alloc (Below.refl _ _) _) q2, pw_cell_below (below_alloc (Below.refl _ _) _) q3, pw_cell_below (below_alloc (Below.refl _ _) _) q4, pw_cell_below (below_alloc (Below.refl _ _) _) q5⟩) (fun hHeld => ?_)
     clear hK K
     refine nm_ (some 23) ?_
     have hb : Below w106.heap.size w106 (w106.alloc (.cells #[.slice A0 (limbs m0).length c0, .slice A2 (limbs m1).length c2] 28 (0, 0))) := below_alloc (Below.refl _ _) _
     have hl0 : (w106.alloc (.cells #[.slice A0 (limbs m0).length c0, .slice A2 (limbs m1).length c2] 28 (0, 0))).cell? ⟨w106.heap.size, 0, none⟩ = some (.slice A0 (limbs m0).length c0) := (blk_cell (blk_new w106 _) 0).trans rfl
     have hl1 : (w106.alloc (.cells #[.slice A0 (limbs m0).length c0, .slice A2 (limbs m1).length c2] 28 (0, 0))).cell? ⟨w106.heap.size, 1, none⟩ = some (.slice A2 (limbs m1).length c2) := (blk_cell (blk_new w106 _) 1).trans rfl
     obtain ⟨w107, hw_⟩ : ∃ x, x = w106.alloc (.cells #[.slice A0 (limbs m0).length c0, .slice A2 (limbs m1).length c2] 28 (0, 0)) := ⟨_, rfl⟩
     rw [← hw_] at hb hl0 hl1 hHeld ⊢
     obtain ⟨gl0, hgl0⟩ : ∃ x, x = w106.heap.size := ⟨_, rfl⟩
     rw [← hgl0] at hl0 hl1 ⊢
     clear hgl0 hw_
     replace B_m0 := bl_b B_m0 hb
     replace B_d0 := bl_b B_d0 hb
     replace B_m1 := bl_b B_m1 hb
     replace B_d1 := bl_b B_d1 hb
     replace HB := bl_b HB hb
     replace B_x := bl_b B_x hb
     replace B_y := bl_b B_y hb
     replace B_r := bl_b B_r hb
     replace B_z := bl_b B_z hb
     replace B_L1 := bl_b B_L1 hb
     clear hb
     have LA0 := a0_ hl0
     have LB0 := a0_ hl1
     clear hl0 hl1
     have B_L0 := a0_ (Below.refl w107.heap.size w107)
     refine on_ 10 (some 24) 65535 HT_ (fun K hK => ?_)
     refine gs_ Try.func36 #[.slice (some ⟨gl0, 0, none⟩) 2 2] ?_
     refine (product2_calls m0 m1 (fits16 o0.2.2.2.1) (fits16 o1.2.2.2.1) gl0 _ _ _ _ _ (pw_cell_below B_L0.out LA0.out) (pw_cell_below B_L0.out LB0.out) (Kd.C_below R_m0.out B_m0.out) C_m0.out (Kd.C_below R_m1.out B_m1.out) C_m1.out).mono ?_
     rintro e w108 ⟨v0, rfl, h1, hb⟩
     refine ⟨_, rfl, ?_⟩
     refine hK.out _ _ (by obtain ⟨q0, q1, q2, q3, q4, q5⟩ := hHeld; exact ⟨pw_cell_below hb q0, pw_cell_below hb q1, pw_cell_below hb q2, pw_cell_below hb q3, pw_cell_below hb q4, pw_cell_below hb q5⟩) (fun hHeld => ?_)
     clear hK K
     refine nm_ (some 24) ?_
     have D_p0 := a0_ (Rd.lower h1 (below_size B_z.out))
     clear h1
     replace B_m0 := bl_b B_m0 hb
     replace B_d0 := bl_b B_d0 hb
     replace B_m1 := bl_b B_m1 hb
     replace B_d1 := bl_b B_d1 hb
     replace HB := bl_b HB hb
     replace B_x := bl_b B_x hb
     replace B_y := bl_b B_y hb
     replace B_r := bl_b B_r hb
     replace B_z := bl_b B_z hb
     replace B_L1 := bl_b B_L1 hb
     replace B_L0 := bl_b B_L0 hb
     clear hb
     have B_p0 := a0_ (Below.refl w108.heap.size w108)
     refine on_ 16 (some 30) 131071 HT_ (fun K hK => ?_)
     refine gs_ Try.func36 #[.slice (some ⟨gl1, 0, none⟩) 2 2] ?_
     refine (product2_calls d0 d1 (fits16 o0.2.2.2.2) (fits16 o1.2.2.2.2) gl1 _ _ _ _ _ (pw_cell_below B_L1.out LA1.out) (pw_cell_below B_L1.out LB1.out) (Kd.C_below R_d0.out B_d0.out) C_d0.out (Kd.C_below R_d1.out B_d1.out) C_d1.out).mono ?_
     rintro e w109 ⟨v1, rfl, h1, hb⟩
     refine ⟨_, rfl, ?_⟩
     refine hK.out _ _ (by obtain ⟨q0, q1, q2, q3, q4, q5⟩ := hHeld; exact ⟨pw_cell_below hb q0, pw_cell_below hb q1, pw_cell_below hb q2, pw_cell_below hb q3, pw_cell_below hb q4, pw_cell_below hb q5⟩) (fun hHeld => ?_)
     clear hK K
     refine nm_ (some 30) ?_
     have D_p1 := a0_ (Rd.lower h1 (below_size B_z.out))
     clear h1
     replace B_m0 := bl_b B_m0 hb
     replace B_d0 := bl_b B_d0 hb
     replace B_m1 := bl_b B_m1 hb
     replace B_d1 := bl_b B_d1 hb
     replace HB := bl_b HB hb
     replace B_x := bl_b B_x hb
     replace B_y := bl_b B_y hb
     replace B_r := bl_b B_r hb
     replace B_z := bl_b B_z hb
     replace B_L1 := bl_b B_L1 hb
     replace B_L0 := bl_b B_L0 hb
     replace B_p0 := bl_b B_p0 hb
     clear hb
     have B_p1 := a0_ (Below.refl w109.heap.size w109)
     exact HC (.slice (some ⟨gl0, 0, none⟩) 2 2, v0, .slice (some ⟨gl1, 0, none⟩) 2 2, v1) _ ⟨Rd.below D_p0.out B_p0.out, Rd.below D_p1.out B_p1.out, B_z.out, hHeld⟩
 clear B_z
 rintro ⟨l0_, v0, l1_, v1⟩ w125 ⟨h1, h2, hb, hHeld⟩
 refine norm_ (a' := ?_) ?_ ?_
 rotate_left
 · simp only [putAll, PU]
   rfl
 have hs_ := below_size (by repeat (first | exact HB.out | apply below_alloc | apply pw_below_drewN | apply below_drew1) : Below w.heap.size w w105)
 have D_p0 := a0_ (Rd.lower h1 hs_)
 have D_p1 := a0_ (Rd.lower h2 hs_)
 clear hs_
 obtain ⟨A_p0, c_p0, rfl, hlo0, hC0⟩ := Rd.reads h1
 clear h1
 obtain ⟨A_p1, c_p1, rfl, hlo1, hC1⟩ := Rd.reads h2
 clear h2
 replace B_m0 := bl_b B_m0 hb
 replace B_d0 := bl_b B_d0 hb
 replace B_m1 := bl_b B_m1 hb
 replace B_d1 := bl_b B_d1 hb
 replace HB := bl_b HB hb
 replace B_x := bl_b B_x hb
 replace B_y := bl_b B_y hb
 replace B_r := bl_b B_r hb
 clear hb
 have R_p0 := a0_ hC0
 have C_p0 := a0_ hlo0
 clear hC0 hlo0
 have B_p0 := a0_ (Below.refl w125.heap.size w125)
 have R_p1 := a0_ hC1
 have C_p1 := a0_ hlo1
 clear hC1 hlo1
 have B_p1 := a0_ (Below.refl w125.heap.size w125)
 have L_r : Aside0 (g_r < w125.heap.size) := ⟨blk_lt (blk_below K_r.out B_r.out)⟩
 have S_r : Aside0 (w.heap.size ≤ w125.heap.size) := ⟨below_size HB.out⟩
 refine on_ 17 (some 31) 262143 HT_ (fun K hK => ?_)
 refine gs_ Try.func35 #[.bool (s0 != s1), .slice A_p0 (limbs (m0 * m1)).length c_p0, .slice A_p1 (limbs (d0 * d1)).length c_p1] ?_
 refine (reduced_calls (s0 != s1) (m0 * m1) (d0 * d1) (Nat.mul_pos o0.2.1 o1.2.1) (fits32 (fits_mul o0.2.2.2.1 o1.2.2.2.1)) (fits32 (fits_mul o0.2.2.2.2 o1.2.2.2.2)) _ _ _ _ _ (Kd.C_below R_p0.out B_p0.out) C_p0.out (Kd.C_below R_p1.out B_p1.out) C_p1.out).mono ?_
 rintro e w126 ⟨v1, v2, rfl, h1, h2, hb⟩
 have D_M := a0_ h1
 have D_D := a0_ h2
 obtain ⟨A_M, c_M, rfl, -, -⟩ := Rd.reads h1
 obtain ⟨A_D, c_D, rfl, -, -⟩ := Rd.reads h2
 clear h1 h2
 refine ⟨_, rfl, ?_⟩
 refine hK.out _ _ (by obtain ⟨q0, q1, q2, q3, q4, q5⟩ := hHeld; exact ⟨pw_cell_below hb q0, pw_cell_below hb q1, pw_cell_below hb q2, pw_cell_below hb q3, pw_cell_below hb q4, pw_cell_below hb q5⟩) (fun hHeld => ?_)
 clear hK K
 refine nm_ (some 31) ?_
 replace B_m0 := bl_b B_m0 hb
 replace B_d0 := bl_b B_d0 hb
 replace B_m1 := bl_b B_m1 hb
 replace B_d1 := bl_b B_d1 hb
 replace B_p0 := bl_b B_p0 hb
 replace B_p1 := bl_b B_p1 hb
 replace HB := bl_b HB hb
 replace B_x := bl_b B_x hb
 replace B_y := bl_b B_y hb
 replace B_r := bl_b B_r hb
 clear hb
 have B_M := a0_ (Below.refl w126.heap.size w126)
 clear R_p0 C_p0 B_p0
 clear R_p1 C_p1 B_p1
 clear R_m0 C_m0 B_m0
 clear R_m1 C_m1 B_m1
 clear R_d0 C_d0 B_d0
 clear R_d1 C_d1 B_d1
 refine pu_ 18 (some 32) 524287 HT_ ?_
 refine pu_ 19 (some 33) 1048575 HT_ ?_
 have bk_r := blk_below K_r.out B_r.out
 have hz_r_0 : w126.cell? ⟨g_r, 0, none⟩ = some (.bool false) := (blk_cell bk_r 0).trans rfl
 have hf_r_0 := blk_frozen bk_r 0
 have hz_r_1 : w126.cell? ⟨g_r, 1, none⟩ = some (.slice none 0 0) := (blk_cell bk_r 1).trans rfl
 have hf_r_1 := blk_frozen bk_r 1
 have hz_r_2 : w126.cell? ⟨g_r, 2, none⟩ = some (.slice none 0 0) := (blk_cell bk_r 2).trans rfl
 have hf_r_2 := blk_frozen bk_r 2
 clear bk_r
 refine on_ 20 none 2097151 HT_ (fun K hK => ?_)
 refine skip_ (w1 := ((w126.setCell ⟨g_r, 0, none⟩ (.bool (red (s0 != s1) (m0 * m1) (d0 * d1)).1)).setCell ⟨g_r, 1, none⟩ (.slice A_M (limbs (red (s0 != s1) (m0 * m1) (d0 * d1)).2.1).length c_M)).setCell ⟨g_r, 2, none⟩ (.slice A_D (limbs (red (s0 != s1) (m0 * m1) (d0 * d1)).2.2.1).length c_D)) (by rfl) rfl ?_ ?_
 · first | (go_simp; done) | (go_simp; rfl)
 refine hK.out _ _ ⟨(blk_cell (blk_below K_x.out (below_set (below_set (below_set B_x.out N_r_x.out) N_r_x.out) N_r_x.out)) 0).trans rfl, (blk_cell (blk_below K_x.out (below_set (below_set (below_set B_x.out N_r_x.out) N_r_x.out) N_r_x.out)) 1).trans rfl, (blk_cell (blk_below K_x.out (below_set (below_set (below_set B_x.out N_r_x.out) N_r_x.out) N_r_x.out)) 2).trans rfl, (blk_cell (blk_below K_y.out (below_set (below_set (below_set B_y.out N_r_y.out) N_r_y.out) N_r_y.out)) 0).trans rfl, (blk_cell (blk_below K_y.out (below_set (below_set (below_set B_y.out N_r_y.out) N_r_y.out) N_r_y.out)) 1).trans rfl, (blk_cell (blk_below K_y.out (below_set (below_set (below_set B_y.out N_r_y.out) N_r_y.out) N_r_y.out)) 2).trans rfl⟩ (fun hHeld => ?_)
 clear hK K
 refine pu_ 21 (some 5) 4194303 HT_ ?_
 refine do_ HT_ ?_
 clear HT_ HW_ hHeld
 clear hz_r_0 hf_r_0 hz_r_1 hf_r_1 hz_r_2 hf_r_2
 go_wp2_with fail
 refine bodyPost_ret (results_ct rfl _ _ g_r 30 #[.bool (red (s0 != s1) (m0 * m1) (d0 * d1)).1, .slice A_M (limbs (red (s0 != s1) (m0 * m1) (d0 * d1)).2.1).length c_M, .slice A_D (limbs (red (s0 != s1) (m0 * m1) (d0 * d1)).2.2.1).length c_D] (0, 0) _ rfl (by (with_reducible repeat (first | refine blk_drewN ?_ _ | refine blk_drew ?_ | refine blk_alloc ?_ _)); refine blk_put (cs := #[.bool (red (s0 != s1) (m0 * m1) (d0 * d1)).1, .slice A_M (limbs (red (s0 != s1) (m0 * m1) (d0 * d1)).2.1).length c_M, .slice none 0 0]) ?_ 2 _ rfl; (with_reducible repeat (first | refine blk_drewN ?_ _ | refine blk_drew ?_ | refine blk_alloc ?_ _)); refine blk_put (cs := #[.bool (red (s0 != s1) (m0 * m1) (d0 * d1)).1, .slice none 0 0, .slice none 0 0]) ?_ 1 _ rfl; (with_reducible repeat (first | refine blk_drewN ?_ _ | refine blk_drew ?_ | refine blk_alloc ?_ _)); refine blk_put (cs := #[.bool false, .slice none 0 0, .slice none 0 0]) ?_ 0 _ rfl; (with_reducible repeat (first | refine blk_drewN ?_ _ | refine blk_drew ?_ | refine blk_alloc ?_ _)); exact blk_below K_r.out B_r.out) Try.underlying30 rfl (by kernel_rfl)) rfl ?_
 exact ⟨_, _, rfl, Rd.lower (Rd.set (Rd.set (Rd.set (Rd.below D_M.out B_M.out) _ L_r.out _) _ L_r.out _) _ L_r.out _) S_r.out, Rd.lower (Rd.set (Rd.set (Rd.set (Rd.below D_D.out B_M.out) _ L_r.out _) _ L_r.out _) _ L_r.out _) S_r.out, below_set (below_set (below_set HB.out G_r.out) G_r.out) G_r.out⟩
def RDiv.T6 : Bool × List (List Nat × List Nat) := (true, [([], []), ([0], [0]), ([], []), ([2], [2]), ([1, 3], [1, 3]), ([], []), ([5], [5]), ([], []), ([7], [7]), ([6, 8], [6, 8]), ([9], [9]), ([], []), ([11], [11]), ([], []), ([13], [13]), ([12, 14], [12, 14]), ([15, 10], [15]), ([4, 10, 16, 16], [4, 10, 16]), ([17], [17]), ([17], [17]), ([18, 17, 0, 1, 2, 3, 4, 5, 6, 7, 8, 9, 10, 11, 12, 13, 14, 15, 16, 17, 18, 19], [18]), ([19, 20, 0, 1, 2, 3, 4, 5, 6, 7, 8, 9, 10, 11, 12, 13, 14, 15, 16, 17, 18, 19, 20], [19])])
def RDiv.B6 : List Nat := [0, 1, 0, 4, 15, 0, 32, 0, 128, 480, 992, 0, 2048, 0, 8192, 30720, 65504, 131071, 262143, 262143, 1048575, 2097151]
theorem RDiv.tab6 : rtab .any (opsOf Try.f27 6) = RDiv.T6 := by kernel_rfl
theorem RDiv.bits6 : waitsOk RDiv.T6.2 RDiv.B6 = true := by kernel_rfl
theorem rdiv_calls  (s0 : Bool) (m0 d0 : Nat) (o0 : OkR s0 m0 d0) (s1 : Bool) (m1 d1 : Nat) (o1 : OkR s1 m1 d1) (hm1 : m1 ≠ 0) (A0 : Option Addr) (c0 : Nat) (A1 : Option Addr) (c1 : Nat) (A2 : Option Addr) (c2 : Nat) (A3 : Option Addr) (c3 : Nat) (w : World)
 (hrm0 : Kd.C (Kd.int .u32) w A0 (limbs m0).length (limbs m0)) (hcm0 : (limbs m0).length ≤ c0) (hrd0 : Kd.C (Kd.int .u32) w A1 (limbs d0).length (limbs d0)) (hcd0 : (limbs d0).length ≤ c1) (hrm1 : Kd.C (Kd.int .u32) w A2 (limbs m1).length (limbs m1)) (hcm1 : (limbs m1).length ≤ c2) (hrd1 : Kd.C (Kd.int .u32) w A3 (limbs d1).length (limbs d1)) (hcd1 : (limbs d1).length ≤ c3)  :
 Calls Try.prog 27 #[.agg #[.bool s0, .slice A0 (limbs m0).length c0, .slice A1 (limbs d0).length c1], .agg #[.bool s1, .slice A2 (limbs m1).length c2, .slice A3 (limbs d1).length c3]] w fun e w' => ∃ v1 v2, e = .returned (.tuple #[.agg #[.bool (red (s0 != s1) (m0 * d1) (d0 * m1)).1, v1, v2], .int .i64 (red (s0 != s1) (m0 * d1) (d0 * m1)).2.2.2]) ∧ Rd w.heap.size w' v1 (limbs (red (s0 != s1) (m0 * d1) (d0 * m1)).2.1) ∧ Rd w.heap.size w' v2 (limbs (red (s0 != s1) (m0 * d1) (d0 * m1)).2.2.1) ∧ Below w.heap.size w w' := by
 have R_m0 := a0_ hrm0
 have C_m0 := a0_ hcm0
 clear hrm0 hcm0
 have B_m0 := a0_ (Below.refl w.heap.size w)
 have R_d0 := a0_ hrd0
 have C_d0 := a0_ hcd0
 clear hrd0 hcd0
 have B_d0 := a0_ (Below.refl w.heap.size w)
 have R_m1 := a0_ hrm1
 have C_m1 := a0_ hcm1
 clear hrm1 hcm1
 have B_m1 := a0_ (Below.refl w.heap.size w)
 have R_d1 := a0_ hrd1
 have C_d1 := a0_ hcd1
 clear hrd1 hcd1
 have B_d1 := a0_ (Below.refl w.heap.size w)
 have HB := a0_ (Below.refl w.heap.size w)
 have hu30 := Try.underlying30
 have hu88 := Try.underlying88
 have hne : ((limbs m1).length == 0) = false := by rw [limbs_len0]; exact decide_eq_false (by omega)
 have hne2 : (((limbs m1).length : Int) == 0) = false := by rw [limbs_len0']; exact decide_eq_false (by omega)
 go_enter Try.func27, Try.ntmps27
 go_wp2_with (first | ((with_reducible refine gd_ 2 rfl ?_); refine bx_ (N := 2) #[.bool s0, .slice A0 (limbs m0).length c0, .slice A1 (limbs d0).length c1] 30 ?_; intro g_x hg w101 hbox hb; have G_x := rd_b HB hg; replace B_m0 := bl_b B_m0 hb; replace B_d0 := bl_b B_d0 hb; replace B_m1 := bl_b B_m1 hb; replace B_d1 := bl_b B_d1 hb; replace HB := bl_b HB hb; clear hb; have K_x := a0_ hbox; have B_x := a0_ (Below.refl w101.heap.size w101); clear hbox hg) | ((with_reducible refine gd_ 3 rfl ?_); refine bx_ (N := 3) #[.bool s1, .slice A2 (limbs m1).length c2, .slice A3 (limbs d1).length c3] 30 ?_; intro g_y hg w102 hbox hb; have G_y := rd_b HB hg; have N_y_x := rd_b B_x hg; replace B_m0 := bl_b B_m0 hb; replace B_d0 := bl_b B_d0 hb; replace B_m1 := bl_b B_m1 hb; replace B_d1 := bl_b B_d1 hb; replace HB := bl_b HB hb; replace B_x := bl_b B_x hb; clear hb; have K_y := a0_ hbox; have B_y := a0_ (Below.refl w102.heap.size w102); clear hbox hg) | ((with_reducible refine gd_ 4 rfl ?_); refine bx_ (N := 4) #[.bool false, .slice none 0 0, .slice none 0 0] 30 ?_; intro g_r hg w103 hbox hb; have G_r := rd_b HB hg; have N_r_x := rd_b B_x hg; have N_r_y := rd_b B_y hg; replace B_m0 := bl_b B_m0 hb; replace B_d0 := bl_b B_d0 hb; replace B_m1 := bl_b B_m1 hb; replace B_d1 := bl_b B_d1 hb; replace HB := bl_b HB hb; replace B_x := bl_b B_x hb; replace B_y := bl_b B_y hb; clear hb; have K_r := a0_ hbox; have B_r := a0_ (Below.refl w103.heap.size w103); clear hbox hg; have bk_x := blk_below K_x.out B_x.out; have hz_x_0 : w103.cell? ⟨g_x, 0, none⟩ = some (.bool s0) := (blk_cell bk_x 0).trans rfl; have hz_x_1 : w103.cell? ⟨g_x, 1, none⟩ = some (.slice A0 (limbs m0).length c0) := (blk_cell bk_x 1).trans rfl; have hz_x_2 : w103.cell? ⟨g_x, 2, none⟩ = some (.slice A1 (limbs d0).length c1) := (blk_cell bk_x 2).trans rfl; clear bk_x; have bk_y := blk_below K_y.out B_y.out; have hz_y_0 : w103.cell? ⟨g_y, 0, none⟩ = some (.bool s1) := (blk_cell bk_y 0).trans rfl; have hz_y_1 : w103.cell? ⟨g_y, 1, none⟩ = some (.slice A2 (limbs m1).length c2) := (blk_cell bk_y 1).trans rfl; have hz_y_2 : w103.cell? ⟨g_y, 2, none⟩ = some (.slice A3 (limbs d1).length c3) := (blk_cell bk_y 2).trans rfl; clear bk_y))
 with_reducible refine (rboth_calls s0 m0 d0 o0 s1 m1 d1 o1 _ _ _ _ _ _ _ _ _ (Kd.C_below R_m0.out B_m0.out) C_m0.out (Kd.C_below R_d0.out B_d0.out) C_d0.out (Kd.C_below R_m1.out B_m1.out) C_m1.out (Kd.C_below R_d1.out B_d1.out) C_d1.out).mono ?_
 rintro e w104 ⟨rfl, hb⟩
 clear hz_x_0 hz_x_1 hz_x_2
 clear hz_y_0 hz_y_1 hz_y_2
 replace B_m0 := bl_b B_m0 hb
 replace B_d0 := bl_b B_d0 hb
 replace B_m1 := bl_b B_m1 hb
 replace B_d1 := bl_b B_d1 hb
 replace HB := bl_b HB hb
 replace B_x := bl_b B_x hb
 replace B_y := bl_b B_y hb
 replace B_r := bl_b B_r hb
 clear hb
 have bk_y := blk_below K_y.out B_y.out
 have hz_y_0 : w104.cell? ⟨g_y, 0, none⟩ = some (.bool s1) := (blk_cell bk_y 0).trans rfl
 have hz_y_1 : w104.cell? ⟨g_y, 1, none⟩ = some (.slice A2 (limbs m1).length c2) := (blk_cell bk_y 1).trans rfl
 have hz_y_2 : w104.cell? ⟨g_y, 2, none⟩ = some (.slice A3 (limbs d1).length c3) := (blk_cell bk_y 2).trans rfl
 clear bk_y
 go_wp2_with fail
 clear hz_y_0 hz_y_1 hz_y_2
 have hb : Below w104.heap.size w104 w104.drew := below_drew1 (Below.refl _ _)
 replace B_m0 := bl_b B_m0 hb
 replace B_d0 := bl_b B_d0 hb
 replace B_m1 := bl_b B_m1 hb
 replace B_d1 := bl_b B_d1 hb
 replace HB := bl_b HB hb
 replace B_x := bl_b B_x hb
 replace B_y := bl_b B_y hb
 replace B_r := bl_b B_r hb
 clear hb
 have bk_x := blk_below K_x.out B_x.out
 have hz_x_0 : w104.drew.cell? ⟨g_x, 0, none⟩ = some (.bool s0) := (blk_cell bk_x 0).trans rfl
 have hz_x_1 : w104.drew.cell? ⟨g_x, 1, none⟩ = some (.slice A0 (limbs m0).length c0) := (blk_cell bk_x 1).trans rfl
 have hz_x_2 : w104.drew.cell? ⟨g_x, 2, none⟩ = some (.slice A1 (limbs d0).length c1) := (blk_cell bk_x 2).trans rfl
 clear bk_x
 have bk_y := blk_below K_y.out B_y.out
 have hz_y_0 : w104.drew.cell? ⟨g_y, 0, none⟩ = some (.bool s1) := (blk_cell bk_y 0).trans rfl
 have hz_y_1 : w104.drew.cell? ⟨g_y, 1, none⟩ = some (.slice A2 (limbs m1).length c2) := (blk_cell bk_y 1).trans rfl
 have hz_y_2 : w104.drew.cell? ⟨g_y, 2, none⟩ = some (.slice A3 (limbs d1).length c3) := (blk_cell bk_y 2).trans rfl
 clear bk_y
 refine start_ (n := 22) (S := fun w' => w'.cell? ⟨g_x, 0, none⟩ = some (.bool s0) ∧ w'.cell? ⟨g_x, 1, none⟩ = some (.slice A0 (limbs m0).length c0) ∧ w'.cell? ⟨g_x, 2, none⟩ = some (.slice A1 (limbs d0).length c1) ∧ w'.cell? ⟨g_y, 0, none⟩ = some (.bool s1) ∧ w'.cell? ⟨g_y, 1, none⟩ = some (.slice A2 (limbs m1).length c2) ∧ w'.cell? ⟨g_y, 2, none⟩ = some (.slice A3 (limbs d1).length c3)) (ds := []) (tB_ 22 0) (by kernel_rfl) rfl (by kernel_rfl) ⟨hz_x_0, hz_x_1, hz_x_2, hz_y_0, hz_y_1, hz_y_2⟩ (fun hHeld => ?_)
 refine with_tabW RDiv.tab6 RDiv.bits6 (fun HT_ HW_ => ?_)
 clear hz_x_0 hz_x_1 hz_x_2 hz_y_0 hz_y_1 hz_y_2
 generalize w104.drew = w105 at B_m0 B_d0 B_m1 B_d1 HB B_x B_y B_r hHeld ⊢
 refine pu_ 0 (some 19) 1 HT_ ?_
 refine pu_ 2 (some 21) 5 HT_ ?_
 refine pu_ 5 (some 24) 37 HT_ ?_
 refine pu_ 7 (some 26) 165 HT_ ?_
 refine pu_ 11 (some 30) 2213 HT_ ?_
 refine pu_ 13 (some 32) 10405 HT_ ?_
 refine tk_ 1 (some 20) 10407 HT_ HW_ hHeld ?_ ?_ ?_ ?_ ?_
 rotate_left
 · rintro w' ⟨s0, s1, s2, s3, s4, s5⟩
   go_simp
   with_reducible rfl
 rotate_left
 · simp only [PU]
   rfl
 refine tk_ 3 (some 22) 10415 HT_ HW_ hHeld ?_ ?_ ?_ ?_ ?_
 rotate_left
 · rintro w' ⟨s0, s1, s2, s3, s4, s5⟩
   go_simp
   with_reducible rfl
 rotate_left
 · simp only [PU]
   rfl
 refine tk_ 6 (some 25) 10479 HT_ HW_ hHeld ?_ ?_ ?_ ?_ ?_
 rotate_left
 · rintro w' ⟨s0, s1, s2, s3, s4, s5⟩
   go_simp
   with_reducible rfl
 rotate_left
 · simp only [PU]
   rfl
 refine tk_ 8 (some 27) 10735 HT_ HW_ hHeld ?_ ?_ ?_ ?_ ?_
 rotate_left
 · rintro w' ⟨s0, s1, s2, s3, s4, s5⟩
   go_simp
   with_reducible rfl
 rotate_left
 · simp only [PU]
   rfl
 refine tk_ 12 (some 31) 14831 HT_ HW_ hHeld ?_ ?_ ?_ ?_ ?_
 rotate_left
 · rintro w' ⟨s0, s1, s2, s3, s4, s5⟩
   go_simp
   with_reducible rfl
 rotate_left
 · simp only [PU]
   rfl
 refine tk_ 14 (some 33) 31215 HT_ HW_ hHeld ?_ ?_ ?_ ?_ ?_
 rotate_left
 · rintro w' ⟨s0, s1, s2, s3, s4, s5⟩
   go_simp
   with_reducible rfl
 rotate_left
 · simp only [PU]
   rfl
 refine pu_ 4 (some 23) 31231 HT_ ?_
 have B_z := a0_ (Below.refl w105.heap.size w105)
 refine join_ (σ := Value × Value × Value × Value) 5 (tB_ 22 131071) (fun s => [(28, s.1), (29, s.2.1), (34, s.2.2.1), (35, s.2.2.2)]) (fun s w' => Rd w105.heap.size w' s.2.1 (limbs (m0 * d1)) ∧ Rd w105.heap.size w' s.2.2.2 (limbs (d0 * m1)) ∧ Below w105.heap.size w105 w' ∧ (w'.cell? ⟨g_x, 0, none⟩ = some (.bool s0) ∧ w'.cell? ⟨g_x, 1, none⟩ = some (.slice A0 (limbs m0).length c0) ∧ w'.cell? ⟨g_x, 2, none⟩ = some (.slice A1 (limbs d0).length c1) ∧ w'.cell? ⟨g_y, 0, none⟩ = some (.bool s1) ∧ w'.cell? ⟨g_y, 1, none⟩ = some (.slice A2 (limbs m1).length c2) ∧ w'.cell? ⟨g_y, 2, none⟩ = some (.slice A3 (limbs d1).length c3))) ?hcont ?hord
 rotate_left
 · intro HC
   refine tw_ 9 15 (some 28) (some 34) 31743 63999 HT_ (fun K hK => ?_) (fun K hK => ?_)
   · skip
     refine vl_ ?_
     refine hK.out _ _ (by obtain ⟨q0, q1, q2, q3, q4, q5⟩ := hHeld; exact ⟨pw_cell_below (below_alloc (Below.refl _ _) _) q0, pw_cell_below (below_alloc (Below.refl _ _) _) q1, pw_cell_below (below_alloc (Below.refl _ _) _) q2, pw_cell_below (below_alloc (Below.refl _ _) _) q3, pw_cell_below (below_alloc (Below.refl _ _) _) q4, pw_cell_below (below_alloc (Below.refl _ _) _) q5⟩) (fun hHeld => ?_)
     clear hK K
     refine nm_ (some 28) ?_
     have hb : Below w105.heap.size w105 (w105.alloc (.cells #[.slice A0 (limbs m0).length c0, .slice A3 (limbs d1).length c3] 28 (0, 0))) := below_alloc (Below.refl _ _) _
     have hl0 : (w105.alloc (.cells #[.slice A0 (limbs m0).length c0, .slice A3 (limbs d1).length c3] 28 (0, 0))).cell? ⟨w105.heap.size, 0, none⟩ = some (.slice A0 (limbs m0).length c0) := (blk_cell (blk_new w105 _) 0).trans rfl
     have hl1 : (w105.alloc (.cells #[.slice A0 (limbs m0).length c0, .slice A3 (limbs d1).length c3] 28 (0, 0))).cell? ⟨w105.heap.size, 1, none⟩ = some (.slice A3 (limbs d1).length c3) := (blk_cell (blk_new w105 _) 1).trans rfl
     obtain ⟨w106, hw_⟩ : ∃ x, x = w105.alloc (.cells #[.slice A0 (limbs m0).length c0, .slice A3 (limbs d1).length c3] 28 (0, 0)) := ⟨_, rfl⟩
     rw [← hw_] at hb hl0 hl1 hHeld ⊢
     obtain ⟨gl0, hgl0⟩ : ∃ x, x = w105.heap.size := ⟨_, rfl⟩
     rw [← hgl0] at hl0 hl1 ⊢
     clear hgl0 hw_
     replace B_m0 := bl_b B_m0 hb
     replace B_d0 := bl_b B_d0 hb
     replace B_m1 := bl_b B_m1 hb
     replace B_d1 := bl_b B_d1 hb
     replace HB := bl_b HB hb
     replace B_x := bl_b B_x hb
     replace B_y := bl_b B_y hb
     replace B_r := bl_b B_r hb
     replace B_z := bl_b B_z hb
     clear hb
     have LA0 := a0_ hl0
     have LB0 := a0_ hl1
     clear hl0 hl1
     have B_L0 := a0_ (Below.refl w106.heap.size w106)
     refine tw_ 10 15 (some 29) (some 34) 32767 64511 HT_ (fun K hK => ?_) (fun K hK => ?_)
     · skip
       refine gs_ Try.func36 #[.slice (some ⟨gl0, 0, none⟩) 2 2] ?_
       refine (product2_calls m0 d1 (fits16 o0.2.2.2.1) (fits16 o1.2.2.2.2) gl0 _ _ _ _ _ (pw_cell_below B_L0.out LA0.out) (pw_cell_below B_L0.out LB0.out) (Kd.C_below R_m0.out B_m0.out) C_m0.out (Kd.C_below R_d1.out B_d1.out) C_d1.out).mono ?_
       rintro e w107 ⟨v0, rfl, h1, hb⟩
       refine ⟨_, rfl, ?_⟩
       refine hK.out _ _ (by obtain ⟨q0, q1, q2, q3, q4, q5⟩ := hHeld; exact ⟨pw_cell_below hb q0, pw_cell_below hb q1, pw_cell_below hb q2, pw_cell_below hb q3, pw_cell_below hb q4, pw_cell_below hb q5⟩) (fun hHeld => ?_)
       clear hK K
       refine nm_ (some 29) ?_
       have D_p0 := a0_ (Rd.lower h1 (below_size B_z.out))
       clear h1
       replace B_m0 := bl_b B_m0 hb
       replace B_d0 := bl_b B_d0 hb
       replace B_m1 := bl_b B_m1 hb
       replace B_d1 := bl_b B_d1 hb
       replace HB := bl_b HB hb
       replace B_x := bl_b B_x hb
       replace B_y := bl_b B_y hb
       replace B_r := bl_b B_r hb
       replace B_z := bl_b B_z hb
       replace B_L0 := bl_b B_L0 hb
       clear hb
       have B_p0 := a0_ (Below.refl w107.heap.size w107)
       refine on_ 15 (some 34) 65535 HT_ (fun K hK => ?_)
       refine vl_ ?_
       refine hK.out _ _ (by obtain ⟨q0, q1, q2, q3, q4, q5⟩ := hHeld; exact ⟨pw_cell_below (below_alloc (Below.refl _ _) _) q0, pw_cell_below (below_alloc (Below.refl _ _) _) q1, pw_cell_below (below_alloc (Below.refl _ _) _) q2, pw_cell_below (below_alloc (Below.refl _ _) _) q3, pw_cell_below (below_alloc (Below.refl _ _) _) q4, pw_cell_below (below_alloc (Below.refl _ _) _) q5⟩) (fun hHeld => ?_)
       clear hK K
       refine nm_ (some 34) ?_
       have hb : Below w107.heap.size w107 (w107.alloc (.cells #[.slice A1 (limbs d0).length c1, .slice A2 (limbs m1).length c2] 28 (0, 0))) := below_alloc (Below.refl _ _) _
       have hl0 : (w107.alloc (.cells #[.slice A1 (limbs d0).length c1, .slice A2 (limbs m1).length c2] 28 (0, 0))).cell? ⟨w107.heap.size, 0, none⟩ = some (.slice A1 (limbs d0).length c1) := (blk_cell (blk_new w107 _) 0).trans rfl
       have hl1 : (w107.alloc (.cells #[.slice A1 (limbs d0).length c1, .slice A2 (limbs m1).length c2] 28 (0, 0))).cell? ⟨w107.heap.size, 1, none⟩ = some (.slice A2 (limbs m1).length c2) := (blk_cell (blk_new w107 _) 1).trans rfl
       obtain ⟨w108, hw_⟩ : ∃ x, x = w107.alloc (.cells #[.slice A1 (limbs d0).length c1, .slice A2 (limbs m1).length c2] 28 (0, 0)) := ⟨_, rfl⟩
       rw [← hw_] at hb hl0 hl1 hHeld ⊢
       obtain ⟨gl1, hgl1⟩ : ∃ x, x = w107.heap.size := ⟨_, rfl⟩
       rw [← hgl1] at hl0 hl1 ⊢
       clear hgl1 hw_
       replace B_m0 := bl_b B_m0 hb
       replace B_d0 := bl_b B_d0 hb
       replace B_m1 := bl_b B_m1 hb
       replace B_d1 := bl_b B_d1 hb
       replace HB := bl_b HB hb
       replace B_x := bl_b B_x hb
       replace B_y := bl_b B_y hb
       replace B_r := bl_b B_r hb
       replace B_z := bl_b B_z hb
       replace B_L0 := bl_b B_L0 hb
       replace B_p0 := bl_b B_p0 hb
       clear hb
       have LA1 := a0_ hl0
       have LB1 := a0_ hl1
       clear hl0 hl1
       have B_L1 := a0_ (Below.refl w108.heap.size w108)
       refine on_ 16 (some 35) 131071 HT_ (fun K hK => ?_)
       refine gs_ Try.func36 #[.slice (some ⟨gl1, 0, none⟩) 2 2] ?_
       refine (product2_calls d0 m1 (fits16 o0.2.2.2.2) (fits16 o1.2.2.2.1) gl1 _ _ _ _ _ (pw_cell_below B_L1.out LA1.out) (pw_cell_below B_L1.out LB1.out) (Kd.C_below R_d0.out B_d0.out) C_d0.out (Kd.C_below R_m1.out B_m1.out) C_m1.out).mono ?_
       rintro e w109 ⟨v1, rfl, h1, hb⟩
       refine ⟨_, rfl, ?_⟩
       refine hK.out _ _ (by obtain ⟨q0, q1, q2, q3, q4, q5⟩ := hHeld; exact ⟨pw_cell_below hb q0, pw_cell_below hb q1, pw_cell_below hb q2, pw_cell_below hb q3, pw_cell_below hb q4, pw_cell_below hb q5⟩) (fun hHeld => ?_)
       clear hK K
       refine nm_ (some 35) ?_
       have D_p1 := a0_ (Rd.lower h1 (below_size B_z.out))
       clear h1
       replace B_m0 := bl_b B_m0 hb
       replace B_d0 := bl_b B_d0 hb
       replace B_m1 := bl_b B_m1 hb
       replace B_d1 := bl_b B_d1 hb
       replace HB := bl_b HB hb
       replace B_x := bl_b B_x hb
       replace B_y := bl_b B_y hb
       replace B_r := bl_b B_r hb
       replace B_z := bl_b B_z hb
       replace B_L0 := bl_b B_L0 hb
       replace B_p0 := bl_b B_p0 hb
       replace B_L1 := bl_b B_L1 hb
       clear hb
       have B_p1 := a0_ (Below.refl w109.heap.size w109)
       exact HC (.slice (some ⟨gl0, 0, none⟩) 2 2, v0, .slice (some ⟨gl1, 0, none⟩) 2 2, v1) _ ⟨Rd.below D_p0.out B_p0.out, Rd.below D_p1.out B_p1.out, B_z.out, hHeld⟩
     · skip
       refine vl_ ?_
       refine hK.out _ _ (by obtain ⟨q0, q1, q2, q3, q4, q5⟩ := hHeld; exact ⟨pw_cell_below (below_alloc (Below.refl _ _) _) q0, pw_cell_below (below_alloc (Below.refl _ _) _) q1, pw_cell_below (below_alloc (Below.refl _ _) _) q2, pw_cell_below (below_alloc (Below.refl _ _) _) q3, pw_cell_below (below_alloc (Below.refl _ _) _) q4, pw_cell_below (below_alloc (Below.refl _ _) _) q5⟩) (fun hHeld => ?_)
       clear hK K
       refine nm_ (some 34) ?_
       have hb : Below w106.heap.size w106 (w106.alloc (.cells #[.slice A1 (limbs d0).length c1, .slice A2 (limbs m1).length c2] 28 (0, 0))) := below_alloc (Below.refl _ _) _
       have hl0 : (w106.alloc (.cells #[.slice A1 (limbs d0).length c1, .slice A2 (limbs m1).length c2] 28 (0, 0))).cell? ⟨w106.heap.size, 0, none⟩ = some (.slice A1 (limbs d0).length c1) := (blk_cell (blk_new w106 _) 0).trans rfl
       have hl1 : (w106.alloc (.cells #[.slice A1 (limbs d0).length c1, .slice A2 (limbs m1).length c2] 28 (0, 0))).cell? ⟨w106.heap.size, 1, none⟩ = some (.slice A2 (limbs m1).length c2) := (blk_cell (blk_new w106 _) 1).trans rfl
       obtain ⟨w107, hw_⟩ : ∃ x, x = w106.alloc (.cells #[.slice A1 (limbs d0).length c1, .slice A2 (limbs m1).length c2] 28 (0, 0)) := ⟨_, rfl⟩
       rw [← hw_] at hb hl0 hl1 hHeld ⊢
       obtain ⟨gl1, hgl1⟩ : ∃ x, x = w106.heap.size := ⟨_, rfl⟩
       rw [← hgl1] at hl0 hl1 ⊢
       clear hgl1 hw_
       replace B_m0 := bl_b B_m0 hb
       replace B_d0 := bl_b B_d0 hb
       replace B_m1 := bl_b B_m1 hb
       replace B_d1 := bl_b B_d1 hb
       replace HB := bl_b HB hb
       replace B_x := bl_b B_x hb
       replace B_y := bl_b B_y hb
       replace B_r := bl_b B_r hb
       replace B_z := bl_b B_z hb
       replace B_L0 := bl_b B_L0 hb
       clear hb
       have LA1 := a0_ hl0
       have LB1 := a0_ hl1
       clear hl0 hl1
       have B_L1 := a0_ (Below.refl w107.heap.size w107)
       refine on_ 10 (some 29) 65535 HT_ (fun K hK => ?_)
       refine gs_ Try.func36 #[.slice (some ⟨gl0, 0, none⟩) 2 2] ?_
       refine (product2_calls m0 d1 (fits16 o0.2.2.2.1) (fits16 o1.2.2.2.2) gl0 _ _ _ _ _ (pw_cell_below B_L0.out LA0.out) (pw_cell_below B_L0.out LB0.out) (Kd.C_below R_m0.out B_m0.out) C_m0.out (Kd.C_below R_d1.out B_d1.out) C_d1.out).mono ?_
       rintro e w108 ⟨v0, rfl, h1, hb⟩
       refine ⟨_, rfl, ?_⟩
       refine hK.out _ _ (by obtain ⟨q0, q1, q2, q3, q4, q5⟩ := hHeld; exact ⟨pw_cell_below hb q0, pw_cell_below hb q1, pw_cell_below hb q2, pw_cell_below hb q3, pw_cell_below hb q4, pw_cell_below hb q5⟩) (fun hHeld => ?_)
       clear hK K
       refine nm_ (some 29) ?_
       have D_p0 := a0_ (Rd.lower h1 (below_size B_z.out))
       clear h1
       replace B_m0 := bl_b B_m0 hb
       replace B_d0 := bl_b B_d0 hb
       replace B_m1 := bl_b B_m1 hb
       replace B_d1 := bl_b B_d1 hb
       replace HB := bl_b HB hb
       replace B_x := bl_b B_x hb
       replace B_y := bl_b B_y hb
       replace B_r := bl_b B_r hb
       replace B_z := bl_b B_z hb
       replace B_L0 := bl_b B_L0 hb
       replace B_L1 := bl_b B_L1 hb
       clear hb
       have B_p0 := a0_ (Below.refl w108.heap.size w108)
       refine on_ 16 (some 35) 131071 HT_ (fun K hK => ?_)
       refine gs_ Try.func36 #[.slice (some ⟨gl1, 0, none⟩) 2 2] ?_
       refine (product2_calls d0 m1 (fits16 o0.2.2.2.2) (fits16 o1.2.2.2.1) gl1 _ _ _ _ _ (pw_cell_below B_L1.out LA1.out) (pw_cell_below B_L1.out LB1.out) (Kd.C_below R_d0.out B_d0.out) C_d0.out (Kd.C_below R_m1.out B_m1.out) C_m1.out).mono ?_
       rintro e w109 ⟨v1, rfl, h1, hb⟩
       refine ⟨_, rfl, ?_⟩
       refine hK.out _ _ (by obtain ⟨q0, q1, q2, q3, q4, q5⟩ := hHeld; exact ⟨pw_cell_below hb q0, pw_cell_below hb q1, pw_cell_below hb q2, pw_cell_below hb q3, pw_cell_below hb q4, pw_cell_below hb q5⟩) (fun hHeld => ?_)
       clear hK K
       refine nm_ (some 35) ?_
       have D_p1 := a0_ (Rd.lower h1 (below_size B_z.out))
       clear h1
       replace B_m0 := bl_b B_m0 hb
       replace B_d0 := bl_b B_d0 hb
       replace B_m1 := bl_b B_m1 hb
       replace B_d1 := bl_b B_d1 hb
       replace HB := bl_b HB hb
       replace B_x := bl_b B_x hb
       replace B_y := bl_b B_y hb
       replace B_r := bl_b B_r hb
       replace B_z := bl_b B_z hb
       replace B_L0 := bl_b B_L0 hb
       replace B_L1 := bl_b B_L1 hb
       replace B_p0 := bl_b B_p0 hb
       clear hb
       have B_p1 := a0_ (Below.refl w109.heap.size w109)
       exact HC (.slice (some ⟨gl0, 0, none⟩) 2 2, v0, .slice (some ⟨gl1, 0, none⟩) 2 2, v1) _ ⟨Rd.below D_p0.out B_p0.out, Rd.below D_p1.out B_p1.out, B_z.out, hHeld⟩
   · skip
     refine vl_ ?_
     refine hK.out _ _ (by obtain ⟨q0, q1, q2, q3, q4, q5⟩ := hHeld; exact ⟨pw_cell_below (below_alloc (Below.refl _ _) _) q0, pw_cell_below (below_alloc (Below.refl _ _) _) q1, pw_cell_below (below_alloc (Below.refl _ _) _) q2, pw_cell_below (below_alloc (Below.refl _ _) _) q3, pw_cell_below (below_alloc (Below.refl _ _) _) q4, pw_cell_below (below_alloc (Below.refl _ _) _) q5⟩) (fun hHeld => ?_)
     clear hK K
     refine nm_ (some 34) ?_
     have hb : Below w105.heap.size w105 (w105.alloc (.cells #[.slice A1 (limbs d0).length c1, .slice A2 (limbs m1).length c2] 28 (0, 0))) := below_alloc (Below.refl _ _) _
     have hl0 : (w105.alloc (.cells #[.slice A1 (limbs d0).length c1, .slice A2 (limbs m1).length c2] 28 (0, 0))).cell? ⟨w105.heap.size, 0, none⟩ = some (.slice A1 (limbs d0).length c1) := (blk_cell (blk_new w105 _) 0).trans rfl
     have hl1 : (w105.alloc (.cells #[.slice A1 (limbs d0).length c1, .slice A2 (limbs m1).length c2] 28 (0, 0))).cell? ⟨w105.heap.size, 1, none⟩ = some (.slice A2 (limbs m1).length c2) := (blk_cell (blk_new w105 _) 1).trans rfl
     obtain ⟨w106, hw_⟩ : ∃ x, x = w105.alloc (.cells #[.slice A1 (limbs d0).length c1, .slice A2 (limbs m1).length c2] 28 (0, 0)) := ⟨_, rfl⟩
     rw [← hw_] at hb hl0 hl1 hHeld ⊢
     obtain ⟨gl1, hgl1⟩ : ∃ x, x = w105.heap.size := ⟨_, rfl⟩
     rw [← hgl1] at hl0 hl1 ⊢
     clear hgl1 hw_
     replace B_m0 := bl_b B_m0 hb
     replace B_d0 := bl_b B_d0 hb
     replace B_m1 := bl_b B_m1 hb
     replace B_d1 := bl_b B_d1 hb
     replace HB := bl_b HB hb
     replace B_x := bl_b B_x hb
     replace B_y := bl_b B_y hb
     replace B_r := bl_b B_r hb
     replace B_z := bl_b B_z hb
     clear hb
     have LA1 := a0_ hl0
     have LB1 := a0_ hl1
     clear hl0 hl1
     have B_L1 := a0_ (Below.refl w106.heap.size w106)
     refine on_ 9 (some 28) 64511 HT_ (fun K hK => ?_)
     refine vl_ ?_
     refine hK.out _ _ (by obtain ⟨q0, q1, q2, q3, q4, q5⟩ := hHeld; exact ⟨pw_cell_below (below_alloc (Below.refl _ _) _) q0, pw_cell_below (below_alloc (Below.refl _ _) _) q1, pw_cell_below (below_alloc (Below.refl _ _) _) q2, pw_cell_below (below_alloc (Below.refl _ _) _) q3, pw_cell_below (below_alloc (Below.refl _ _) _) q4, pw_cell_below (below_alloc (Below.refl _ _) _) q5⟩) (fun hHeld => ?_)
     clear hK K
     refine nm_ (some 28) ?_
     have hb : Below w106.heap.size w106 (w106.alloc (.cells #[.slice A0 (limbs m0).length c0, .slice A3 (limbs d1).length c3] 28 (0, 0))) := below_alloc (Below.refl _ _) _
     have hl0 : (w106.alloc (.cells #[.slice A0 (limbs m0).length c0, .slice A3 (limbs d1).length c3] 28 (0, 0))).cell? ⟨w106.heap.size, 0, none⟩ = some (.slice A0 (limbs m0).length c0) := (blk_cell (blk_new w106 _) 0).trans rfl
     have hl1 : (w106.alloc (.cells #[.slice A0 (limbs m0).length c0, .slice A3 (limbs d1).length c3] 28 (0, 0))).cell? ⟨w106.heap.size, 1, none⟩ = some (.slice A3 (limbs d1).length c3) := (blk_cell (blk_new w106 _) 1).trans rfl
     obtain ⟨w107, hw_⟩ : ∃ x, x = w106.alloc (.cells #[.slice A0 (limbs m0).length c0, .slice A3 (limbs d1).length c3] 28 (0, 0)) := ⟨_, rfl⟩
     rw [← hw_] at hb hl0 hl1 hHeld ⊢
     obtain ⟨gl0, hgl0⟩ : ∃ x, x = w106.heap.size := ⟨_, rfl⟩
     rw [← hgl0] at hl0 hl1 ⊢
     clear hgl0 hw_
     replace B_m0 := bl_b B_m0 hb
     replace B_d0 := bl_b B_d0 hb
     replace B_m1 := bl_b B_m1 hb
     replace B_d1 := bl_b B_d1 hb
     replace HB := bl_b HB hb
     replace B_x := bl_b B_x hb
     replace B_y := bl_b B_y hb
     replace B_r := bl_b B_r hb
     replace B_z := bl_b B_z hb
     replace B_L1 := bl_b B_L1 hb
     clear hb
     have LA0 := a0_ hl0
     have LB0 := a0_ hl1
     clear hl0 hl1
     have B_L0 := a0_ (Below.refl w107.heap.size w107)
     refine on_ 10 (some 29) 65535 HT_ (fun K hK => ?_)
     refine gs_ Try.func36 #[.slice (some ⟨gl0, 0, none⟩) 2 2] ?_
     refine (product2_calls m0 d1 (fits16 o0.2.2.2.1) (fits16 o1.2.2.2.2) gl0 _ _ _ _ _ (pw_cell_below B_L0.out LA0.out) (pw_cell_below B_L0.out LB0.out) (Kd.C_below R_m0.out B_m0.out) C_m0.out (Kd.C_below R_d1.out B_d1.out) C_d1.out).mono ?_
     rintro e w108 ⟨v0, rfl, h1, hb⟩
     refine ⟨_, rfl, ?_⟩
     refine hK.out _ _ (by obtain ⟨q0, q1, q2, q3, q4, q5⟩ := hHeld; exact ⟨pw_cell_below hb q0, pw_cell_below hb q1, pw_cell_below hb q2, pw_cell_below hb q3, pw_cell_below hb q4, pw_cell_below hb q5⟩) (fun hHeld => ?_)
     clear hK K
     refine nm_ (some 29) ?_
     have D_p0 := a0_ (Rd.lower h1 (below_size B_z.out))
     clear h1
     replace B_m0 := bl_b B_m0 hb
     replace B_d0 := bl_b B_d0 hb
     replace B_m1 := bl_b B_m1 hb
     replace B_d1 := bl_b B_d1 hb
     replace HB := bl_b HB hb
     replace B_x := bl_b B_x hb
     replace B_y := bl_b B_y hb
     replace B_r := bl_b B_r hb
     replace B_z := bl_b B_z hb
     replace B_L1 := bl_b B_L1 hb
     replace B_L0 := bl_b B_L0 hb
     clear hb
     have B_p0 := a0_ (Below.refl w108.heap.size w108)
     refine on_ 16 (some 35) 131071 HT_ (fun K hK => ?_)
     refine gs_ Try.func36 #[.slice (some ⟨gl1, 0, none⟩) 2 2] ?_
     refine (product2_calls d0 m1 (fits16 o0.2.2.2.2) (fits16 o1.2.2.2.1) gl1 _ _ _ _ _ (pw_cell_below B_L1.out LA1.out) (pw_cell_below B_L1.out LB1.out) (Kd.C_below R_d0.out B_d0.out) C_d0.out (Kd.C_below R_m1.out B_m1.out) C_m1.out).mono ?_
     rintro e w109 ⟨v1, rfl, h1, hb⟩
     refine ⟨_, rfl, ?_⟩
     refine hK.out _ _ (by obtain ⟨q0, q1, q2, q3, q4, q5⟩ := hHeld; exact ⟨pw_cell_below hb q0, pw_cell_below hb q1, pw_cell_below hb q2, pw_cell_below hb q3, pw_cell_below hb q4, pw_cell_below hb q5⟩) (fun hHeld => ?_)
     clear hK K
     refine nm_ (some 35) ?_
     have D_p1 := a0_ (Rd.lower h1 (below_size B_z.out))
     clear h1
     replace B_m0 := bl_b B_m0 hb
     replace B_d0 := bl_b B_d0 hb
     replace B_m1 := bl_b B_m1 hb
     replace B_d1 := bl_b B_d1 hb
     replace HB := bl_b HB hb
     replace B_x := bl_b B_x hb
     replace B_y := bl_b B_y hb
     replace B_r := bl_b B_r hb
     replace B_z := bl_b B_z hb
     replace B_L1 := bl_b B_L1 hb
     replace B_L0 := bl_b B_L0 hb
     replace B_p0 := bl_b B_p0 hb
     clear hb
     have B_p1 := a0_ (Below.refl w109.heap.size w109)
     exact HC (.slice (some ⟨gl0, 0, none⟩) 2 2, v0, .slice (some ⟨gl1, 0, none⟩) 2 2, v1) _ ⟨Rd.below D_p0.out B_p0.out, Rd.below D_p1.out B_p1.out, B_z.out, hHeld⟩
 clear B_z
 rintro ⟨l0_, v0, l1_, v1⟩ w125 ⟨h1, h2, hb, hHeld⟩
 refine norm_ (a' := ?_) ?_ ?_
 rotate_left
 · simp only [putAll, PU]
   rfl
 have hs_ := below_size (by repeat (first | exact HB.out | apply below_alloc | apply pw_below_drewN | apply below_drew1) : Below w.heap.size w w105)
 have D_p0 := a0_ (Rd.lower h1 hs_)
 have D_p1 := a0_ (Rd.lower h2 hs_)
 clear hs_
 obtain ⟨A_p0, c_p0, rfl, hlo0, hC0⟩ := Rd.reads h1
 clear h1
 obtain ⟨A_p1, c_p1, rfl, hlo1, hC1⟩ := Rd.reads h2
 clear h2
 replace B_m0 := bl_b B_m0 hb
 replace B_d0 := bl_b B_d0 hb
 replace B_m1 := bl_b B_m1 hb
 replace B_d1 := bl_b B_d1 hb
 replace HB := bl_b HB hb
 replace B_x := bl_b B_x hb
 replace B_y := bl_b B_y hb
 replace B_r := bl_b B_r hb
 clear hb
 have R_p0 := a0_ hC0
 have C_p0 := a0_ hlo0
 clear hC0 hlo0
 have B_p0 := a0_ (Below.refl w125.heap.size w125)
 have R_p1 := a0_ hC1
 have C_p1 := a0_ hlo1
 clear hC1 hlo1
 have B_p1 := a0_ (Below.refl w125.heap.size w125)
 have L_r : Aside0 (g_r < w125.heap.size) := ⟨blk_lt (blk_below K_r.out B_r.out)⟩
 have S_r : Aside0 (w.heap.size ≤ w125.heap.size) := ⟨below_size HB.out⟩
 refine on_ 17 (some 36) 262143 HT_ (fun K hK => ?_)
 refine gs_ Try.func35 #[.bool (s0 != s1), .slice A_p0 (limbs (m0 * d1)).length c_p0, .slice A_p1 (limbs (d0 * m1)).length c_p1] ?_
 refine (reduced_calls (s0 != s1) (m0 * d1) (d0 * m1) (Nat.mul_pos o0.2.1 (Nat.pos_of_ne_zero hm1)) (fits32 (fits_mul o0.2.2.2.1 o1.2.2.2.2)) (fits32 (fits_mul o0.2.2.2.2 o1.2.2.2.1)) _ _ _ _ _ (Kd.C_below R_p0.out B_p0.out) C_p0.out (Kd.C_below R_p1.out B_p1.out) C_p1.out).mono ?_
 rintro e w126 ⟨v1, v2, rfl, h1, h2, hb⟩
 have D_M := a0_ h1
 have D_D := a0_ h2
 obtain ⟨A_M, c_M, rfl, -, -⟩ := Rd.reads h1
 obtain ⟨A_D, c_D, rfl, -, -⟩ := Rd.reads h2
 clear h1 h2
 refine ⟨_, rfl, ?_⟩
 refine hK.out _ _ (by obtain ⟨q0, q1, q2, q3, q4, q5⟩ := hHeld; exact ⟨pw_cell_below hb q0, pw_cell_below hb q1, pw_cell_below hb q2, pw_cell_below hb q3, pw_cell_below hb q4, pw_cell_below hb q5⟩) (fun hHeld => ?_)
 clear hK K
 refine nm_ (some 36) ?_
 replace B_m0 := bl_b B_m0 hb
 replace B_d0 := bl_b B_d0 hb
 replace B_m1 := bl_b B_m1 hb
 replace B_d1 := bl_b B_d1 hb
 replace B_p0 := bl_b B_p0 hb
 replace B_p1 := bl_b B_p1 hb
 replace HB := bl_b HB hb
 replace B_x := bl_b B_x hb
 replace B_y := bl_b B_y hb
 replace B_r := bl_b B_r hb
 clear hb
 have B_M := a0_ (Below.refl w126.heap.size w126)
 clear R_p0 C_p0 B_p0
 clear R_p1 C_p1 B_p1
 clear R_m0 C_m0 B_m0
 clear R_m1 C_m1 B_m1
 clear R_d0 C_d0 B_d0
 clear R_d1 C_d1 B_d1
 refine pu_ 18 (some 37) 524287 HT_ ?_
 refine pu_ 19 (some 38) 1048575 HT_ ?_
 have bk_r := blk_below K_r.out B_r.out
 have hz_r_0 : w126.cell? ⟨g_r, 0, none⟩ = some (.bool false) := (blk_cell bk_r 0).trans rfl
 have hf_r_0 := blk_frozen bk_r 0
 have hz_r_1 : w126.cell? ⟨g_r, 1, none⟩ = some (.slice none 0 0) := (blk_cell bk_r 1).trans rfl
 have hf_r_1 := blk_frozen bk_r 1
 have hz_r_2 : w126.cell? ⟨g_r, 2, none⟩ = some (.slice none 0 0) := (blk_cell bk_r 2).trans rfl
 have hf_r_2 := blk_frozen bk_r 2
 clear bk_r
 refine on_ 20 none 2097151 HT_ (fun K hK => ?_)
 refine skip_ (w1 := ((w126.setCell ⟨g_r, 0, none⟩ (.bool (red (s0 != s1) (m0 * d1) (d0 * m1)).1)).setCell ⟨g_r, 1, none⟩ (.slice A_M (limbs (red (s0 != s1) (m0 * d1) (d0 * m1)).2.1).length c_M)).setCell ⟨g_r, 2, none⟩ (.slice A_D (limbs (red (s0 != s1) (m0 * d1) (d0 * m1)).2.2.1).length c_D)) (by rfl) rfl ?_ ?_
 · first | (go_simp; done) | (go_simp; rfl)
 refine hK.out _ _ ⟨(blk_cell (blk_below K_x.out (below_set (below_set (below_set B_x.out N_r_x.out) N_r_x.out) N_r_x.out)) 0).trans rfl, (blk_cell (blk_below K_x.out (below_set (below_set (below_set B_x.out N_r_x.out) N_r_x.out) N_r_x.out)) 1).trans rfl, (blk_cell (blk_below K_x.out (below_set (below_set (below_set B_x.out N_r_x.out) N_r_x.out) N_r_x.out)) 2).trans rfl, (blk_cell (blk_below K_y.out (below_set (below_set (below_set B_y.out N_r_y.out) N_r_y.out) N_r_y.out)) 0).trans rfl, (blk_cell (blk_below K_y.out (below_set (below_set (below_set B_y.out N_r_y.out) N_r_y.out) N_r_y.out)) 1).trans rfl, (blk_cell (blk_below K_y.out (below_set (below_set (below_set B_y.out N_r_y.out) N_r_y.out) N_r_y.out)) 2).trans rfl⟩ (fun hHeld => ?_)
 clear hK K
 refine pu_ 21 (some 5) 4194303 HT_ ?_
 refine do_ HT_ ?_
 clear HT_ HW_ hHeld
 clear hz_r_0 hf_r_0 hz_r_1 hf_r_1 hz_r_2 hf_r_2
 go_wp2_with fail
 refine bodyPost_ret (results_ct rfl _ _ g_r 30 #[.bool (red (s0 != s1) (m0 * d1) (d0 * m1)).1, .slice A_M (limbs (red (s0 != s1) (m0 * d1) (d0 * m1)).2.1).length c_M, .slice A_D (limbs (red (s0 != s1) (m0 * d1) (d0 * m1)).2.2.1).length c_D] (0, 0) _ rfl (by (with_reducible repeat (first | refine blk_drewN ?_ _ | refine blk_drew ?_ | refine blk_alloc ?_ _)); refine blk_put (cs := #[.bool (red (s0 != s1) (m0 * d1) (d0 * m1)).1, .slice A_M (limbs (red (s0 != s1) (m0 * d1) (d0 * m1)).2.1).length c_M, .slice none 0 0]) ?_ 2 _ rfl; (with_reducible repeat (first | refine blk_drewN ?_ _ | refine blk_drew ?_ | refine blk_alloc ?_ _)); refine blk_put (cs := #[.bool (red (s0 != s1) (m0 * d1) (d0 * m1)).1, .slice none 0 0, .slice none 0 0]) ?_ 1 _ rfl; (with_reducible repeat (first | refine blk_drewN ?_ _ | refine blk_drew ?_ | refine blk_alloc ?_ _)); refine blk_put (cs := #[.bool false, .slice none 0 0, .slice none 0 0]) ?_ 0 _ rfl; (with_reducible repeat (first | refine blk_drewN ?_ _ | refine blk_drew ?_ | refine blk_alloc ?_ _)); exact blk_below K_r.out B_r.out) Try.underlying30 rfl (by kernel_rfl)) rfl ?_
 exact ⟨_, _, rfl, Rd.lower (Rd.set (Rd.set (Rd.set (Rd.below D_M.out B_M.out) _ L_r.out _) _ L_r.out _) _ L_r.out _) S_r.out, Rd.lower (Rd.set (Rd.set (Rd.set (Rd.below D_D.out B_M.out) _ L_r.out _) _ L_r.out _) _ L_r.out _) S_r.out, below_set (below_set (below_set HB.out G_r.out) G_r.out) G_r.out⟩
end Go.Proofs.Ytgdkgahbmfhgcaa.PN
