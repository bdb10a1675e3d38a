/- What the statement rests on, part 8: RD5 RE RF WA WB. -/
import Derived.Test.YtgdkgahbmfhgcaaR07
set_option linter.unusedVariables false
set_option linter.unusedSimpArgs false
set_option maxHeartbeats 4000000
set_option maxRecDepth 100000
namespace Go.Proofs.Ytgdkgahbmfhgcaa.PN
open Go.RowKit Go.Proofs.Ytgdkgahbmfhgcaa.NS Go.Proofs.Ytgdkgahbmfhgcaa.Limbs Go.Proofs.YtgdkgahbmfhgcaaW.PrintWords Go.Proofs.YtgdkgahbmfhgcaaW.PrintLast Go.Proofs.YtgdkgahbmfhgcaaW.PrintMore
def RCmp.T4 : Bool × List (List Nat × List Nat) := (true, [([], []), ([0], [0]), ([], []), ([2], [2]), ([], []), ([4], [4]), ([3, 5], [3, 5]), ([6], [6]), ([], []), ([8], [8]), ([9], [9]), ([], []), ([11], [11]), ([], []), ([13], [13]), ([12, 14], [12, 14]), ([15, 7], [15]), ([1, 7, 10, 16, 16], [1, 7, 10, 16]), ([17], [17]), ([18], [18]), ([18], [18]), ([19, 17, 0, 1, 2, 3, 4, 5, 6, 7, 8, 9, 10, 11, 12, 13, 14, 15, 16, 17, 18, 19], [19]), ([20, 21, 0, 1, 2, 3, 4, 5, 6, 7, 8, 9, 10, 11, 12, 13, 14, 15, 16, 17, 18, 19, 20, 21], [20])])
def RCmp.B4 : List Nat := [0, 1, 0, 4, 0, 16, 60, 124, 0, 256, 768, 0, 2048, 0, 8192, 30720, 63740, 131071, 262143, 524287, 524287, 1048575, 4194303]
theorem RCmp.tab4 : rtab .any (opsOf Try.f28 4) = RCmp.T4 := by kernel_rfl
theorem RCmp.bits4 : waitsOk RCmp.T4.2 RCmp.B4 = true := by kernel_rfl
theorem rcmp_calls  (s0 : Bool) (m0 d0 : Nat) (o0 : OkR s0 m0 d0) (s1 : Bool) (m1 d1 : Nat) (o1 : OkR s1 m1 d1) (A0 : Option Addr) (c0 : Nat) (A1 : Option Addr) (c1 : Nat) (A2 : Option Addr) (c2 : Nat) (A3 : Option Addr) (c3 : Nat) (w : World)
 (hrm0 : Kd.C (Kd.int .u32) w A0 (limbs m0).length (limbs m0)) (hcm0 : (limbs m0).length ≤ c0) (hrd0 : Kd.C (Kd.int .u32) w A1 (limbs d0).length (limbs d0)) (hcd0 : (limbs d0).length ≤ c1) (hrm1 : Kd.C (Kd.int .u32) w A2 (limbs m1).length (limbs m1)) (hcm1 : (limbs m1).length ≤ c2) (hrd1 : Kd.C (Kd.int .u32) w A3 (limbs d1).length (limbs d1)) (hcd1 : (limbs d1).length ≤ c3)  :
 Calls Try.prog 28 #[.agg #[.bool s0, .slice A0 (limbs m0).length c0, .slice A1 (limbs d0).length c1], .agg #[.bool s1, .slice A2 (limbs m1).length c2, .slice A3 (limbs d1).length c3]] w fun e w' => e = .returned (.tuple #[.int .i64 (if (sumB s0 (m0 * d1) (!s1) (m1 * d0)).2 = 0 then (0 : Int) else if (sumB s0 (m0 * d1) (!s1) (m1 * d0)).1 = true then -1 else 1), .int .i64 0]) ∧ Below w.heap.size w w' := by
 have R_m0 := a0_ hrm0
 have C_m0 := a0_ hcm0
 clear hrm0 hcm0
 have B_m0 := a0_ (Below.refl w.heap.size w)
 have R_d0 := a0_ hrd0
 have C_d0 := a0_ hcd0
 clear hrd0 hcd0
 have B_d0 := a0_ (Below.refl w.heap.size w)
 have R_m1 := a0_ hrm1
 have C_m1 := a0_ hcm1
 clear hrm1 hcm1
 have B_m1 := a0_ (Below.refl w.heap.size w)
 have R_d1 := a0_ hrd1
 have C_d1 := a0_ hcd1
 clear hrd1 hcd1
 have B_d1 := a0_ (Below.refl w.heap.size w)
 have HB := a0_ (Below.refl w.heap.size w)
 have hu30 := Try.underlying30
 have hu88 := Try.underlying88
 obtain ⟨res, hres⟩ : ∃ r : Int, r = (if (sumB s0 (m0 * d1) (!s1) (m1 * d0)).2 = 0 then (0 : Int) else if (sumB s0 (m0 * d1) (!s1) (m1 * d0)).1 = true then -1 else 1) := ⟨_, rfl⟩
 rw [← hres]
 have HRES := a0_ hres
 clear hres
 go_enter Try.func28, Try.ntmps28
 go_wp2_with (first | ((with_reducible refine gd_ 2 rfl ?_); refine bx_ (N := 2) #[.bool s0, .slice A0 (limbs m0).length c0, .slice A1 (limbs d0).length c1] 30 ?_; intro g_x hg w101 hbox hb; have G_x := rd_b HB hg; replace B_m0 := bl_b B_m0 hb; replace B_d0 := bl_b B_d0 hb; replace B_m1 := bl_b B_m1 hb; replace B_d1 := bl_b B_d1 hb; replace HB := bl_b HB hb; clear hb; have K_x := a0_ hbox; have B_x := a0_ (Below.refl w101.heap.size w101); clear hbox hg) | ((with_reducible refine gd_ 3 rfl ?_); refine bx_ (N := 3) #[.bool s1, .slice A2 (limbs m1).length c2, .slice A3 (limbs d1).length c3] 30 ?_; intro g_y hg w102 hbox hb; have G_y := rd_b HB hg; have N_y_x := rd_b B_x hg; replace B_m0 := bl_b B_m0 hb; replace B_d0 := bl_b B_d0 hb; replace B_m1 := bl_b B_m1 hb; replace B_d1 := bl_b B_d1 hb; replace HB := bl_b HB hb; replace B_x := bl_b B_x hb; clear hb; have K_y := a0_ hbox; have B_y := a0_ (Below.refl w102.heap.size w102); clear hbox hg; have bk_x := blk_below K_x.out B_x.out; have hz_x_0 : w102.cell? ⟨g_x, 0, none⟩ = some (.bool s0) := (blk_cell bk_x 0).trans rfl; have hz_x_1 : w102.cell? ⟨g_x, 1, none⟩ = some (.slice A0 (limbs m0).length c0) := (blk_cell bk_x 1).trans rfl; have hz_x_2 : w102.cell? ⟨g_x, 2, none⟩ = some (.slice A1 (limbs d0).length c1) := (blk_cell bk_x 2).trans rfl; clear bk_x; have bk_y := blk_below K_y.out B_y.out; have hz_y_0 : w102.cell? ⟨g_y, 0, none⟩ = some (.bool s1) := (blk_cell bk_y 0).trans rfl; have hz_y_1 : w102.cell? ⟨g_y, 1, none⟩ = some (.slice A2 (limbs m1).length c2) := (blk_cell bk_y 1).trans rfl; have hz_y_2 : w102.cell? ⟨g_y, 2, none⟩ = some (.slice A3 (limbs d1).length c3) := (blk_cell bk_y 2).trans rfl; clear bk_y))
 with_reducible refine (rboth_calls s0 m0 d0 o0 s1 m1 d1 o1 _ _ _ _ _ _ _ _ _ (Kd.C_below R_m0.out B_m0.out) C_m0.out (Kd.C_below R_d0.out B_d0.out) C_d0.out (Kd.C_below R_m1.out B_m1.out) C_m1.out (Kd.C_below R_d1.out B_d1.out) C_d1.out).mono ?_
 rintro e w103 ⟨rfl, hb⟩
 clear hz_x_0 hz_x_1 hz_x_2
 clear hz_y_0 hz_y_1 hz_y_2
 replace B_m0 := bl_b B_m0 hb
 replace B_d0 := bl_b B_d0 hb
 replace B_m1 := bl_b B_m1 hb
 replace B_d1 := bl_b B_d1 hb
 replace HB := bl_b HB hb
 replace B_x := bl_b B_x hb
 replace B_y := bl_b B_y hb
 clear hb
 go_wp2_with fail
 have hb : Below w103.heap.size w103 w103.drew := below_drew1 (Below.refl _ _)
 replace B_m0 := bl_b B_m0 hb
 replace B_d0 := bl_b B_d0 hb
 replace B_m1 := bl_b B_m1 hb
 replace B_d1 := bl_b B_d1 hb
 replace HB := bl_b HB hb
 replace B_x := bl_b B_x hb
 replace B_y := bl_b B_y hb
 clear hb
 have bk_x := blk_below K_x.out B_x.out
 have hz_x_0 : w103.drew.cell? ⟨g_x, 0, none⟩ = some (.bool s0) := (blk_cell bk_x 0).trans rfl
 have hz_x_1 : w103.drew.cell? ⟨g_x, 1, none⟩ = some (.slice A0 (limbs m0).length c0) := (blk_cell bk_x 1).trans rfl
 have hz_x_2 : w103.drew.cell? ⟨g_x, 2, none⟩ = some (.slice A1 (limbs d0).length c1) := (blk_cell bk_x 2).trans rfl
 clear bk_x
 have bk_y := blk_below K_y.out B_y.out
 have hz_y_0 : w103.drew.cell? ⟨g_y, 0, none⟩ = some (.bool s1) := (blk_cell bk_y 0).trans rfl
 have hz_y_1 : w103.drew.cell? ⟨g_y, 1, none⟩ = some (.slice A2 (limbs m1).length c2) := (blk_cell bk_y 1).trans rfl
 have hz_y_2 : w103.drew.cell? ⟨g_y, 2, none⟩ = some (.slice A3 (limbs d1).length c3) := (blk_cell bk_y 2).trans rfl
 clear bk_y
 refine start_ (n := 23) (S := fun w' => w'.cell? ⟨g_x, 0, none⟩ = some (.bool s0) ∧ w'.cell? ⟨g_x, 1, none⟩ = some (.slice A0 (limbs m0).length c0) ∧ w'.cell? ⟨g_x, 2, none⟩ = some (.slice A1 (limbs d0).length c1) ∧ w'.cell? ⟨g_y, 0, none⟩ = some (.bool s1) ∧ w'.cell? ⟨g_y, 1, none⟩ = some (.slice A2 (limbs m1).length c2) ∧ w'.cell? ⟨g_y, 2, none⟩ = some (.slice A3 (limbs d1).length c3)) (ds := []) (tB_ 23 0) (by kernel_rfl) rfl (by kernel_rfl) ⟨hz_x_0, hz_x_1, hz_x_2, hz_y_0, hz_y_1, hz_y_2⟩ (fun hHeld => ?_)
 refine with_tabW RCmp.tab4 RCmp.bits4 (fun HT_ HW_ => ?_)
 clear hz_x_0 hz_x_1 hz_x_2 hz_y_0 hz_y_1 hz_y_2
 generalize w103.drew = w104 at B_m0 B_d0 B_m1 B_d1 HB B_x B_y hHeld ⊢
 refine pu_ 0 (some 16) 1 HT_ ?_
 refine pu_ 2 (some 18) 5 HT_ ?_
 refine pu_ 4 (some 20) 21 HT_ ?_
 refine pu_ 8 (some 24) 277 HT_ ?_
 refine pu_ 11 (some 27) 2325 HT_ ?_
 refine pu_ 13 (some 29) 10517 HT_ ?_
 refine tk_ 1 (some 17) 10519 HT_ HW_ hHeld ?_ ?_ ?_ ?_ ?_
 rotate_left
 · rintro w' ⟨s0, s1, s2, s3, s4, s5⟩
   go_simp
   with_reducible rfl
 rotate_left
 · simp only [PU]
   rfl
 refine tk_ 3 (some 19) 10527 HT_ HW_ hHeld ?_ ?_ ?_ ?_ ?_
 rotate_left
 · rintro w' ⟨s0, s1, s2, s3, s4, s5⟩
   go_simp
   with_reducible rfl
 rotate_left
 · simp only [PU]
   rfl
 refine tk_ 5 (some 21) 10559 HT_ HW_ hHeld ?_ ?_ ?_ ?_ ?_
 rotate_left
 · rintro w' ⟨s0, s1, s2, s3, s4, s5⟩
   go_simp
   with_reducible rfl
 rotate_left
 · simp only [PU]
   rfl
 refine tk_ 9 (some 25) 11071 HT_ HW_ hHeld ?_ ?_ ?_ ?_ ?_
 rotate_left
 · rintro w' ⟨s0, s1, s2, s3, s4, s5⟩
   go_simp
   with_reducible rfl
 rotate_left
 · simp only [PU]
   rfl
 refine tk_ 12 (some 28) 15167 HT_ HW_ hHeld ?_ ?_ ?_ ?_ ?_
 rotate_left
 · rintro w' ⟨s0, s1, s2, s3, s4, s5⟩
   go_simp
   with_reducible rfl
 rotate_left
 · simp only [PU]
   rfl
 refine tk_ 14 (some 30) 31551 HT_ HW_ hHeld ?_ ?_ ?_ ?_ ?_
 rotate_left
 · rintro w' ⟨s0, s1, s2, s3, s4, s5⟩
   go_simp
   with_reducible rfl
 rotate_left
 · simp only [PU]
   rfl
 refine pu_ 10 (some 26) 32575 HT_ ?_
 have B_z := a0_ (Below.refl w104.heap.size w104)
 refine join_ (σ := Value × Value × Value × Value) 6 (tB_ 23 131071) (fun s => [(22, s.1), (23, s.2.1), (31, s.2.2.1), (32, s.2.2.2)]) (fun s w' => Rd w104.heap.size w' s.2.1 (limbs (m0 * d1)) ∧ Rd w104.heap.size w' s.2.2.2 (limbs (m1 * d0)) ∧ Below w104.heap.size w104 w' ∧ (w'.cell? ⟨g_x, 0, none⟩ = some (.bool s0) ∧ w'.cell? ⟨g_x, 1, none⟩ = some (.slice A0 (limbs m0).length c0) ∧ w'.cell? ⟨g_x, 2, none⟩ = some (.slice A1 (limbs d0).length c1) ∧ w'.cell? ⟨g_y, 0, none⟩ = some (.bool s1) ∧ w'.cell? ⟨g_y, 1, none⟩ = some (.slice A2 (limbs m1).length c2) ∧ w'.cell? ⟨g_y, 2, none⟩ = some (.slice A3 (limbs d1).length c3))) ?hcont ?hord
 rotate_left
 · intro HC
   refine tw_ 6 15 (some 22) (some 31) 32639 65343 HT_ (fun K hK => ?_) (fun K hK => ?_)
   · skip
     refine vl_ ?_
     refine hK.out _ _ (by obtain ⟨q0, q1, q2, q3, q4, q5⟩ := hHeld; exact ⟨pw_cell_below (below_alloc (Below.refl _ _) _) q0, pw_cell_below (below_alloc (Below.refl _ _) _) q1, pw_cell_below (below_alloc (Below.refl _ _) _) q2, pw_cell_below (below_alloc (Below.refl _ _) _) q3, pw_cell_below (below_alloc (Below.refl _ _) _) q4, pw_cell_below (below_alloc (Below.refl _ _) _) q5⟩) (fun hHeld => ?_)
     clear hK K
     refine nm_ (some 22) ?_
     have hb : Below w104.heap.size w104 (w104.alloc (.cells #[.slice A0 (limbs m0).length c0, .slice A3 (limbs d1).length c3] 28 (0, 0))) := below_alloc (Below.refl _ _) _
     have hl0 : (w104.alloc (.cells #[.slice A0 (limbs m0).length c0, .slice A3 (limbs d1).length c3] 28 (0, 0))).cell? ⟨w104.heap.size, 0, none⟩ = some (.slice A0 (limbs m0).length c0) := (blk_cell (blk_new w104 _) 0).trans rfl
     have hl1 : (w104.alloc (.cells #[.slice A0 (limbs m0).length c0, .slice A3 (limbs d1).length c3] 28 (0, 0))).cell? ⟨w104.heap.size, 1, none⟩ = some (.slice A3 (limbs d1).length c3) := (blk_cell (blk_new w104 _) 1).trans rfl
     obtain ⟨w105, hw_⟩ : ∃ x, x = w104.alloc (.cells #[.slice A0 (limbs m0).length c0, .slice A3 (limbs d1).length c3] 28 (0, 0)) := ⟨_, rfl⟩
     rw [← hw_] at hb hl0 hl1 hHeld ⊢
     obtain ⟨gl0, hgl0⟩ : ∃ x, x = w104.heap.size := ⟨_, rfl⟩
     rw [← hgl0] at hl0 hl1 ⊢
     clear hgl0 hw_
     replace B_m0 := bl_b B_m0 hb
     replace B_d0 := bl_b B_d0 hb
     replace B_m1 := bl_b B_m1 hb
     replace B_d1 := bl_b B_d1 hb
     replace HB := bl_b HB hb
     replace B_x := bl_b B_x hb
     replace B_y := bl_b B_y hb
     replace B_z := bl_b B_z hb
     clear hb
     have LA0 := a0_ hl0
     have LB0 := a0_ hl1
     clear hl0 hl1
     have B_L0 := a0_ (Below.refl w105.heap.size w105)
     refine tw_ 7 15 (some 23) (some 31) 32767 65407 HT_ (fun K hK => ?_) (fun K hK => ?_)
     · skip
       refine gs_ Try.func36 #[.slice (some ⟨gl0, 0, none⟩) 2 2] ?_
       refine (product2_calls m0 d1 (fits16 o0.2.2.2.1) (fits16 o1.2.2.2.2) gl0 _ _ _ _ _ (pw_cell_below B_L0.out LA0.out) (pw_cell_below B_L0.out LB0.out) (Kd.C_below R_m0.out B_m0.out) C_m0.out (Kd.C_below R_d1.out B_d1.out) C_d1.out).mono ?_
       rintro e w106 ⟨v0, rfl, h1, hb⟩
       refine ⟨_, rfl, ?_⟩
       refine hK.out _ _ (by obtain ⟨q0, q1, q2, q3, q4, q5⟩ := hHeld; exact ⟨pw_cell_below hb q0, pw_cell_below hb q1, pw_cell_below hb q2, pw_cell_below hb q3, pw_cell_below hb q4, pw_cell_below hb q5⟩) (fun hHeld => ?_)
       clear hK K
       refine nm_ (some 23) ?_
       have D_p0 := a0_ (Rd.lower h1 (below_size B_z.out))
       clear h1
       replace B_m0 := bl_b B_m0 hb
       replace B_d0 := bl_b B_d0 hb
       replace B_m1 := bl_b B_m1 hb
       replace B_d1 := bl_b B_d1 hb
       replace HB := bl_b HB hb
       replace B_x := bl_b B_x hb
       replace B_y := bl_b B_y hb
       replace B_z := bl_b B_z hb
       replace B_L0 := bl_b B_L0 hb
       clear hb
       have B_p0 := a0_ (Below.refl w106.heap.size w106)
       refine on_ 15 (some 31) 65535 HT_ (fun K hK => ?_)
       refine vl_ ?_
       refine hK.out _ _ (by obtain ⟨q0, q1, q2, q3, q4, q5⟩ := hHeld; exact ⟨pw_cell_below (below_alloc (Below.refl _ _) _) q0, pw_cell_below (below_alloc (Below.refl _ _) _) q1, pw_cell_below (below_alloc (Below.refl _ _) _) q2, pw_cell_below (below_alloc (Below.refl _ _) _) q3, pw_cell_below (below_alloc (Below.refl _ _) _) q4, pw_cell_below (below_alloc (Below.refl _ _) _) q5⟩) (fun hHeld => ?_)
       clear hK K
       refine nm_ (some 31) ?_
       have hb : Below w106.heap.size w106 (w106.alloc (.cells #[.slice A2 (limbs m1).length c2, .slice A1 (limbs d0).length c1] 28 (0, 0))) := below_alloc (Below.refl _ _) _
       have hl0 : (w106.alloc (.cells #[.slice A2 (limbs m1).length c2, .slice A1 (limbs d0).length c1] 28 (0, 0))).cell? ⟨w106.heap.size, 0, none⟩ = some (.slice A2 (limbs m1).length c2) := (blk_cell (blk_new w106 _) 0).trans rfl
       have hl1 : (w106.alloc (.cells #[.slice A2 (limbs m1).length c2, .slice A1 (limbs d0).length c1] 28 (0, 0))).cell? ⟨w106.heap.size, 1, none⟩ = some (.slice A1 (limbs d0).length c1) := (blk_cell (blk_new w106 _) 1).trans rfl
       obtain ⟨w107, hw_⟩ : ∃ x, x = w106.alloc (.cells #[.slice A2 (limbs m1).length c2, .slice A1 (limbs d0).length c1] 28 (0, 0)) := ⟨_, rfl⟩
       rw [← hw_] at hb hl0 hl1 hHeld ⊢
       obtain ⟨gl1, hgl1⟩ : ∃ x, x = w106.heap.size := ⟨_, rfl⟩
       rw [← hgl1] at hl0 hl1 ⊢
       clear hgl1 hw_
       replace B_m0 := bl_b B_m0 hb
       replace B_d0 := bl_b B_d0 hb
       replace B_m1 := bl_b B_m1 hb
       replace B_d1 := bl_b B_d1 hb
       replace HB := bl_b HB hb
       replace B_x := bl_b B_x hb
       replace B_y := bl_b B_y hb
       replace B_z := bl_b B_z hb
       replace B_L0 := bl_b B_L0 hb
       replace B_p0 := bl_b B_p0 hb
       clear hb
       have LA1 := a0_ hl0
       have LB1 := a0_ hl1
       clear hl0 hl1
       have B_L1 := a0_ (Below.refl w107.heap.size w107)
       refine on_ 16 (some 32) 131071 HT_ (fun K hK => ?_)
       refine gs_ Try.func36 #[.slice (some ⟨gl1, 0, none⟩) 2 2] ?_
       refine (product2_calls m1 d0 (fits16 o1.2.2.2.1) (fits16 o0.2.2.2.2) gl1 _ _ _ _ _ (pw_cell_below B_L1.out LA1.out) (pw_cell_below B_L1.out LB1.out) (Kd.C_below R_m1.out B_m1.out) C_m1.out (Kd.C_below R_d0.out B_d0.out) C_d0.out).mono ?_
       rintro e w108 ⟨v1, rfl, h1, hb⟩
       refine ⟨_, rfl, ?_⟩
       refine hK.out _ _ (by obtain ⟨q0, q1, q2, q3, q4, q5⟩ := hHeld; exact ⟨pw_cell_below hb q0, pw_cell_below hb q1, pw_cell_below hb q2, pw_cell_below hb q3, pw_cell_below hb q4, pw_cell_below hb q5⟩) (fun hHeld => ?_)
       clear hK K
       refine nm_ (some 32) ?_
       have D_p1 := a0_ (Rd.lower h1 (below_size B_z.out))
       clear h1
       replace B_m0 := bl_b B_m0 hb
       replace B_d0 := bl_b B_d0 hb
       replace B_m1 := bl_b B_m1 hb
       replace B_d1 := bl_b B_d1 hb
       replace HB := bl_b HB hb
       replace B_x := bl_b B_x hb
       replace B_y := bl_b B_y hb
       replace B_z := bl_b B_z hb
       replace B_L0 := bl_b B_L0 hb
       replace B_p0 := bl_b B_p0 hb
       replace B_L1 := bl_b B_L1 hb
       clear hb
       have B_p1 := a0_ (Below.refl w108.heap.size w108)
       exact HC (.slice (some ⟨gl0, 0, none⟩) 2 2, v0, .slice (some ⟨gl1, 0, none⟩) 2 2, v1) _ ⟨Rd.below D_p0.out B_p0.out, Rd.below D_p1.out B_p1.out, B_z.out, hHeld⟩
     · skip
       refine vl_ ?_
       refine hK.out _ _ (by obtain ⟨q0, q1, q2, q3, q4, q5⟩ := hHeld; exact ⟨pw_cell_below (below_alloc (Below.refl _ _) _) q0, pw_cell_below (below_alloc (Below.refl _ _) _) q1, pw_cell_below (below_alloc (Below.refl _ _) _) q2, pw_cell_below (below_alloc (Below.refl _ _) _) q3, pw_cell_below (below_alloc (Below.refl _ _) _) q4, pw_cell_below (below_alloc (Below.refl _ _) _) q5⟩) (fun hHeld => ?_)
       clear hK K
       refine nm_ (some 31) ?_
       have hb : Below w105.heap.size w105 (w105.alloc (.cells #[.slice A2 (limbs m1).length c2, .slice A1 (limbs d0).length c1] 28 (0, 0))) := below_alloc (Below.refl _ _) _
       have hl0 : (w105.alloc (.cells #[.slice A2 (limbs m1).length c2, .slice A1 (limbs d0).length c1] 28 (0, 0))).cell? ⟨w105.heap.size, 0, none⟩ = some (.slice A2 (limbs m1).length c2) := (blk_cell (blk_new w105 _) 0).trans rfl
       have hl1 : (w105.alloc (.cells #[.slice A2 (limbs m1).length c2, .slice A1 (limbs d0).length c1] 28 (0, 0))).cell? ⟨w105.heap.size, 1, none⟩ = some (.slice A1 (limbs d0).length c1) := (blk_cell (blk_new w105 _) 1).trans rfl
       obtain ⟨w106, hw_⟩ : ∃ x, x = w105.alloc (.cells #[.slice A2 (limbs m1).length c2, .slice A1 (limbs d0).length c1] 28 (0, 0)) := ⟨_, rfl⟩
       rw [← hw_] at hb hl0 hl1 hHeld ⊢
       obtain ⟨gl1, hgl1⟩ : ∃ x, x = w105.heap.size := ⟨_, rfl⟩
       rw [← hgl1] at hl0 hl1 ⊢
       clear hgl1 hw_
       replace B_m0 := bl_b B_m0 hb
       replace B_d0 := bl_b B_d0 hb
       replace B_m1 := bl_b B_m1 hb
       replace B_d1 := bl_b B_d1 hb
       replace HB := bl_b HB hb
       replace B_x := bl_b B_x hb
       replace B_y := bl_b B_y hb
       replace B_z := bl_b B_z hb
       replace B_L0 := bl_b B_L0 hb
       clear hb
       have LA1 := a0_ hl0
       have LB1 := a0_ hl1
       clear hl0 hl1
       have B_L1 := a0_ (Below.refl w106.heap.size w106)
       refine on_ 7 (some 23) 65535 HT_ (fun K hK => ?_)
       refine gs_ Try.func36 #[.slice (some ⟨gl0, 0, none⟩) 2 2] ?_
       refine (product2_calls m0 d1 (fits16 o0.2.2.2.1) (fits16 o1.2.2.2.2) gl0 _ _ _ _ _ (pw_cell_below B_L0.out LA0.out) (pw_cell_below B_L0.out LB0.out) (Kd.C_below R_m0.out B_m0.out) C_m0.out (Kd.C_below R_d1.out B_d1.out) C_d1.out).mono ?_
       rintro e w107 ⟨v0, rfl, h1, hb⟩
       refine ⟨_, rfl, ?_⟩
       refine hK.out _ _ (by obtain ⟨q0, q1, q2, q3, q4, q5⟩ := hHeld; exact ⟨pw_cell_below hb q0, pw_cell_below hb q1, pw_cell_below hb q2, pw_cell_below hb q3, pw_cell_below hb q4, pw_cell_below hb q5⟩) (fun hHeld => ?_)
       clear hK K
       refine nm_ (some 23) ?_
       have D_p0 := a0_ (Rd.lower h1 (below_size B_z.out))
       clear h1
       replace B_m0 := bl_b B_m0 hb
       replace B_d0 := bl_b B_d0 hb
       replace B_m1 := bl_b B_m1 hb
       replace B_d1 := bl_b B_d1 hb
       replace HB := bl_b HB hb
       replace B_x := bl_b B_x hb
       replace B_y := bl_b B_y hb
       replace B_z := bl_b B_z hb
       replace B_L0 := bl_b B_L0 hb
       replace B_L1 := bl_b B_L1 hb
       clear hb
       have B_p0 := a0_ (Below.refl w107.heap.size w107)
       refine on_ 16 (some 32) 131071 HT_ (fun K hK => ?_)
       refine gs_ Try.func36 #[.slice (some ⟨gl1, 0, none⟩) 2 2] ?_
       refine (product2_calls m1 d0 (fits16 o1.2.2.2.1) (fits16 o0.2.2.2.2) gl1 _ _ _ _ _ (pw_cell_below B_L1.out LA1.out) (pw_cell_below B_L1.out LB1.out) (Kd.C_below R_m1.out B_m1.out) C_m1.out (Kd.C_below R_d0.out B_d0.out) C_d0.out).mono ?_
       rintro e w108 ⟨v1, rfl, h1, hb⟩
       refine ⟨_, rfl, ?_⟩
       refine hK.out _ _ (by obtain ⟨q0, q1, q2, q3, q4, q5⟩ := hHeld; exact ⟨pw_cell_below hb q0, pw_cell_below hb q1, pw_cell_below hb q2, pw_cell_below hb q3, pw_cell_below hb q4, pw_cell_below hb q5⟩) (fun hHeld => ?_)
       clear hK K
       refine nm_ (some 32) ?_
       have D_p1 := a0_ (Rd.lower h1 (below_size B_z.out))
       clear h1
       replace B_m0 := bl_b B_m0 hb
       replace B_d0 := bl_b B_d0 hb
       replace B_m1 := bl_b B_m1 hb
       replace B_d1 := bl_b B_d1 hb
       replace HB := bl_b HB hb
       replace B_x := bl_b B_x hb
       replace B_y := bl_b B_y hb
       replace B_z := bl_b B_z hb
       replace B_L0 := bl_b B_L0 hb
       replace B_L1 := bl_b B_L1 hb
       replace B_p0 := bl_b B_p0 hb
       clear hb
       have B_p1 := a0_ (Below.refl w108.heap.size w108)
       exact HC (.slice (some ⟨gl0, 0, none⟩) 2 2, v0, .slice (some ⟨gl1, 0, none⟩) 2 2, v1) _ ⟨Rd.below D_p0.out B_p0.out, Rd.below D_p1.out B_p1.out, B_z.out, hHeld⟩
   · skip
     refine vl_ ?_
     refine hK.out _ _ (by obtain ⟨q0, q1, q2, q3, q4, q5⟩ := hHeld; exact ⟨pw_cell_below (below_alloc (Below.refl _ _) _) q0, pw_cell_below (below_alloc (Below.refl _ _) _) q1, pw_cell_below (below_alloc (Below.refl _ _) _) q2, pw_cell_below (below_alloc (Below.refl _ _) _) q3, pw_cell_below (below_alloc (Below.refl _ _) _) q4, pw_cell_below (below_alloc (Below.refl _ _) _) q5⟩) (fun hHeld => ?_)
     clear hK K
     refine nm_ (some 31) ?_
     have hb : Below w104.heap.size w104 (w104.alloc (.cells #[.slice A2 (limbs m1).length c2, .slice A1 (limbs d0).length c1] 28 (0, 0))) := below_alloc (Below.refl _ _) _
     have hl0 : (w104.alloc (.cells #[.slice A2 (limbs m1).length c2, .slice A1 (limbs d0).length c1] 28 (0, 0))).cell? ⟨w104.heap.size, 0, none⟩ = some (.slice A2 (limbs m1).length c2) := (blk_cell (blk_new w104 _) 0).trans rfl
     have hl1 : (w104.alloc (.cells #[.slice A2 (limbs m1).length c2, .slice A1 (limbs d0).length c1] 28 (0, 0))).cell? ⟨w104.heap.size, 1, none⟩ = some (.slice A1 (limbs d0).length c1) := (blk_cell (blk_new w104 _) 1).trans rfl
     obtain ⟨w105, hw_⟩ : ∃ x, x = w104.alloc (.cells #[.slice A2 (limbs m1).length c2, .slice A1 (limbs d0).length c1] 28 (0, 0)) := ⟨_, rfl⟩
     rw [← hw_] at hb hl0 hl1 hHeld ⊢
     obtain ⟨gl1, hgl1⟩ : ∃ x, x = w104.heap.size := ⟨_, rfl⟩
     rw [← hgl1] at hl0 hl1 ⊢
     clear hgl1 hw_
     replace B_m0 := bl_b B_m0 hb
     replace B_d0 := bl_b B_d0 hb
     replace B_m1 := bl_b B_m1 hb
     replace B_d1 := bl_b B_d1 hb
     replace HB := bl_b HB hb
     replace B_x := bl_b B_x hb
     replace B_y := bl_b B_y hb
     replace B_z := bl_b B_z hb
     clear hb
     have LA1 := a0_ hl0
     have LB1 := a0_ hl1
     clear hl0 hl1
     have B_L1 := a0_ (Below.refl w105.heap.size w105)
     refine on_ 6 (some 22) 65407 HT_ (fun K hK => ?_)
     refine vl_ ?_
     refine hK.out _ _ (by obtain ⟨q0, q1, q2, q3, q4, q5⟩ := hHeld; exact ⟨pw_cell_below (below_alloc (Below.refl _ _) _) q0, pw_cell_below (below_alloc (Below.refl _ _) _) q1, pw_cell_below (below_alloc (Below.refl _ _) _) q2, pw_cell_below (below_alloc (Below.refl _ _) _) q3, pw_cell_below (below_alloc (Below.refl _ _) _) q4, pw_cell_below (below_alloc (Below.refl _ _) _) q5⟩) (fun hHeld => ?_)
     clear hK K
     refine nm_ (some 22) ?_
     have hb : Below w105.heap.size w105 (w105.alloc (.cells #[.slice A0 (limbs m0).length c0, .slice A3 (limbs d1).length c3] 28 (0, 0))) := below_alloc (Below.refl _ _) _
     have hl0 : (w105.alloc (.cells #[.slice A0 (limbs m0).length c0, .slice A3 (limbs d1).length c3] 28 (0, 0))).cell? ⟨w105.heap.size, 0, none⟩ = some (.slice A0 (limbs m0).length c0) := (blk_cell (blk_new w105 _) 0).trans rfl
     have hl1 : (w105.alloc (.cells #[.slice A0 (limbs m0).length c0, .slice A3 (limbs d1).length c3] 28 (0, 0))).cell? ⟨w105.heap.size, 1, none⟩ = some (.slice A3 (limbs d1).length c3) := (blk_cell (blk_new w105 _) 1).trans rfl
     obtain ⟨w106, hw_⟩ : ∃ x, x = w105.alloc (.cells #[.slice A0 (limbs m0).length c0, .slice A3 (limbs d1).length c3] 28 (0, 0)) := ⟨_, rfl⟩
     rw [← hw_] at hb hl0 hl1 hHeld ⊢
     obtain ⟨gl0, hgl0⟩ : ∃ x, x = w105.heap.size := ⟨_, rfl⟩
     rw [← hgl0] at hl0 hl1 ⊢
     clear hgl0 hw_
     replace B_m0 := bl_b B_m0 hb
     replace B_d0 := bl_b B_d0 hb
     replace B_m1 := bl_b B_m1 hb
     replace B_d1 := bl_b B_d1 hb
     replace HB := bl_b HB hb
     replace B_x := bl_b B_x hb
     replace B_y := bl_b B_y hb
     replace B_z := bl_b B_z hb
     replace B_L1 := bl_b B_L1 hb
     clear hb
     have LA0 := a0_ hl0
     have LB0 := a0_ hl1
     clear hl0 hl1
     have B_L0 := a0_ (Below.refl w106.heap.size w106)
     refine on_ 7 (some 23) 65535 HT_ (fun K hK => ?_)
     refine gs_ Try.func36 #[.slice (some ⟨gl0, 0, none⟩) 2 2] ?_
     refine (product2_calls m0 d1 (fits16 o0.2.2.2.1) (fits16 o1.2.2.2.2) gl0 _ _ _ _ _ (pw_cell_below B_L0.out LA0.out) (pw_cell_below B_L0.out LB0.out) (Kd.C_below R_m0.out B_m0.out) C_m0.out (Kd.C_below R_d1.out B_d1.out) C_d1.out).mono ?_
     rintro e w107 ⟨v0, rfl, h1, hb⟩
     refine ⟨_, rfl, ?_⟩
     refine hK.out _ _ (by obtain ⟨q0, q1, q2, q3, q4, q5⟩ := hHeld; exact ⟨pw_cell_below hb q0, pw_cell_below hb q1, pw_cell_below hb q2, pw_cell_below hb q3, pw_cell_below hb q4, pw_cell_below hb q5⟩) (fun hHeld => ?_)
     clear hK K
     refine nm_ (some 23) ?_
     have D_p0 := a0_ (Rd.lower h1 (below_size B_z.out))
     clear h1
     replace B_m0 := bl_b B_m0 hb
     replace B_d0 := bl_b B_d0 hb
     replace B_m1 := bl_b B_m1 hb
     replace B_d1 := bl_b B_d1 hb
     replace HB := bl_b HB hb
     replace B_x := bl_b B_x hb
     replace B_y := bl_b B_y hb
     replace B_z := bl_b B_z hb
     replace B_L1 := bl_b B_L1 hb
     replace B_L0 := bl_b B_L0 hb
     clear hb
     have B_p0 := a0_ (Below.refl w107.heap.size w107)
     refine on_ 16 (some 32) 131071 HT_ (fun K hK => ?_)
     refine gs_ Try.func36 #[.slice (some ⟨gl1, 0, none⟩) 2 2] ?_
     refine (product2_calls m1 d0 (fits16 o1.2.2.2.1) (fits16 o0.2.2.2.2) gl1 _ _ _ _ _ (pw_cell_below B_L1.out LA1.out) (pw_cell_below B_L1.out LB1.out) (Kd.C_below R_m1.out B_m1.out) C_m1.out (Kd.C_below R_d0.out B_d0.out) C_d0.out).mono ?_
     rintro e w108 ⟨v1, rfl, h1, hb⟩
     refine ⟨_, rfl, ?_⟩
     refine hK.out _ _ (by obtain ⟨q0, q1, q2, q3, q4, q5⟩ := hHeld; exact ⟨pw_cell_below hb q0, pw_cell_below hb q1, pw_cell_below hb q2, pw_cell_below hb q3, pw_cell_below hb q4, pw_cell_below hb q5⟩) (fun hHeld => ?_)
     clear hK K
     refine nm_ (some 32) ?_
     have D_p1 := a0_ (Rd.lower h1 (below_size B_z.out))
     clear h1
     replace B_m0 := bl_b B_m0 hb
     replace B_d0 := bl_b B_d0 hb
     replace B_m1 := bl_b B_m1 hb
     replace B_d1 := bl_b B_d1 hb
     replace HB := bl_b HB hb
     replace B_x := bl_b B_x hb
     replace B_y := bl_b B_y hb
     replace B_z := bl_b B_z hb
     replace B_L1 := bl_b B_L1 hb
     replace B_L0 := bl_b B_L0 hb
     replace B_p0 := bl_b B_p0 hb
     clear hb
     have B_p1 := a0_ (Below.refl w108.heap.size w108)
     exact HC (.slice (some ⟨gl0, 0, none⟩) 2 2, v0, .slice (some ⟨gl1, 0, none⟩) 2 2, v1) _ ⟨Rd.below D_p0.out B_p0.out, Rd.below D_p1.out B_p1.out, B_z.out, hHeld⟩
 clear B_z
 rintro ⟨l0_, v0, l1_, v1⟩ w124 ⟨h1, h2, hb, hHeld⟩
 refine norm_ (a' := ?_) ?_ ?_
 rotate_left
 · simp only [putAll, PU]
   rfl
 have hs_ := below_size (by repeat (first | exact HB.out | apply below_alloc | apply pw_below_drewN | apply below_drew1) : Below w.heap.size w w104)
 have D_p0 := a0_ (Rd.lower h1 hs_)
 have D_p1 := a0_ (Rd.lower h2 hs_)
 clear hs_
 obtain ⟨A_p0, c_p0, rfl, hlo0, hC0⟩ := Rd.reads h1
 clear h1
 obtain ⟨A_p1, c_p1, rfl, hlo1, hC1⟩ := Rd.reads h2
 clear h2
 replace B_m0 := bl_b B_m0 hb
 replace B_d0 := bl_b B_d0 hb
 replace B_m1 := bl_b B_m1 hb
 replace B_d1 := bl_b B_d1 hb
 replace HB := bl_b HB hb
 replace B_x := bl_b B_x hb
 replace B_y := bl_b B_y hb
 clear hb
 have R_p0 := a0_ hC0
 have C_p0 := a0_ hlo0
 clear hC0 hlo0
 have B_p0 := a0_ (Below.refl w124.heap.size w124)
 have R_p1 := a0_ hC1
 have C_p1 := a0_ hlo1
 clear hC1 hlo1
 have B_p1 := a0_ (Below.refl w124.heap.size w124)
 refine on_ 17 (some 33) 262143 HT_ (fun K hK => ?_)
 refine gs_ Try.func37 #[.bool s0, .slice A_p0 (limbs (m0 * d1)).length c_p0, .bool (!s1), .slice A_p1 (limbs (m1 * d0)).length c_p1] ?_
 refine (sum_calls s0 (!s1) (m0 * d1) (m1 * d0) (fits32 (fits_mul o0.2.2.2.1 o1.2.2.2.2)) (fits32 (fits_mul o1.2.2.2.1 o0.2.2.2.2)) _ _ _ _ _ (Kd.C_below R_p0.out B_p0.out) C_p0.out (Kd.C_below R_p1.out B_p1.out) C_p1.out).mono ?_
 rintro e w125 ⟨v, rfl, ho, hb⟩
 refine ⟨_, rfl, ?_⟩
 refine hK.out _ _ (by obtain ⟨q0, q1, q2, q3, q4, q5⟩ := hHeld; exact ⟨pw_cell_below hb q0, pw_cell_below hb q1, pw_cell_below hb q2, pw_cell_below hb q3, pw_cell_below hb q4, pw_cell_below hb q5⟩) (fun hHeld => ?_)
 clear hK K
 refine nm_ (some 33) ?_
 obtain ⟨A_s, c_s, rfl, hlo, hC⟩ := Rd.reads ho
 clear ho
 replace B_m0 := bl_b B_m0 hb
 replace B_d0 := bl_b B_d0 hb
 replace B_m1 := bl_b B_m1 hb
 replace B_d1 := bl_b B_d1 hb
 replace B_p0 := bl_b B_p0 hb
 replace B_p1 := bl_b B_p1 hb
 replace HB := bl_b HB hb
 replace B_x := bl_b B_x hb
 replace B_y := bl_b B_y hb
 clear hb
 have R_s := a0_ hC
 have C_s := a0_ hlo
 clear hC hlo
 have B_s := a0_ (Below.refl w125.heap.size w125)
 refine pu_ 18 (some 15) 524287 HT_ ?_
 refine pu_ 19 (some 34) 1048575 HT_ ?_
 refine pu_ 20 (some 35) 2097151 HT_ ?_
 refine pu_ 21 (some 7) 4194303 HT_ ?_
 refine pu_ 22 (some 8) 8388607 HT_ ?_
 refine do_ HT_ ?_
 clear HT_ HW_ hHeld
 obtain ⟨sg, hsg⟩ : ∃ x, x = (sumB s0 (m0 * d1) (!s1) (m1 * d0)).1 := ⟨_, rfl⟩
 obtain ⟨sz, hsz⟩ : ∃ x, x = (sumB s0 (m0 * d1) (!s1) (m1 * d0)).2 := ⟨_, rfl⟩
 try rw [← hsg]
 try rw [← hsz]
 have HSG := a0_ hsg
 have HSZ := a0_ hsz
 clear hsg hsz
 by_cases hz : sz = 0
 · have q1 : (((limbs sz).length : Int) == 0) = true := by rw [limbs_len0']; exact decide_eq_true hz
   have q2 : ((limbs sz).length == 0) = true := by rw [limbs_len0]; exact decide_eq_true hz
   have HZ := a0_ hz
   clear hz
   go_wp2_with fail
   go_ret2
   have hr : res = 0 := by rw [HRES.out, ← HSZ.out, if_pos HZ.out]
   exact ⟨by rw [hr]; rfl, HB.out⟩
 · have q1 : (((limbs sz).length : Int) == 0) = false := by rw [limbs_len0']; exact decide_eq_false hz
   have q2 : ((limbs sz).length == 0) = false := by rw [limbs_len0]; exact decide_eq_false hz
   have HZ := a0_ hz
   clear hz
   cases sg with
   | true =>
    go_wp2_with fail
    go_ret2
    have hr := HRES.out
    rw [← HSZ.out, ← HSG.out, if_neg HZ.out] at hr
    exact ⟨by rw [hr]; rfl, HB.out⟩
   | false =>
    go_wp2_with fail
    go_ret2
    have hr := HRES.out
    rw [← HSZ.out, ← HSG.out, if_neg HZ.out] at hr
    exact ⟨by rw [hr]; rfl, HB.out⟩
theorem rof_calls (n : Int) (h0 : -9223372036854775808 ≤ n) (h1 : n ≤ 9223372036854775807) (w : World) :
 Calls Try.prog 12 #[.int .i64 n] w fun e w' => ∃ v1 v2, e = .returned (.agg #[.bool (decide (n < 0)), v1, v2]) ∧ Rd w.heap.size w' v1 (limbs n.natAbs) ∧ Rd w.heap.size w' v2 (limbs 1) ∧ Below w.heap.size w w' := by
 have HB := a0_ (Below.refl w.heap.size w)
 have hu30 := Try.underlying30
 obtain ⟨k, hk⟩ := (Of_ev n.natAbs (by omega)).rounds
 have HK := a0_ hk
 clear hk
 by_cases hn : n < 0
 · have hd : decide (n < 0) = true := decide_eq_true hn
   rw [hd]
   have e1 : IntKind.u64.wrap n = n + 18446744073709551616 := by simp [IntKind.wrap, IntKind.bits, IntKind.signed]; omega
   have e2 : IntKind.u64.wrap (-(n + 18446744073709551616)) = (n.natAbs : Int) := by simp [IntKind.wrap, IntKind.bits, IntKind.signed]; omega
   have e3 : n % 18446744073709551616 = n + 18446744073709551616 := by omega
   clear hn h0 h1
   go_enter Try.func12, Try.ntmps12
   go_wp2_with (first | ((with_reducible refine gd_ 2 rfl ?_); refine bx_ (N := 2) #[.bool false, .slice none 0 0, .slice none 0 0] 30 ?_; intro g_r hg w101 hbox hb; have G_r := rd_b HB hg; replace HB := bl_b HB hb; clear hb; have K_r := a0_ hbox; have B_r := a0_ (Below.refl w101.heap.size w101); clear hbox hg))
   have L_r : Aside0 (g_r < w101.heap.size) := ⟨blk_lt (blk_below K_r.out B_r.out)⟩
   have S_r : Aside0 (w.heap.size ≤ w101.heap.size) := ⟨below_size HB.out⟩
   with_reducible refine (nat_Of.calls k _ _ _ HK.out).mono ?_
   rintro e w102 ⟨v, rfl, ho, hb⟩
   have hbM := below_size hb
   have D_M := a0_ (Rd.ofV ho (Nat.le_refl _))
   obtain ⟨A_M, c_M, rfl, -, -⟩ := V_reads ho
   clear ho
   replace HB := bl_b HB hb
   replace B_r := bl_b B_r hb
   clear hb
   have B_M := a0_ (Below.refl w102.heap.size w102)
   go_wp2_with fail
   with_reducible refine (one_calls _).mono ?_
   rintro e w103 ⟨v, rfl, ho, hb⟩
   have D_D := a0_ (Rd.lower ho (show w101.heap.size ≤ w102.heap.size from hbM))
   obtain ⟨A_D, c_D, rfl, -, -⟩ := Rd.reads ho
   clear ho
   replace HB := bl_b HB hb
   replace B_r := bl_b B_r hb
   replace B_M := bl_b B_M hb
   clear hb
   have B_D := a0_ (Below.refl w103.heap.size w103)
   have bk_r := blk_below K_r.out B_r.out
   have hz_r_0 : w103.cell? ⟨g_r, 0, none⟩ = some (.bool false) := (blk_cell bk_r 0).trans rfl
   have hf_r_0 := blk_frozen bk_r 0
   have hz_r_1 : w103.cell? ⟨g_r, 1, none⟩ = some (.slice none 0 0) := (blk_cell bk_r 1).trans rfl
   have hf_r_1 := blk_frozen bk_r 1
   have hz_r_2 : w103.cell? ⟨g_r, 2, none⟩ = some (.slice none 0 0) := (blk_cell bk_r 2).trans rfl
   have hf_r_2 := blk_frozen bk_r 2
   clear bk_r
   go_wp2_with fail
   refine bodyPost_ret (results_cell_row rfl _ _ g_r 30 #[.bool true, .slice A_M (limbs n.natAbs).length c_M, .slice A_D (limbs 1).length c_D] (0, 0) _ rfl (by (with_reducible repeat (first | refine blk_drewN ?_ _ | refine blk_drew ?_ | refine blk_alloc ?_ _)); refine blk_put (cs := #[.bool true, .slice A_M (limbs n.natAbs).length c_M, .slice none 0 0]) ?_ 2 _ rfl; (with_reducible repeat (first | refine blk_drewN ?_ _ | refine blk_drew ?_ | refine blk_alloc ?_ _)); refine blk_put (cs := #[.bool true, .slice none 0 0, .slice none 0 0]) ?_ 1 _ rfl; (with_reducible repeat (first | refine blk_drewN ?_ _ | refine blk_drew ?_ | refine blk_alloc ?_ _)); refine blk_put (cs := #[.bool false, .slice none 0 0, .slice none 0 0]) ?_ 0 _ rfl; (with_reducible repeat (first | refine blk_drewN ?_ _ | refine blk_drew ?_ | refine blk_alloc ?_ _)); exact blk_below K_r.out B_r.out) Try.underlying30 rfl (by kernel_rfl)) rfl ?_
   exact ⟨_, _, rfl, Rd.lower (Rd.set (Rd.set (Rd.set (Rd.below D_M.out B_M.out) _ L_r.out _) _ L_r.out _) _ L_r.out _) S_r.out, Rd.lower (Rd.set (Rd.set (Rd.set (Rd.below D_D.out B_D.out) _ L_r.out _) _ L_r.out _) _ L_r.out _) S_r.out, below_set (below_set (below_set HB.out G_r.out) G_r.out) G_r.out⟩
 · have hd : decide (n < 0) = false := decide_eq_false hn
   rw [hd]
   have e1 : IntKind.u64.wrap n = (n.natAbs : Int) := by simp [IntKind.wrap, IntKind.bits, IntKind.signed]; omega
   have e3 : n % 18446744073709551616 = (n.natAbs : Int) := by omega
   clear hn h0 h1
   go_enter Try.func12, Try.ntmps12
   go_wp2_with (first | ((with_reducible refine gd_ 2 rfl ?_); refine bx_ (N := 2) #[.bool false, .slice none 0 0, .slice none 0 0] 30 ?_; intro g_r hg w101 hbox hb; have G_r := rd_b HB hg; replace HB := bl_b HB hb; clear hb; have K_r := a0_ hbox; have B_r := a0_ (Below.refl w101.heap.size w101); clear hbox hg))
   have L_r : Aside0 (g_r < w101.heap.size) := ⟨blk_lt (blk_below K_r.out B_r.out)⟩
   have S_r : Aside0 (w.heap.size ≤ w101.heap.size) := ⟨below_size HB.out⟩
   with_reducible refine (nat_Of.calls k _ _ _ HK.out).mono ?_
   rintro e w102 ⟨v, rfl, ho, hb⟩
   have hbM := below_size hb
   have D_M := a0_ (Rd.ofV ho (Nat.le_refl _))
   obtain ⟨A_M, c_M, rfl, -, -⟩ := V_reads ho
   clear ho
   replace HB := bl_b HB hb
   replace B_r := bl_b B_r hb
   clear hb
   have B_M := a0_ (Below.refl w102.heap.size w102)
   go_wp2_with fail
   with_reducible refine (one_calls _).mono ?_
   rintro e w103 ⟨v, rfl, ho, hb⟩
   have D_D := a0_ (Rd.lower ho (show w101.heap.size ≤ w102.heap.size from hbM))
   obtain ⟨A_D, c_D, rfl, -, -⟩ := Rd.reads ho
   clear ho
   replace HB := bl_b HB hb
   replace B_r := bl_b B_r hb
   replace B_M := bl_b B_M hb
   clear hb
   have B_D := a0_ (Below.refl w103.heap.size w103)
   have bk_r := blk_below K_r.out B_r.out
   have hz_r_0 : w103.cell? ⟨g_r, 0, none⟩ = some (.bool false) := (blk_cell bk_r 0).trans rfl
   have hf_r_0 := blk_frozen bk_r 0
   have hz_r_1 : w103.cell? ⟨g_r, 1, none⟩ = some (.slice none 0 0) := (blk_cell bk_r 1).trans rfl
   have hf_r_1 := blk_frozen bk_r 1
   have hz_r_2 : w103.cell? ⟨g_r, 2, none⟩ = some (.slice none 0 0) := (blk_cell bk_r 2).trans rfl
   have hf_r_2 := blk_frozen bk_r 2
   clear bk_r
   go_wp2_with fail
   refine bodyPost_ret (results_cell_row rfl _ _ g_r 30 #[.bool false, .slice A_M (limbs n.natAbs).length c_M, .slice A_D (limbs 1).length c_D] (0, 0) _ rfl (by (with_reducible repeat (first | refine blk_drewN ?_ _ | refine blk_drew ?_ | refine blk_alloc ?_ _)); refine blk_put (cs := #[.bool false, .slice A_M (limbs n.natAbs).length c_M, .slice none 0 0]) ?_ 2 _ rfl; (with_reducible repeat (first | refine blk_drewN ?_ _ | refine blk_drew ?_ | refine blk_alloc ?_ _)); refine blk_put (cs := #[.bool false, .slice none 0 0, .slice none 0 0]) ?_ 1 _ rfl; (with_reducible repeat (first | refine blk_drewN ?_ _ | refine blk_drew ?_ | refine blk_alloc ?_ _)); refine blk_put (cs := #[.bool false, .slice none 0 0, .slice none 0 0]) ?_ 0 _ rfl; (with_reducible repeat (first | refine blk_drewN ?_ _ | refine blk_drew ?_ | refine blk_alloc ?_ _)); exact blk_below K_r.out B_r.out) Try.underlying30 rfl (by kernel_rfl)) rfl ?_
   exact ⟨_, _, rfl, Rd.lower (Rd.set (Rd.set (Rd.set (Rd.below D_M.out B_M.out) _ L_r.out _) _ L_r.out _) _ L_r.out _) S_r.out, Rd.lower (Rd.set (Rd.set (Rd.set (Rd.below D_D.out B_D.out) _ L_r.out _) _ L_r.out _) _ L_r.out _) S_r.out, below_set (below_set (below_set HB.out G_r.out) G_r.out) G_r.out⟩
theorem riszero_calls  (s0 : Bool) (m0 d0 : Nat) (o0 : OkR s0 m0 d0) (A0 : Option Addr) (c0 : Nat) (A1 : Option Addr) (c1 : Nat) (w : World)
 (hrm0 : Kd.C (Kd.int .u32) w A0 (limbs m0).length (limbs m0)) (hcm0 : (limbs m0).length ≤ c0) (hrd0 : Kd.C (Kd.int .u32) w A1 (limbs d0).length (limbs d0)) (hcd0 : (limbs d0).length ≤ c1)  :
 Calls Try.prog 60 #[.agg #[.bool s0, .slice A0 (limbs m0).length c0, .slice A1 (limbs d0).length c1]] w fun e w' => e = .returned (.bool (decide (m0 = 0))) ∧ Below w.heap.size w w' := by
 have R_m0 := a0_ hrm0
 have C_m0 := a0_ hcm0
 clear hrm0 hcm0
 have B_m0 := a0_ (Below.refl w.heap.size w)
 have R_d0 := a0_ hrd0
 have C_d0 := a0_ hcd0
 clear hrd0 hcd0
 have B_d0 := a0_ (Below.refl w.heap.size w)
 have HB := a0_ (Below.refl w.heap.size w)
 have hu30 := Try.underlying30
 have q1 : (((limbs m0).length : Int) == 0) = decide (m0 = 0) := limbs_len0'
 have q2 : ((limbs m0).length == 0) = decide (m0 = 0) := limbs_len0
 obtain ⟨z, hz⟩ : ∃ z, z = decide (m0 = 0) := ⟨_, rfl⟩
 rw [← hz] at q1 q2 ⊢
 clear hz
 go_enter Try.func60, Try.ntmps60
 go_wp2_with (first | ((with_reducible refine gd_ 1 rfl ?_); refine bx_ (N := 1) #[.bool s0, .slice A0 (limbs m0).length c0, .slice A1 (limbs d0).length c1] 30 ?_; intro g_x hg w101 hbox hb; have G_x := rd_b HB hg; replace B_m0 := bl_b B_m0 hb; replace B_d0 := bl_b B_d0 hb; replace HB := bl_b HB hb; clear hb; have K_x := a0_ hbox; have B_x := a0_ (Below.refl w101.heap.size w101); clear hbox hg; have bk_x := blk_below K_x.out B_x.out; have hz_x_0 : w101.cell? ⟨g_x, 0, none⟩ = some (.bool s0) := (blk_cell bk_x 0).trans rfl; have hz_x_1 : w101.cell? ⟨g_x, 1, none⟩ = some (.slice A0 (limbs m0).length c0) := (blk_cell bk_x 1).trans rfl; have hz_x_2 : w101.cell? ⟨g_x, 2, none⟩ = some (.slice A1 (limbs d0).length c1) := (blk_cell bk_x 2).trans rfl; clear bk_x))
 with_reducible refine (check_calls s0 m0 d0 o0 _ _ _ _ _ (Kd.C_below R_m0.out B_m0.out) C_m0.out (Kd.C_below R_d0.out B_d0.out) C_d0.out).mono ?_
 rintro e w102 ⟨rfl, hb⟩
 clear hz_x_0 hz_x_1 hz_x_2
 replace B_m0 := bl_b B_m0 hb
 replace B_d0 := bl_b B_d0 hb
 replace HB := bl_b HB hb
 replace B_x := bl_b B_x hb
 clear hb
 have bk_x := blk_below K_x.out B_x.out
 have hz_x_0 : w102.cell? ⟨g_x, 0, none⟩ = some (.bool s0) := (blk_cell bk_x 0).trans rfl
 have hz_x_1 : w102.cell? ⟨g_x, 1, none⟩ = some (.slice A0 (limbs m0).length c0) := (blk_cell bk_x 1).trans rfl
 have hz_x_2 : w102.cell? ⟨g_x, 2, none⟩ = some (.slice A1 (limbs d0).length c1) := (blk_cell bk_x 2).trans rfl
 clear bk_x
 go_wp2_with fail
 go_ret
 exact ⟨rfl, HB.out⟩
theorem rsame_calls  (s0 : Bool) (m0 d0 : Nat) (o0 : OkR s0 m0 d0) (s1 : Bool) (m1 d1 : Nat) (o1 : OkR s1 m1 d1) (A0 : Option Addr) (c0 : Nat) (A1 : Option Addr) (c1 : Nat) (A2 : Option Addr) (c2 : Nat) (A3 : Option Addr) (c3 : Nat) (w : World)
 (hrm0 : Kd.C (Kd.int .u32) w A0 (limbs m0).length (limbs m0)) (hcm0 : (limbs m0).length ≤ c0) (hrd0 : Kd.C (Kd.int .u32) w A1 (limbs d0).length (limbs d0)) (hcd0 : (limbs d0).length ≤ c1) (hrm1 : Kd.C (Kd.int .u32) w A2 (limbs m1).length (limbs m1)) (hcm1 : (limbs m1).length ≤ c2) (hrd1 : Kd.C (Kd.int .u32) w A3 (limbs d1).length (limbs d1)) (hcd1 : (limbs d1).length ≤ c3)  :
 Calls Try.prog 18 #[.agg #[.bool s0, .slice A0 (limbs m0).length c0, .slice A1 (limbs d0).length c1], .agg #[.bool s1, .slice A2 (limbs m1).length c2, .slice A3 (limbs d1).length c3]] w fun e w' => e = .returned (.bool (decide (s0 = s1 ∧ m0 = m1 ∧ d0 = d1))) ∧ Below w.heap.size w w' := by
 have R_m0 := a0_ hrm0
 have C_m0 := a0_ hcm0
 clear hrm0 hcm0
 have B_m0 := a0_ (Below.refl w.heap.size w)
 have R_d0 := a0_ hrd0
 have C_d0 := a0_ hcd0
 clear hrd0 hcd0
 have B_d0 := a0_ (Below.refl w.heap.size w)
 have R_m1 := a0_ hrm1
 have C_m1 := a0_ hcm1
 clear hrm1 hcm1
 have B_m1 := a0_ (Below.refl w.heap.size w)
 have R_d1 := a0_ hrd1
 have C_d1 := a0_ hcd1
 clear hrd1 hcd1
 have B_d1 := a0_ (Below.refl w.heap.size w)
 have HB := a0_ (Below.refl w.heap.size w)
 obtain ⟨ke, hke⟩ := (equal_ev (limbs m0) (limbs m1) (by have := len16 o0.2.2.2.1; omega)).rounds
 have He := a0_ hke
 clear hke
 obtain ⟨kf, hkf⟩ := (equal_ev (limbs d0) (limbs d1) (by have := len16 o0.2.2.2.2; omega)).rounds
 have Hf := a0_ hkf
 clear hkf
 have hu30 := Try.underlying30
 obtain ⟨z, hz⟩ : ∃ z, z = decide (s0 = s1 ∧ m0 = m1 ∧ d0 = d1) := ⟨_, rfl⟩
 rw [← hz]
 have HZ := a0_ hz
 clear hz
 by_cases hs : s0 = s1
 · subst hs
   have hq : (s0 == s0) = true := by cases s0 <;> rfl
   by_cases hm : m0 = m1
   · have hq2 : decide (limbs m0 = limbs m1) = true := by rw [hm]; exact decide_eq_true rfl
     have hL := He.out
     rw [hq2] at hL
     have He := a0_ hL
     clear hL hq2
     by_cases hd : d0 = d1
     · have hq2 : decide (limbs d0 = limbs d1) = true := by rw [hd]; exact decide_eq_true rfl
       have hL := Hf.out
       rw [hq2] at hL
       have Hf := a0_ hL
       clear hL hq2
       have hzz : z = true := by rw [HZ.out]; exact decide_eq_true ⟨rfl, hm, hd⟩
       have HZZ := a0_ hzz
       clear hzz hm hd
       have hzz := HZZ.out
       go_enter Try.func18, Try.ntmps18
       go_wp2_with (first | ((with_reducible refine gd_ 2 rfl ?_); refine bx_ (N := 2) #[.bool s0, .slice A0 (limbs m0).length c0, .slice A1 (limbs d0).length c1] 30 ?_; intro g_x hg w101 hbox hb; have G_x := rd_b HB hg; replace B_m0 := bl_b B_m0 hb; replace B_d0 := bl_b B_d0 hb; replace B_m1 := bl_b B_m1 hb; replace B_d1 := bl_b B_d1 hb; replace HB := bl_b HB hb; clear hb; have K_x := a0_ hbox; have B_x := a0_ (Below.refl w101.heap.size w101); clear hbox hg) | ((with_reducible refine gd_ 3 rfl ?_); refine bx_ (N := 3) #[.bool s0, .slice A2 (limbs m1).length c2, .slice A3 (limbs d1).length c3] 30 ?_; intro g_y hg w102 hbox hb; have G_y := rd_b HB hg; have N_y_x := rd_b B_x hg; replace B_m0 := bl_b B_m0 hb; replace B_d0 := bl_b B_d0 hb; replace B_m1 := bl_b B_m1 hb; replace B_d1 := bl_b B_d1 hb; replace HB := bl_b HB hb; replace B_x := bl_b B_x hb; clear hb; have K_y := a0_ hbox; have B_y := a0_ (Below.refl w102.heap.size w102); clear hbox hg; have bk_x := blk_below K_x.out B_x.out; have hz_x_0 : w102.cell? ⟨g_x, 0, none⟩ = some (.bool s0) := (blk_cell bk_x 0).trans rfl; have hz_x_1 : w102.cell? ⟨g_x, 1, none⟩ = some (.slice A0 (limbs m0).length c0) := (blk_cell bk_x 1).trans rfl; have hz_x_2 : w102.cell? ⟨g_x, 2, none⟩ = some (.slice A1 (limbs d0).length c1) := (blk_cell bk_x 2).trans rfl; clear bk_x; have bk_y := blk_below K_y.out B_y.out; have hz_y_0 : w102.cell? ⟨g_y, 0, none⟩ = some (.bool s0) := (blk_cell bk_y 0).trans rfl; have hz_y_1 : w102.cell? ⟨g_y, 1, none⟩ = some (.slice A2 (limbs m1).length c2) := (blk_cell bk_y 1).trans rfl; have hz_y_2 : w102.cell? ⟨g_y, 2, none⟩ = some (.slice A3 (limbs d1).length c3) := (blk_cell bk_y 2).trans rfl; clear bk_y))
       with_reducible refine (slices_Equal_uint32_uint32.calls _ _ _ _ _ _ _ _ _ (Kd.C_below R_m0.out B_m0.out) C_m0.out (Kd.C_below R_m1.out B_m1.out) C_m1.out He.out).mono ?_
       rintro e w103 ⟨rfl, hb0⟩
       have hb := hb0.below
       clear hb0
       clear hz_x_0 hz_x_1 hz_x_2
       clear hz_y_0 hz_y_1 hz_y_2
       replace B_m0 := bl_b B_m0 hb
       replace B_d0 := bl_b B_d0 hb
       replace B_m1 := bl_b B_m1 hb
       replace B_d1 := bl_b B_d1 hb
       replace HB := bl_b HB hb
       replace B_x := bl_b B_x hb
       replace B_y := bl_b B_y hb
       clear hb
       have bk_x := blk_below K_x.out B_x.out
       have hz_x_0 : w103.cell? ⟨g_x, 0, none⟩ = some (.bool s0) := (blk_cell bk_x 0).trans rfl
       have hz_x_1 : w103.cell? ⟨g_x, 1, none⟩ = some (.slice A0 (limbs m0).length c0) := (blk_cell bk_x 1).trans rfl
       have hz_x_2 : w103.cell? ⟨g_x, 2, none⟩ = some (.slice A1 (limbs d0).length c1) := (blk_cell bk_x 2).trans rfl
       clear bk_x
       have bk_y := blk_below K_y.out B_y.out
       have hz_y_0 : w103.cell? ⟨g_y, 0, none⟩ = some (.bool s0) := (blk_cell bk_y 0).trans rfl
       have hz_y_1 : w103.cell? ⟨g_y, 1, none⟩ = some (.slice A2 (limbs m1).length c2) := (blk_cell bk_y 1).trans rfl
       have hz_y_2 : w103.cell? ⟨g_y, 2, none⟩ = some (.slice A3 (limbs d1).length c3) := (blk_cell bk_y 2).trans rfl
       clear bk_y
       go_wp2_with fail
       with_reducible refine (slices_Equal_uint32_uint32.calls _ _ _ _ _ _ _ _ _ (Kd.C_below R_d0.out B_d0.out) C_d0.out (Kd.C_below R_d1.out B_d1.out) C_d1.out Hf.out).mono ?_
       rintro e w104 ⟨rfl, hb0⟩
       have hb := hb0.below
       clear hb0
       clear hz_x_0 hz_x_1 hz_x_2
       clear hz_y_0 hz_y_1 hz_y_2
       replace B_m0 := bl_b B_m0 hb
       replace B_d0 := bl_b B_d0 hb
       replace B_m1 := bl_b B_m1 hb
       replace B_d1 := bl_b B_d1 hb
       replace HB := bl_b HB hb
       replace B_x := bl_b B_x hb
       replace B_y := bl_b B_y hb
       clear hb
       have bk_x := blk_below K_x.out B_x.out
       have hz_x_0 : w104.cell? ⟨g_x, 0, none⟩ = some (.bool s0) := (blk_cell bk_x 0).trans rfl
       have hz_x_1 : w104.cell? ⟨g_x, 1, none⟩ = some (.slice A0 (limbs m0).length c0) := (blk_cell bk_x 1).trans rfl
       have hz_x_2 : w104.cell? ⟨g_x, 2, none⟩ = some (.slice A1 (limbs d0).length c1) := (blk_cell bk_x 2).trans rfl
       clear bk_x
       have bk_y := blk_below K_y.out B_y.out
       have hz_y_0 : w104.cell? ⟨g_y, 0, none⟩ = some (.bool s0) := (blk_cell bk_y 0).trans rfl
       have hz_y_1 : w104.cell? ⟨g_y, 1, none⟩ = some (.slice A2 (limbs m1).length c2) := (blk_cell bk_y 1).trans rfl
       have hz_y_2 : w104.cell? ⟨g_y, 2, none⟩ = some (.slice A3 (limbs d1).length c3) := (blk_cell bk_y 2).trans rfl
       clear bk_y
       go_wp2_with fail
       go_ret
       exact ⟨by rw [hzz]; rfl, HB.out⟩
     · have hq2 : decide (limbs d0 = limbs d1) = false := decide_eq_false (fun h => hd (limbs_inj h))
       have hL := Hf.out
       rw [hq2] at hL
       have Hf := a0_ hL
       clear hL hq2
       have hzz : z = false := by rw [HZ.out]; exact decide_eq_false (fun h => hd h.2.2)
       have HZZ := a0_ hzz
       clear hzz hm hd
       have hzz := HZZ.out
       go_enter Try.func18, Try.ntmps18
       go_wp2_with (first | ((with_reducible refine gd_ 2 rfl ?_); refine bx_ (N := 2) #[.bool s0, .slice A0 (limbs m0).length c0, .slice A1 (limbs d0).length c1] 30 ?_; intro g_x hg w101 hbox hb; have G_x := rd_b HB hg; replace B_m0 := bl_b B_m0 hb; replace B_d0 := bl_b B_d0 hb; replace B_m1 := bl_b B_m1 hb; replace B_d1 := bl_b B_d1 hb; replace HB := bl_b HB hb; clear hb; have K_x := a0_ hbox; have B_x := a0_ (Below.refl w101.heap.size w101); clear hbox hg) | ((with_reducible refine gd_ 3 rfl ?_); refine bx_ (N := 3) #[.bool s0, .slice A2 (limbs m1).length c2, .slice A3 (limbs d1).length c3] 30 ?_; intro g_y hg w102 hbox hb; have G_y := rd_b HB hg; have N_y_x := rd_b B_x hg; replace B_m0 := bl_b B_m0 hb; replace B_d0 := bl_b B_d0 hb; replace B_m1 := bl_b B_m1 hb; replace B_d1 := bl_b B_d1 hb; replace HB := bl_b HB hb; replace B_x := bl_b B_x hb; clear hb; have K_y := a0_ hbox; have B_y := a0_ (Below.refl w102.heap.size w102); clear hbox hg; have bk_x := blk_below K_x.out B_x.out; have hz_x_0 : w102.cell? ⟨g_x, 0, none⟩ = some (.bool s0) := (blk_cell bk_x 0).trans rfl; have hz_x_1 : w102.cell? ⟨g_x, 1, none⟩ = some (.slice A0 (limbs m0).length c0) := (blk_cell bk_x 1).trans rfl; have hz_x_2 : w102.cell? ⟨g_x, 2, none⟩ = some (.slice A1 (limbs d0).length c1) := (blk_cell bk_x 2).trans rfl; clear bk_x; have bk_y := blk_below K_y.out B_y.out; have hz_y_0 : w102.cell? ⟨g_y, 0, none⟩ = some (.bool s0) := (blk_cell bk_y 0).trans rfl; have hz_y_1 : w102.cell? ⟨g_y, 1, none⟩ = some (.slice A2 (limbs m1).length c2) := (blk_cell bk_y 1).trans rfl; have hz_y_2 : w102.cell? ⟨g_y, 2, none⟩ = some (.slice A3 (limbs d1).length c3) := (blk_cell bk_y 2).trans rfl; clear bk_y))
       with_reducible refine (slices_Equal_uint32_uint32.calls _ _ _ _ _ _ _ _ _ (Kd.C_below R_m0.out B_m0.out) C_m0.out (Kd.C_below R_m1.out B_m1.out) C_m1.out He.out).mono ?_
       rintro e w103 ⟨rfl, hb0⟩
       have hb := hb0.below
       clear hb0
       clear hz_x_0 hz_x_1 hz_x_2
       clear hz_y_0 hz_y_1 hz_y_2
       replace B_m0 := bl_b B_m0 hb
       replace B_d0 := bl_b B_d0 hb
       replace B_m1 := bl_b B_m1 hb
       replace B_d1 := bl_b B_d1 hb
       replace HB := bl_b HB hb
       replace B_x := bl_b B_x hb
       replace B_y := bl_b B_y hb
       clear hb
       have bk_x := blk_below K_x.out B_x.out
       have hz_x_0 : w103.cell? ⟨g_x, 0, none⟩ = some (.bool s0) := (blk_cell bk_x 0).trans rfl
       have hz_x_1 : w103.cell? ⟨g_x, 1, none⟩ = some (.slice A0 (limbs m0).length c0) := (blk_cell bk_x 1).trans rfl
       have hz_x_2 : w103.cell? ⟨g_x, 2, none⟩ = some (.slice A1 (limbs d0).length c1) := (blk_cell bk_x 2).trans rfl
       clear bk_x
       have bk_y := blk_below K_y.out B_y.out
       have hz_y_0 : w103.cell? ⟨g_y, 0, none⟩ = some (.bool s0) := (blk_cell bk_y 0).trans rfl
       have hz_y_1 : w103.cell? ⟨g_y, 1, none⟩ = some (.slice A2 (limbs m1).length c2) := (blk_cell bk_y 1).trans rfl
       have hz_y_2 : w103.cell? ⟨g_y, 2, none⟩ = some (.slice A3 (limbs d1).length c3) := (blk_cell bk_y 2).trans rfl
       clear bk_y
       go_wp2_with fail
       with_reducible refine (slices_Equal_uint32_uint32.calls _ _ _ _ _ _ _ _ _ (Kd.C_below R_d0.out B_d0.out) C_d0.out (Kd.C_below R_d1.out B_d1.out) C_d1.out Hf.out).mono ?_
       rintro e w104 ⟨rfl, hb0⟩
       have hb := hb0.below
       clear hb0
       clear hz_x_0 hz_x_1 hz_x_2
       clear hz_y_0 hz_y_1 hz_y_2
       replace B_m0 := bl_b B_m0 hb
       replace B_d0 := bl_b B_d0 hb
       replace B_m1 := bl_b B_m1 hb
       replace B_d1 := bl_b B_d1 hb
       replace HB := bl_b HB hb
       replace B_x := bl_b B_x hb
       replace B_y := bl_b B_y hb
       clear hb
       have bk_x := blk_below K_x.out B_x.out
       have hz_x_0 : w104.cell? ⟨g_x, 0, none⟩ = some (.bool s0) := (blk_cell bk_x 0).trans rfl
       have hz_x_1 : w104.cell? ⟨g_x, 1, none⟩ = some (.slice A0 (limbs m0).length c0) := (blk_cell bk_x 1).trans rfl
       have hz_x_2 : w104.cell? ⟨g_x, 2, none⟩ = some (.slice A1 (limbs d0).length c1) := (blk_cell bk_x 2).trans rfl
       clear bk_x
       have bk_y := blk_below K_y.out B_y.out
       have hz_y_0 : w104.cell? ⟨g_y, 0, none⟩ = some (.bool s0) := (blk_cell bk_y 0).trans rfl
       have hz_y_1 : w104.cell? ⟨g_y, 1, none⟩ = some (.slice A2 (limbs m1).length c2) := (blk_cell bk_y 1).trans rfl
       have hz_y_2 : w104.cell? ⟨g_y, 2, none⟩ = some (.slice A3 (limbs d1).length c3) := (blk_cell bk_y 2).trans rfl
       clear bk_y
       go_wp2_with fail
       go_ret
       exact ⟨by rw [hzz]; rfl, HB.out⟩
   · have hq2 : decide (limbs m0 = limbs m1) = false := decide_eq_false (fun h => hm (limbs_inj h))
     have hL := He.out
     rw [hq2] at hL
     have He := a0_ hL
     clear hL hq2
     have hzz : z = false := by rw [HZ.out]; exact decide_eq_false (fun h => hm h.2.1)
     clear hm
     go_enter Try.func18, Try.ntmps18
     go_wp2_with (first | ((with_reducible refine gd_ 2 rfl ?_); refine bx_ (N := 2) #[.bool s0, .slice A0 (limbs m0).length c0, .slice A1 (limbs d0).length c1] 30 ?_; intro g_x hg w101 hbox hb; have G_x := rd_b HB hg; replace B_m0 := bl_b B_m0 hb; replace B_d0 := bl_b B_d0 hb; replace B_m1 := bl_b B_m1 hb; replace B_d1 := bl_b B_d1 hb; replace HB := bl_b HB hb; clear hb; have K_x := a0_ hbox; have B_x := a0_ (Below.refl w101.heap.size w101); clear hbox hg) | ((with_reducible refine gd_ 3 rfl ?_); refine bx_ (N := 3) #[.bool s0, .slice A2 (limbs m1).length c2, .slice A3 (limbs d1).length c3] 30 ?_; intro g_y hg w102 hbox hb; have G_y := rd_b HB hg; have N_y_x := rd_b B_x hg; replace B_m0 := bl_b B_m0 hb; replace B_d0 := bl_b B_d0 hb; replace B_m1 := bl_b B_m1 hb; replace B_d1 := bl_b B_d1 hb; replace HB := bl_b HB hb; replace B_x := bl_b B_x hb; clear hb; have K_y := a0_ hbox; have B_y := a0_ (Below.refl w102.heap.size w102); clear hbox hg; have bk_x := blk_below K_x.out B_x.out; have hz_x_0 : w102.cell? ⟨g_x, 0, none⟩ = some (.bool s0) := (blk_cell bk_x 0).trans rfl; have hz_x_1 : w102.cell? ⟨g_x, 1, none⟩ = some (.slice A0 (limbs m0).length c0) := (blk_cell bk_x 1).trans rfl; have hz_x_2 : w102.cell? ⟨g_x, 2, none⟩ = some (.slice A1 (limbs d0).length c1) := (blk_cell bk_x 2).trans rfl; clear bk_x; have bk_y := blk_below K_y.out B_y.out; have hz_y_0 : w102.cell? ⟨g_y, 0, none⟩ = some (.bool s0) := (blk_cell bk_y 0).trans rfl; have hz_y_1 : w102.cell? ⟨g_y, 1, none⟩ = some (.slice A2 (limbs m1).length c2) := (blk_cell bk_y 1).trans rfl; have hz_y_2 : w102.cell? ⟨g_y, 2, none⟩ = some (.slice A3 (limbs d1).length c3) := (blk_cell bk_y 2).trans rfl; clear bk_y))
     with_reducible refine (slices_Equal_uint32_uint32.calls _ _ _ _ _ _ _ _ _ (Kd.C_below R_m0.out B_m0.out) C_m0.out (Kd.C_below R_m1.out B_m1.out) C_m1.out He.out).mono ?_
     rintro e w103 ⟨rfl, hb0⟩
     have hb := hb0.below
     clear hb0
     clear hz_x_0 hz_x_1 hz_x_2
     clear hz_y_0 hz_y_1 hz_y_2
     replace B_m0 := bl_b B_m0 hb
     replace B_d0 := bl_b B_d0 hb
     replace B_m1 := bl_b B_m1 hb
     replace B_d1 := bl_b B_d1 hb
     replace HB := bl_b HB hb
     replace B_x := bl_b B_x hb
     replace B_y := bl_b B_y hb
     clear hb
     have bk_x := blk_below K_x.out B_x.out
     have hz_x_0 : w103.cell? ⟨g_x, 0, none⟩ = some (.bool s0) := (blk_cell bk_x 0).trans rfl
     have hz_x_1 : w103.cell? ⟨g_x, 1, none⟩ = some (.slice A0 (limbs m0).length c0) := (blk_cell bk_x 1).trans rfl
     have hz_x_2 : w103.cell? ⟨g_x, 2, none⟩ = some (.slice A1 (limbs d0).length c1) := (blk_cell bk_x 2).trans rfl
     clear bk_x
     have bk_y := blk_below K_y.out B_y.out
     have hz_y_0 : w103.cell? ⟨g_y, 0, none⟩ = some (.bool s0) := (blk_cell bk_y 0).trans rfl
     have hz_y_1 : w103.cell? ⟨g_y, 1, none⟩ = some (.slice A2 (limbs m1).length c2) := (blk_cell bk_y 1).trans rfl
     have hz_y_2 : w103.cell? ⟨g_y, 2, none⟩ = some (.slice A3 (limbs d1).length c3) := (blk_cell bk_y 2).trans rfl
     clear bk_y
     go_wp2_with fail
     go_ret
     exact ⟨by rw [hzz]; rfl, HB.out⟩
 · have hq : (s0 == s1) = false := by cases s0 <;> cases s1 <;> simp_all
   have hzz : z = false := by rw [HZ.out]; exact decide_eq_false (fun h => hs h.1)
   clear hs
   go_enter Try.func18, Try.ntmps18
   go_wp2_with (first | ((with_reducible refine gd_ 2 rfl ?_); refine bx_ (N := 2) #[.bool s0, .slice A0 (limbs m0).length c0, .slice A1 (limbs d0).length c1] 30 ?_; intro g_x hg w101 hbox hb; have G_x := rd_b HB hg; replace B_m0 := bl_b B_m0 hb; replace B_d0 := bl_b B_d0 hb; replace B_m1 := bl_b B_m1 hb; replace B_d1 := bl_b B_d1 hb; replace HB := bl_b HB hb; clear hb; have K_x := a0_ hbox; have B_x := a0_ (Below.refl w101.heap.size w101); clear hbox hg) | ((with_reducible refine gd_ 3 rfl ?_); refine bx_ (N := 3) #[.bool s1, .slice A2 (limbs m1).length c2, .slice A3 (limbs d1).length c3] 30 ?_; intro g_y hg w102 hbox hb; have G_y := rd_b HB hg; have N_y_x := rd_b B_x hg; replace B_m0 := bl_b B_m0 hb; replace B_d0 := bl_b B_d0 hb; replace B_m1 := bl_b B_m1 hb; replace B_d1 := bl_b B_d1 hb; replace HB := bl_b HB hb; replace B_x := bl_b B_x hb; clear hb; have K_y := a0_ hbox; have B_y := a0_ (Below.refl w102.heap.size w102); clear hbox hg; have bk_x := blk_below K_x.out B_x.out; have hz_x_0 : w102.cell? ⟨g_x, 0, none⟩ = some (.bool s0) := (blk_cell bk_x 0).trans rfl; have hz_x_1 : w102.cell? ⟨g_x, 1, none⟩ = some (.slice A0 (limbs m0).length c0) := (blk_cell bk_x 1).trans rfl; have hz_x_2 : w102.cell? ⟨g_x, 2, none⟩ = some (.slice A1 (limbs d0).length c1) := (blk_cell bk_x 2).trans rfl; clear bk_x; have bk_y := blk_below K_y.out B_y.out; have hz_y_0 : w102.cell? ⟨g_y, 0, none⟩ = some (.bool s1) := (blk_cell bk_y 0).trans rfl; have hz_y_1 : w102.cell? ⟨g_y, 1, none⟩ = some (.slice A2 (limbs m1).length c2) := (blk_cell bk_y 1).trans rfl; have hz_y_2 : w102.cell? ⟨g_y, 2, none⟩ = some (.slice A3 (limbs d1).length c3) := (blk_cell bk_y 2).trans rfl; clear bk_y))
   go_ret
   exact ⟨by rw [hzz]; rfl, HB.out⟩
theorem mk_num (n : Int) (d : Nat) (h : d ≠ 0) : (mkRat n d).num = n / (n.natAbs.gcd d : Nat) ∧ (mkRat n d).den = d / n.natAbs.gcd d := by
 rw [← Rat.normalize_eq_mkRat h, Rat.normalize_eq]
 exact ⟨rfl, rfl⟩
theorem signed_abs (neg : Bool) (m : Nat) : (if neg = true then -(m : Int) else (m : Int)).natAbs = m := by cases neg <;> simp
theorem red_mk (neg : Bool) (m n : Nat) (hn : 0 < n) : (mkRat (if neg = true then -(m : Int) else m) n).num.natAbs = m / Nat.gcd m n ∧ (mkRat (if neg = true then -(m : Int) else m) n).den = n / Nat.gcd m n ∧ decide ((mkRat (if neg = true then -(m : Int) else m) n).num < 0) = (neg && decide (0 < m / Nat.gcd m n)) := by
 obtain ⟨h1, h2⟩ := mk_num (if neg = true then -(m : Int) else m) n (by omega)
 rw [signed_abs] at h1 h2
 have hg : (0 : Int) < (Nat.gcd m n : Nat) := by exact_mod_cast Nat.gcd_pos_of_pos_right m hn
 have hd : m.gcd n ∣ m := Nat.gcd_dvd_left m n
 have h3 : (mkRat (if neg = true then -(m : Int) else m) n).num = if neg = true then -((m / Nat.gcd m n : Nat) : Int) else ((m / Nat.gcd m n : Nat) : Int) := by
  rw [h1]
  cases neg
  · simp
  · simp only [if_true]
    rw [Int.neg_ediv_of_dvd (by exact_mod_cast hd)]
    simp
 rw [h3]
 refine ⟨signed_abs _ _, h2, ?_⟩
 generalize m / m.gcd n = q
 cases neg
 · simp only [Bool.false_eq_true, if_false, Bool.false_and]; exact decide_eq_false (by omega)
 · simp only [if_true, Bool.true_and]; congr 1; exact propext (by omega)
theorem add_mk (x y : Rat) : x + y = mkRat (x.num * y.den + y.num * x.den) (x.den * y.den) := by
 rw [Rat.add_def, Rat.normalize_eq_mkRat]
theorem sub_mk (x y : Rat) : x - y = mkRat (x.num * y.den + (-y.num) * x.den) (x.den * y.den) := by
 rw [Rat.sub_eq_add_neg, add_mk]; rfl
theorem mul_mk (x y : Rat) : x * y = mkRat (x.num * y.num) (x.den * y.den) := by
 rw [Rat.mul_def, Rat.normalize_eq_mkRat]
theorem sgn_mul (x y : Int) : (if (decide (x < 0) != decide (y < 0)) = true then -((x.natAbs * y.natAbs : Nat) : Int) else ((x.natAbs * y.natAbs : Nat) : Int)) = x * y := by
 have hx : x = (if x < 0 then -(x.natAbs : Int) else x.natAbs) := by split <;> omega
 have hy : y = (if y < 0 then -(y.natAbs : Int) else y.natAbs) := by split <;> omega
 by_cases h1 : x < 0 <;> by_cases h2 : y < 0
 · rw [decide_eq_true h1, decide_eq_true h2]; rw [if_pos h1] at hx; rw [if_pos h2] at hy; simp only [bne_self_eq_false, Bool.false_eq_true, if_false]; rw [Int.natCast_mul]; generalize (x.natAbs : Int) = a at *; generalize (y.natAbs : Int) = b at *; subst hx hy; rw [Int.neg_mul_neg]
 · rw [decide_eq_true h1, decide_eq_false h2]; rw [if_pos h1] at hx; rw [if_neg h2] at hy; simp only [Bool.true_bne, Bool.not_false, if_true]; rw [Int.natCast_mul]; generalize (x.natAbs : Int) = a at *; generalize (y.natAbs : Int) = b at *; subst hx hy; rw [Int.neg_mul]
 · rw [decide_eq_false h1, decide_eq_true h2]; rw [if_neg h1] at hx; rw [if_pos h2] at hy; simp only [Bool.false_bne, if_true]; rw [Int.natCast_mul]; generalize (x.natAbs : Int) = a at *; generalize (y.natAbs : Int) = b at *; subst hx hy; rw [Int.mul_neg]
 · rw [decide_eq_false h1, decide_eq_false h2]; rw [if_neg h1] at hx; rw [if_neg h2] at hy; simp only [bne_self_eq_false, Bool.false_eq_true, if_false]; rw [Int.natCast_mul]; generalize (x.natAbs : Int) = a at *; generalize (y.natAbs : Int) = b at *; subst hx hy; rfl
theorem inv_mk (y : Rat) (_hy : y.num ≠ 0) : y⁻¹ = mkRat (if y.num < 0 then -(y.den : Int) else y.den) y.num.natAbs := by
 rw [Rat.inv_def]
 by_cases h : y.num < 0
 · rw [if_pos h]
   have h2 : y.num = Int.negSucc (y.num.natAbs - 1) := by omega
   rw [h2, Rat.divInt]
   simp only [Int.natAbs_negSucc]
   rw [Rat.normalize_eq_mkRat]
 · rw [if_neg h]
   have h2 : y.num = ((y.num.natAbs : Nat) : Int) := by omega
   rw [h2, Rat.divInt_ofNat]; simp
theorem div_mk (x y : Rat) (hy : y.num ≠ 0) : x / y = mkRat (if (decide (x.num < 0) != decide (y.num < 0)) = true then -((x.num.natAbs * y.den : Nat) : Int) else ((x.num.natAbs * y.den : Nat) : Int)) (x.den * y.num.natAbs) := by
 rw [Rat.div_def, inv_mk y hy]
 conv => lhs; rw [← Rat.mkRat_self x]
 rw [Rat.mkRat_mul_mkRat]
 congr 1
 have h := sgn_mul x.num (if y.num < 0 then -(y.den : Int) else y.den)
 rw [← h]
 have hd := y.den_pos
 have e1 : (if y.num < 0 then -(y.den : Int) else y.den).natAbs = y.den := by split <;> omega
 have e2 : decide ((if y.num < 0 then -(y.den : Int) else y.den) < 0) = decide (y.num < 0) := by
  congr 1; refine propext ⟨fun hh => ?_, fun hh => ?_⟩
  · split at hh <;> omega
  · rw [if_pos hh]; omega
 rw [e1, e2]
def FitR (x : Rat) : Prop := x.num.natAbs < 4294967296 ^ 16 ∧ x.den < 4294967296 ^ 16
instance (x : Rat) : Decidable (FitR x) := inferInstanceAs (Decidable (_ ∧ _))
def ansR (y : Rat) : Bool × Nat × Nat × Int := if FitR y then (decide (y.num < 0), y.num.natAbs, y.den, 0) else (false, 0, 0, 20)
theorem cmp_rat (x y : Rat) (N : Int) (hN : N = x.num * y.den + (-y.num) * x.den) : (N = 0 ↔ x = y) ∧ (N < 0 ↔ x < y) := by
 subst hN
 have e : x.num * (y.den : Int) + -y.num * (x.den : Int) = x.num * y.den - y.num * x.den := by rw [Int.neg_mul]; omega
 rw [e]
 have h1 : x < y ↔ x.num * (y.den : Int) - y.num * (x.den : Int) < 0 := by rw [Rat.lt_iff]; omega
 have h2 : y < x ↔ 0 < x.num * (y.den : Int) - y.num * (x.den : Int) := by rw [Rat.lt_iff]; omega
 refine ⟨⟨fun h => ?_, fun h => ?_⟩, h1.symm⟩
 · have a : ¬ x < y := by rw [h1]; omega
   have b : ¬ y < x := by rw [h2]; omega
   exact Rat.le_antisymm (Rat.not_lt.1 b) (Rat.not_lt.1 a)
 · subst h; omega
theorem sgn_scale (x : Int) (d : Nat) : (if decide (x < 0) = true then -((x.natAbs * d : Nat) : Int) else ((x.natAbs * d : Nat) : Int)) = x * d := by
 by_cases h : x < 0
 · rw [if_pos (decide_eq_true h), Int.natCast_mul, ← Int.neg_mul]; congr 1; omega
 · rw [if_neg (by simp [h]), Int.natCast_mul]; congr 1; omega
theorem sgn_scale' (x : Int) (d : Nat) : (if (!decide (x < 0)) = true then -((x.natAbs * d : Nat) : Int) else ((x.natAbs * d : Nat) : Int)) = -x * d := by
 by_cases h : x < 0
 · rw [decide_eq_true h, if_neg (by decide), Int.natCast_mul]; congr 1; omega
 · rw [decide_eq_false h, if_pos (by decide), Int.natCast_mul, ← Int.neg_mul]; congr 1; omega
theorem red_ans (neg : Bool) (m n : Nat) (hn : 0 < n) : red neg m n = ansR (mkRat (if neg = true then -(m : Int) else m) n) := by
 obtain ⟨h1, h2, h3⟩ := red_mk neg m n hn
 by_cases h : m / Nat.gcd m n < 4294967296 ^ 16 ∧ n / Nat.gcd m n < 4294967296 ^ 16
 · have hf : FitR (mkRat (if neg = true then -(m : Int) else m) n) := ⟨by rw [h1]; exact h.1, by rw [h2]; exact h.2⟩
   unfold red ansR
   rw [if_pos h, if_pos hf, h1, h2, h3]
 · have hf : ¬ FitR (mkRat (if neg = true then -(m : Int) else m) n) := fun hh => h ⟨by rw [← h1]; exact hh.1, by rw [← h2]; exact hh.2⟩
   unfold red ansR
   rw [if_neg h, if_neg hf]
theorem sum_add (x y : Rat) : red (sumB (decide (x.num < 0)) (x.num.natAbs * y.den) (decide (y.num < 0)) (y.num.natAbs * x.den)).1 (sumB (decide (x.num < 0)) (x.num.natAbs * y.den) (decide (y.num < 0)) (y.num.natAbs * x.den)).2 (x.den * y.den) = ansR (x + y) := by
 rw [red_ans _ _ _ (Nat.mul_pos x.den_pos y.den_pos), sumB_spec, sgn_scale, sgn_scale, ← add_mk]
theorem sum_sub (x y : Rat) : red (sumB (decide (x.num < 0)) (x.num.natAbs * y.den) (!decide (y.num < 0)) (y.num.natAbs * x.den)).1 (sumB (decide (x.num < 0)) (x.num.natAbs * y.den) (!decide (y.num < 0)) (y.num.natAbs * x.den)).2 (x.den * y.den) = ansR (x - y) := by
 rw [red_ans _ _ _ (Nat.mul_pos x.den_pos y.den_pos), sumB_spec, sgn_scale, sgn_scale', ← sub_mk]
theorem sum_mul (x y : Rat) : red (decide (x.num < 0) != decide (y.num < 0)) (x.num.natAbs * y.num.natAbs) (x.den * y.den) = ansR (x * y) := by
 rw [red_ans _ _ _ (Nat.mul_pos x.den_pos y.den_pos), sgn_mul, ← mul_mk]
theorem sum_div (x y : Rat) (hy : y.num ≠ 0) : red (decide (x.num < 0) != decide (y.num < 0)) (x.num.natAbs * y.den) (x.den * y.num.natAbs) = ansR (x / y) := by
 rw [red_ans _ _ _ (Nat.mul_pos x.den_pos (by omega)), ← div_mk x y hy]
theorem sum_cmp (x y : Rat) : (if (sumB (decide (x.num < 0)) (x.num.natAbs * y.den) (!decide (y.num < 0)) (y.num.natAbs * x.den)).2 = 0 then (0 : Int) else if (sumB (decide (x.num < 0)) (x.num.natAbs * y.den) (!decide (y.num < 0)) (y.num.natAbs * x.den)).1 = true then -1 else 1) = if x < y then -1 else if x = y then 0 else 1 := by
 have h := sumB_spec (decide (x.num < 0)) (x.num.natAbs * y.den) (!decide (y.num < 0)) (y.num.natAbs * x.den)
 rw [sgn_scale, sgn_scale'] at h
 obtain ⟨c1, c2⟩ := cmp_rat x y _ h
 generalize sumB (decide (x.num < 0)) (x.num.natAbs * y.den) (!decide (y.num < 0)) (y.num.natAbs * x.den) = S at c1 c2 ⊢
 obtain ⟨b, n⟩ := S
 simp only at c1 c2 ⊢
 by_cases hn : n = 0
 · subst hn
   have e : x = y := c1.1 (by cases b <;> simp)
   rw [if_pos rfl, if_neg (by rw [e]; exact Rat.lt_irrefl), if_pos e]
 · rw [if_neg hn]
   cases b with
   | true => rw [if_pos rfl, if_pos (c2.1 (by simp; omega))]
   | false =>
    rw [if_neg (by decide), if_neg (fun hh => by have := c2.2 hh; simp at this; omega), if_neg (fun hh => by have := c1.2 hh; simp at this; omega)]
theorem FitR.ok {x : Rat} (h : FitR x) : OkR (decide (x.num < 0)) x.num.natAbs x.den := ⟨fun h2 => by have := of_decide_eq_true h2; omega, x.den_pos, x.reduced, h.1, h.2⟩
def IsT (ok : Nat → Prop) (w : World) (v : Value) (s : Bool) (m d : Nat) : Prop := ∃ v1 v2, v = .agg #[.bool s, v1, v2] ∧ Kd.V (Kd.int .u32) 48 w 0 ok v1 (limbs m) ∧ Kd.V (Kd.int .u32) 48 w 0 ok v2 (limbs d)
def IsR (ok : Nat → Prop) (w : World) (v : Value) (x : Rat) : Prop := FitR x ∧ IsT ok w v (decide (x.num < 0)) x.num.natAbs x.den
section
variable {ok ok' S : Nat → Prop} {w w1 : World} {v : Value} {x : Rat} {s : Bool} {m d : Nat}
theorem IsT.step (h : IsT ok w v s m d) (hm : ∀ k, ok k → k < w.heap.size → w1.heap[k]? = w.heap[k]?) : IsT ok w1 v s m d := by
 obtain ⟨v1, v2, e, h1, h2⟩ := h
 exact ⟨v1, v2, e, Kd.V_step h1 hm, Kd.V_step h2 hm⟩
theorem IsT.mono (h : IsT ok w v s m d) (hok : ∀ k, ok k → ok' k) : IsT ok' w v s m d := by
 obtain ⟨v1, v2, e, h1, h2⟩ := h
 exact ⟨v1, v2, e, Kd.V_mono h1 hok, Kd.V_mono h2 hok⟩
theorem IsT.bound (h : IsT ok w v s m d) : IsT (fun k => ok k ∧ k < w.heap.size) w v s m d := by
 obtain ⟨v1, v2, e, h1, h2⟩ := h
 exact ⟨v1, v2, e, Kd.V_bound h1, Kd.V_bound h2⟩
theorem IsR.step (h : IsR ok w v x) (hm : ∀ k, ok k → k < w.heap.size → w1.heap[k]? = w.heap[k]?) : IsR ok w1 v x := ⟨h.1, h.2.step hm⟩
theorem IsR.mono (h : IsR ok w v x) (hok : ∀ k, ok k → ok' k) : IsR ok' w v x := ⟨h.1, h.2.mono hok⟩
theorem IsR.bound (h : IsR ok w v x) : IsR (fun k => ok k ∧ k < w.heap.size) w v x := ⟨h.1, h.2.bound⟩
theorem IsT.below (h : IsT ok w v s m d) (hb : Below w.heap.size w w1) : IsT ok w1 v s m d := h.step (fun k _ hk => hb.block k hk)
theorem IsR.below (h : IsR ok w v x) (hb : Below w.heap.size w w1) : IsR ok w1 v x := h.step (fun k _ hk => hb.block k hk)
theorem IsT.kept (h : IsT ok w v s m d) (hb : Kept w w1 S) (hne : ∀ k, ok k → ¬ S k) : IsT ok w1 v s m d := h.step (fun k hk hl => hb.2 k hl (hne k hk))
theorem IsR.kept (h : IsR ok w v x) (hb : Kept w w1 S) (hne : ∀ k, ok k → ¬ S k) : IsR ok w1 v x := h.step (fun k hk hl => hb.2 k hl (hne k hk))
theorem IsR.reads (h : IsR ok w v x) : ∃ A0 c0 A1 c1, v = .agg #[.bool (decide (x.num < 0)), .slice A0 (limbs x.num.natAbs).length c0, .slice A1 (limbs x.den).length c1] ∧ Kd.C (Kd.int .u32) w A0 (limbs x.num.natAbs).length (limbs x.num.natAbs) ∧ (limbs x.num.natAbs).length ≤ c0 ∧ Kd.C (Kd.int .u32) w A1 (limbs x.den).length (limbs x.den) ∧ (limbs x.den).length ≤ c1 := by
 obtain ⟨_, v1, v2, e, ⟨A0, c0, rfl, l0, f0⟩, ⟨A1, c1, rfl, l1, f1⟩⟩ := h
 exact ⟨A0, c0, A1, c1, e, Kd.F_now f0, l0, Kd.F_now f1, l1⟩
theorem IsR.of_calls {B : Nat} {v1 v2 : Value} (hf : FitR x) (h1 : Rd B w v1 (limbs x.num.natAbs)) (h2 : Rd B w v2 (limbs x.den)) : IsR (fun k => B ≤ k) w (.agg #[.bool (decide (x.num < 0)), v1, v2]) x := ⟨hf, v1, v2, rfl, h1, h2⟩
end
def fit (x : Rat) : Option Rat := if FitR x then some x else none
def eno : Option Rat → Int
 | some _ => 0
 | none => 20
def Res (ok : Nat → Prop) (w : World) (v : Value) : Option Rat → Prop
 | some x => IsR ok w v x
 | none => IsT ok w v false 0 0
theorem res_ans {B : Nat} {w : World} {v1 v2 : Value} {y : Rat} (h1 : Rd B w v1 (limbs (ansR y).2.1)) (h2 : Rd B w v2 (limbs (ansR y).2.2.1)) : (ansR y).2.2.2 = eno (fit y) ∧ Res (fun k => B ≤ k) w (.agg #[.bool (ansR y).1, v1, v2]) (fit y) := by
 unfold fit
 by_cases h : FitR y
 · have e : ansR y = (decide (y.num < 0), y.num.natAbs, y.den, 0) := by unfold ansR; rw [if_pos h]
   rw [e] at h1 h2
   rw [if_pos h, e]
   exact ⟨rfl, IsR.of_calls h h1 h2⟩
 · have e : ansR y = (false, 0, 0, 20) := by unfold ansR; rw [if_neg h]
   rw [e] at h1 h2
   rw [if_neg h, e]
   exact ⟨rfl, v1, v2, rfl, h1, h2⟩
section
variable {ok ok' S : Nat → Prop} {w w1 : World} {v : Value} {o : Option Rat}
theorem Res.below (h : Res ok w v o) (hb : Below w.heap.size w w1) : Res ok w1 v o := by cases o with | some x => exact IsR.below h hb | none => exact IsT.below h hb
theorem Res.kept (h : Res ok w v o) (hb : Kept w w1 S) (hne : ∀ k, ok k → ¬ S k) : Res ok w1 v o := by cases o with | some x => exact IsR.kept h hb hne | none => exact IsT.kept h hb hne
theorem Res.mono (h : Res ok w v o) (hok : ∀ k, ok k → ok' k) : Res ok' w v o := by cases o with | some x => exact IsR.mono h hok | none => exact IsT.mono h hok
end
def Op2 (F : Nat) (g : Rat → Rat → Rat) (dom : Rat → Rat → Prop) : Prop := ∀ (x y : Rat), dom x y → ∀ (ok1 ok2 : Nat → Prop) (w : World) (va vb : Value), IsR ok1 w va x → IsR ok2 w vb y →
 Calls Try.prog F #[va, vb] w fun e w' => (∃ v, e = .returned (.tuple #[v, .int .i64 (eno (fit (g x y)))]) ∧ Res (fun k => w.heap.size ≤ k) w' v (fit (g x y))) ∧ Below w.heap.size w w'
theorem qadd_op : Op2 20 (fun x y => x + y) (fun x y => True) := by
 intro x y hd ok1 ok2 w va vb ha hb
 obtain ⟨A0, c0, A1, c1, rfl, h1, h2, h3, h4⟩ := ha.reads
 obtain ⟨A2, c2, A3, c3, rfl, h5, h6, h7, h8⟩ := hb.reads
 refine (radd_calls _ _ _ ha.1.ok _ _ _ hb.1.ok  _ _ _ _ _ _ _ _ _ h1 h2 h3 h4 h5 h6 h7 h8).mono ?_
 rw [sum_add]
 rintro e w' ⟨v1, v2, rfl, k1, k2, k3⟩
 obtain ⟨r1, r2⟩ := res_ans k1 k2
 exact ⟨⟨_, by rw [r1], r2⟩, k3⟩
theorem qsub_op : Op2 59 (fun x y => x - y) (fun x y => True) := by
 intro x y hd ok1 ok2 w va vb ha hb
 obtain ⟨A0, c0, A1, c1, rfl, h1, h2, h3, h4⟩ := ha.reads
 obtain ⟨A2, c2, A3, c3, rfl, h5, h6, h7, h8⟩ := hb.reads
 refine (rsub_calls _ _ _ ha.1.ok _ _ _ hb.1.ok  _ _ _ _ _ _ _ _ _ h1 h2 h3 h4 h5 h6 h7 h8).mono ?_
 rw [sum_sub]
 rintro e w' ⟨v1, v2, rfl, k1, k2, k3⟩
 obtain ⟨r1, r2⟩ := res_ans k1 k2
 exact ⟨⟨_, by rw [r1], r2⟩, k3⟩
theorem qmul_op : Op2 19 (fun x y => x * y) (fun x y => True) := by
 intro x y hd ok1 ok2 w va vb ha hb
 obtain ⟨A0, c0, A1, c1, rfl, h1, h2, h3, h4⟩ := ha.reads
 obtain ⟨A2, c2, A3, c3, rfl, h5, h6, h7, h8⟩ := hb.reads
 refine (rmul_calls _ _ _ ha.1.ok _ _ _ hb.1.ok  _ _ _ _ _ _ _ _ _ h1 h2 h3 h4 h5 h6 h7 h8).mono ?_
 rw [sum_mul]
 rintro e w' ⟨v1, v2, rfl, k1, k2, k3⟩
 obtain ⟨r1, r2⟩ := res_ans k1 k2
 exact ⟨⟨_, by rw [r1], r2⟩, k3⟩
theorem qdiv_op : Op2 27 (fun x y => x / y) (fun x y => y.num ≠ 0) := by
 intro x y hd ok1 ok2 w va vb ha hb
 obtain ⟨A0, c0, A1, c1, rfl, h1, h2, h3, h4⟩ := ha.reads
 obtain ⟨A2, c2, A3, c3, rfl, h5, h6, h7, h8⟩ := hb.reads
 refine (rdiv_calls _ _ _ ha.1.ok _ _ _ hb.1.ok (by omega) _ _ _ _ _ _ _ _ _ h1 h2 h3 h4 h5 h6 h7 h8).mono ?_
 rw [sum_div x y hd]
 rintro e w' ⟨v1, v2, rfl, k1, k2, k3⟩
 obtain ⟨r1, r2⟩ := res_ans k1 k2
 exact ⟨⟨_, by rw [r1], r2⟩, k3⟩
theorem qcmp_calls {ok1 ok2 : Nat → Prop} (x y : Rat) (w : World) (va vb : Value) (ha : IsR ok1 w va x) (hb : IsR ok2 w vb y) : Calls Try.prog 28 #[va, vb] w fun e w' => e = .returned (.tuple #[.int .i64 (if x < y then -1 else if x = y then 0 else 1), .int .i64 0]) ∧ Below w.heap.size w w' := by
 obtain ⟨A0, c0, A1, c1, rfl, h1, h2, h3, h4⟩ := ha.reads
 obtain ⟨A2, c2, A3, c3, rfl, h5, h6, h7, h8⟩ := hb.reads
 refine (rcmp_calls _ _ _ ha.1.ok _ _ _ hb.1.ok _ _ _ _ _ _ _ _ _ h1 h2 h3 h4 h5 h6 h7 h8).mono ?_
 rw [sum_cmp]
 exact fun e w' h => h
theorem qsame_calls {ok1 ok2 : Nat → Prop} (x y : Rat) (w : World) (va vb : Value) (ha : IsR ok1 w va x) (hb : IsR ok2 w vb y) : Calls Try.prog 18 #[va, vb] w fun e w' => e = .returned (.bool (decide (x = y))) ∧ Below w.heap.size w w' := by
 obtain ⟨A0, c0, A1, c1, rfl, h1, h2, h3, h4⟩ := ha.reads
 obtain ⟨A2, c2, A3, c3, rfl, h5, h6, h7, h8⟩ := hb.reads
 refine (rsame_calls _ _ _ ha.1.ok _ _ _ hb.1.ok _ _ _ _ _ _ _ _ _ h1 h2 h3 h4 h5 h6 h7 h8).mono ?_
 have e : decide (decide (x.num < 0) = decide (y.num < 0) ∧ x.num.natAbs = y.num.natAbs ∧ x.den = y.den) = decide (x = y) := by
  congr 1
  refine propext ⟨fun h => Rat.ext ?_ h.2.2, fun h => by subst h; exact ⟨rfl, rfl, rfl⟩⟩
  have h1 := h.1
  have h2 := h.2.1
  simp only [decide_eq_decide] at h1
  omega
 rw [e]
 exact fun e w' h => h
theorem qiszero_calls {ok1 : Nat → Prop} (x : Rat) (w : World) (va : Value) (ha : IsR ok1 w va x) : Calls Try.prog 60 #[va] w fun e w' => e = .returned (.bool (decide (x = 0))) ∧ Below w.heap.size w w' := by
 obtain ⟨A0, c0, A1, c1, rfl, h1, h2, h3, h4⟩ := ha.reads
 refine (riszero_calls _ _ _ ha.1.ok _ _ _ _ _ h1 h2 h3 h4).mono ?_
 have e : decide (x.num.natAbs = 0) = decide (x = 0) := by
  congr 1
  refine propext ⟨fun h => ?_, fun h => by subst h; rfl⟩
  exact Rat.num_eq_zero.1 (by omega)
 rw [e]
 exact fun e w' h => h
theorem qcheck_calls {ok1 : Nat → Prop} (x : Rat) (w : World) (va : Value) (ha : IsR ok1 w va x) : Calls Try.prog 17 #[va] w fun e w' => e = .returned (.int .i64 0) ∧ Below w.heap.size w w' := by
 obtain ⟨A0, c0, A1, c1, rfl, h1, h2, h3, h4⟩ := ha.reads
 exact check_calls _ _ _ ha.1.ok _ _ _ _ _ h1 h2 h3 h4
theorem fit_int (n : Int) (h0 : -9223372036854775808 ≤ n) (h1 : n ≤ 9223372036854775807) : FitR (n : Rat) := by
 refine ⟨?_, ?_⟩
 · show n.natAbs < _
   exact Nat.lt_of_le_of_lt (show n.natAbs ≤ 4294967296 ^ 2 by omega) (Nat.pow_lt_pow_right (by omega) (by omega))
 · show 1 < _
   exact Nat.one_lt_pow (by omega) (by omega)
theorem qof_calls (n : Int) (h0 : -9223372036854775808 ≤ n) (h1 : n ≤ 9223372036854775807) (w : World) : Calls Try.prog 12 #[.int .i64 n] w fun e w' => (∃ v, e = .returned v ∧ IsR (fun k => w.heap.size ≤ k) w' v (n : Rat)) ∧ Below w.heap.size w w' := by
 refine (rof_calls n h0 h1 w).mono ?_
 rintro e w' ⟨v1, v2, rfl, k1, k2, k3⟩
 exact ⟨⟨_, rfl, IsR.of_calls (fit_int n h0 h1) k1 k2⟩, k3⟩
structure Kb (S : Nat → Prop) (w w' : World) : Prop where
 os : w'.os = w.os
 tape : w'.tape = w.tape
 output : w'.output = w.output
 size : w.heap.size ≤ w'.heap.size
 block : ∀ k, k < w.heap.size → ¬ S k → w'.heap[k]? = w.heap[k]?
namespace Kb
variable {S S' : Nat → Prop} {w w1 w2 : World}
theorem refl (S : Nat → Prop) (w : World) : Kb S w w := ⟨rfl, rfl, rfl, Nat.le_refl _, fun _ _ _ => rfl⟩
theorem of_below (h : Below w.heap.size w w1) : Kb S w w1 := ⟨h.os, h.tape, h.output, h.size, fun k hk _ => h.block k hk⟩
theorem then_ (h : Kb S w w1) (k : Kb S' w1 w2) (hs : ∀ i, S' i → S i ∨ w.heap.size ≤ i) : Kb S w w2 :=
 ⟨k.os.trans h.os, k.tape.trans h.tape, k.output.trans h.output, Nat.le_trans h.size k.size, fun i hi hn => (k.block i (Nat.lt_of_lt_of_le hi h.size) (fun h2 => (hs i h2).elim hn (fun h3 => by omega))).trans (h.block i hi hn)⟩
theorem trans (h : Kb S w w1) (k : Kb S w1 w2) : Kb S w w2 := h.then_ k (fun _ h => .inl h)
theorem below (h : Kb S w w1) (k : Below w1.heap.size w1 w2) : Kb S w w2 := h.then_ (Kb.of_below (S := fun _ => False) k) (fun _ h => h.elim)
theorem alloc (h : Kb S w w1) (o : Obj) : Kb S w (w1.alloc o) := h.below (below_alloc (Below.refl _ _) o)
theorem drew (h : Kb S w w1) : Kb S w w1.drew := h.below (below_drew1 (Below.refl _ _))
theorem drewN (h : Kb S w w1) (n : Nat) : Kb S w (w1.drewN n) := h.below (pw_below_drewN (Below.refl _ _) n)
theorem setCell (h : Kb S w w1) {p : Addr} (hp : S p.block ∨ w.heap.size ≤ p.block) (u : Value) : Kb S w (w1.setCell p u) :=
 h.then_ (S' := fun k => k = p.block) ⟨rfl, rfl, rfl, by simp [World.setCell], fun i _ hn => Below.heap_setCell w1 p u i hn⟩ (fun k hk => by rw [hk]; exact hp)
theorem mono (h : Kb S w w1) (hs : ∀ k, S k → S' k) : Kb S' w w1 := ⟨h.os, h.tape, h.output, h.size, fun k hk hn => h.block k hk (fun h2 => hn (hs k h2))⟩
theorem to_below (h : Kb S w w1) (hs : ∀ k, S k → w.heap.size ≤ k) : Below w.heap.size w w1 := ⟨h.os, h.tape, h.output, h.size, fun k hk => h.block k hk (fun h2 => by have := hs k h2; omega)⟩
theorem grown (h : Kb S w w1) {row : Option Nat} (hg : w1.grownBy w2 row) (hr : ∀ k, row = some k → S k ∨ w.heap.size ≤ k) : Kb S w w2 :=
 h.then_ (S' := fun k => row = some k) ⟨hg.os, hg.tape, hg.output, hg.size, fun i hi hn => hg.block i hi (fun he => hn he.symm)⟩ hr
theorem blk {g : Nat} {o : Obj} (hb : w.heap[g]? = some o) (hk : Kb S w w1) (hne : ¬ S g) : w1.heap[g]? = some o := (hk.block g (blk_lt hb) hne).trans hb
theorem cell {a : Addr} {v : Value} (hc : w.cell? a = some v) (hk : Kb S w w1) (hne : ¬ S a.block) : w1.cell? a = some v := by
 have := hk.block a.block (World.block_lt_of_cell? w a hc) hne
 simpa [World.cell?, this] using hc
end Kb
section
variable {ok ok' S : Nat → Prop} {w w1 : World} {v : Value} {x : Rat} {o : Option Rat}
theorem IsR.kb (h : IsR ok w v x) (hb : Kb S w w1) (hne : ∀ k, ok k → ¬ S k) : IsR ok w1 v x := h.step (fun k hk hl => hb.block k hl (hne k hk))
theorem IsT.kb {s : Bool} {m d : Nat} (h : IsT ok w v s m d) (hb : Kb S w w1) (hne : ∀ k, ok k → ¬ S k) : IsT ok w1 v s m d := h.step (fun k hk hl => hb.block k hl (hne k hk))
theorem Res.kb (h : Res ok w v o) (hb : Kb S w w1) (hne : ∀ k, ok k → ¬ S k) : Res ok w1 v o := by cases o with | some x => exact IsR.kb h hb hne | none => exact IsT.kb h hb hne
theorem IsT.agg {s : Bool} {m d : Nat} (h : IsT ok w v s m d) : ∃ b A0 n0 c0 A1 n1 c1, v = .agg #[.bool b, .slice A0 n0 c0, .slice A1 n1 c1] := by
 obtain ⟨v1, v2, e, ⟨A0, c0, rfl, _⟩, ⟨A1, c1, rfl, _⟩⟩ := h
 exact ⟨_, _, _, _, _, _, _, e⟩
theorem Res.agg (h : Res ok w v o) : ∃ b A0 n0 c0 A1 n1 c1, v = .agg #[.bool b, .slice A0 n0 c0, .slice A1 n1 c1] := by cases o with | some x => exact IsT.agg h.2 | none => exact IsT.agg h
theorem IsR.agg (h : IsR ok w v x) : ∃ b A0 n0 c0 A1 n1 c1, v = .agg #[.bool b, .slice A0 n0 c0, .slice A1 n1 c1] := IsT.agg h.2
theorem Res.mono' (h : Res ok w v o) (hok : ∀ k, ok k → k < w.heap.size → ok' k) : Res ok' w v o := by
 cases o with
 | some x => exact IsR.mono (IsR.bound h) (fun k hk => hok k hk.1 hk.2)
 | none => exact IsT.mono (IsT.bound h) (fun k hk => hok k hk.1 hk.2)
theorem IsR.mono' (h : IsR ok w v x) (hok : ∀ k, ok k → k < w.heap.size → ok' k) : IsR ok' w v x := IsR.mono (IsR.bound h) (fun k hk => hok k hk.1 hk.2)
end
theorem IsR.res {ok : Nat → Prop} {w : World} {v : Value} {x : Rat} (h : IsR ok w v x) : Res ok w v (some x) := h
def Rk (w : World) (g : Nat) (er : Bool) : Prop := w.heap[g]? = some (.cells #[.int .i64 (if er = true then 20 else 0)] 61 (0, 0))
theorem Rk.kb {w w1 : World} {g : Nat} {er : Bool} {S : Nat → Prop} (h : Rk w g er) (hb : Kb S w w1) (hne : ¬ S g) : Rk w1 g er := Kb.blk h hb hne
theorem Rk.below {w w1 : World} {g : Nat} {er : Bool} (h : Rk w g er) (hb : Below w.heap.size w w1) : Rk w1 g er := blk_below h hb
theorem Rk.alloc {w : World} {g : Nat} {er : Bool} (h : Rk w g er) (o : Obj) : Rk (w.alloc o) g er := h.below (below_alloc (Below.refl _ _) o)
theorem Rk.drew {w : World} {g : Nat} {er : Bool} (h : Rk w g er) : Rk w.drew g er := h.below (below_drew1 (Below.refl _ _))
theorem Rk.drewN {w : World} {g : Nat} {er : Bool} (h : Rk w g er) (n : Nat) : Rk (w.drewN n) g er := h.below (pw_below_drewN (Below.refl _ _) n)
theorem Rk.lt {w : World} {g : Nat} {er : Bool} (h : Rk w g er) : g < w.heap.size := blk_lt h
theorem Rk.cell {w : World} {g : Nat} {er : Bool} (h : Rk w g er) : w.cell? ⟨g, 0, none⟩ = some (.int .i64 (if er = true then 20 else 0)) := (blk_cell h 0).trans rfl
theorem Rk.frozen {w : World} {g : Nat} {er : Bool} (h : Rk w g er) : w.frozen? ⟨g, 0, none⟩ = false := blk_frozen h 0
def doO (er : Bool) (g : Rat → Rat → Rat) : Option Rat → Option Rat → Option Rat
 | some x, some y => if er = true then none else fit (g x y)
 | _, _ => none
structure Cs where
 t : Bool
 A0 : Option Addr
 n0 : Nat
 c0 : Nat
 A1 : Option Addr
 n1 : Nat
 c1 : Nat
 deriving Inhabited
def Cs.l (c : Cs) : List Value := [.bool c.t, .slice c.A0 c.n0 c.c0, .slice c.A1 c.n1 c.c1]
theorem Cs.len (c : Cs) : c.l.length = 3 := rfl
theorem IsR.of_foot {ok : Nat → Prop} {w : World} {c : Cs} {x : Rat} (h : Foot (fun W => IsR (fun _ => True) W (.agg c.l.toArray) x) w ok) : IsR ok w (.agg c.l.toArray) x := by
 have h0 := h.now
 refine ⟨h0.1, .slice c.A0 c.n0 c.c0, .slice c.A1 c.n1 c.c1, ?_, ?_, ?_⟩
 · obtain ⟨v1, v2, e, ⟨A0, c0, rfl, l0, f0⟩, ⟨A1, c1, rfl, l1, f1⟩⟩ := h0.2
   simp only [Cs.l, Value.agg.injEq, List.toArray_eq_iff, Array.mk.injEq, List.cons.injEq, Value.bool.injEq, Value.slice.injEq] at e ⊢
   simp [e]
 · obtain ⟨v1, v2, e, ⟨A0, c0, rfl, l0, f0⟩, ⟨A1, c1, rfl, l1, f1⟩⟩ := h0.2
   have e2 : c.A0 = A0 ∧ c.n0 = (limbs x.num.natAbs).length ∧ c.c0 = c0 := by simpa [Cs.l] using (show (Cs.l c)[1]? = some (.slice A0 (limbs x.num.natAbs).length c0) by rw [show c.l = _ from congrArg (fun v => match v with | .agg a => a.toList | _ => []) e]; rfl)
   refine ⟨c.A0, c.c0, by rw [e2.2.1], by rw [e2.2.2]; exact l0, fun W' hW => ?_⟩
   obtain ⟨u1, u2, e', ⟨B0, d0, rfl, k0, g0⟩, ⟨B1, d1, rfl, k1, g1⟩⟩ := (h W' hW).2
   have e3 : c.A0 = B0 := by simpa [Cs.l] using (show (Cs.l c)[1]?.bind (fun v => match v with | .slice a _ _ => some a | _ => none) = some B0 by rw [show c.l = _ from congrArg (fun v => match v with | .agg a => a.toList | _ => []) e']; rfl)
   rw [e3]
   exact Kd.F_now g0
 · obtain ⟨v1, v2, e, ⟨A0, c0, rfl, l0, f0⟩, ⟨A1, c1, rfl, l1, f1⟩⟩ := h0.2
   have e2 : c.A1 = A1 ∧ c.n1 = (limbs x.den).length ∧ c.c1 = c1 := by simpa [Cs.l] using (show (Cs.l c)[2]? = some (.slice A1 (limbs x.den).length c1) by rw [show c.l = _ from congrArg (fun v => match v with | .agg a => a.toList | _ => []) e]; rfl)
   refine ⟨c.A1, c.c1, by rw [e2.2.1], by rw [e2.2.2]; exact l1, fun W' hW => ?_⟩
   obtain ⟨u1, u2, e', ⟨B0, d0, rfl, k0, g0⟩, ⟨B1, d1, rfl, k1, g1⟩⟩ := (h W' hW).2
   have e3 : c.A1 = B1 := by simpa [Cs.l] using (show (Cs.l c)[2]?.bind (fun v => match v with | .slice a _ _ => some a | _ => none) = some B1 by rw [show c.l = _ from congrArg (fun v => match v with | .agg a => a.toList | _ => []) e']; rfl)
   rw [e3]
   exact Kd.F_now g1
theorem IsR.foot {ok : Nat → Prop} {w : World} {v : Value} {x : Rat} (h : IsR ok w v x) : Foot (fun W => IsR (fun _ => True) W v x) w ok := fun W' hW => (h.step hW).mono (fun _ _ => trivial)
def kdR : Kd Rat where
 sz := 3
 E := []
 K := fun w x cs => ∃ c : Cs, cs = c.l ∧ IsR (fun _ => True) w (.agg c.l.toArray) x
 M := fun _ _ _ _ _ => False
 K_len := by rintro w x cs ⟨c, rfl, _⟩; rfl
 K_one := by
  rintro w x cs ⟨c, rfl, _⟩ u hu
  simp only [Cs.l, List.mem_cons, List.not_mem_nil, or_false] at hu
  rcases hu with rfl | rfl | rfl <;> rfl
 K_below := by rintro w w1 x cs hb ⟨c, rfl, h⟩; exact ⟨c, rfl, h.below hb⟩
 K_of_M := fun h => h.elim
 M_mono := fun _ h => h
 M_bound := fun h => h.elim
 M_move := fun _ h => h
 M_lower := fun _ h => h
theorem kdR_FK {ok : Nat → Prop} {w : World} {x : Rat} {cs : List Value} (h : Kd.FK kdR w ok x cs) : ∃ c : Cs, cs = c.l ∧ IsR ok w (.agg c.l.toArray) x := by
 obtain ⟨c, rfl, _⟩ := Foot.now h
 refine ⟨c, rfl, IsR.of_foot (fun W' hW => ?_)⟩
 obtain ⟨c', e, h'⟩ := h W' hW
 rw [e]; exact h'
theorem kdR_FK' {ok : Nat → Prop} {w : World} {x : Rat} {c : Cs} (h : IsR ok w (.agg c.l.toArray) x) : Kd.FK kdR w ok x c.l := fun W' hW => ⟨c, rfl, h.foot W' hW⟩
structure Smp where
 at_ : Int
 by_ : Int
 q : Option Rat
def kdS : Kd Smp where
 sz := 5
 E := []
 K := fun w x cs => ∃ c : Cs, cs = .int .i64 x.at_ :: .int .i64 x.by_ :: c.l ∧ ∀ q, x.q = some q → IsR (fun _ => True) w (.agg c.l.toArray) q
 M := fun _ _ _ _ _ => False
 K_len := by rintro w x cs ⟨c, rfl, _⟩; rfl
 K_one := by
  rintro w x cs ⟨c, rfl, _⟩ u hu
  simp only [Cs.l, List.mem_cons, List.not_mem_nil, or_false] at hu
  rcases hu with rfl | rfl | rfl | rfl | rfl <;> rfl
 K_below := by rintro w w1 x cs hb ⟨c, rfl, h⟩; exact ⟨c, rfl, fun q hq => (h q hq).below hb⟩
 K_of_M := fun h => h.elim
 M_mono := fun _ h => h
 M_bound := fun h => h.elim
 M_move := fun _ h => h
 M_lower := fun _ h => h
theorem kdS_FK {ok : Nat → Prop} {w : World} {x : Smp} {cs : List Value} (h : Kd.FK kdS w ok x cs) : ∃ c : Cs, cs = .int .i64 x.at_ :: .int .i64 x.by_ :: c.l ∧ ∀ q, x.q = some q → IsR ok w (.agg c.l.toArray) q := by
 obtain ⟨c, rfl, _⟩ := Foot.now h
 refine ⟨c, rfl, fun q hq => IsR.of_foot (fun W' hW => ?_)⟩
 obtain ⟨c', e, h'⟩ := h W' hW
 simp only [List.cons.injEq, true_and] at e
 rw [e]; exact h' q hq
theorem kdS_FK' {ok : Nat → Prop} {w : World} {x : Smp} {c : Cs} (h : ∀ q, x.q = some q → IsR ok w (.agg c.l.toArray) q) : Kd.FK kdS w ok x (.int .i64 x.at_ :: .int .i64 x.by_ :: c.l) := fun W' hW => ⟨c, rfl, fun q hq => (h q hq).foot W' hW⟩
def RowQ (ok : Nat → Prop) (w : World) (v : Value) (qs : List Rat) : Prop := Kd.V kdR 30 w 0 ok v qs
def RowS (ok : Nat → Prop) (w : World) (v : Value) (ss : List Smp) : Prop := Kd.V kdS 39 w 0 ok v ss
theorem cell_spot {w : World} {b o k : Nat} {s : Option _} {u : Value} (h : w.cell? (Addr.add ⟨b, o, s⟩ (0 * k + 0)) = some u) : s = none := by
 cases s with
 | none => rfl
 | some sp =>
  exfalso
  have e : (Addr.add ⟨b, o, some sp⟩ (0 * k + 0)) = ⟨b, o + (0 * k + 0), some sp⟩ := by rw [Nat.zero_mul]; rfl
  rw [e] at h
  unfold World.cell? at h
  simp only [Option.isSome_some, if_true] at h
  split at h <;> cases h
section
variable {ok ok' S : Nat → Prop} {w w1 : World} {v : Value} {qs : List Rat}
theorem RowQ.step (h : RowQ ok w v qs) (hm : ∀ k, ok k → k < w.heap.size → w1.heap[k]? = w.heap[k]?) : RowQ ok w1 v qs := Kd.V_step h hm
theorem RowQ.mono (h : RowQ ok w v qs) (hok : ∀ k, ok k → ok' k) : RowQ ok' w v qs := Kd.V_mono h hok
theorem RowQ.mono' (h : RowQ ok w v qs) (hok : ∀ k, ok k → k < w.heap.size → ok' k) : RowQ ok' w v qs := Kd.V_mono (Kd.V_bound h) (fun k hk => hok k hk.1 hk.2)
theorem RowQ.kb (h : RowQ ok w v qs) (hb : Kb S w w1) (hne : ∀ k, ok k → ¬ S k) : RowQ ok w1 v qs := RowQ.step h (fun k hk hl => hb.block k hl (hne k hk))
theorem RowQ.below (h : RowQ ok w v qs) (hb : Below w.heap.size w w1) : RowQ ok w1 v qs := RowQ.step h (fun k _ hk => hb.block k hk)
theorem RowQ.slice (h : RowQ ok w v qs) : ∃ A c, v = .slice A qs.length c := Kd.V_slice h
theorem RowQ.some_ {A : Option Addr} {n c : Nat} (h : RowQ ok w (.slice A n c) qs) (hn : 0 < n) : ∃ b o, A = some ⟨b, o, none⟩ := by
 have hF := Kd.V_F h
 have hl := (Kd.V_at h).1
 obtain ⟨ad, cs, he, hlen, hK, hc, _⟩ := Kd.F_get hF 0 0 (by omega) (by omega)
 subst he
 obtain ⟨b, o, s⟩ := ad
 have h3 : cs.length = 3 := hlen
 obtain ⟨u, hu⟩ : ∃ u, cs[0]? = some u := ⟨cs[0], List.getElem?_eq_getElem (by omega)⟩
 have hcell := hc 0 u hu
 obtain rfl := cell_spot hcell
 exact ⟨b, o, rfl⟩
end
section
variable {ok ok' S : Nat → Prop} {w w1 : World} {v : Value} {qs : List Smp}
theorem RowS.step (h : RowS ok w v qs) (hm : ∀ k, ok k → k < w.heap.size → w1.heap[k]? = w.heap[k]?) : RowS ok w1 v qs := Kd.V_step h hm
theorem RowS.mono (h : RowS ok w v qs) (hok : ∀ k, ok k → ok' k) : RowS ok' w v qs := Kd.V_mono h hok
theorem RowS.mono' (h : RowS ok w v qs) (hok : ∀ k, ok k → k < w.heap.size → ok' k) : RowS ok' w v qs := Kd.V_mono (Kd.V_bound h) (fun k hk => hok k hk.1 hk.2)
theorem RowS.kb (h : RowS ok w v qs) (hb : Kb S w w1) (hne : ∀ k, ok k → ¬ S k) : RowS ok w1 v qs := RowS.step h (fun k hk hl => hb.block k hl (hne k hk))
theorem RowS.below (h : RowS ok w v qs) (hb : Below w.heap.size w w1) : RowS ok w1 v qs := RowS.step h (fun k _ hk => hb.block k hk)
theorem RowS.slice (h : RowS ok w v qs) : ∃ A c, v = .slice A qs.length c := Kd.V_slice h
theorem RowS.some_ {A : Option Addr} {n c : Nat} (h : RowS ok w (.slice A n c) qs) (hn : 0 < n) : ∃ b o, A = some ⟨b, o, none⟩ := by
 have hF := Kd.V_F h
 have hl := (Kd.V_at h).1
 obtain ⟨ad, cs, he, hlen, hK, hc, _⟩ := Kd.F_get hF ⟨0, 0, none⟩ 0 (by omega) (by omega)
 subst he
 obtain ⟨b, o, s⟩ := ad
 have h3 : cs.length = 5 := hlen
 obtain ⟨u, hu⟩ : ∃ u, cs[0]? = some u := ⟨cs[0], List.getElem?_eq_getElem (by omega)⟩
 have hcell := hc 0 u hu
 obtain rfl := cell_spot hcell
 exact ⟨b, o, rfl⟩
end
section
variable {ok : Nat → Prop} {w : World}
theorem RowQ.get {qs : List Rat} {b o n c : Nat} (h : RowQ ok w (.slice (some ⟨b, o, none⟩) n c) qs) (i : Nat) (hi : i < qs.length) : ∃ (t : Bool) (A0 : Option Addr) (n0 c0 : Nat) (A1 : Option Addr) (n1 c1 : Nat), IsR ok w (.agg #[.bool t, .slice A0 n0 c0, .slice A1 n1 c1]) (qs.getD i 0) ∧ w.cell? ⟨b, o + i * 3, none⟩ = some (.bool t) ∧ w.cell? ⟨b, o + i * 3 + 1, none⟩ = some (.slice A0 n0 c0) ∧ w.cell? ⟨b, o + i * 3 + 2, none⟩ = some (.slice A1 n1 c1) := by
 have hl := (Kd.V_at h).1
 obtain ⟨cs, hlen, hK, hc⟩ := Kd.V_get h 0 (i : Int) (by omega) (by omega)
 rw [Int.toNat_natCast] at hc hK
 obtain ⟨c, rfl, hr⟩ := kdR_FK hK
 refine ⟨c.t, c.A0, c.n0, c.c0, c.A1, c.n1, c.c1, hr, ?_, ?_, ?_⟩
 · have e := hc 0 _ rfl
   rw [Addr.add_lit] at e
   exact e
 · have e := hc 1 _ rfl
   rw [Addr.add_lit] at e
   exact e
 · have e := hc 2 _ rfl
   rw [Addr.add_lit] at e
   exact e
theorem RowS.get {ss : List Smp} {b o n c : Nat} (h : RowS ok w (.slice (some ⟨b, o, none⟩) n c) ss) (i : Nat) (hi : i < ss.length) : ∃ (t : Bool) (A0 : Option Addr) (n0 c0 : Nat) (A1 : Option Addr) (n1 c1 : Nat), (∀ q, (ss.getD i ⟨0, 0, none⟩).q = some q → IsR ok w (.agg #[.bool t, .slice A0 n0 c0, .slice A1 n1 c1]) q) ∧ w.cell? ⟨b, o + i * 5, none⟩ = some (.int .i64 (ss.getD i ⟨0, 0, none⟩).at_) ∧ w.cell? ⟨b, o + i * 5 + 1, none⟩ = some (.int .i64 (ss.getD i ⟨0, 0, none⟩).by_) ∧ w.cell? ⟨b, o + i * 5 + 2, none⟩ = some (.bool t) ∧ w.cell? ⟨b, o + i * 5 + 3, none⟩ = some (.slice A0 n0 c0) ∧ w.cell? ⟨b, o + i * 5 + 4, none⟩ = some (.slice A1 n1 c1) := by
 have hl := (Kd.V_at h).1
 obtain ⟨cs, hlen, hK, hc⟩ := Kd.V_get h ⟨0, 0, none⟩ (i : Int) (by omega) (by omega)
 rw [Int.toNat_natCast] at hc hK
 obtain ⟨c, rfl, hr⟩ := kdS_FK hK
 refine ⟨c.t, c.A0, c.n0, c.c0, c.A1, c.n1, c.c1, hr, ?_, ?_, ?_, ?_, ?_⟩
 · have e := hc 0 _ rfl
   rw [Addr.add_lit] at e
   exact e
 · have e := hc 1 _ rfl
   rw [Addr.add_lit] at e
   exact e
 · have e := hc 2 _ rfl
   rw [Addr.add_lit] at e
   exact e
 · have e := hc 3 _ rfl
   rw [Addr.add_lit] at e
   exact e
 · have e := hc 4 _ rfl
   rw [Addr.add_lit] at e
   exact e
end
section
variable {ops : Array Oper} {rest : List Oper} {o : Oper} {a : Act} {Q : Exit → Act → World → Prop} {W : World}
theorem load_ev (hgd : o.guard = none) {p : Operand} (ho : o.op = .load 30 p) {g t : Nat} {x y z : Value} (hp : a.eval p = .pointer (some ⟨g, 0, none⟩)) (hb : W.heap[g]? = some (.cells #[x, y, z] t (0, 0)))
 (h : wpList Try.prog ops Q rest (a.put o.dst (.agg #[x, y, z])) W) : wpList Try.prog ops Q (o :: rest) a W := by
 refine Kd.event_run hgd ?_ h
 have h0 : W.cell? ⟨g, 0, none⟩ = some x := (blk_cell hb 0).trans rfl
 have h1 : W.cell? ⟨g, 1, none⟩ = some y := (blk_cell hb 1).trans rfl
 have h2 : W.cell? ⟨g, 2, none⟩ = some z := (blk_cell hb 2).trans rfl
 have hu := Try.underlying30
 have key : ∀ ev : Operand → Value, ev p = .pointer (some ⟨g, 0, none⟩) → (execOp ev o).run Try.prog W = .ok (.value (.agg #[x, y, z])) W := by
  intro ev hev
  unfold execOp
  rw [ho]
  simp only [hev]
  go_simp
 exact key _ hp
theorem load_at (hgd : o.guard = none) {p : Operand} (ho : o.op = .load 30 p) {g k : Nat} {x y z : Value} (hp : a.eval p = .pointer (some ⟨g, k, none⟩)) (h0 : W.cell? ⟨g, k, none⟩ = some x) (h1 : W.cell? ⟨g, k + 1, none⟩ = some y) (h2 : W.cell? ⟨g, k + 2, none⟩ = some z)
 (h : wpList Try.prog ops Q rest (a.put o.dst (.agg #[x, y, z])) W) : wpList Try.prog ops Q (o :: rest) a W := by
 refine Kd.event_run hgd ?_ h
 have hu := Try.underlying30
 have key : ∀ ev : Operand → Value, ev p = .pointer (some ⟨g, k, none⟩) → (execOp ev o).run Try.prog W = .ok (.value (.agg #[x, y, z])) W := by
  intro ev hev
  unfold execOp
  rw [ho]
  simp only [hev]
  go_simp
 exact key _ hp
theorem store_ev (hgd : o.guard = none) (hd : o.dst = none) {p v : Operand} (ho : o.op = .store 30 p v) {b : Bool} {A0 A1 : Option Addr} {n0 c0 n1 c1 : Nat} {g t : Nat} {x' y' z' : Value} (hp : a.eval p = .pointer (some ⟨g, 0, none⟩)) (hv : a.eval v = .agg #[.bool b, .slice A0 n0 c0, .slice A1 n1 c1]) (hb : W.heap[g]? = some (.cells #[x', y', z'] t (0, 0)))
 (h : ∀ w1, w1.heap[g]? = some (.cells #[.bool b, .slice A0 n0 c0, .slice A1 n1 c1] t (0, 0)) → Kb (fun k => k = g) W w1 → wpList Try.prog ops Q rest a w1) : wpList Try.prog ops Q (o :: rest) a W := by
 have h0 : W.cell? ⟨g, 0, none⟩ = some x' := (blk_cell hb 0).trans rfl
 have h1 : W.cell? ⟨g, 1, none⟩ = some y' := (blk_cell hb 1).trans rfl
 have h2 : W.cell? ⟨g, 2, none⟩ = some z' := (blk_cell hb 2).trans rfl
 have f0 := blk_frozen hb 0
 have f1 := blk_frozen hb 1
 have f2 := blk_frozen hb 2
 have hu := Try.underlying30
 have hw := h (((W.setCell ⟨g, 0, none⟩ (.bool b)).setCell ⟨g, 1, none⟩ (.slice A0 n0 c0)).setCell ⟨g, 2, none⟩ (.slice A1 n1 c1)) (blk_put (blk_put (blk_put hb 0 _ rfl) 1 _ rfl) 2 _ rfl) ((((Kb.refl (fun k => k = g) W).setCell (p := ⟨g, 0, none⟩) (.inl rfl) _).setCell (p := ⟨g, 1, none⟩) (.inl rfl) _).setCell (p := ⟨g, 2, none⟩) (.inl rfl) _)
 refine wpList_plain hgd fun K hK => ?_
 unfold Oper.wp
 have key : ∀ ev : Operand → Value, ev p = .pointer (some ⟨g, 0, none⟩) → ev v = .agg #[.bool b, .slice A0 n0 c0, .slice A1 n1 c1] → (execOp ev o).run Try.prog W = .ok .skip (((W.setCell ⟨g, 0, none⟩ (.bool b)).setCell ⟨g, 1, none⟩ (.slice A0 n0 c0)).setCell ⟨g, 2, none⟩ (.slice A1 n1 c1)) := by
  intro ev hev hev2
  unfold execOp
  rw [ho]
  simp only [hev, hev2]
  go_simp
 rw [key _ hp hv]
 exact hK _ _ (by rw [hd]; exact hw)
theorem rk_store_ev (hgd : o.guard = none) (hd : o.dst = none) {p v : Operand} (ho : o.op = .store 40 p v) {g : Nat} {er er' : Bool} {en : Int} (hp : a.eval p = .pointer (some ⟨g, 0, none⟩)) (hv : a.eval v = .int .i64 en) (he : en = if er' = true then 20 else 0) (hr : Rk W g er)
 (h : ∀ w1, Rk w1 g er' → Kb (fun k => k = g) W w1 → wpList Try.prog ops Q rest a w1) : wpList Try.prog ops Q (o :: rest) a W := by
 have h0 : W.cell? ⟨g, 0, none⟩ = some (.int .i64 (if er = true then 20 else 0)) := hr.cell
 have f0 := hr.frozen
 have hu := Try.underlying40
 have hw := h (W.setCell ⟨g, 0, none⟩ (.int .i64 en)) (by rw [he]; exact blk_put hr 0 _ rfl) ((Kb.refl (fun k => k = g) W).setCell (p := ⟨g, 0, none⟩) (.inl rfl) _)
 refine wpList_plain hgd fun K hK => ?_
 unfold Oper.wp
 have key : ∀ ev : Operand → Value, ev p = .pointer (some ⟨g, 0, none⟩) → ev v = .int .i64 en → (execOp ev o).run Try.prog W = .ok .skip (W.setCell ⟨g, 0, none⟩ (.int .i64 en)) := by
  intro ev hev hev2
  unfold execOp
  rw [ho]
  simp only [hev, hev2]
  clear h hw hK he
  generalize (if er = true then (20 : Int) else 0) = e0 at h0
  go_simp
 rw [key _ hp hv]
 exact hK _ _ (by rw [hd]; exact hw)
end
theorem kb_b {S : Nat → Prop} {w w1 w2 : World} (h : Aside0 (Kb S w w1)) (k : Below w1.heap.size w1 w2) : Aside0 (Kb S w w2) := ⟨Kb.below h.out k⟩
theorem kb_t {S T : Nat → Prop} {w w1 w2 : World} (h : Aside0 (Kb S w w1)) (k : Kb T w1 w2) (hs : ∀ i, T i → S i ∨ w.heap.size ≤ i) : Aside0 (Kb S w w2) := ⟨Kb.then_ h.out k hs⟩
theorem rk_b {w w1 : World} {g : Nat} {er : Bool} (h : Aside0 (Rk w g er)) (k : Below w.heap.size w w1) : Aside0 (Rk w1 g er) := ⟨Rk.below h.out k⟩
theorem kb_g {S : Nat → Prop} {w W : World} {k : Nat} (h : Aside0 (Kb S w W)) (e : k = W.heap.size) : Aside0 (w.heap.size ≤ k) := ⟨by rw [e]; exact Kb.size h.out⟩
theorem kf_ (w : World) : Aside0 (Kb (fun k => False) w w) := ⟨Kb.refl _ w⟩
theorem kr_ (rb : Nat) (w : World) : Aside0 (Kb (fun k => k = rb) w w) := ⟨Kb.refl _ w⟩
theorem nf_ (g : Nat) : Aside0 (¬ (fun k : Nat => False) g) := ⟨fun h => h⟩
theorem bk_ {S : Nat → Prop} {w w1 : World} {g : Nat} {c} (h : Aside0 (w.heap[g]? = some c)) (b : Aside0 (Kb S w w1)) (n : Aside0 (¬ S g)) : w1.heap[g]? = some c := Kb.blk h.out b.out n.out
theorem kb_o {S : Nat → Prop} {w w1 w2 : World} {g : Nat} (h : Aside0 (Kb S w w1)) (k : Kb (fun i => i = g) w1 w2) (o : Aside0 (w.heap.size ≤ g)) : Aside0 (Kb S w w2) := ⟨Kb.then_ h.out k (fun i hi => by exact hi ▸ Or.inr o.out)⟩
theorem b3_ {w : World} {g t : Nat} {x y z : Value} (h : w.heap[g]? = some (.cells #[x, y, z] t (0, 0))) : w.cell? ⟨g, 0, none⟩ = some x ∧ w.cell? ⟨g, 1, none⟩ = some y ∧ w.cell? ⟨g, 2, none⟩ = some z := ⟨(blk_cell h 0).trans rfl, (blk_cell h 1).trans rfl, (blk_cell h 2).trans rfl⟩
open Go.RowKit Go.Proofs.Ytgdkgahbmfhgcaa.NS Go.Proofs.Ytgdkgahbmfhgcaa.Limbs Go.Proofs.YtgdkgahbmfhgcaaW.PrintWords Go.Proofs.YtgdkgahbmfhgcaaW.PrintLast Go.Proofs.YtgdkgahbmfhgcaaW.PrintMore
theorem enters_run {f : Nat} (h : Go.Proofs.Enters Try.prog f) : ∀ args w, (callFunc f args).run Try.prog w = .ok (.enter f args) w := h
theorem Op2.calls {F : Nat} {g : Rat → Rat → Rat} {dom : Rat → Rat → Prop} (h : Op2 F g dom) {x y : Rat} (hd : dom x y) {ok1 ok2 : Nat → Prop} {w : World} {va vb : Value} (ha : IsR ok1 w va x) (hb : IsR ok2 w vb y) :
 Calls Try.prog F #[va, vb] w fun e w' => (∃ v, e = .returned (.tuple #[v, .int .i64 (eno (fit (g x y)))]) ∧ Res (fun k => w.heap.size ≤ k) w' v (fit (g x y))) ∧ Below w.heap.size w w' := h x y hd ok1 ok2 w va vb ha hb
theorem do_calls {F : Nat} {g : Rat → Rat → Rat} {dom : Rat → Rat → Prop} (hop : Op2 F g dom) (hen : ∀ args w, (callFunc F args).run Try.prog w = .ok (.enter F args) w) (rb : Nat) (w : World) (va vb : Value) (x y : Rat) (hd : dom x y) (hr : Rk w rb false) (ha : IsR (fun k => k ≠ rb) w va x) (hb : IsR (fun k => k ≠ rb) w vb y) :
 Calls Try.prog 45 #[.pointer (some ⟨rb, 0, none⟩), .func (.func F) #[] #[], va, vb] w fun e w' => ∃ v, e = .returned v ∧ Res (fun k => w.heap.size ≤ k) w' v (fit (g x y)) ∧ Rk w' rb (fit (g x y)).isNone ∧ Kb (fun k => k = rb) w w' := by
 have hfit : ∃ er : Bool, er = (fit (g x y)).isNone ∧ eno (fit (g x y)) = (if er = true then 20 else 0) := ⟨_, rfl, by cases fit (g x y) <;> rfl⟩
 obtain ⟨er, her, hen2⟩ := hfit
 have HER := a0_ (And.intro her hen2)
 rw [← her]
 clear her hen2
 have hu30 := Try.underlying30
 obtain ⟨tx, Ax, nx, cx, Dx, kx, zx, rfl⟩ := ha.agg
 obtain ⟨ty, Ay, ny, cy, Dy, ky, zy, rfl⟩ := hb.agg
 have HB := kr_ rb w
 have V_p := a0_ ha
 clear ha
 have B_p := kr_ rb w
 have V_q := a0_ hb
 clear hb
 have B_q := kr_ rb w
 have HL := a0_ (Rk.lt hr)
 have RK := a0_ hr
 clear hr
 go_enter Try.func45, Try.ntmps45
 go_wp2_with (first | ((with_reducible refine gd_ 6 rfl ?_); refine bx_ (N := 6) #[.bool tx, .slice Ax nx cx, .slice Dx kx zx] 30 ?_; intro g_x hg w101 hbox hb; have G_x := kb_g HB hg; replace HB := kb_b HB hb; replace B_p := kb_b B_p hb; replace B_q := kb_b B_q hb; replace RK := rk_b RK hb; clear hb; have V_x := a0_ hbox; have B_x := kr_ rb w101; have N_x : Aside0 (¬ (fun k => k = rb) g_x) := ⟨by show ¬ (_ = _); have := HL.out; have := G_x.out; omega⟩; clear hbox hg) | ((with_reducible refine gd_ 7 rfl ?_); refine bx_ (N := 7) #[.bool ty, .slice Ay ny cy, .slice Dy ky zy] 30 ?_; intro g_y hg w102 hbox hb; have G_y := kb_g HB hg; replace HB := kb_b HB hb; replace B_p := kb_b B_p hb; replace B_q := kb_b B_q hb; replace B_x := kb_b B_x hb; replace RK := rk_b RK hb; clear hb; have V_y := a0_ hbox; have B_y := kr_ rb w102; have N_y : Aside0 (¬ (fun k => k = rb) g_y) := ⟨by show ¬ (_ = _); have := HL.out; have := G_y.out; omega⟩; clear hbox hg) | ((with_reducible refine gd_ 8 rfl ?_); refine bx_ (N := 8) #[.bool false, .slice none 0 0, .slice none 0 0] 30 ?_; intro g_v hg w103 hbox hb; have G_v := kb_g HB hg; have O_v_p := kb_g B_p hg; have O_v_q := kb_g B_q hg; replace HB := kb_b HB hb; replace B_p := kb_b B_p hb; replace B_q := kb_b B_q hb; replace B_x := kb_b B_x hb; replace B_y := kb_b B_y hb; replace RK := rk_b RK hb; clear hb; have V_v := a0_ hbox; have B_v := kr_ rb w103; have N_v : Aside0 (¬ (fun k => k = rb) g_v) := ⟨by show ¬ (_ = _); have := HL.out; have := G_v.out; omega⟩; clear hbox hg; have bk_x := bk_ V_x B_x N_x; have hz_x_0 : w103.cell? ⟨g_x, 0, none⟩ = some (.bool tx) := (blk_cell bk_x 0).trans rfl; have hz_x_1 : w103.cell? ⟨g_x, 1, none⟩ = some (.slice Ax nx cx) := (blk_cell bk_x 1).trans rfl; have hz_x_2 : w103.cell? ⟨g_x, 2, none⟩ = some (.slice Dx kx zx) := (blk_cell bk_x 2).trans rfl; clear bk_x; have bk_y := bk_ V_y B_y N_y; have hz_y_0 : w103.cell? ⟨g_y, 0, none⟩ = some (.bool ty) := (blk_cell bk_y 0).trans rfl; have hz_y_1 : w103.cell? ⟨g_y, 1, none⟩ = some (.slice Ay ny cy) := (blk_cell bk_y 1).trans rfl; have hz_y_2 : w103.cell? ⟨g_y, 2, none⟩ = some (.slice Dy ky zy) := (blk_cell bk_y 2).trans rfl; clear bk_y; have hz_rk := Rk.cell RK.out; have hf_rk := Rk.frozen RK.out; simp only [Bool.false_eq_true, if_false] at hz_rk))
 with_reducible refine (hop.calls hd (IsR.kb V_p.out B_p.out (fun _ h => h)) (IsR.kb V_q.out B_q.out (fun _ h => h))).mono ?_
 rintro e w104 ⟨⟨v, rfl, hv⟩, hb⟩
 obtain ⟨tv, Av, nv, cv, Dv, kv, zv, rfl⟩ := hv.agg
 clear hz_x_0 hz_x_1 hz_x_2
 clear hz_y_0 hz_y_1 hz_y_2
 clear hz_rk hf_rk
 have hle := Kb.size HB.out
 have hl_v := blk_lt (bk_ V_v B_v N_v)
 have hv_ := Res.mono' (ok' := fun k => k ≠ rb ∧ k ≠ g_v ∧ w.heap.size ≤ k) hv (fun k hk _ => by have := HL.out; refine ⟨?_, ?_, ?_⟩ <;> omega)
 clear hv hle hl_v
 replace HB := kb_b HB hb
 replace B_p := kb_b B_p hb
 replace B_q := kb_b B_q hb
 replace B_x := kb_b B_x hb
 replace B_y := kb_b B_y hb
 replace B_v := kb_b B_v hb
 replace RK := rk_b RK hb
 clear hb
 have V_a := a0_ hv_
 clear hv_
 have B_a := a0_ (Kb.refl (fun k => k = rb ∨ k = g_v) w104)
 obtain ⟨en, hen3⟩ : ∃ en, en = eno (fit (g x y)) := ⟨_, rfl⟩
 rw [← hen3]
 have HEN := a0_ (hen3.trans HER.out.2)
 clear hen3
 clear V_x B_x
 clear V_y B_y
 go_wp2_with (first | ((with_reducible refine gt_ 30 8 20 rfl ?_); refine store_ev (p := .tmp 8) (v := .tmp 20) rfl rfl rfl (g := g_v) rfl rfl (bk_ V_v B_v N_v) ?_; intro w105 hbox hk; replace HB := kb_o HB hk G_v; replace B_p := kb_o B_p hk O_v_p; replace B_q := kb_o B_q hk O_v_q; replace B_a := kb_t B_a hk (fun i hi => by exact Or.inl (Or.inr hi)); have Z_ := a0_ (Rk.kb RK.out hk (by have := HL.out; have := G_v.out; omega)); clear RK; have RK := Z_; clear Z_; clear V_v B_v; have V_v := a0_ hbox; have B_v := kr_ rb w105; clear hbox hk) | ((with_reducible refine gt_ 40 23 21 rfl ?_); refine rk_store_ev (p := .tmp 23) (v := .tmp 21) rfl rfl rfl (g := rb) (er' := er) rfl rfl HEN.out RK.out ?_; intro w106 hrk hk; clear RK; replace HB := kb_t HB hk (fun i hi => Or.inl hi); replace B_p := kb_t B_p hk (fun i hi => Or.inl hi); replace B_q := kb_t B_q hk (fun i hi => Or.inl hi); replace B_v := kb_t B_v hk (fun i hi => Or.inl hi); replace B_a := kb_t B_a hk (fun i hi => Or.inl (Or.inl hi)); clear hk; have RK := a0_ hrk; clear hrk) | ((with_reducible refine gd_ 24 rfl ?_); refine load_ev rfl rfl (g := g_v) rfl (bk_ V_v B_v N_v) ?_) | ((with_reducible refine gt_ 30 8 24 rfl ?_); refine store_ev (p := .tmp 8) (v := .tmp 24) rfl rfl rfl (g := g_v) rfl rfl (bk_ V_v B_v N_v) ?_; intro w107 hbox hk; replace HB := kb_o HB hk G_v; replace B_p := kb_o B_p hk O_v_p; replace B_q := kb_o B_q hk O_v_q; replace B_a := kb_t B_a hk (fun i hi => by exact Or.inl (Or.inr hi)); have Z_ := a0_ (Rk.kb RK.out hk (by have := HL.out; have := G_v.out; omega)); clear RK; have RK := Z_; clear Z_; clear V_v B_v; have V_v := a0_ hbox; have B_v := kr_ rb w107; clear hbox hk))
 refine bodyPost_ret (results_cell_row rfl _ _ g_v 30 #[.bool tv, .slice Av nv cv, .slice Dv kv zv] (0, 0) _ rfl (bk_ V_v B_v N_v) Try.underlying30 rfl (by kernel_rfl)) rfl ?_
 exact ⟨_, rfl, Res.mono (Res.kb V_a.out B_a.out (fun k h hs => hs.elim h.1 h.2.1)) (fun k h => h.2.2), RK.out, HB.out⟩
theorem do_err (F : Nat) (rb : Nat) (oa ob : Option Rat) (w : World) (va vb : Value) (hr : Rk w rb true) (ha : Res (fun k => k ≠ rb) w va oa) (hb : Res (fun k => k ≠ rb) w vb ob) :
 Calls Try.prog 45 #[.pointer (some ⟨rb, 0, none⟩), .func (.func F) #[] #[], va, vb] w fun e w' => ∃ v, e = .returned v ∧ Res (fun k => w.heap.size ≤ k) w' v none ∧ Rk w' rb true ∧ Kb (fun k => k = rb) w w' := by
 have hu30 := Try.underlying30
 obtain ⟨tx, Ax, nx, cx, Dx, kx, zx, rfl⟩ := ha.agg
 obtain ⟨ty, Ay, ny, cy, Dy, ky, zy, rfl⟩ := hb.agg
 have HB := kr_ rb w
 clear ha hb
 have HL := a0_ (Rk.lt hr)
 have RK := a0_ hr
 clear hr
 go_enter Try.func45, Try.ntmps45
 go_wp2_with (first | ((with_reducible refine gd_ 6 rfl ?_); refine bx_ (N := 6) #[.bool tx, .slice Ax nx cx, .slice Dx kx zx] 30 ?_; intro g_x hg w101 hbox hb; have G_x := kb_g HB hg; replace HB := kb_b HB hb; replace RK := rk_b RK hb; clear hb; have V_x := a0_ hbox; have B_x := kr_ rb w101; have N_x : Aside0 (¬ (fun k => k = rb) g_x) := ⟨by show ¬ (_ = _); have := HL.out; have := G_x.out; omega⟩; clear hbox hg) | ((with_reducible refine gd_ 7 rfl ?_); refine bx_ (N := 7) #[.bool ty, .slice Ay ny cy, .slice Dy ky zy] 30 ?_; intro g_y hg w102 hbox hb; have G_y := kb_g HB hg; replace HB := kb_b HB hb; replace B_x := kb_b B_x hb; replace RK := rk_b RK hb; clear hb; have V_y := a0_ hbox; have B_y := kr_ rb w102; have N_y : Aside0 (¬ (fun k => k = rb) g_y) := ⟨by show ¬ (_ = _); have := HL.out; have := G_y.out; omega⟩; clear hbox hg) | ((with_reducible refine gd_ 8 rfl ?_); refine bx_ (N := 8) #[.bool false, .slice none 0 0, .slice none 0 0] 30 ?_; intro g_v hg w103 hbox hb; have G_v := kb_g HB hg; replace HB := kb_b HB hb; replace B_x := kb_b B_x hb; replace B_y := kb_b B_y hb; replace RK := rk_b RK hb; clear hb; have V_v := a0_ hbox; have B_v := kr_ rb w103; have N_v : Aside0 (¬ (fun k => k = rb) g_v) := ⟨by show ¬ (_ = _); have := HL.out; have := G_v.out; omega⟩; clear hbox hg; have hz_rk := Rk.cell RK.out; have hf_rk := Rk.frozen RK.out; simp only [if_true] at hz_rk) | ((with_reducible refine gd_ 24 rfl ?_); refine load_ev rfl rfl (g := g_v) rfl (bk_ V_v B_v N_v) ?_) | ((with_reducible refine gt_ 30 8 24 rfl ?_); refine store_ev (p := .tmp 8) (v := .tmp 24) rfl rfl rfl (g := g_v) rfl rfl (bk_ V_v B_v N_v) ?_; intro w104 hbox hk; replace HB := kb_o HB hk G_v; have Z_ := a0_ (Rk.kb RK.out hk (by have := HL.out; have := G_v.out; omega)); clear RK; have RK := Z_; clear Z_; clear V_v B_v; have V_v := a0_ hbox; have B_v := kr_ rb w104; clear hbox hk))
 refine bodyPost_ret (results_cell_row rfl _ _ g_v 30 #[.bool false, .slice none 0 0, .slice none 0 0] (0, 0) _ rfl (bk_ V_v B_v N_v) Try.underlying30 rfl (by kernel_rfl)) rfl ?_
 exact ⟨_, rfl, ⟨_, _, rfl, by rw [limbs_zero]; exact Kd.V_nil _ _ _ _ _, by rw [limbs_zero]; exact Kd.V_nil _ _ _ _ _⟩, RK.out, HB.out⟩
theorem do_any {F : Nat} {g : Rat → Rat → Rat} {dom : Rat → Rat → Prop} (hop : Op2 F g dom) (hen : ∀ args w, (callFunc F args).run Try.prog w = .ok (.enter F args) w) (rb : Nat) (er : Bool) (oa ob : Option Rat) (w : World) (va vb : Value) (hr : Rk w rb er) (ha : Res (fun k => k ≠ rb) w va oa) (hb : Res (fun k => k ≠ rb) w vb ob) (hd : er = false → ∃ x y, oa = some x ∧ ob = some y ∧ dom x y) :
 Calls Try.prog 45 #[.pointer (some ⟨rb, 0, none⟩), .func (.func F) #[] #[], va, vb] w fun e w' => ∃ v, e = .returned v ∧ Res (fun k => w.heap.size ≤ k) w' v (doO er g oa ob) ∧ Rk w' rb (er || (doO er g oa ob).isNone) ∧ Kb (fun k => k = rb) w w' := by
 cases er with
 | false =>
  obtain ⟨x, y, rfl, rfl, hxy⟩ := hd rfl
  exact do_calls hop hen rb w va vb x y hxy hr ha hb
 | true =>
  have e : doO true g oa ob = none := by unfold doO; split <;> rfl
  rw [e]
  exact do_err F rb oa ob w va vb hr ha hb
end Go.Proofs.Ytgdkgahbmfhgcaa.PN
