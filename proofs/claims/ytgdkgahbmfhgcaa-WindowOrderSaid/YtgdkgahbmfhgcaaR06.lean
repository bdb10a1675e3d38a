/- What the statement rests on, part 6: RA RB NA3 EQ RC RD1. -/
import Derived.Test.YtgdkgahbmfhgcaaR05
set_option linter.unusedVariables false
set_option linter.unusedSimpArgs false
set_option maxHeartbeats 4000000
set_option maxRecDepth 100000
namespace Go.Proofs.Ytgdkgahbmfhgcaa.PN
open Go.RowKit Go.Proofs.Ytgdkgahbmfhgcaa.NS Go.Proofs.Ytgdkgahbmfhgcaa.Limbs Go.Proofs.YtgdkgahbmfhgcaaW.PrintWords Go.Proofs.YtgdkgahbmfhgcaaW.PrintLast Go.Proofs.YtgdkgahbmfhgcaaW.PrintMore
theorem nadd_calls (m n : Nat) (hm : Fits m) (hn : Fits n) (A0 : Option Addr) (c0 : Nat) (A1 : Option Addr) (c1 : Nat) (w : World)
 (hra : Kd.C (Kd.int .u32) w A0 (limbs m).length (limbs m)) (hca : (limbs m).length ≤ c0) (hrb : Kd.C (Kd.int .u32) w A1 (limbs n).length (limbs n)) (hcb : (limbs n).length ≤ c1) :
 Calls Try.prog 54 #[.slice A0 (limbs m).length c0, .slice A1 (limbs n).length c1] w fun e w' => ∃ v, e = .returned (.tuple #[v, .int .i64 0]) ∧ Rd w.heap.size w' v (limbs (m + n)) ∧ Below w.heap.size w w' := by
 have hfa := len_fits hm
 have hfb := len_fits hn
 have H0 := a0_ (both_limbs hm hn)
 obtain ⟨kp, hkp⟩ := (plus_ev (limbs m) (limbs n) (Ok_limbs m) (Ok_limbs n) (by omega) (by omega)).rounds
 rw [V_limbs, V_limbs] at hkp
 have H1 := a0_ hkp
 clear hkp
 have R_a := a0_ hra
 have C_a := a0_ hca
 clear hra hca
 have B_a := a0_ (Below.refl w.heap.size w)
 have R_b := a0_ hrb
 have C_b := a0_ hcb
 clear hrb hcb
 have B_b := a0_ (Below.refl w.heap.size w)
 have HB := a0_ (Below.refl w.heap.size w)
 go_enter Try.func54, Try.ntmps54
 go_wp2_with fail
 with_reducible refine (nat_both.calls _ _ (limbs m) _ _ (limbs n) _ _ (Kd.C_below R_a.out B_a.out) C_a.out (Kd.C_below R_b.out B_b.out) C_b.out H0.out).mono ?_
 rintro e w101 ⟨rfl, hb0⟩
 have hb := hb0.below
 clear hb0
 replace B_a := bl_b B_a hb
 replace B_b := bl_b B_b hb
 replace HB := bl_b HB hb
 clear hb
 go_wp2_with fail
 with_reducible refine (nat_plus.calls kp _ _ (limbs m) _ _ (limbs n) _ _ (Kd.C_below R_a.out B_a.out) C_a.out (Kd.C_below R_b.out B_b.out) C_b.out H1.out).mono ?_
 rintro e w102 ⟨v, rfl, ho, hb⟩
 have D_s := a0_ (Rd.ofV ho (below_size HB.out))
 obtain ⟨A_s, c_s, rfl, hlo, hC⟩ := V_reads ho
 clear ho
 replace B_a := bl_b B_a hb
 replace B_b := bl_b B_b hb
 replace HB := bl_b HB hb
 clear hb
 have R_s := a0_ hC
 have C_s := a0_ hlo
 clear hC hlo
 have B_s := a0_ (Below.refl w102.heap.size w102)
 go_wp2_with fail
 go_ret2
 exact ⟨_, rfl, Rd.below D_s.out B_s.out, HB.out⟩
theorem nmul_calls (m n : Nat) (hm : Fits m) (hn : Fits n) (A0 : Option Addr) (c0 : Nat) (A1 : Option Addr) (c1 : Nat) (w : World)
 (hra : Kd.C (Kd.int .u32) w A0 (limbs m).length (limbs m)) (hca : (limbs m).length ≤ c0) (hrb : Kd.C (Kd.int .u32) w A1 (limbs n).length (limbs n)) (hcb : (limbs n).length ≤ c1) :
 Calls Try.prog 53 #[.slice A0 (limbs m).length c0, .slice A1 (limbs n).length c1] w fun e w' => ∃ v, e = .returned (.tuple #[v, .int .i64 0]) ∧ Rd w.heap.size w' v (limbs (m * n)) ∧ Below w.heap.size w w' := by
 have hfa := len_fits hm
 have hfb := len_fits hn
 have H0 := a0_ (both_limbs hm hn)
 obtain ⟨kp, hkp⟩ := (times_ev (limbs m) (limbs n) (Ok_limbs m) (Ok_limbs n) (by omega) (by omega)).rounds
 rw [V_limbs, V_limbs] at hkp
 have H1 := a0_ hkp
 clear hkp
 have R_a := a0_ hra
 have C_a := a0_ hca
 clear hra hca
 have B_a := a0_ (Below.refl w.heap.size w)
 have R_b := a0_ hrb
 have C_b := a0_ hcb
 clear hrb hcb
 have B_b := a0_ (Below.refl w.heap.size w)
 have HB := a0_ (Below.refl w.heap.size w)
 go_enter Try.func53, Try.ntmps53
 go_wp2_with fail
 with_reducible refine (nat_both.calls _ _ (limbs m) _ _ (limbs n) _ _ (Kd.C_below R_a.out B_a.out) C_a.out (Kd.C_below R_b.out B_b.out) C_b.out H0.out).mono ?_
 rintro e w101 ⟨rfl, hb0⟩
 have hb := hb0.below
 clear hb0
 replace B_a := bl_b B_a hb
 replace B_b := bl_b B_b hb
 replace HB := bl_b HB hb
 clear hb
 go_wp2_with fail
 with_reducible refine (nat_times.calls kp _ _ (limbs m) _ _ (limbs n) _ _ (Kd.C_below R_a.out B_a.out) C_a.out (Kd.C_below R_b.out B_b.out) C_b.out H1.out).mono ?_
 rintro e w102 ⟨v, rfl, ho, hb⟩
 have D_s := a0_ (Rd.ofV ho (below_size HB.out))
 obtain ⟨A_s, c_s, rfl, hlo, hC⟩ := V_reads ho
 clear ho
 replace B_a := bl_b B_a hb
 replace B_b := bl_b B_b hb
 replace HB := bl_b HB hb
 clear hb
 have R_s := a0_ hC
 have C_s := a0_ hlo
 clear hC hlo
 have B_s := a0_ (Below.refl w102.heap.size w102)
 go_wp2_with fail
 go_ret2
 exact ⟨_, rfl, Rd.below D_s.out B_s.out, HB.out⟩
theorem ncmp_calls (m n : Nat) (hm : Fits m) (hn : Fits n) (A0 : Option Addr) (c0 : Nat) (A1 : Option Addr) (c1 : Nat) (w : World)
 (hra : Kd.C (Kd.int .u32) w A0 (limbs m).length (limbs m)) (hca : (limbs m).length ≤ c0) (hrb : Kd.C (Kd.int .u32) w A1 (limbs n).length (limbs n)) (hcb : (limbs n).length ≤ c1) :
 Calls Try.prog 55 #[.slice A0 (limbs m).length c0, .slice A1 (limbs n).length c1] w fun e w' => e = .returned (.int .i64 (if m < n then (-1 : Int) else if m = n then 0 else 1)) ∧ Below w.heap.size w w' := by
 have hfa := len_fits hm
 have hfb := len_fits hn
 have H0 := a0_ (both_limbs hm hn)
 obtain ⟨kp, hkp⟩ := (compare_limbs hm hn).rounds
 obtain ⟨c, hc⟩ : ∃ c : Int, c = (if m < n then (-1 : Int) else if m = n then 0 else 1) := ⟨_, rfl⟩
 rw [← hc] at hkp ⊢
 have H1 := a0_ hkp
 clear hkp hc
 have R_a := a0_ hra
 have C_a := a0_ hca
 clear hra hca
 have B_a := a0_ (Below.refl w.heap.size w)
 have R_b := a0_ hrb
 have C_b := a0_ hcb
 clear hrb hcb
 have B_b := a0_ (Below.refl w.heap.size w)
 have HB := a0_ (Below.refl w.heap.size w)
 go_enter Try.func55, Try.ntmps55
 go_wp2_with fail
 with_reducible refine (nat_both.calls _ _ (limbs m) _ _ (limbs n) _ _ (Kd.C_below R_a.out B_a.out) C_a.out (Kd.C_below R_b.out B_b.out) C_b.out H0.out).mono ?_
 rintro e w101 ⟨rfl, hb0⟩
 have hb := hb0.below
 clear hb0
 replace B_a := bl_b B_a hb
 replace B_b := bl_b B_b hb
 replace HB := bl_b HB hb
 clear hb
 go_wp2_with fail
 with_reducible refine (nat_compare.calls kp _ _ (limbs m) _ _ (limbs n) _ _ (Kd.C_below R_a.out B_a.out) C_a.out (Kd.C_below R_b.out B_b.out) C_b.out H1.out).mono ?_
 rintro e w102 ⟨rfl, hb⟩
 replace B_a := bl_b B_a hb
 replace B_b := bl_b B_b hb
 replace HB := bl_b HB hb
 clear hb
 go_wp2_with fail
 go_ret
 exact ⟨rfl, HB.out⟩
theorem nsub_calls (m n : Nat) (hm : Fits m) (hn : Fits n) (hle : n ≤ m) (A0 : Option Addr) (c0 : Nat) (A1 : Option Addr) (c1 : Nat) (w : World)
 (hra : Kd.C (Kd.int .u32) w A0 (limbs m).length (limbs m)) (hca : (limbs m).length ≤ c0) (hrb : Kd.C (Kd.int .u32) w A1 (limbs n).length (limbs n)) (hcb : (limbs n).length ≤ c1) :
 Calls Try.prog 56 #[.slice A0 (limbs m).length c0, .slice A1 (limbs n).length c1] w fun e w' => ∃ v, e = .returned (.tuple #[v, .int .i64 0]) ∧ Rd w.heap.size w' v (limbs (m - n)) ∧ Below w.heap.size w w' := by
 have hfa := len_fits hm
 have hfb := len_fits hn
 have H0 := a0_ (both_limbs hm hn)
 obtain ⟨kp, hkp⟩ := (compare_limbs hm hn).rounds
 obtain ⟨c, hc⟩ : ∃ c : Int, c = (if m < n then (-1 : Int) else if m = n then 0 else 1) := ⟨_, rfl⟩
 rw [← hc] at hkp
 have hcd : decide (c < 0) = false := by
  rw [hc, if_neg (by omega)]
  split <;> rfl
 obtain ⟨kq, hkq⟩ := (minus_ev (limbs m) (limbs n) (Ok_limbs m) (Ok_limbs n) (limbs_len_mono hle) (by rw [V_limbs, V_limbs]; exact hle) (by omega)).rounds
 rw [V_limbs, V_limbs] at hkq
 have H1 := a0_ hkp
 have H2 := a0_ hkq
 clear hkp hc hkq
 have R_a := a0_ hra
 have C_a := a0_ hca
 clear hra hca
 have B_a := a0_ (Below.refl w.heap.size w)
 have R_b := a0_ hrb
 have C_b := a0_ hcb
 clear hrb hcb
 have B_b := a0_ (Below.refl w.heap.size w)
 have HB := a0_ (Below.refl w.heap.size w)
 go_enter Try.func56, Try.ntmps56
 go_wp2_with fail
 with_reducible refine (nat_both.calls _ _ (limbs m) _ _ (limbs n) _ _ (Kd.C_below R_a.out B_a.out) C_a.out (Kd.C_below R_b.out B_b.out) C_b.out H0.out).mono ?_
 rintro e w101 ⟨rfl, hb0⟩
 have hb := hb0.below
 clear hb0
 replace B_a := bl_b B_a hb
 replace B_b := bl_b B_b hb
 replace HB := bl_b HB hb
 clear hb
 go_wp2_with fail
 with_reducible refine (nat_compare.calls kp _ _ (limbs m) _ _ (limbs n) _ _ (Kd.C_below R_a.out B_a.out) C_a.out (Kd.C_below R_b.out B_b.out) C_b.out H1.out).mono ?_
 rintro e w102 ⟨rfl, hb⟩
 replace B_a := bl_b B_a hb
 replace B_b := bl_b B_b hb
 replace HB := bl_b HB hb
 clear hb
 go_wp2_with fail
 with_reducible refine (nat_minus.calls kq _ _ (limbs m) _ _ (limbs n) _ _ (Kd.C_below R_a.out B_a.out) C_a.out (Kd.C_below R_b.out B_b.out) C_b.out H2.out).mono ?_
 rintro e w103 ⟨v, rfl, ho, hb⟩
 have D_s := a0_ (Rd.ofV ho (below_size HB.out))
 obtain ⟨A_s, c_s, rfl, hlo, hC⟩ := V_reads ho
 clear ho
 replace B_a := bl_b B_a hb
 replace B_b := bl_b B_b hb
 replace HB := bl_b HB hb
 clear hb
 have R_s := a0_ hC
 have C_s := a0_ hlo
 clear hC hlo
 have B_s := a0_ (Below.refl w103.heap.size w103)
 go_wp2_with fail
 go_ret2
 exact ⟨_, rfl, Rd.below D_s.out B_s.out, HB.out⟩
theorem ndiv_calls (m n : Nat) (hn0 : 0 < n) (hm : Fits m) (hn : Fits n) (A0 : Option Addr) (c0 : Nat) (A1 : Option Addr) (c1 : Nat) (w : World)
 (hra : Kd.C (Kd.int .u32) w A0 (limbs m).length (limbs m)) (hca : (limbs m).length ≤ c0) (hrb : Kd.C (Kd.int .u32) w A1 (limbs n).length (limbs n)) (hcb : (limbs n).length ≤ c1) :
 Calls Try.prog 52 #[.slice A0 (limbs m).length c0, .slice A1 (limbs n).length c1] w fun e w' => ∃ v1 v2, e = .returned (.tuple #[v1, v2, .int .i64 0]) ∧ Rd w.heap.size w' v1 (limbs (m / n)) ∧ Rd w.heap.size w' v2 (limbs (m % n)) ∧ Below w.heap.size w w' := by
 have hfa := len_fits hm
 have hfb := len_fits hn
 have H0 := a0_ (both_limbs hm hn)
 have hl0 : ((limbs n).length == 0) = false := by
  have := limbs_ne hn0
  simpa using this
 have hl1 : (((limbs n).length : Int) == 0) = false := by
  have := limbs_ne hn0
  simpa using this
 have R_a := a0_ hra
 have C_a := a0_ hca
 clear hra hca
 have B_a := a0_ (Below.refl w.heap.size w)
 have R_b := a0_ hrb
 have C_b := a0_ hcb
 clear hrb hcb
 have B_b := a0_ (Below.refl w.heap.size w)
 have HB := a0_ (Below.refl w.heap.size w)
 go_enter Try.func52, Try.ntmps52
 go_wp2_with fail
 with_reducible refine (nat_both.calls _ _ (limbs m) _ _ (limbs n) _ _ (Kd.C_below R_a.out B_a.out) C_a.out (Kd.C_below R_b.out B_b.out) C_b.out H0.out).mono ?_
 rintro e w101 ⟨rfl, hb0⟩
 have hb := hb0.below
 clear hb0
 replace B_a := bl_b B_a hb
 replace B_b := bl_b B_b hb
 replace HB := bl_b HB hb
 clear hb
 go_wp2_with fail
 with_reducible refine (divide_calls m n hn0 hm hn _ _ _ _ _ (Kd.C_below R_a.out B_a.out) C_a.out (Kd.C_below R_b.out B_b.out) C_b.out).mono ?_
 rintro e w102 ⟨v1, v2, rfl, h1, h2, hb⟩
 have hs_ := below_size (show Below w.heap.size w w101 by repeat (first | exact HB.out | apply below_alloc | apply pw_below_drewN | apply below_drew1))
 have D_q := a0_ (Rd.lower h1 hs_)
 have D_r := a0_ (Rd.lower h2 hs_)
 clear hs_
 obtain ⟨A_q, c_q, rfl, hlo1, hC1⟩ := Rd.reads h1
 obtain ⟨A_r, c_r, rfl, hlo2, hC2⟩ := Rd.reads h2
 clear h1 h2
 replace B_a := bl_b B_a hb
 replace B_b := bl_b B_b hb
 replace HB := bl_b HB hb
 clear hb
 have R_q := a0_ hC1
 have C_q := a0_ hlo1
 clear hC1 hlo1
 have B_q := a0_ (Below.refl w102.heap.size w102)
 have R_r := a0_ hC2
 have C_r := a0_ hlo2
 clear hC2 hlo2
 have B_r := a0_ (Below.refl w102.heap.size w102)
 go_wp2_with fail
 go_ret3
 exact ⟨_, _, rfl, Rd.below D_q.out B_q.out, Rd.below D_r.out B_r.out, HB.out⟩
theorem ngcd_calls (m n : Nat) (hm : Fits m) (hn : Fits n) (A0 : Option Addr) (c0 : Nat) (A1 : Option Addr) (c1 : Nat) (w : World)
 (hra : Kd.C (Kd.int .u32) w A0 (limbs m).length (limbs m)) (hca : (limbs m).length ≤ c0) (hrb : Kd.C (Kd.int .u32) w A1 (limbs n).length (limbs n)) (hcb : (limbs n).length ≤ c1) :
 Calls Try.prog 32 #[.slice A0 (limbs m).length c0, .slice A1 (limbs n).length c1] w fun e w' => ∃ v, e = .returned (.tuple #[v, .int .i64 0]) ∧ Rd w.heap.size w' v (limbs (Nat.gcd m n)) ∧ Below w.heap.size w w' := by
 have hfa := len_fits hm
 have hfb := len_fits hn
 have H0 := a0_ (both_limbs hm hn)
 have hc1 : slices_Clone_uint32_uint32.f (limbs m) = some (limbs m) := by unfold slices_Clone_uint32_uint32.f; rw [if_pos (by omega)]
 have H1 := a0_ hc1
 clear hc1
 have hc2 : slices_Clone_uint32_uint32.f (limbs n) = some (limbs n) := by unfold slices_Clone_uint32_uint32.f; rw [if_pos (by omega)]
 have H2 := a0_ hc2
 clear hc2
 have R_a := a0_ hra
 have C_a := a0_ hca
 clear hra hca
 have B_a := a0_ (Below.refl w.heap.size w)
 have R_b := a0_ hrb
 have C_b := a0_ hcb
 clear hrb hcb
 have B_b := a0_ (Below.refl w.heap.size w)
 have HB := a0_ (Below.refl w.heap.size w)
 go_enter Try.func32, Try.ntmps32
 go_wp2_with fail
 with_reducible refine (nat_both.calls _ _ (limbs m) _ _ (limbs n) _ _ (Kd.C_below R_a.out B_a.out) C_a.out (Kd.C_below R_b.out B_b.out) C_b.out H0.out).mono ?_
 rintro e w101 ⟨rfl, hb0⟩
 have hb := hb0.below
 clear hb0
 replace B_a := bl_b B_a hb
 replace B_b := bl_b B_b hb
 replace HB := bl_b HB hb
 clear hb
 go_wp2_with fail
 with_reducible refine (slices_Clone_uint32_uint32.calls _ _ (limbs m) _ _ (Kd.C_below R_a.out B_a.out) C_a.out H1.out).mono ?_
 rintro e w102 ⟨v, rfl, ho, hb⟩
 have D_x := a0_ (Rd.ofR ho (below_size HB.out))
 obtain ⟨A_x, c_x, rfl, hlo, hC⟩ := Kd.R_reads ho
 clear ho
 replace B_a := bl_b B_a hb
 replace B_b := bl_b B_b hb
 replace HB := bl_b HB hb
 clear hb
 have R_x := a0_ hC
 have C_x := a0_ hlo
 clear hC hlo
 have B_x := a0_ (Below.refl w102.heap.size w102)
 go_wp2_with fail
 with_reducible refine (slices_Clone_uint32_uint32.calls _ _ (limbs n) _ _ (Kd.C_below R_b.out B_b.out) C_b.out H2.out).mono ?_
 rintro e w103 ⟨v, rfl, ho, hb⟩
 have D_y := a0_ (Rd.ofR ho (below_size HB.out))
 obtain ⟨A_y, c_y, rfl, hlo, hC⟩ := Kd.R_reads ho
 clear ho
 replace B_a := bl_b B_a hb
 replace B_b := bl_b B_b hb
 replace B_x := bl_b B_x hb
 replace HB := bl_b HB hb
 clear hb
 have R_y := a0_ hC
 have C_y := a0_ hlo
 clear hC hlo
 have B_y := a0_ (Below.refl w103.heap.size w103)
 have X0 : Aside0 (Rd w.heap.size w103 (.slice A_x (limbs m).length c_x) (limbs m)) := ⟨Rd.below D_x.out B_x.out⟩
 have Y0 : Aside0 (Rd w.heap.size w103 (.slice A_y (limbs n).length c_y) (limbs n)) := ⟨Rd.below D_y.out B_y.out⟩
 have HB0 : Aside0 (Below w.heap.size w w103) := ⟨HB.out⟩
 clear R_x C_x B_x R_y C_y B_y R_a C_a B_a R_b C_b B_b HB
 go_wp2_with fail
 go_loopg [7, 8] n (fun kq v7 v8 wr => ∃ p : Nat, Aside0 (Fits p ∧ Fits kq ∧ Nat.gcd p kq = Nat.gcd m n) ∧ Aside0 (Rd w.heap.size wr v7 (limbs p)) ∧ Aside0 (Rd w.heap.size wr v8 (limbs kq)) ∧ Aside0 (Below w.heap.size w wr))
 case atStart => exact ⟨m, ⟨hm, hn, rfl⟩, X0, Y0, HB0⟩
 case round =>
  obtain ⟨p, HF, HX, HY, HB⟩ := hrel
  clear X0 Y0 HB0
  obtain ⟨A_x, c_x, rfl, hcx, hx⟩ := Rd.reads HX.out
  obtain ⟨A_y, c_y, rfl, hcy, hy⟩ := Rd.reads HY.out
  have hrx := a0_ hx
  have hry := a0_ hy
  clear hx hy
  rcases Nat.eq_zero_or_pos gk with h0 | h0
  · have hl : (limbs gk).length = 0 := by rw [h0, limbs_zero]; rfl
    have hd : decide (0 < (limbs gk).length) = false := by rw [hl]; rfl
    have hd1 : decide ((0 : Int) < ((limbs gk).length : Int)) = false := by rw [hl]; rfl
    have HF2 := HF.out.2.2
    rw [h0, Nat.gcd_zero_right] at HF2
    have hG := a0_ HF2
    clear hl HF2 h0
    go_wp2_with fail
    go_ret2
    exact ⟨_, rfl, by rw [← hG.out]; exact HX.out, HB.out⟩
  · have hl : 0 < (limbs gk).length := by
     rcases Nat.eq_zero_or_pos (limbs gk).length with h | h
     · exact absurd (List.eq_nil_of_length_eq_zero h) (limbs_ne h0)
     · exact h
    have hd : decide (0 < (limbs gk).length) = true := decide_eq_true hl
    have hd1 : decide ((0 : Int) < ((limbs gk).length : Int)) = true := decide_eq_true (by omega)
    have HL := a0_ h0
    clear hl h0
    go_wp2_with fail
    with_reducible refine (divide_calls p gk HL.out HF.out.1 HF.out.2.1 _ _ _ _ _ hrx.out hcx hry.out hcy).mono ?_
    rintro e w9 ⟨v1, v2, rfl, h1, h2, hb⟩
    have hry2 := a0_ (Kd.C_below hry.out hb)
    have HB2 := a0_ (below_step HB.out hb)
    have HR := a0_ (Rd.lower h2 (below_size HB.out))
    have HY2 := a0_ (Rd.below HY.out hb)
    clear hrx hry HB hb h1 h2 HX HY hry2
    go_wp2_with fail
    go_roundg (p % gk)
    case measure => exact Nat.mod_lt _ HL.out
    case rel => exact ⟨gk, ⟨HF.out.2.1, Nat.lt_of_le_of_lt (Nat.mod_le _ _) HF.out.1, by rw [← HF.out.2.2, Nat.gcd_comm p gk, Nat.gcd_rec gk p, Nat.gcd_comm]⟩, HY2, HR, HB2⟩
theorem one_ev : Ev (fun k => rat_one.f k) (limbs 1) := by
 unfold rat_one.f
 exact Ev.bind (Of_ev 1 (by omega)) (Ev.now _)
theorem one_calls (w : World) : Calls Try.prog 26 #[] w fun e w' => ∃ v, e = .returned v ∧ Rd w.heap.size w' v (limbs 1) ∧ Below w.heap.size w w' := by
 obtain ⟨k, hk⟩ := one_ev.rounds
 refine (rat_one.calls k _ w hk).mono ?_
 rintro e w' ⟨v, rfl, h, hb⟩
 exact ⟨v, rfl, Rd.ofV h (Nat.le_refl _), hb⟩
theorem product2_calls (m n : Nat) (hm : Fits m) (hn : Fits n) (g : Nat) (A0 : Option Addr) (c0 : Nat) (A1 : Option Addr) (c1 : Nat) (w : World) (hg0 : w.cell? ⟨g, 0, none⟩ = some (.slice A0 (limbs m).length c0)) (hg1 : w.cell? ⟨g, 1, none⟩ = some (.slice A1 (limbs n).length c1))
 (hra : Kd.C (Kd.int .u32) w A0 (limbs m).length (limbs m)) (hca : (limbs m).length ≤ c0) (hrb : Kd.C (Kd.int .u32) w A1 (limbs n).length (limbs n)) (hcb : (limbs n).length ≤ c1) :
 Calls Try.prog 36 #[.slice (some ⟨g, 0, none⟩) 2 2] w fun e w' => ∃ v, e = .returned v ∧ Rd w.heap.size w' v (limbs (m * n)) ∧ Below w.heap.size w w' := by
 have HG := a0_ (And.intro hg0 hg1)
 clear hg0 hg1
 have R_a := a0_ hra
 have C_a := a0_ hca
 clear hra hca
 have B_a := a0_ (Below.refl w.heap.size w)
 have R_b := a0_ hrb
 have C_b := a0_ hcb
 clear hrb hcb
 have B_b := a0_ (Below.refl w.heap.size w)
 have HB := a0_ (Below.refl w.heap.size w)
 go_enter Try.func36, Try.ntmps36
 go_wp2_with fail
 with_reducible refine (one_calls _).mono ?_
 rintro e w1 ⟨v, rfl, h1, hb⟩
 have hB := a0_ hb
 have D1 := a0_ h1
 obtain ⟨A_o, c_o, rfl, hco, hCo⟩ := Rd.reads h1
 clear h1 hb hCo hco B_a B_b HB
 go_wp2_with fail
 go_loopg [3, 11] 2 (fun kq v3 v11 wr => ∃ (i : Int) (p : Nat), v11 = .int .i64 i ∧ Aside0 (i = 2 - (kq : Int) ∧ (kq = 2 → p = 1) ∧ (kq = 1 → p = m) ∧ (kq = 0 → p = m * n) ∧ kq ≤ 2) ∧ Aside0 (Rd w.heap.size wr v3 (limbs p)) ∧ Aside0 (Below w.heap.size w wr))
 case atStart => exact ⟨0, 1, rfl, ⟨rfl, fun _ => rfl, fun h => by omega, fun h => by omega, Nat.le_refl _⟩, D1, hB⟩
 case round =>
  obtain ⟨i, p, rfl, HI, HX, HB⟩ := hrel
  clear D1 hB
  obtain ⟨A_x, c_x, rfl, hcx, hx⟩ := Rd.reads HX.out
  have hrx := a0_ hx
  clear hx
  match gk, HI with
  | 0, HI =>
   obtain rfl : i = 2 := by have := HI.out.1; omega
   have hp := a0_ (HI.out.2.2.2.1 rfl)
   clear HI
   go_wp2_with fail
   go_ret
   exact ⟨_, rfl, by rw [← hp.out]; exact HX.out, HB.out⟩
  | 1, HI =>
   obtain rfl : i = 1 := by have := HI.out.1; omega
   have hp : m = p := (HI.out.2.2.1 rfl).symm
   clear HI
   subst hp
   have hcell := pw_cell_below HB.out HG.out.2
   go_wp2_with fail
   with_reducible refine (nmul_calls m n hm hn _ _ _ _ _ hrx.out hcx (Kd.C_below R_b.out HB.out) C_b.out).mono ?_
   rintro e w9 ⟨v, rfl, h1, hb⟩
   have D2 := a0_ (Rd.lower h1 (below_size HB.out))
   have HB2 := a0_ (below_step HB.out hb)
   clear hcell hrx HX HB h1 hb
   go_wp2_with fail
   go_roundg 0
   case measure => omega
   case rel => exact ⟨2, m * n, by rfl, ⟨by omega, fun h => by omega, fun h => by omega, fun h => by omega, by omega⟩, D2, HB2⟩
  | 2, HI =>
   obtain rfl : i = 0 := by have := HI.out.1; omega
   have hp : 1 = p := (HI.out.2.1 rfl).symm
   clear HI
   subst hp
   have hcell := pw_cell_below HB.out HG.out.1
   go_wp2_with fail
   with_reducible refine (nmul_calls 1 m (by unfold Fits; exact Nat.one_lt_pow (by omega) (by omega)) hm _ _ _ _ _ hrx.out hcx (Kd.C_below R_a.out HB.out) C_a.out).mono ?_
   rintro e w9 ⟨v, rfl, h1, hb⟩
   have D2 := a0_ (Rd.lower h1 (below_size HB.out))
   have HB2 := a0_ (below_step HB.out hb)
   clear hcell hrx HX HB h1 hb
   go_wp2_with fail
   go_roundg 1
   case measure => omega
   case rel => exact ⟨1, 1 * m, by rfl, ⟨by omega, fun h => by omega, fun h => by omega, fun h => by omega, by omega⟩, D2, HB2⟩
def sumB (an : Bool) (m : Nat) (bn : Bool) (n : Nat) : Bool × Nat := if an = bn then (an, m + n) else if m < n then (bn, n - m) else (an, m - n)
theorem sumB_spec (an : Bool) (m : Nat) (bn : Bool) (n : Nat) : (if (sumB an m bn n).1 then -((sumB an m bn n).2 : Int) else ((sumB an m bn n).2 : Int)) = (if an then -(m : Int) else (m : Int)) + (if bn then -(n : Int) else (n : Int)) := by
 unfold sumB
 cases an <;> cases bn <;> simp only [if_true, if_false, Bool.false_eq_true, reduceCtorEq] <;> (try split) <;> (try simp only [if_true, if_false, Bool.false_eq_true]) <;> omega
theorem sumB_le (an : Bool) (m : Nat) (bn : Bool) (n : Nat) : (sumB an m bn n).2 ≤ m + n := by
 unfold sumB
 split
 · exact Nat.le_refl _
 · split <;> simp only <;> omega
theorem sum_calls (an bn : Bool) (m n : Nat) (hm : Fits m) (hn : Fits n) (A0 : Option Addr) (c0 : Nat) (A1 : Option Addr) (c1 : Nat) (w : World)
 (hra : Kd.C (Kd.int .u32) w A0 (limbs m).length (limbs m)) (hca : (limbs m).length ≤ c0) (hrb : Kd.C (Kd.int .u32) w A1 (limbs n).length (limbs n)) (hcb : (limbs n).length ≤ c1) :
 Calls Try.prog 37 #[.bool an, .slice A0 (limbs m).length c0, .bool bn, .slice A1 (limbs n).length c1] w fun e w' => ∃ v, e = .returned (.tuple #[.bool (sumB an m bn n).1, v]) ∧ Rd w.heap.size w' v (limbs (sumB an m bn n).2) ∧ Below w.heap.size w w' := by
 have R_a := a0_ hra
 have C_a := a0_ hca
 clear hra hca
 have B_a := a0_ (Below.refl w.heap.size w)
 have R_b := a0_ hrb
 have C_b := a0_ hcb
 clear hrb hcb
 have B_b := a0_ (Below.refl w.heap.size w)
 have HB := a0_ (Below.refl w.heap.size w)
 by_cases hab : an = bn
 · subst hab
   have hs : sumB an m an n = (an, m + n) := by unfold sumB; rw [if_pos rfl]
   rw [hs]
   clear hs
   have hq : (an == an) = true := by cases an <;> rfl
   go_enter Try.func37, Try.ntmps37
   go_wp2_with fail
   with_reducible refine (nadd_calls m n hm hn _ _ _ _ _ (Kd.C_below R_a.out B_a.out) C_a.out (Kd.C_below R_b.out B_b.out) C_b.out).mono ?_
   rintro e w101 ⟨v, rfl, h1, hb⟩
   have D_s := a0_ (Rd.lower h1 (below_size HB.out))
   have HB2 := a0_ (below_step HB.out hb)
   clear h1 hb HB
   go_wp2_with fail
   go_ret2
   exact ⟨_, rfl, D_s.out, HB2.out⟩
 · have hq : (an == bn) = false := by cases an <;> cases bn <;> simp_all
   by_cases hlt : m < n
   · have hs : sumB an m bn n = (bn, n - m) := by unfold sumB; rw [if_neg hab, if_pos hlt]
     rw [hs]
     clear hs
     obtain ⟨c, hc⟩ : ∃ c : Int, c = (if m < n then (-1 : Int) else if m = n then 0 else 1) := ⟨_, rfl⟩
     have hcd : decide (c < 0) = true := by
      rw [hc, if_pos hlt]
      rfl
     have hc2 := a0_ hc
     have hab2 := a0_ hab
     have hlt2 := a0_ hlt
     clear hab hlt hc
     go_enter Try.func37, Try.ntmps37
     go_wp2_with fail
     with_reducible refine (ncmp_calls m n hm hn _ _ _ _ _ (Kd.C_below R_a.out B_a.out) C_a.out (Kd.C_below R_b.out B_b.out) C_b.out).mono ?_
     rintro e w101 ⟨rfl, hb⟩
     rw [← hc2.out]
     replace B_a := bl_b B_a hb
     replace B_b := bl_b B_b hb
     replace HB := bl_b HB hb
     clear hb
     go_wp2_with fail
     with_reducible refine (nsub_calls n m hn hm (by have := hlt2.out; omega) _ _ _ _ _ (Kd.C_below R_b.out B_b.out) C_b.out (Kd.C_below R_a.out B_a.out) C_a.out).mono ?_
     rintro e w102 ⟨v, rfl, h1, hb⟩
     have D_s := a0_ (Rd.lower h1 (below_size HB.out))
     have HB2 := a0_ (below_step HB.out hb)
     clear h1 hb HB
     go_wp2_with fail
     go_ret2
     exact ⟨_, rfl, D_s.out, HB2.out⟩
   · have hs : sumB an m bn n = (an, m - n) := by unfold sumB; rw [if_neg hab, if_neg hlt]
     rw [hs]
     clear hs
     obtain ⟨c, hc⟩ : ∃ c : Int, c = (if m < n then (-1 : Int) else if m = n then 0 else 1) := ⟨_, rfl⟩
     have hcd : decide (c < 0) = false := by
      rw [hc, if_neg hlt]
      split <;> rfl
     have hc2 := a0_ hc
     have hab2 := a0_ hab
     have hlt2 := a0_ hlt
     clear hab hlt hc
     go_enter Try.func37, Try.ntmps37
     go_wp2_with fail
     with_reducible refine (ncmp_calls m n hm hn _ _ _ _ _ (Kd.C_below R_a.out B_a.out) C_a.out (Kd.C_below R_b.out B_b.out) C_b.out).mono ?_
     rintro e w101 ⟨rfl, hb⟩
     rw [← hc2.out]
     replace B_a := bl_b B_a hb
     replace B_b := bl_b B_b hb
     replace HB := bl_b HB hb
     clear hb
     go_wp2_with fail
     with_reducible refine (nsub_calls m n hm hn (by have := hlt2.out; omega) _ _ _ _ _ (Kd.C_below R_a.out B_a.out) C_a.out (Kd.C_below R_b.out B_b.out) C_b.out).mono ?_
     rintro e w102 ⟨v, rfl, h1, hb⟩
     have D_s := a0_ (Rd.lower h1 (below_size HB.out))
     have HB2 := a0_ (below_step HB.out hb)
     clear h1 hb HB
     go_wp2_with fail
     go_ret2
     exact ⟨_, rfl, D_s.out, HB2.out⟩
open Go.RowKit Go.Proofs.YtgdkgahbmfhgcaaW.PrintWords Go.Proofs.YtgdkgahbmfhgcaaW.PrintLast Go.Proofs.YtgdkgahbmfhgcaaW.PrintMore
attribute [local go_sem] max2_int min2_int max_two min_two max_three min_three max_four min_four
def slices_Equal_uint32_uint32.l0 : Nat → List Int → List Int → Int → Int → Option (Bool)
 | 0, _, _, _, _ => none
 | k + 1, x0, x1, x12, x13 => if x13 < x12 then (if 0 ≤ x13 then (if x13 < (x0.length : Int) then (if x13 < (x1.length : Int) then (if (rd x0 x13) = (rd x1 x13) then (slices_Equal_uint32_uint32.l0 k x0 x1 x12 (wrap64 (x13 + 1))) else (some false)) else (none)) else (none)) else (none)) else (some true)
def slices_Equal_uint32_uint32.f (k : Nat) (l0 : List Int) (l1 : List Int) : Option (Bool) := if (l0.length : Int) = (l1.length : Int) then (slices_Equal_uint32_uint32.l0 k l0 l1 (l0.length : Int) 0) else (some false)
theorem slices_Equal_uint32_uint32.mono_l : ∀ k, (∀ y0 y1 y2 y3, LeO (slices_Equal_uint32_uint32.l0 k y0 y1 y2 y3) (slices_Equal_uint32_uint32.l0 (k + 1) y0 y1 y2 y3))
 | 0 => fun _ _ _ _ r h => by simp [slices_Equal_uint32_uint32.l0] at h
 | k + 1 => by
  have ih0 := slices_Equal_uint32_uint32.mono_l k
  · intro y0 y1 y2 y3
    unfold slices_Equal_uint32_uint32.l0
    repeat' first
    | (with_reducible exact ih0 _ _ _ _)
    | (with_reducible exact LeO.refl _)
    | (with_reducible exact LeO.none _)
    | (with_reducible refine LeO.ite ?_ ?_)
    | (with_reducible refine LeO.bind ?_ (fun _ => ?_))
    | exact ih0 _ _ _ _
    | exact LeO.none _
    | refine LeO.ite ?_ ?_
    | refine LeO.bind ?_ (fun _ => ?_)
theorem slices_Equal_uint32_uint32.mono : ∀ a0 a1 k, LeO (slices_Equal_uint32_uint32.f k a0 a1) (slices_Equal_uint32_uint32.f (k + 1) a0 a1) := by
 intro a0 a1 k
 have ih0 := slices_Equal_uint32_uint32.mono_l k
 unfold slices_Equal_uint32_uint32.f
 repeat' first
  | (with_reducible exact ih0 _ _ _ _)
  | (with_reducible exact LeO.refl _)
  | (with_reducible exact LeO.none _)
  | (with_reducible refine LeO.ite ?_ ?_)
  | (with_reducible refine LeO.bind ?_ (fun _ => ?_))
  | exact ih0 _ _ _ _
  | exact LeO.none _
  | refine LeO.ite ?_ ?_
  | refine LeO.bind ?_ (fun _ => ?_)
theorem slices_Equal_uint32_uint32.calls (k : Nat) (A0 : Option Addr) (c0 : Nat) (l0 : List Int) (A1 : Option Addr) (c1 : Nat) (l1 : List Int) (r : Bool) (w : World) (hr0 : Kd.C (Kd.int .u32) w A0 l0.length l0) (hc0 : l0.length ≤ c0) (hr1 : Kd.C (Kd.int .u32) w A1 l1.length l1) (hc1 : l1.length ≤ c1) (h : slices_Equal_uint32_uint32.f k l0 l1 = some r) :
 Calls Try.prog 33 #[.slice A0 l0.length c0, .slice A1 l1.length c1] w fun e w' => e = .returned (.bool r) ∧ Drawn0 w w' := by
 have HR0 := Aside0.mk hr0
 have HC0 := Aside0.mk hc0
 clear hr0 hc0
 have HR1 := Aside0.mk hr1
 have HC1 := Aside0.mk hc1
 clear hr1 hc1
 have H : (if (l0.length : Int) = (l1.length : Int) then (slices_Equal_uint32_uint32.l0 k l0 l1 (l0.length : Int) 0) else (some false)) = some r := h
 clear h
 by_cases c3 : (l0.length : Int) = (l1.length : Int)
 · rw [if_pos c3] at H
   have c3b0 : ((l0.length : Int) == (l1.length : Int)) = true := beq_iff_eq.mpr c3
   have c3b1 : ((l0.length : Int) != (l1.length : Int)) = false := bne_eq_false_iff_eq.mpr c3
   have c3b2 : (l0.length == l1.length) = true := by first | simpa using c3 | (simp at c3 ⊢; omega)
   clear c3
   have H' := Aside0.mk H
   clear H
   go_enter Try.func33, Try.ntmps33
   go_wp2
   repeat (go_quiet (fail); try go_wp2)
   go_loopg [13] k (fun kq v13 w' => ∃ (x13_1 : Int), v13 = .int .i64 x13_1 ∧ Aside0 (slices_Equal_uint32_uint32.l0 kq l0 l1 (l0.length : Int) x13_1 = some r) ∧ Aside0 (kq ≤ k) ∧ Drawn0 w w')
   case atStart => exact ⟨(0), (by first | rfl | (simp; done) | (simp [*]; done)), H', ⟨Nat.le_refl _⟩, by repeat (first | exact Drawn0.refl _ | apply Drawn0.step)⟩
   case round =>
    clear H'
    try clear c1
    try clear p2
    try clear c3
    try clear c3b0
    try clear c3b1
    try clear c3b2
    obtain ⟨x13_1, rfl, HA, HK1, ⟨m1, rfl⟩⟩ := hrel
    cases gk with
    | zero => exact absurd HA.out (by simp [slices_Equal_uint32_uint32.l0])
    | succ k1 =>
     have H := HA.out
     clear HA
     simp only [slices_Equal_uint32_uint32.l0] at H
     by_cases c4 : x13_1 < (l0.length : Int)
     · rw [if_pos c4] at H
       have c4b0 : decide (x13_1 < (l0.length : Int)) = true := decide_eq_true c4
       clear c4
       by_cases c5 : 0 ≤ x13_1
       · rw [if_pos c5] at H
         have c5b0 : decide (0 ≤ x13_1) = true := decide_eq_true c5
         clear c5
         by_cases c6 : x13_1 < (l0.length : Int)
         · rw [if_pos c6] at H
           have c6b0 : decide (x13_1 < (l0.length : Int)) = true := decide_eq_true c6
           clear c6
           by_cases c7 : x13_1 < (l1.length : Int)
           · rw [if_pos c7] at H
             have c7b0 : decide (x13_1 < (l1.length : Int)) = true := decide_eq_true c7
             clear c7
             by_cases c8 : (rd l0 x13_1) = (rd l1 x13_1)
             · rw [if_pos c8] at H
               have c8b0 : ((rd l0 x13_1) == (rd l1 x13_1)) = true := beq_iff_eq.mpr c8
               have c8b1 : ((rd l0 x13_1) != (rd l1 x13_1)) = false := bne_eq_false_iff_eq.mpr c8
               clear c8
               have H' := Aside0.mk H
               clear H
               have p190 : 0 ≤ (x13_1 : Int) := of_decide_eq_true (by first | (with_reducible assumption) | assumption)
               have q190 : x13_1 < (l0.length : Int) := of_decide_eq_true (by first | (with_reducible assumption) | assumption)
               obtain ⟨ad190, e190, hx190_0⟩ := Kd.at_int HR0.out x13_1 p190 q190
               cases e190
               replace p190 := eq_true p190
               replace q190 := eq_true q190
               have p191 : 0 ≤ (x13_1 : Int) := of_decide_eq_true (by first | (with_reducible assumption) | assumption)
               have q191 : x13_1 < (l1.length : Int) := of_decide_eq_true (by first | (with_reducible assumption) | assumption)
               obtain ⟨ad191, e191, hx191_0⟩ := Kd.at_int HR1.out x13_1 p191 q191
               cases e191
               replace p191 := eq_true p191
               replace q191 := eq_true q191
               go_wp2
               repeat (go_quiet (fail); try go_wp2)
               go_roundg k1
               case measure => have := HK1.out; omega
               case rel => exact ⟨(wrap64 (x13_1 + 1)), (by first | rfl | (simp; done) | (simp [*]; done)), H', ⟨by have := HK1.out; omega⟩, by repeat (first | exact Drawn0.refl _ | apply Drawn0.step)⟩
             · rw [if_neg c8] at H
               have c8b0 : ((rd l0 x13_1) == (rd l1 x13_1)) = false := beq_eq_false_iff_ne.mpr c8
               have c8b1 : ((rd l0 x13_1) != (rd l1 x13_1)) = true := bne_iff_ne.mpr c8
               obtain rfl := Option.some.inj H
               have p190 : 0 ≤ (x13_1 : Int) := of_decide_eq_true (by first | (with_reducible assumption) | assumption)
               have q190 : x13_1 < (l0.length : Int) := of_decide_eq_true (by first | (with_reducible assumption) | assumption)
               obtain ⟨ad190, e190, hx190_0⟩ := Kd.at_int HR0.out x13_1 p190 q190
               cases e190
               replace p190 := eq_true p190
               replace q190 := eq_true q190
               have p191 : 0 ≤ (x13_1 : Int) := of_decide_eq_true (by first | (with_reducible assumption) | assumption)
               have q191 : x13_1 < (l1.length : Int) := of_decide_eq_true (by first | (with_reducible assumption) | assumption)
               obtain ⟨ad191, e191, hx191_0⟩ := Kd.at_int HR1.out x13_1 p191 q191
               cases e191
               replace p191 := eq_true p191
               replace q191 := eq_true q191
               go_wp2
               repeat (go_quiet (fail); try go_wp2)
               go_ret
               exact ⟨by first | rfl | (simp; done) | (simp [*]; done), by repeat (first | exact Drawn0.refl _ | apply Drawn0.step)⟩
           · rw [if_neg c7] at H
             exact absurd H (by simp)
         · rw [if_neg c6] at H
           exact absurd H (by simp)
       · rw [if_neg c5] at H
         exact absurd H (by simp)
     · rw [if_neg c4] at H
       have c4b0 : decide (x13_1 < (l0.length : Int)) = false := decide_eq_false c4
       clear c4
       obtain rfl := Option.some.inj H
       go_wp2
       repeat (go_quiet (fail); try go_wp2)
       go_ret
       exact ⟨by first | rfl | (simp; done) | (simp [*]; done), by repeat (first | exact Drawn0.refl _ | apply Drawn0.step)⟩
 · rw [if_neg c3] at H
   have c3b0 : ((l0.length : Int) == (l1.length : Int)) = false := beq_eq_false_iff_ne.mpr c3
   have c3b1 : ((l0.length : Int) != (l1.length : Int)) = true := bne_iff_ne.mpr c3
   have c3b2 : (l0.length == l1.length) = false := by first | simpa using c3 | (simp at c3 ⊢; omega)
   obtain rfl := Option.some.inj H
   go_enter Try.func33, Try.ntmps33
   go_wp2
   repeat (go_quiet (fail); try go_wp2)
   go_ret
   exact ⟨by first | rfl | (simp; done) | (simp [*]; done), by repeat (first | exact Drawn0.refl _ | apply Drawn0.step)⟩
end Go.Proofs.Ytgdkgahbmfhgcaa.PN
namespace Go.Proofs.Ytgdkgahbmfhgcaa.NS
open Go Go.RowKit Go.Proofs.Ytgdkgahbmfhgcaa.PN Go.Proofs.Ytgdkgahbmfhgcaa.Limbs Go.Proofs.YtgdkgahbmfhgcaaW.PrintWords Go.Proofs.YtgdkgahbmfhgcaaW.PrintMore
theorem equal_ev (a b : List Int) (la : a.length ≤ 1000000) : Ev (fun k => slices_Equal_uint32_uint32.f k a b) (decide (a = b)) := by
 unfold slices_Equal_uint32_uint32.f
 by_cases hl : a.length = b.length
 · refine Ev.pos (by omega) ?_
   have key : ∀ d i : Nat, i + d = a.length → a.take i = b.take i → Ev (fun k => slices_Equal_uint32_uint32.l0 k a b (a.length : Int) (i : Int)) (decide (a = b)) := by
    intro d
    induction d with
    | zero =>
     intro i hi he
     refine Ev.succ ?_
     simp only [slices_Equal_uint32_uint32.l0]
     refine Ev.neg (by omega) (Ev.some_ _ ?_)
     rw [List.take_of_length_le (by omega), List.take_of_length_le (by omega)] at he
     simp [he]
    | succ d ih =>
     intro i hi he
     refine Ev.succ ?_
     simp only [slices_Equal_uint32_uint32.l0]
     rw [rdi a i (by omega), rdi b i (by omega), w64 (x := (i : Int) + 1) (by omega) (by omega)]
     refine Ev.pos (by omega) (Ev.pos (by omega) (Ev.pos (by omega) (Ev.pos (by omega) ?_)))
     by_cases c : a[i] = b[i]
     · refine Ev.pos c (ih (i + 1) (by omega) ?_)
       rw [List.take_succ_eq_append_getElem (by omega), List.take_succ_eq_append_getElem (l := b) (by omega), he, c]
     · refine Ev.neg c (Ev.some_ _ ?_)
       have : a ≠ b := fun e => c (by subst e; rfl)
       simp [this]
   exact key a.length 0 (by omega) rfl
 · refine Ev.neg (by omega) (Ev.some_ _ ?_)
   have : a ≠ b := fun e => hl (by rw [e])
   simp [this]
end Go.Proofs.Ytgdkgahbmfhgcaa.NS
namespace Go.Proofs.Ytgdkgahbmfhgcaa.PN
open Go.RowKit Go.Proofs.Ytgdkgahbmfhgcaa.NS Go.Proofs.Ytgdkgahbmfhgcaa.Limbs Go.Proofs.YtgdkgahbmfhgcaaW.PrintWords Go.Proofs.YtgdkgahbmfhgcaaW.PrintLast Go.Proofs.YtgdkgahbmfhgcaaW.PrintMore
def OkR (s : Bool) (m d : Nat) : Prop := (s = true → 0 < m) ∧ 0 < d ∧ Nat.gcd m d = 1 ∧ m < 4294967296 ^ 16 ∧ d < 4294967296 ^ 16
theorem fits16 {n : Nat} (h : n < 4294967296 ^ 16) : Fits n := Nat.lt_of_lt_of_le h (Nat.pow_le_pow_right (by omega) (by omega))
theorem len16 {n : Nat} (h : n < 4294967296 ^ 16) : (limbs n).length ≤ 16 := limbs_len_le h
theorem limbs_len0 {n : Nat} : ((limbs n).length == 0) = decide (n = 0) := by
 rcases Nat.eq_zero_or_pos n with h | h
 · subst h; rw [limbs_zero]; rfl
 · have h1 : n ≠ 0 := by omega
   have h2 : (limbs n).length ≠ 0 := fun e => limbs_ne h (List.eq_nil_of_length_eq_zero e)
   rw [decide_eq_false h1]
   exact beq_eq_false_iff_ne.mpr h2
theorem limbs_len0' {n : Nat} : (((limbs n).length : Int) == 0) = decide (n = 0) := by
 rw [← limbs_len0]
 rcases Nat.eq_zero_or_pos (limbs n).length with h | h
 · rw [h]; rfl
 · have h1 : ((limbs n).length == 0) = false := beq_eq_false_iff_ne.mpr (by omega)
   rw [h1]
   exact beq_eq_false_iff_ne.mpr (by omega)
theorem check_calls  (s : Bool) (m d : Nat) (ho : OkR s m d) (A0 : Option Addr) (c0 : Nat) (A1 : Option Addr) (c1 : Nat) (w : World)
 (hra : Kd.C (Kd.int .u32) w A0 (limbs m).length (limbs m)) (hca : (limbs m).length ≤ c0) (hrb : Kd.C (Kd.int .u32) w A1 (limbs d).length (limbs d)) (hcb : (limbs d).length ≤ c1) :
 Calls Try.prog 17 #[.agg #[.bool s, .slice A0 (limbs m).length c0, .slice A1 (limbs d).length c1]] w fun e w' => e = .returned (.int .i64 0) ∧ Below w.heap.size w w' := by
 have R_a := a0_ hra
 have C_a := a0_ hca
 clear hra hca
 have B_a := a0_ (Below.refl w.heap.size w)
 have R_b := a0_ hrb
 have C_b := a0_ hcb
 clear hrb hcb
 have B_b := a0_ (Below.refl w.heap.size w)
 have HB := a0_ (Below.refl w.heap.size w)
 obtain ⟨ho1, ho2, ho3, ho4, ho5⟩ := ho
 have hl1 := len16 ho4
 have hl2 := len16 ho5
 have hd1 : decide ((16 : Int) < ((limbs m).length : Int)) = false := decide_eq_false (by omega)
 have hd2 : decide ((16 : Int) < ((limbs d).length : Int)) = false := decide_eq_false (by omega)
 have hd3 : decide (16 < (limbs m).length) = false := decide_eq_false (by omega)
 have hd4 : decide (16 < (limbs d).length) = false := decide_eq_false (by omega)
 have hz1 : (((limbs d).length : Int) == 0) = false := by rw [limbs_len0']; exact decide_eq_false (by omega)
 have hz2 : ((limbs d).length == 0) = false := by rw [limbs_len0]; exact decide_eq_false (by omega)
 have HO := a0_ (And.intro ho1 (And.intro ho2 (And.intro ho3 (And.intro ho4 ho5))))
 obtain ⟨ke, hke⟩ := (equal_ev (limbs 1) (limbs 1) (by have := len_fits (n := 1) (by unfold Fits; exact Nat.one_lt_pow (by omega) (by omega)); omega)).rounds
 rw [decide_eq_true rfl] at hke
 have HE := a0_ hke
 clear hke hl1 hl2 ho1 ho2 ho3 ho4 ho5
 have hu30 := Try.underlying30
 cases s with
 | true =>
  have hm0 : m ≠ 0 := by have := HO.out.1 rfl; omega
  have hz3 : (((limbs m).length : Int) == 0) = false := by rw [limbs_len0']; exact decide_eq_false hm0
  have hz4 : ((limbs m).length == 0) = false := by rw [limbs_len0]; exact decide_eq_false hm0
  clear hm0
  go_enter Try.func17, Try.ntmps17
  go_wp2_with (first | ((with_reducible refine gd_ 1 rfl ?_); refine bx_ (N := 1) #[.bool true, .slice A0 (limbs m).length c0, .slice A1 (limbs d).length c1] 30 ?_; intro g_x hg w101 hbox hb; have G_x := rd_b HB hg; replace B_a := bl_b B_a hb; replace B_b := bl_b B_b hb; replace HB := bl_b HB hb; clear hb; have K_x := a0_ hbox; have B_x := a0_ (Below.refl w101.heap.size w101); clear hbox hg; have bk_x := blk_below K_x.out B_x.out; have hz_x_0 : w101.cell? ⟨g_x, 0, none⟩ = some (.bool true) := (blk_cell bk_x 0).trans rfl; have hz_x_1 : w101.cell? ⟨g_x, 1, none⟩ = some (.slice A0 (limbs m).length c0) := (blk_cell bk_x 1).trans rfl; have hz_x_2 : w101.cell? ⟨g_x, 2, none⟩ = some (.slice A1 (limbs d).length c1) := (blk_cell bk_x 2).trans rfl; clear bk_x))
  with_reducible refine (ngcd_calls m d (fits16 HO.out.2.2.2.1) (fits16 HO.out.2.2.2.2) _ _ _ _ _ (Kd.C_below R_a.out B_a.out) C_a.out (Kd.C_below R_b.out B_b.out) C_b.out).mono ?_
  rintro e w102 ⟨v, rfl, h1, hb⟩
  rw [HO.out.2.2.1] at h1
  clear hz_x_0 hz_x_1 hz_x_2
  have ho := h1
  clear h1
  obtain ⟨A_g, c_g, rfl, hlo, hC⟩ := Rd.reads ho
  clear ho
  replace B_a := bl_b B_a hb
  replace B_b := bl_b B_b hb
  replace HB := bl_b HB hb
  replace B_x := bl_b B_x hb
  clear hb
  have R_g := a0_ hC
  have C_g := a0_ hlo
  clear hC hlo
  have B_g := a0_ (Below.refl w102.heap.size w102)
  clear R_a C_a B_a
  clear R_b C_b B_b
  have bk_x := blk_below K_x.out B_x.out
  have hz_x_0 : w102.cell? ⟨g_x, 0, none⟩ = some (.bool true) := (blk_cell bk_x 0).trans rfl
  have hz_x_1 : w102.cell? ⟨g_x, 1, none⟩ = some (.slice A0 (limbs m).length c0) := (blk_cell bk_x 1).trans rfl
  have hz_x_2 : w102.cell? ⟨g_x, 2, none⟩ = some (.slice A1 (limbs d).length c1) := (blk_cell bk_x 2).trans rfl
  clear bk_x
  go_wp2_with fail
  with_reducible refine (one_calls _).mono ?_
  rintro e w103 ⟨v, rfl, ho, hb⟩
  clear hz_x_0 hz_x_1 hz_x_2
  obtain ⟨A_o, c_o, rfl, hlo, hC⟩ := Rd.reads ho
  clear ho
  replace B_g := bl_b B_g hb
  replace HB := bl_b HB hb
  replace B_x := bl_b B_x hb
  clear hb
  have R_o := a0_ hC
  have C_o := a0_ hlo
  clear hC hlo
  have B_o := a0_ (Below.refl w103.heap.size w103)
  go_wp2_with fail
  with_reducible refine (slices_Equal_uint32_uint32.calls ke _ _ (limbs 1) _ _ (limbs 1) _ _ (Kd.C_below R_g.out B_g.out) C_g.out (Kd.C_below R_o.out B_o.out) C_o.out HE.out).mono ?_
  rintro e w104 ⟨rfl, hb0⟩
  have hb := hb0.below
  clear hb0
  replace B_g := bl_b B_g hb
  replace B_o := bl_b B_o hb
  replace HB := bl_b HB hb
  replace B_x := bl_b B_x hb
  clear hb
  go_wp2_with fail
  go_ret
  exact ⟨rfl, HB.out⟩
 | false =>
  go_enter Try.func17, Try.ntmps17
  go_wp2_with (first | ((with_reducible refine gd_ 1 rfl ?_); refine bx_ (N := 1) #[.bool false, .slice A0 (limbs m).length c0, .slice A1 (limbs d).length c1] 30 ?_; intro g_x hg w101 hbox hb; have G_x := rd_b HB hg; replace B_a := bl_b B_a hb; replace B_b := bl_b B_b hb; replace HB := bl_b HB hb; clear hb; have K_x := a0_ hbox; have B_x := a0_ (Below.refl w101.heap.size w101); clear hbox hg; have bk_x := blk_below K_x.out B_x.out; have hz_x_0 : w101.cell? ⟨g_x, 0, none⟩ = some (.bool false) := (blk_cell bk_x 0).trans rfl; have hz_x_1 : w101.cell? ⟨g_x, 1, none⟩ = some (.slice A0 (limbs m).length c0) := (blk_cell bk_x 1).trans rfl; have hz_x_2 : w101.cell? ⟨g_x, 2, none⟩ = some (.slice A1 (limbs d).length c1) := (blk_cell bk_x 2).trans rfl; clear bk_x))
  with_reducible refine (ngcd_calls m d (fits16 HO.out.2.2.2.1) (fits16 HO.out.2.2.2.2) _ _ _ _ _ (Kd.C_below R_a.out B_a.out) C_a.out (Kd.C_below R_b.out B_b.out) C_b.out).mono ?_
  rintro e w102 ⟨v, rfl, h1, hb⟩
  rw [HO.out.2.2.1] at h1
  clear hz_x_0 hz_x_1 hz_x_2
  have ho := h1
  clear h1
  obtain ⟨A_g, c_g, rfl, hlo, hC⟩ := Rd.reads ho
  clear ho
  replace B_a := bl_b B_a hb
  replace B_b := bl_b B_b hb
  replace HB := bl_b HB hb
  replace B_x := bl_b B_x hb
  clear hb
  have R_g := a0_ hC
  have C_g := a0_ hlo
  clear hC hlo
  have B_g := a0_ (Below.refl w102.heap.size w102)
  clear R_a C_a B_a
  clear R_b C_b B_b
  have bk_x := blk_below K_x.out B_x.out
  have hz_x_0 : w102.cell? ⟨g_x, 0, none⟩ = some (.bool false) := (blk_cell bk_x 0).trans rfl
  have hz_x_1 : w102.cell? ⟨g_x, 1, none⟩ = some (.slice A0 (limbs m).length c0) := (blk_cell bk_x 1).trans rfl
  have hz_x_2 : w102.cell? ⟨g_x, 2, none⟩ = some (.slice A1 (limbs d).length c1) := (blk_cell bk_x 2).trans rfl
  clear bk_x
  go_wp2_with fail
  with_reducible refine (one_calls _).mono ?_
  rintro e w103 ⟨v, rfl, ho, hb⟩
  clear hz_x_0 hz_x_1 hz_x_2
  obtain ⟨A_o, c_o, rfl, hlo, hC⟩ := Rd.reads ho
  clear ho
  replace B_g := bl_b B_g hb
  replace HB := bl_b HB hb
  replace B_x := bl_b B_x hb
  clear hb
  have R_o := a0_ hC
  have C_o := a0_ hlo
  clear hC hlo
  have B_o := a0_ (Below.refl w103.heap.size w103)
  go_wp2_with fail
  with_reducible refine (slices_Equal_uint32_uint32.calls ke _ _ (limbs 1) _ _ (limbs 1) _ _ (Kd.C_below R_g.out B_g.out) C_g.out (Kd.C_below R_o.out B_o.out) C_o.out HE.out).mono ?_
  rintro e w104 ⟨rfl, hb0⟩
  have hb := hb0.below
  clear hb0
  replace B_g := bl_b B_g hb
  replace B_o := bl_b B_o hb
  replace HB := bl_b HB hb
  replace B_x := bl_b B_x hb
  clear hb
  go_wp2_with fail
  go_ret
  exact ⟨rfl, HB.out⟩
theorem rboth_calls  (s0 : Bool) (m0 d0 : Nat) (o0 : OkR s0 m0 d0) (s1 : Bool) (m1 d1 : Nat) (o1 : OkR s1 m1 d1) (A0 : Option Addr) (c0 : Nat) (A1 : Option Addr) (c1 : Nat) (A2 : Option Addr) (c2 : Nat) (A3 : Option Addr) (c3 : Nat) (w : World)
 (hrm0 : Kd.C (Kd.int .u32) w A0 (limbs m0).length (limbs m0)) (hcm0 : (limbs m0).length ≤ c0) (hrd0 : Kd.C (Kd.int .u32) w A1 (limbs d0).length (limbs d0)) (hcd0 : (limbs d0).length ≤ c1) (hrm1 : Kd.C (Kd.int .u32) w A2 (limbs m1).length (limbs m1)) (hcm1 : (limbs m1).length ≤ c2) (hrd1 : Kd.C (Kd.int .u32) w A3 (limbs d1).length (limbs d1)) (hcd1 : (limbs d1).length ≤ c3)  :
 Calls Try.prog 34 #[.agg #[.bool s0, .slice A0 (limbs m0).length c0, .slice A1 (limbs d0).length c1], .agg #[.bool s1, .slice A2 (limbs m1).length c2, .slice A3 (limbs d1).length c3]] w fun e w' => e = .returned (.int .i64 0) ∧ Below w.heap.size w w' := by
 have R_m0 := a0_ hrm0
 have C_m0 := a0_ hcm0
 clear hrm0 hcm0
 have B_m0 := a0_ (Below.refl w.heap.size w)
 have R_d0 := a0_ hrd0
 have C_d0 := a0_ hcd0
 clear hrd0 hcd0
 have B_d0 := a0_ (Below.refl w.heap.size w)
 have R_m1 := a0_ hrm1
 have C_m1 := a0_ hcm1
 clear hrm1 hcm1
 have B_m1 := a0_ (Below.refl w.heap.size w)
 have R_d1 := a0_ hrd1
 have C_d1 := a0_ hcd1
 clear hrd1 hcd1
 have B_d1 := a0_ (Below.refl w.heap.size w)
 have HB := a0_ (Below.refl w.heap.size w)
 have hu30 := Try.underlying30
 go_enter Try.func34, Try.ntmps34
 go_wp2_with (first | ((with_reducible refine gd_ 2 rfl ?_); refine bx_ (N := 2) #[.bool s0, .slice A0 (limbs m0).length c0, .slice A1 (limbs d0).length c1] 30 ?_; intro g_x hg w101 hbox hb; have G_x := rd_b HB hg; replace B_m0 := bl_b B_m0 hb; replace B_d0 := bl_b B_d0 hb; replace B_m1 := bl_b B_m1 hb; replace B_d1 := bl_b B_d1 hb; replace HB := bl_b HB hb; clear hb; have K_x := a0_ hbox; have B_x := a0_ (Below.refl w101.heap.size w101); clear hbox hg) | ((with_reducible refine gd_ 3 rfl ?_); refine bx_ (N := 3) #[.bool s1, .slice A2 (limbs m1).length c2, .slice A3 (limbs d1).length c3] 30 ?_; intro g_y hg w102 hbox hb; have G_y := rd_b HB hg; have N_y_x := rd_b B_x hg; replace B_m0 := bl_b B_m0 hb; replace B_d0 := bl_b B_d0 hb; replace B_m1 := bl_b B_m1 hb; replace B_d1 := bl_b B_d1 hb; replace HB := bl_b HB hb; replace B_x := bl_b B_x hb; clear hb; have K_y := a0_ hbox; have B_y := a0_ (Below.refl w102.heap.size w102); clear hbox hg; have bk_x := blk_below K_x.out B_x.out; have hz_x_0 : w102.cell? ⟨g_x, 0, none⟩ = some (.bool s0) := (blk_cell bk_x 0).trans rfl; have hz_x_1 : w102.cell? ⟨g_x, 1, none⟩ = some (.slice A0 (limbs m0).length c0) := (blk_cell bk_x 1).trans rfl; have hz_x_2 : w102.cell? ⟨g_x, 2, none⟩ = some (.slice A1 (limbs d0).length c1) := (blk_cell bk_x 2).trans rfl; clear bk_x))
 with_reducible refine (check_calls s0 m0 d0 o0 _ _ _ _ _ (Kd.C_below R_m0.out B_m0.out) C_m0.out (Kd.C_below R_d0.out B_d0.out) C_d0.out).mono ?_
 rintro e w103 ⟨rfl, hb⟩
 clear hz_x_0 hz_x_1 hz_x_2
 replace B_m0 := bl_b B_m0 hb
 replace B_d0 := bl_b B_d0 hb
 replace B_m1 := bl_b B_m1 hb
 replace B_d1 := bl_b B_d1 hb
 replace HB := bl_b HB hb
 replace B_x := bl_b B_x hb
 replace B_y := bl_b B_y hb
 clear hb
 have bk_y := blk_below K_y.out B_y.out
 have hz_y_0 : w103.cell? ⟨g_y, 0, none⟩ = some (.bool s1) := (blk_cell bk_y 0).trans rfl
 have hz_y_1 : w103.cell? ⟨g_y, 1, none⟩ = some (.slice A2 (limbs m1).length c2) := (blk_cell bk_y 1).trans rfl
 have hz_y_2 : w103.cell? ⟨g_y, 2, none⟩ = some (.slice A3 (limbs d1).length c3) := (blk_cell bk_y 2).trans rfl
 clear bk_y
 go_wp2_with fail
 with_reducible refine (check_calls s1 m1 d1 o1 _ _ _ _ _ (Kd.C_below R_m1.out B_m1.out) C_m1.out (Kd.C_below R_d1.out B_d1.out) C_d1.out).mono ?_
 rintro e w104 ⟨rfl, hb⟩
 clear hz_y_0 hz_y_1 hz_y_2
 replace B_m0 := bl_b B_m0 hb
 replace B_d0 := bl_b B_d0 hb
 replace B_m1 := bl_b B_m1 hb
 replace B_d1 := bl_b B_d1 hb
 replace HB := bl_b HB hb
 replace B_x := bl_b B_x hb
 replace B_y := bl_b B_y hb
 clear hb
 go_wp2_with fail
 go_ret
 exact ⟨rfl, HB.out⟩
theorem reduced_ok (neg : Bool) (m n : Nat) (hn0 : 0 < n) (hm : Fits m) (hn : Fits n) (hok : (m / Nat.gcd m n < 4294967296 ^ 16 ∧ n / Nat.gcd m n < 4294967296 ^ 16)) (A0 : Option Addr) (c0 : Nat) (A1 : Option Addr) (c1 : Nat) (w : World)
 (hra : Kd.C (Kd.int .u32) w A0 (limbs m).length (limbs m)) (hca : (limbs m).length ≤ c0) (hrb : Kd.C (Kd.int .u32) w A1 (limbs n).length (limbs n)) (hcb : (limbs n).length ≤ c1) :
 Calls Try.prog 35 #[.bool neg, .slice A0 (limbs m).length c0, .slice A1 (limbs n).length c1] w fun e w' => ∃ v1 v2, e = .returned (.tuple #[.agg #[.bool (neg && decide (0 < m / Nat.gcd m n)), v1, v2], .int .i64 0]) ∧ Rd w.heap.size w' v1 (limbs (m / Nat.gcd m n)) ∧ Rd w.heap.size w' v2 (limbs (n / Nat.gcd m n)) ∧ Below w.heap.size w w' := by
 have R_a := a0_ hra
 have C_a := a0_ hca
 clear hra hca
 have B_a := a0_ (Below.refl w.heap.size w)
 have R_b := a0_ hrb
 have C_b := a0_ hcb
 clear hrb hcb
 have B_b := a0_ (Below.refl w.heap.size w)
 have HB := a0_ (Below.refl w.heap.size w)
 have hu30 := Try.underlying30
 have hg0 : 0 < Nat.gcd m n := Nat.gcd_pos_of_pos_right _ hn0
 have hgf : Fits (Nat.gcd m n) := Nat.lt_of_le_of_lt (Nat.gcd_le_right _ hn0) hn
 obtain ⟨g, hg_⟩ : ∃ g, g = Nat.gcd m n := ⟨_, rfl⟩
 rw [← hg_] at hok hg0 hgf
 rw [← hg_]
 obtain ⟨M, hM⟩ : ∃ M, M = m / g := ⟨_, rfl⟩
 obtain ⟨D, hD⟩ : ∃ D, D = n / g := ⟨_, rfl⟩
 rw [← hM, ← hD] at hok
 rw [← hM, ← hD]
 have HI := a0_ (And.intro hg_ (And.intro hM (And.intro hD (And.intro hg0 hgf))))
 clear hg_ hM hD hg0 hgf
 have hlM : (limbs M).length ≤ 16 := len16 hok.1
 have hdM : decide ((16 : Int) < ((limbs M).length : Int)) = false := decide_eq_false (by omega)
 have hqM : decide (16 < (limbs M).length) = false := decide_eq_false (by omega)
 clear hlM
 have hlD : (limbs D).length ≤ 16 := len16 hok.2
 have hdD : decide ((16 : Int) < ((limbs D).length : Int)) = false := decide_eq_false (by omega)
 have hqD : decide (16 < (limbs D).length) = false := decide_eq_false (by omega)
 clear hlD
 have hnl : decide ((0 : Int) < ((limbs M).length : Int)) = decide (0 < M) := by
  rcases Nat.eq_zero_or_pos M with h | h
  · subst h; rw [limbs_zero]; rfl
  · have h2 : 0 < (limbs M).length := Nat.pos_of_ne_zero (fun e => limbs_ne h (List.eq_nil_of_length_eq_zero e))
    rw [decide_eq_true h, decide_eq_true (by omega)]
 have hnl2 : decide (0 < (limbs M).length) = decide (0 < M) := by
  rw [← hnl]; congr 1; exact propext (by omega)
 have HOK := a0_ hok
 clear hok
 cases neg with
 | true =>
  go_enter Try.func35, Try.ntmps35
  go_wp2_with (first | ((with_reducible refine gd_ 6 rfl ?_); refine bx_ (N := 6) #[.bool false, .slice none 0 0, .slice none 0 0] 30 ?_; intro g_r hg w101 hbox hb; have G_r := rd_b HB hg; replace B_a := bl_b B_a hb; replace B_b := bl_b B_b hb; replace HB := bl_b HB hb; clear hb; have K_r := a0_ hbox; have B_r := a0_ (Below.refl w101.heap.size w101); clear hbox hg))
  with_reducible refine (ngcd_calls m n hm hn _ _ _ _ _ (Kd.C_below R_a.out B_a.out) C_a.out (Kd.C_below R_b.out B_b.out) C_b.out).mono ?_
  rintro e w102 ⟨v, rfl, ho, hb⟩
  rw [← HI.out.1] at ho
  obtain ⟨A_g, c_g, rfl, hlo, hC⟩ := Rd.reads ho
  clear ho
  replace B_a := bl_b B_a hb
  replace B_b := bl_b B_b hb
  replace HB := bl_b HB hb
  replace B_r := bl_b B_r hb
  clear hb
  have R_g := a0_ hC
  have C_g := a0_ hlo
  clear hC hlo
  have B_g := a0_ (Below.refl w102.heap.size w102)
  have L_r : Aside0 (g_r < w102.heap.size) := ⟨blk_lt (blk_below K_r.out B_r.out)⟩
  have S_r : Aside0 (w.heap.size ≤ w102.heap.size) := ⟨below_size HB.out⟩
  go_wp2_with fail
  with_reducible refine (ndiv_calls m g HI.out.2.2.2.1 hm HI.out.2.2.2.2 _ _ _ _ _ (Kd.C_below R_a.out B_a.out) C_a.out (Kd.C_below R_g.out B_g.out) C_g.out).mono ?_
  rintro e w103 ⟨v1, v2, rfl, h1, h2, hb⟩
  rw [← HI.out.2.1] at h1
  have D_M := a0_ (Rd.lower h1 (show w102.heap.size ≤ w102.heap.size from Nat.le_refl _))
  obtain ⟨A_M, c_M, rfl, hlo, hC⟩ := Rd.reads h1
  obtain ⟨A_M2, c_M2, rfl, -, -⟩ := Rd.reads h2
  clear h1 h2 hC hlo
  replace B_a := bl_b B_a hb
  replace B_b := bl_b B_b hb
  replace B_g := bl_b B_g hb
  replace HB := bl_b HB hb
  replace B_r := bl_b B_r hb
  clear hb
  have B_M := a0_ (Below.refl w103.heap.size w103)
  go_wp2_with fail
  with_reducible refine (ndiv_calls n g HI.out.2.2.2.1 hn HI.out.2.2.2.2 _ _ _ _ _ (Kd.C_below R_b.out B_b.out) C_b.out (Kd.C_below R_g.out B_g.out) C_g.out).mono ?_
  rintro e w104 ⟨v1, v2, rfl, h1, h2, hb⟩
  rw [← HI.out.2.2.1] at h1
  have D_D := a0_ (Rd.lower h1 (show w102.heap.size ≤ w103.heap.size from below_size B_g.out))
  obtain ⟨A_D, c_D, rfl, hlo, hC⟩ := Rd.reads h1
  obtain ⟨A_D2, c_D2, rfl, -, -⟩ := Rd.reads h2
  clear h1 h2 hC hlo
  replace B_a := bl_b B_a hb
  replace B_b := bl_b B_b hb
  replace B_g := bl_b B_g hb
  replace HB := bl_b HB hb
  replace B_r := bl_b B_r hb
  replace B_M := bl_b B_M hb
  clear hb
  have B_D := a0_ (Below.refl w104.heap.size w104)
  have bk_r := blk_below K_r.out B_r.out
  have hz_r_0 : w104.cell? ⟨g_r, 0, none⟩ = some (.bool false) := (blk_cell bk_r 0).trans rfl
  have hf_r_0 := blk_frozen bk_r 0
  have hz_r_1 : w104.cell? ⟨g_r, 1, none⟩ = some (.slice none 0 0) := (blk_cell bk_r 1).trans rfl
  have hf_r_1 := blk_frozen bk_r 1
  have hz_r_2 : w104.cell? ⟨g_r, 2, none⟩ = some (.slice none 0 0) := (blk_cell bk_r 2).trans rfl
  have hf_r_2 := blk_frozen bk_r 2
  clear bk_r
  go_wp2_with fail
  refine bodyPost_ret (results_ct rfl _ _ g_r 30 #[.bool (decide (0 < M)), .slice A_M (limbs M).length c_M, .slice A_D (limbs D).length c_D] (0, 0) _ rfl (by (with_reducible repeat (first | refine blk_drewN ?_ _ | refine blk_drew ?_ | refine blk_alloc ?_ _)); refine blk_put (cs := #[.bool (decide (0 < M)), .slice A_M (limbs M).length c_M, .slice none 0 0]) ?_ 2 _ rfl; (with_reducible repeat (first | refine blk_drewN ?_ _ | refine blk_drew ?_ | refine blk_alloc ?_ _)); refine blk_put (cs := #[.bool (decide (0 < M)), .slice none 0 0, .slice none 0 0]) ?_ 1 _ rfl; (with_reducible repeat (first | refine blk_drewN ?_ _ | refine blk_drew ?_ | refine blk_alloc ?_ _)); refine blk_put (cs := #[.bool false, .slice none 0 0, .slice none 0 0]) ?_ 0 _ rfl; (with_reducible repeat (first | refine blk_drewN ?_ _ | refine blk_drew ?_ | refine blk_alloc ?_ _)); exact blk_below K_r.out B_r.out) Try.underlying30 rfl (by kernel_rfl)) rfl ?_
  exact ⟨_, _, by rw [Bool.true_and]; rfl, Rd.lower (Rd.set (Rd.set (Rd.set (Rd.below D_M.out B_M.out) _ L_r.out _) _ L_r.out _) _ L_r.out _) S_r.out, Rd.lower (Rd.set (Rd.set (Rd.set (Rd.below D_D.out B_D.out) _ L_r.out _) _ L_r.out _) _ L_r.out _) S_r.out, below_set (below_set (below_set HB.out G_r.out) G_r.out) G_r.out⟩
 | false =>
  go_enter Try.func35, Try.ntmps35
  go_wp2_with (first | ((with_reducible refine gd_ 6 rfl ?_); refine bx_ (N := 6) #[.bool false, .slice none 0 0, .slice none 0 0] 30 ?_; intro g_r hg w101 hbox hb; have G_r := rd_b HB hg; replace B_a := bl_b B_a hb; replace B_b := bl_b B_b hb; replace HB := bl_b HB hb; clear hb; have K_r := a0_ hbox; have B_r := a0_ (Below.refl w101.heap.size w101); clear hbox hg))
  with_reducible refine (ngcd_calls m n hm hn _ _ _ _ _ (Kd.C_below R_a.out B_a.out) C_a.out (Kd.C_below R_b.out B_b.out) C_b.out).mono ?_
  rintro e w102 ⟨v, rfl, ho, hb⟩
  rw [← HI.out.1] at ho
  obtain ⟨A_g, c_g, rfl, hlo, hC⟩ := Rd.reads ho
  clear ho
  replace B_a := bl_b B_a hb
  replace B_b := bl_b B_b hb
  replace HB := bl_b HB hb
  replace B_r := bl_b B_r hb
  clear hb
  have R_g := a0_ hC
  have C_g := a0_ hlo
  clear hC hlo
  have B_g := a0_ (Below.refl w102.heap.size w102)
  have L_r : Aside0 (g_r < w102.heap.size) := ⟨blk_lt (blk_below K_r.out B_r.out)⟩
  have S_r : Aside0 (w.heap.size ≤ w102.heap.size) := ⟨below_size HB.out⟩
  go_wp2_with fail
  with_reducible refine (ndiv_calls m g HI.out.2.2.2.1 hm HI.out.2.2.2.2 _ _ _ _ _ (Kd.C_below R_a.out B_a.out) C_a.out (Kd.C_below R_g.out B_g.out) C_g.out).mono ?_
  rintro e w103 ⟨v1, v2, rfl, h1, h2, hb⟩
  rw [← HI.out.2.1] at h1
  have D_M := a0_ (Rd.lower h1 (show w102.heap.size ≤ w102.heap.size from Nat.le_refl _))
  obtain ⟨A_M, c_M, rfl, hlo, hC⟩ := Rd.reads h1
  obtain ⟨A_M2, c_M2, rfl, -, -⟩ := Rd.reads h2
  clear h1 h2 hC hlo
  replace B_a := bl_b B_a hb
  replace B_b := bl_b B_b hb
  replace B_g := bl_b B_g hb
  replace HB := bl_b HB hb
  replace B_r := bl_b B_r hb
  clear hb
  have B_M := a0_ (Below.refl w103.heap.size w103)
  go_wp2_with fail
  with_reducible refine (ndiv_calls n g HI.out.2.2.2.1 hn HI.out.2.2.2.2 _ _ _ _ _ (Kd.C_below R_b.out B_b.out) C_b.out (Kd.C_below R_g.out B_g.out) C_g.out).mono ?_
  rintro e w104 ⟨v1, v2, rfl, h1, h2, hb⟩
  rw [← HI.out.2.2.1] at h1
  have D_D := a0_ (Rd.lower h1 (show w102.heap.size ≤ w103.heap.size from below_size B_g.out))
  obtain ⟨A_D, c_D, rfl, hlo, hC⟩ := Rd.reads h1
  obtain ⟨A_D2, c_D2, rfl, -, -⟩ := Rd.reads h2
  clear h1 h2 hC hlo
  replace B_a := bl_b B_a hb
  replace B_b := bl_b B_b hb
  replace B_g := bl_b B_g hb
  replace HB := bl_b HB hb
  replace B_r := bl_b B_r hb
  replace B_M := bl_b B_M hb
  clear hb
  have B_D := a0_ (Below.refl w104.heap.size w104)
  have bk_r := blk_below K_r.out B_r.out
  have hz_r_0 : w104.cell? ⟨g_r, 0, none⟩ = some (.bool false) := (blk_cell bk_r 0).trans rfl
  have hf_r_0 := blk_frozen bk_r 0
  have hz_r_1 : w104.cell? ⟨g_r, 1, none⟩ = some (.slice none 0 0) := (blk_cell bk_r 1).trans rfl
  have hf_r_1 := blk_frozen bk_r 1
  have hz_r_2 : w104.cell? ⟨g_r, 2, none⟩ = some (.slice none 0 0) := (blk_cell bk_r 2).trans rfl
  have hf_r_2 := blk_frozen bk_r 2
  clear bk_r
  go_wp2_with fail
  refine bodyPost_ret (results_ct rfl _ _ g_r 30 #[.bool false, .slice A_M (limbs M).length c_M, .slice A_D (limbs D).length c_D] (0, 0) _ rfl (by (with_reducible repeat (first | refine blk_drewN ?_ _ | refine blk_drew ?_ | refine blk_alloc ?_ _)); refine blk_put (cs := #[.bool false, .slice A_M (limbs M).length c_M, .slice none 0 0]) ?_ 2 _ rfl; (with_reducible repeat (first | refine blk_drewN ?_ _ | refine blk_drew ?_ | refine blk_alloc ?_ _)); refine blk_put (cs := #[.bool false, .slice none 0 0, .slice none 0 0]) ?_ 1 _ rfl; (with_reducible repeat (first | refine blk_drewN ?_ _ | refine blk_drew ?_ | refine blk_alloc ?_ _)); refine blk_put (cs := #[.bool false, .slice none 0 0, .slice none 0 0]) ?_ 0 _ rfl; (with_reducible repeat (first | refine blk_drewN ?_ _ | refine blk_drew ?_ | refine blk_alloc ?_ _)); exact blk_below K_r.out B_r.out) Try.underlying30 rfl (by kernel_rfl)) rfl ?_
  exact ⟨_, _, by rfl, Rd.lower (Rd.set (Rd.set (Rd.set (Rd.below D_M.out B_M.out) _ L_r.out _) _ L_r.out _) _ L_r.out _) S_r.out, Rd.lower (Rd.set (Rd.set (Rd.set (Rd.below D_D.out B_D.out) _ L_r.out _) _ L_r.out _) _ L_r.out _) S_r.out, below_set (below_set (below_set HB.out G_r.out) G_r.out) G_r.out⟩
theorem reduced_big (neg : Bool) (m n : Nat) (hn0 : 0 < n) (hm : Fits m) (hn : Fits n) (hok : ¬ (m / Nat.gcd m n < 4294967296 ^ 16 ∧ n / Nat.gcd m n < 4294967296 ^ 16)) (A0 : Option Addr) (c0 : Nat) (A1 : Option Addr) (c1 : Nat) (w : World)
 (hra : Kd.C (Kd.int .u32) w A0 (limbs m).length (limbs m)) (hca : (limbs m).length ≤ c0) (hrb : Kd.C (Kd.int .u32) w A1 (limbs n).length (limbs n)) (hcb : (limbs n).length ≤ c1) :
 Calls Try.prog 35 #[.bool neg, .slice A0 (limbs m).length c0, .slice A1 (limbs n).length c1] w fun e w' => e = .returned (.tuple #[.agg #[.bool false, .slice none 0 0, .slice none 0 0], .int .i64 20]) ∧ Below w.heap.size w w' := by
 have R_a := a0_ hra
 have C_a := a0_ hca
 clear hra hca
 have B_a := a0_ (Below.refl w.heap.size w)
 have R_b := a0_ hrb
 have C_b := a0_ hcb
 clear hrb hcb
 have B_b := a0_ (Below.refl w.heap.size w)
 have HB := a0_ (Below.refl w.heap.size w)
 have hu30 := Try.underlying30
 have hg0 : 0 < Nat.gcd m n := Nat.gcd_pos_of_pos_right _ hn0
 have hgf : Fits (Nat.gcd m n) := Nat.lt_of_le_of_lt (Nat.gcd_le_right _ hn0) hn
 obtain ⟨g, hg_⟩ : ∃ g, g = Nat.gcd m n := ⟨_, rfl⟩
 rw [← hg_] at hok hg0 hgf
 obtain ⟨M, hM⟩ : ∃ M, M = m / g := ⟨_, rfl⟩
 obtain ⟨D, hD⟩ : ∃ D, D = n / g := ⟨_, rfl⟩
 rw [← hM, ← hD] at hok
 have HI := a0_ (And.intro hg_ (And.intro hM (And.intro hD (And.intro hg0 hgf))))
 clear hg_ hM hD hg0 hgf
 by_cases hMb : M < 4294967296 ^ 16
 · have hDb : ¬ D < 4294967296 ^ 16 := fun h => hok ⟨hMb, h⟩
   have hlM : (limbs M).length ≤ 16 := len16 hMb
   have hdM : decide ((16 : Int) < ((limbs M).length : Int)) = false := decide_eq_false (by omega)
   have hqM : decide (16 < (limbs M).length) = false := decide_eq_false (by omega)
   clear hlM
   have hlD : 16 < (limbs D).length := Nat.lt_of_not_le (fun h => hDb (lt_of_limbs_len h))
   have hdD : decide ((16 : Int) < ((limbs D).length : Int)) = true := decide_eq_true (by omega)
   have hqD : decide (16 < (limbs D).length) = true := decide_eq_true (by omega)
   clear hlD
   clear hok hMb hDb
   go_enter Try.func35, Try.ntmps35
   go_wp2_with (first | ((with_reducible refine gd_ 6 rfl ?_); refine bx_ (N := 6) #[.bool false, .slice none 0 0, .slice none 0 0] 30 ?_; intro g_r hg w101 hbox hb; have G_r := rd_b HB hg; replace B_a := bl_b B_a hb; replace B_b := bl_b B_b hb; replace HB := bl_b HB hb; clear hb; have K_r := a0_ hbox; have B_r := a0_ (Below.refl w101.heap.size w101); clear hbox hg))
   with_reducible refine (ngcd_calls m n hm hn _ _ _ _ _ (Kd.C_below R_a.out B_a.out) C_a.out (Kd.C_below R_b.out B_b.out) C_b.out).mono ?_
   rintro e w102 ⟨v, rfl, ho, hb⟩
   rw [← HI.out.1] at ho
   obtain ⟨A_g, c_g, rfl, hlo, hC⟩ := Rd.reads ho
   clear ho
   replace B_a := bl_b B_a hb
   replace B_b := bl_b B_b hb
   replace HB := bl_b HB hb
   replace B_r := bl_b B_r hb
   clear hb
   have R_g := a0_ hC
   have C_g := a0_ hlo
   clear hC hlo
   have B_g := a0_ (Below.refl w102.heap.size w102)
   have L_r : Aside0 (g_r < w102.heap.size) := ⟨blk_lt (blk_below K_r.out B_r.out)⟩
   have S_r : Aside0 (w.heap.size ≤ w102.heap.size) := ⟨below_size HB.out⟩
   go_wp2_with fail
   with_reducible refine (ndiv_calls m g HI.out.2.2.2.1 hm HI.out.2.2.2.2 _ _ _ _ _ (Kd.C_below R_a.out B_a.out) C_a.out (Kd.C_below R_g.out B_g.out) C_g.out).mono ?_
   rintro e w103 ⟨v1, v2, rfl, h1, h2, hb⟩
   rw [← HI.out.2.1] at h1
   have D_M := a0_ (Rd.lower h1 (show w102.heap.size ≤ w102.heap.size from Nat.le_refl _))
   obtain ⟨A_M, c_M, rfl, hlo, hC⟩ := Rd.reads h1
   obtain ⟨A_M2, c_M2, rfl, -, -⟩ := Rd.reads h2
   clear h1 h2 hC hlo
   replace B_a := bl_b B_a hb
   replace B_b := bl_b B_b hb
   replace B_g := bl_b B_g hb
   replace HB := bl_b HB hb
   replace B_r := bl_b B_r hb
   clear hb
   have B_M := a0_ (Below.refl w103.heap.size w103)
   go_wp2_with fail
   with_reducible refine (ndiv_calls n g HI.out.2.2.2.1 hn HI.out.2.2.2.2 _ _ _ _ _ (Kd.C_below R_b.out B_b.out) C_b.out (Kd.C_below R_g.out B_g.out) C_g.out).mono ?_
   rintro e w104 ⟨v1, v2, rfl, h1, h2, hb⟩
   rw [← HI.out.2.2.1] at h1
   have D_D := a0_ (Rd.lower h1 (show w102.heap.size ≤ w103.heap.size from below_size B_g.out))
   obtain ⟨A_D, c_D, rfl, hlo, hC⟩ := Rd.reads h1
   obtain ⟨A_D2, c_D2, rfl, -, -⟩ := Rd.reads h2
   clear h1 h2 hC hlo
   replace B_a := bl_b B_a hb
   replace B_b := bl_b B_b hb
   replace B_g := bl_b B_g hb
   replace HB := bl_b HB hb
   replace B_r := bl_b B_r hb
   replace B_M := bl_b B_M hb
   clear hb
   have B_D := a0_ (Below.refl w104.heap.size w104)
   have bk_r := blk_below K_r.out B_r.out
   have hz_r_0 : w104.cell? ⟨g_r, 0, none⟩ = some (.bool false) := (blk_cell bk_r 0).trans rfl
   have hf_r_0 := blk_frozen bk_r 0
   have hz_r_1 : w104.cell? ⟨g_r, 1, none⟩ = some (.slice none 0 0) := (blk_cell bk_r 1).trans rfl
   have hf_r_1 := blk_frozen bk_r 1
   have hz_r_2 : w104.cell? ⟨g_r, 2, none⟩ = some (.slice none 0 0) := (blk_cell bk_r 2).trans rfl
   have hf_r_2 := blk_frozen bk_r 2
   clear bk_r
   go_wp2_with fail
   refine bodyPost_ret (results_ct rfl _ _ g_r 30 #[.bool false, .slice none 0 0, .slice none 0 0] (0, 0) _ rfl (by (with_reducible repeat (first | refine blk_drewN ?_ _ | refine blk_drew ?_ | refine blk_alloc ?_ _)); refine blk_put (cs := #[.bool false, .slice none 0 0, .slice none 0 0]) ?_ 2 _ rfl; (with_reducible repeat (first | refine blk_drewN ?_ _ | refine blk_drew ?_ | refine blk_alloc ?_ _)); refine blk_put (cs := #[.bool false, .slice none 0 0, .slice none 0 0]) ?_ 1 _ rfl; (with_reducible repeat (first | refine blk_drewN ?_ _ | refine blk_drew ?_ | refine blk_alloc ?_ _)); refine blk_put (cs := #[.bool false, .slice none 0 0, .slice none 0 0]) ?_ 0 _ rfl; (with_reducible repeat (first | refine blk_drewN ?_ _ | refine blk_drew ?_ | refine blk_alloc ?_ _)); exact blk_below K_r.out B_r.out) Try.underlying30 rfl (by kernel_rfl)) rfl ?_
   exact ⟨rfl, below_set (below_set (below_set HB.out G_r.out) G_r.out) G_r.out⟩
 · skip
   have hlM : 16 < (limbs M).length := Nat.lt_of_not_le (fun h => hMb (lt_of_limbs_len h))
   have hdM : decide ((16 : Int) < ((limbs M).length : Int)) = true := decide_eq_true (by omega)
   have hqM : decide (16 < (limbs M).length) = true := decide_eq_true (by omega)
   clear hlM
   clear hok hMb
   go_enter Try.func35, Try.ntmps35
   go_wp2_with (first | ((with_reducible refine gd_ 6 rfl ?_); refine bx_ (N := 6) #[.bool false, .slice none 0 0, .slice none 0 0] 30 ?_; intro g_r hg w101 hbox hb; have G_r := rd_b HB hg; replace B_a := bl_b B_a hb; replace B_b := bl_b B_b hb; replace HB := bl_b HB hb; clear hb; have K_r := a0_ hbox; have B_r := a0_ (Below.refl w101.heap.size w101); clear hbox hg))
   with_reducible refine (ngcd_calls m n hm hn _ _ _ _ _ (Kd.C_below R_a.out B_a.out) C_a.out (Kd.C_below R_b.out B_b.out) C_b.out).mono ?_
   rintro e w102 ⟨v, rfl, ho, hb⟩
   rw [← HI.out.1] at ho
   obtain ⟨A_g, c_g, rfl, hlo, hC⟩ := Rd.reads ho
   clear ho
   replace B_a := bl_b B_a hb
   replace B_b := bl_b B_b hb
   replace HB := bl_b HB hb
   replace B_r := bl_b B_r hb
   clear hb
   have R_g := a0_ hC
   have C_g := a0_ hlo
   clear hC hlo
   have B_g := a0_ (Below.refl w102.heap.size w102)
   have L_r : Aside0 (g_r < w102.heap.size) := ⟨blk_lt (blk_below K_r.out B_r.out)⟩
   have S_r : Aside0 (w.heap.size ≤ w102.heap.size) := ⟨below_size HB.out⟩
   go_wp2_with fail
   with_reducible refine (ndiv_calls m g HI.out.2.2.2.1 hm HI.out.2.2.2.2 _ _ _ _ _ (Kd.C_below R_a.out B_a.out) C_a.out (Kd.C_below R_g.out B_g.out) C_g.out).mono ?_
   rintro e w103 ⟨v1, v2, rfl, h1, h2, hb⟩
   rw [← HI.out.2.1] at h1
   have D_M := a0_ (Rd.lower h1 (show w102.heap.size ≤ w102.heap.size from Nat.le_refl _))
   obtain ⟨A_M, c_M, rfl, hlo, hC⟩ := Rd.reads h1
   obtain ⟨A_M2, c_M2, rfl, -, -⟩ := Rd.reads h2
   clear h1 h2 hC hlo
   replace B_a := bl_b B_a hb
   replace B_b := bl_b B_b hb
   replace B_g := bl_b B_g hb
   replace HB := bl_b HB hb
   replace B_r := bl_b B_r hb
   clear hb
   have B_M := a0_ (Below.refl w103.heap.size w103)
   go_wp2_with fail
   with_reducible refine (ndiv_calls n g HI.out.2.2.2.1 hn HI.out.2.2.2.2 _ _ _ _ _ (Kd.C_below R_b.out B_b.out) C_b.out (Kd.C_below R_g.out B_g.out) C_g.out).mono ?_
   rintro e w104 ⟨v1, v2, rfl, h1, h2, hb⟩
   rw [← HI.out.2.2.1] at h1
   have D_D := a0_ (Rd.lower h1 (show w102.heap.size ≤ w103.heap.size from below_size B_g.out))
   obtain ⟨A_D, c_D, rfl, hlo, hC⟩ := Rd.reads h1
   obtain ⟨A_D2, c_D2, rfl, -, -⟩ := Rd.reads h2
   clear h1 h2 hC hlo
   replace B_a := bl_b B_a hb
   replace B_b := bl_b B_b hb
   replace B_g := bl_b B_g hb
   replace HB := bl_b HB hb
   replace B_r := bl_b B_r hb
   replace B_M := bl_b B_M hb
   clear hb
   have B_D := a0_ (Below.refl w104.heap.size w104)
   have bk_r := blk_below K_r.out B_r.out
   have hz_r_0 : w104.cell? ⟨g_r, 0, none⟩ = some (.bool false) := (blk_cell bk_r 0).trans rfl
   have hf_r_0 := blk_frozen bk_r 0
   have hz_r_1 : w104.cell? ⟨g_r, 1, none⟩ = some (.slice none 0 0) := (blk_cell bk_r 1).trans rfl
   have hf_r_1 := blk_frozen bk_r 1
   have hz_r_2 : w104.cell? ⟨g_r, 2, none⟩ = some (.slice none 0 0) := (blk_cell bk_r 2).trans rfl
   have hf_r_2 := blk_frozen bk_r 2
   clear bk_r
   go_wp2_with fail
   refine bodyPost_ret (results_ct rfl _ _ g_r 30 #[.bool false, .slice none 0 0, .slice none 0 0] (0, 0) _ rfl (by (with_reducible repeat (first | refine blk_drewN ?_ _ | refine blk_drew ?_ | refine blk_alloc ?_ _)); refine blk_put (cs := #[.bool false, .slice none 0 0, .slice none 0 0]) ?_ 2 _ rfl; (with_reducible repeat (first | refine blk_drewN ?_ _ | refine blk_drew ?_ | refine blk_alloc ?_ _)); refine blk_put (cs := #[.bool false, .slice none 0 0, .slice none 0 0]) ?_ 1 _ rfl; (with_reducible repeat (first | refine blk_drewN ?_ _ | refine blk_drew ?_ | refine blk_alloc ?_ _)); refine blk_put (cs := #[.bool false, .slice none 0 0, .slice none 0 0]) ?_ 0 _ rfl; (with_reducible repeat (first | refine blk_drewN ?_ _ | refine blk_drew ?_ | refine blk_alloc ?_ _)); exact blk_below K_r.out B_r.out) Try.underlying30 rfl (by kernel_rfl)) rfl ?_
   exact ⟨rfl, below_set (below_set (below_set HB.out G_r.out) G_r.out) G_r.out⟩
theorem fits_mul {a b : Nat} (ha : a < 4294967296 ^ 16) (hb : b < 4294967296 ^ 16) : a * b < 4294967296 ^ 32 := by
 have h : a * b < 4294967296 ^ 16 * 4294967296 ^ 16 := Nat.mul_lt_mul'' ha hb
 rwa [← Nat.pow_add] at h
theorem fits32 {a : Nat} (h : a < 4294967296 ^ 32) : Fits a := Nat.lt_of_lt_of_le h (Nat.pow_le_pow_right (by omega) (by omega))
theorem fits_sum {a b : Nat} {s t : Bool} (ha : a < 4294967296 ^ 32) (hb : b < 4294967296 ^ 32) : Fits (sumB s a t b).2 := by
 have h := sumB_le s a t b
 have h1 : (4294967296 : Nat) ^ 32 + 4294967296 ^ 32 ≤ 4294967296 ^ 33 := by rw [Nat.pow_succ 4294967296 32]; omega
 exact Nat.lt_of_lt_of_le (show (sumB s a t b).2 < 4294967296 ^ 33 by omega) (Nat.pow_le_pow_right (by omega) (by omega))
def red (neg : Bool) (m n : Nat) : Bool × Nat × Nat × Int := if m / Nat.gcd m n < 4294967296 ^ 16 ∧ n / Nat.gcd m n < 4294967296 ^ 16 then (neg && decide (0 < m / Nat.gcd m n), m / Nat.gcd m n, n / Nat.gcd m n, 0) else (false, 0, 0, 20)
theorem reduced_calls (neg : Bool) (m n : Nat) (hn0 : 0 < n) (hm : Fits m) (hn : Fits n) (A0 : Option Addr) (c0 : Nat) (A1 : Option Addr) (c1 : Nat) (w : World)
 (hra : Kd.C (Kd.int .u32) w A0 (limbs m).length (limbs m)) (hca : (limbs m).length ≤ c0) (hrb : Kd.C (Kd.int .u32) w A1 (limbs n).length (limbs n)) (hcb : (limbs n).length ≤ c1) :
 Calls Try.prog 35 #[.bool neg, .slice A0 (limbs m).length c0, .slice A1 (limbs n).length c1] w fun e w' => ∃ v1 v2, e = .returned (.tuple #[.agg #[.bool (red neg m n).1, v1, v2], .int .i64 (red neg m n).2.2.2]) ∧ Rd w.heap.size w' v1 (limbs (red neg m n).2.1) ∧ Rd w.heap.size w' v2 (limbs (red neg m n).2.2.1) ∧ Below w.heap.size w w' := by
 by_cases h : m / Nat.gcd m n < 4294967296 ^ 16 ∧ n / Nat.gcd m n < 4294967296 ^ 16
 · have e : red neg m n = (neg && decide (0 < m / Nat.gcd m n), m / Nat.gcd m n, n / Nat.gcd m n, 0) := by unfold red; rw [if_pos h]
   rw [e]
   exact reduced_ok neg m n hn0 hm hn h _ _ _ _ _ hra hca hrb hcb
 · have e : red neg m n = (false, 0, 0, 20) := by unfold red; rw [if_neg h]
   rw [e, limbs_zero]
   refine (reduced_big neg m n hn0 hm hn h _ _ _ _ _ hra hca hrb hcb).mono ?_
   rintro e w' ⟨rfl, hb⟩
   exact ⟨_, _, rfl, Rd.nil _ _, Rd.nil _ _, hb⟩
def RAdd.T4 : Bool × List (List Nat × List Nat) := (true, [([], []), ([0], [0]), ([], []), ([2], [2]), ([], []), ([4], [4]), ([3, 5], [3, 5]), ([6], [6]), ([], []), ([8], [8]), ([], []), ([10], [10]), ([], []), ([12], [12]), ([11, 13], [11, 13]), ([14, 7], [14]), ([1, 7, 9, 15, 15], [1, 7, 9, 15]), ([16], [16]), ([17], [17]), ([17], [17]), ([18, 16, 0, 1, 2, 3, 4, 5, 6, 7, 8, 9, 10, 11, 12, 13, 14, 15, 16, 17, 18], [18]), ([19, 20, 0, 1, 2, 3, 4, 5, 6, 7, 8, 9, 10, 11, 12, 13, 14, 15, 16, 17, 18, 19, 20], [19])])
def RAdd.B4 : List Nat := [0, 1, 0, 4, 0, 16, 60, 124, 0, 256, 0, 1024, 0, 4096, 15360, 31996, 65535, 131071, 262143, 262143, 524287, 2097151]
theorem RAdd.tab4 : rtab .any (opsOf Try.f20 4) = RAdd.T4 := by kernel_rfl
theorem RAdd.bits4 : waitsOk RAdd.T4.2 RAdd.B4 = true := by kernel_rfl
theorem radd_calls  (s0 : Bool) (m0 d0 : Nat) (o0 : OkR s0 m0 d0) (s1 : Bool) (m1 d1 : Nat) (o1 : OkR s1 m1 d1) (A0 : Option Addr) (c0 : Nat) (A1 : Option Addr) (c1 : Nat) (A2 : Option Addr) (c2 : Nat) (A3 : Option Addr) (c3 : Nat) (w : World)
 (hrm0 : Kd.C (Kd.int .u32) w A0 (limbs m0).length (limbs m0)) (hcm0 : (limbs m0).length ≤ c0) (hrd0 : Kd.C (Kd.int .u32) w A1 (limbs d0).length (limbs d0)) (hcd0 : (limbs d0).length ≤ c1) (hrm1 : Kd.C (Kd.int .u32) w A2 (limbs m1).length (limbs m1)) (hcm1 : (limbs m1).length ≤ c2) (hrd1 : Kd.C (Kd.int .u32) w A3 (limbs d1).length (limbs d1)) (hcd1 : (limbs d1).length ≤ c3)  :
 Calls Try.prog 20 #[.agg #[.bool s0, .slice A0 (limbs m0).length c0, .slice A1 (limbs d0).length c1], .agg #[.bool s1, .slice A2 (limbs m1).length c2, .slice A3 (limbs d1).length c3]] w fun e w' => ∃ v1 v2, e = .returned (.tuple #[.agg #[.bool (red (sumB s0 (m0 * d1) (s1) (m1 * d0)).1 (sumB s0 (m0 * d1) (s1) (m1 * d0)).2 (d0 * d1)).1, v1, v2], .int .i64 (red (sumB s0 (m0 * d1) (s1) (m1 * d0)).1 (sumB s0 (m0 * d1) (s1) (m1 * d0)).2 (d0 * d1)).2.2.2]) ∧ Rd w.heap.size w' v1 (limbs (red (sumB s0 (m0 * d1) (s1) (m1 * d0)).1 (sumB s0 (m0 * d1) (s1) (m1 * d0)).2 (d0 * d1)).2.1) ∧ Rd w.heap.size w' v2 (limbs (red (sumB s0 (m0 * d1) (s1) (m1 * d0)).1 (sumB s0 (m0 * d1) (s1) (m1 * d0)).2 (d0 * d1)).2.2.1) ∧ Below w.heap.size w w' := by
 have R_m0 := a0_ hrm0
 have C_m0 := a0_ hcm0
 clear hrm0 hcm0
 have B_m0 := a0_ (Below.refl w.heap.size w)
 have R_d0 := a0_ hrd0
 have C_d0 := a0_ hcd0
 clear hrd0 hcd0
 have B_d0 := a0_ (Below.refl w.heap.size w)
 have R_m1 := a0_ hrm1
 have C_m1 := a0_ hcm1
 clear hrm1 hcm1
 have B_m1 := a0_ (Below.refl w.heap.size w)
 have R_d1 := a0_ hrd1
 have C_d1 := a0_ hcd1
 clear hrd1 hcd1
 have B_d1 := a0_ (Below.refl w.heap.size w)
 have HB := a0_ (Below.refl w.heap.size w)
 have hu30 := Try.underlying30
 have hu88 := Try.underlying88
 go_enter Try.func20, Try.ntmps20
 go_wp2_with (first | ((with_reducible refine gd_ 2 rfl ?_); refine bx_ (N := 2) #[.bool s0, .slice A0 (limbs m0).length c0, .slice A1 (limbs d0).length c1] 30 ?_; intro g_x hg w101 hbox hb; have G_x := rd_b HB hg; replace B_m0 := bl_b B_m0 hb; replace B_d0 := bl_b B_d0 hb; replace B_m1 := bl_b B_m1 hb; replace B_d1 := bl_b B_d1 hb; replace HB := bl_b HB hb; clear hb; have K_x := a0_ hbox; have B_x := a0_ (Below.refl w101.heap.size w101); clear hbox hg) | ((with_reducible refine gd_ 3 rfl ?_); refine bx_ (N := 3) #[.bool s1, .slice A2 (limbs m1).length c2, .slice A3 (limbs d1).length c3] 30 ?_; intro g_y hg w102 hbox hb; have G_y := rd_b HB hg; have N_y_x := rd_b B_x hg; replace B_m0 := bl_b B_m0 hb; replace B_d0 := bl_b B_d0 hb; replace B_m1 := bl_b B_m1 hb; replace B_d1 := bl_b B_d1 hb; replace HB := bl_b HB hb; replace B_x := bl_b B_x hb; clear hb; have K_y := a0_ hbox; have B_y := a0_ (Below.refl w102.heap.size w102); clear hbox hg) | ((with_reducible refine gd_ 4 rfl ?_); refine bx_ (N := 4) #[.bool false, .slice none 0 0, .slice none 0 0] 30 ?_; intro g_r hg w103 hbox hb; have G_r := rd_b HB hg; have N_r_x := rd_b B_x hg; have N_r_y := rd_b B_y hg; replace B_m0 := bl_b B_m0 hb; replace B_d0 := bl_b B_d0 hb; replace B_m1 := bl_b B_m1 hb; replace B_d1 := bl_b B_d1 hb; replace HB := bl_b HB hb; replace B_x := bl_b B_x hb; replace B_y := bl_b B_y hb; clear hb; have K_r := a0_ hbox; have B_r := a0_ (Below.refl w103.heap.size w103); clear hbox hg; have bk_x := blk_below K_x.out B_x.out; have hz_x_0 : w103.cell? ⟨g_x, 0, none⟩ = some (.bool s0) := (blk_cell bk_x 0).trans rfl; have hz_x_1 : w103.cell? ⟨g_x, 1, none⟩ = some (.slice A0 (limbs m0).length c0) := (blk_cell bk_x 1).trans rfl; have hz_x_2 : w103.cell? ⟨g_x, 2, none⟩ = some (.slice A1 (limbs d0).length c1) := (blk_cell bk_x 2).trans rfl; clear bk_x; have bk_y := blk_below K_y.out B_y.out; have hz_y_0 : w103.cell? ⟨g_y, 0, none⟩ = some (.bool s1) := (blk_cell bk_y 0).trans rfl; have hz_y_1 : w103.cell? ⟨g_y, 1, none⟩ = some (.slice A2 (limbs m1).length c2) := (blk_cell bk_y 1).trans rfl; have hz_y_2 : w103.cell? ⟨g_y, 2, none⟩ = some (.slice A3 (limbs d1).length c3) := (blk_cell bk_y 2).trans rfl; clear bk_y))
 with_reducible refine (rboth_calls s0 m0 d0 o0 s1 m1 d1 o1 _ _ _ _ _ _ _ _ _ (Kd.C_below R_m0.out B_m0.out) C_m0.out (Kd.C_below R_d0.out B_d0.out) C_d0.out (Kd.C_below R_m1.out B_m1.out) C_m1.out (Kd.C_below R_d1.out B_d1.out) C_d1.out).mono ?_
 rintro e w104 ⟨rfl, hb⟩
 clear hz_x_0 hz_x_1 hz_x_2
 clear hz_y_0 hz_y_1 hz_y_2
 replace B_m0 := bl_b B_m0 hb
 replace B_d0 := bl_b B_d0 hb
 replace B_m1 := bl_b B_m1 hb
 replace B_d1 := bl_b B_d1 hb
 replace HB := bl_b HB hb
 replace B_x := bl_b B_x hb
 replace B_y := bl_b B_y hb
 replace B_r := bl_b B_r hb
 clear hb
 go_wp2_with fail
 have hb : Below w104.heap.size w104 w104.drew := below_drew1 (Below.refl _ _)
 replace B_m0 := bl_b B_m0 hb
 replace B_d0 := bl_b B_d0 hb
 replace B_m1 := bl_b B_m1 hb
 replace B_d1 := bl_b B_d1 hb
 replace HB := bl_b HB hb
 replace B_x := bl_b B_x hb
 replace B_y := bl_b B_y hb
 replace B_r := bl_b B_r hb
 clear hb
 have bk_x := blk_below K_x.out B_x.out
 have hz_x_0 : w104.drew.cell? ⟨g_x, 0, none⟩ = some (.bool s0) := (blk_cell bk_x 0).trans rfl
 have hz_x_1 : w104.drew.cell? ⟨g_x, 1, none⟩ = some (.slice A0 (limbs m0).length c0) := (blk_cell bk_x 1).trans rfl
 have hz_x_2 : w104.drew.cell? ⟨g_x, 2, none⟩ = some (.slice A1 (limbs d0).length c1) := (blk_cell bk_x 2).trans rfl
 clear bk_x
 have bk_y := blk_below K_y.out B_y.out
 have hz_y_0 : w104.drew.cell? ⟨g_y, 0, none⟩ = some (.bool s1) := (blk_cell bk_y 0).trans rfl
 have hz_y_1 : w104.drew.cell? ⟨g_y, 1, none⟩ = some (.slice A2 (limbs m1).length c2) := (blk_cell bk_y 1).trans rfl
 have hz_y_2 : w104.drew.cell? ⟨g_y, 2, none⟩ = some (.slice A3 (limbs d1).length c3) := (blk_cell bk_y 2).trans rfl
 clear bk_y
 refine start_ (n := 22) (S := fun w' => w'.cell? ⟨g_x, 0, none⟩ = some (.bool s0) ∧ w'.cell? ⟨g_x, 1, none⟩ = some (.slice A0 (limbs m0).length c0) ∧ w'.cell? ⟨g_x, 2, none⟩ = some (.slice A1 (limbs d0).length c1) ∧ w'.cell? ⟨g_y, 0, none⟩ = some (.bool s1) ∧ w'.cell? ⟨g_y, 1, none⟩ = some (.slice A2 (limbs m1).length c2) ∧ w'.cell? ⟨g_y, 2, none⟩ = some (.slice A3 (limbs d1).length c3)) (ds := []) (tB_ 22 0) (by kernel_rfl) rfl (by kernel_rfl) ⟨hz_x_0, hz_x_1, hz_x_2, hz_y_0, hz_y_1, hz_y_2⟩ (fun hHeld => ?_)
 refine with_tabW RAdd.tab4 RAdd.bits4 (fun HT_ HW_ => ?_)
 clear hz_x_0 hz_x_1 hz_x_2 hz_y_0 hz_y_1 hz_y_2
 generalize w104.drew = w105 at B_m0 B_d0 B_m1 B_d1 HB B_x B_y B_r hHeld ⊢
 refine pu_ 0 (some 17) 1 HT_ ?_
 refine pu_ 2 (some 19) 5 HT_ ?_
 refine pu_ 4 (some 21) 21 HT_ ?_
 refine pu_ 8 (some 25) 277 HT_ ?_
 refine pu_ 10 (some 27) 1301 HT_ ?_
 refine pu_ 12 (some 29) 5397 HT_ ?_
 refine tk_ 1 (some 18) 5399 HT_ HW_ hHeld ?_ ?_ ?_ ?_ ?_
 rotate_left
 · rintro w' ⟨s0, s1, s2, s3, s4, s5⟩
   go_simp
   with_reducible rfl
 rotate_left
 · simp only [PU]
   rfl
 refine tk_ 3 (some 20) 5407 HT_ HW_ hHeld ?_ ?_ ?_ ?_ ?_
 rotate_left
 · rintro w' ⟨s0, s1, s2, s3, s4, s5⟩
   go_simp
   with_reducible rfl
 rotate_left
 · simp only [PU]
   rfl
 refine tk_ 5 (some 22) 5439 HT_ HW_ hHeld ?_ ?_ ?_ ?_ ?_
 rotate_left
 · rintro w' ⟨s0, s1, s2, s3, s4, s5⟩
   go_simp
   with_reducible rfl
 rotate_left
 · simp only [PU]
   rfl
 refine tk_ 9 (some 26) 5951 HT_ HW_ hHeld ?_ ?_ ?_ ?_ ?_
 rotate_left
 · rintro w' ⟨s0, s1, s2, s3, s4, s5⟩
   go_simp
   with_reducible rfl
 rotate_left
 · simp only [PU]
   rfl
 refine tk_ 11 (some 28) 7999 HT_ HW_ hHeld ?_ ?_ ?_ ?_ ?_
 rotate_left
 · rintro w' ⟨s0, s1, s2, s3, s4, s5⟩
   go_simp
   with_reducible rfl
 rotate_left
 · simp only [PU]
   rfl
 refine tk_ 13 (some 30) 16191 HT_ HW_ hHeld ?_ ?_ ?_ ?_ ?_
 rotate_left
 · rintro w' ⟨s0, s1, s2, s3, s4, s5⟩
   go_simp
   with_reducible rfl
 rotate_left
 · simp only [PU]
   rfl
 have B_z := a0_ (Below.refl w105.heap.size w105)
 refine join_ (σ := Value × Value × Value × Value) 6 (tB_ 22 65535) (fun s => [(23, s.1), (24, s.2.1), (31, s.2.2.1), (32, s.2.2.2)]) (fun s w' => Rd w105.heap.size w' s.2.1 (limbs (m0 * d1)) ∧ Rd w105.heap.size w' s.2.2.2 (limbs (m1 * d0)) ∧ Below w105.heap.size w105 w' ∧ (w'.cell? ⟨g_x, 0, none⟩ = some (.bool s0) ∧ w'.cell? ⟨g_x, 1, none⟩ = some (.slice A0 (limbs m0).length c0) ∧ w'.cell? ⟨g_x, 2, none⟩ = some (.slice A1 (limbs d0).length c1) ∧ w'.cell? ⟨g_y, 0, none⟩ = some (.bool s1) ∧ w'.cell? ⟨g_y, 1, none⟩ = some (.slice A2 (limbs m1).length c2) ∧ w'.cell? ⟨g_y, 2, none⟩ = some (.slice A3 (limbs d1).length c3))) ?hcont ?hord
 rotate_left
 · intro HC
   refine tw_ 6 14 (some 23) (some 31) 16255 32575 HT_ (fun K hK => ?_) (fun K hK => ?_)
   · skip
     refine vl_ ?_
     refine hK.out _ _ (by obtain ⟨q0, q1, q2, q3, q4, q5⟩ := hHeld; exact ⟨pw_cell_below (below_alloc (Below.refl _ _) _) q0, pw_cell_below (below_alloc (Below.refl _ _) _) q1, pw_cell_below (below_alloc (Below.refl _ _) _) q2, pw_cell_below (below_alloc (Below.refl _ _) _) q3, pw_cell_below (below_alloc (Below.refl _ _) _) q4, pw_cell_below (below_alloc (Below.refl _ _) _) q5⟩) (fun hHeld => ?_)
     clear hK K
     refine nm_ (some 23) ?_
     have hb : Below w105.heap.size w105 (w105.alloc (.cells #[.slice A0 (limbs m0).length c0, .slice A3 (limbs d1).length c3] 28 (0, 0))) := below_alloc (Below.refl _ _) _
     have hl0 : (w105.alloc (.cells #[.slice A0 (limbs m0).length c0, .slice A3 (limbs d1).length c3] 28 (0, 0))).cell? ⟨w105.heap.size, 0, none⟩ = some (.slice A0 (limbs m0).length c0) := (blk_cell (blk_new w105 _) 0).trans rfl
     have hl1 : (w105.alloc (.cells #[.slice A0 (limbs m0).length c0, .slice A3 (limbs d1).length c3] 28 (0, 0))).cell? ⟨w105.heap.size, 1, none⟩ = some (.slice A3 (limbs d1).length c3) := (blk_cell (blk_new w105 _) 1).trans rfl
     obtain ⟨w106, hw_⟩ : ∃ x, x = w105.alloc (.cells #[.slice A0 (limbs m0).length c0, .slice A3 (limbs d1).length c3] 28 (0, 0)) := ⟨_, rfl⟩
     rw [← hw_] at hb hl0 hl1 hHeld ⊢
     obtain ⟨gl0, hgl0⟩ : ∃ x, x = w105.heap.size := ⟨_, rfl⟩
     rw [← hgl0] at hl0 hl1 ⊢
     clear hgl0 hw_
     replace B_m0 := bl_b B_m0 hb
     replace B_d0 := bl_b B_d0 hb
     replace B_m1 := bl_b B_m1 hb
     replace B_d1 := bl_b B_d1 hb
     replace HB := bl_b HB hb
     replace B_x := bl_b B_x hb
     replace B_y := bl_b B_y hb
     replace B_r := bl_b B_r hb
     replace B_z := bl_b B_z hb
     clear hb
     have LA0 := a0_ hl0
     have LB0 := a0_ hl1
     clear hl0 hl1
     have B_L0 := a0_ (Below.refl w106.heap.size w106)
     refine tw_ 7 14 (some 24) (some 31) 16383 32639 HT_ (fun K hK => ?_) (fun K hK => ?_)
     · skip
       refine gs_ Try.func36 #[.slice (some ⟨gl0, 0, none⟩) 2 2] ?_
       refine (product2_calls m0 d1 (fits16 o0.2.2.2.1) (fits16 o1.2.2.2.2) gl0 _ _ _ _ _ (pw_cell_below B_L0.out LA0.out) (pw_cell_below B_L0.out LB0.out) (Kd.C_below R_m0.out B_m0.out) C_m0.out (Kd.C_below R_d1.out B_d1.out) C_d1.out).mono ?_
       rintro e w107 ⟨v0, rfl, h1, hb⟩
       refine ⟨_, rfl, ?_⟩
       refine hK.out _ _ (by obtain ⟨q0, q1, q2, q3, q4, q5⟩ := hHeld; exact ⟨pw_cell_below hb q0, pw_cell_below hb q1, pw_cell_below hb q2, pw_cell_below hb q3, pw_cell_below hb q4, pw_cell_below hb q5⟩) (fun hHeld => ?_)
       clear hK K
       refine nm_ (some 24) ?_
       have D_p0 := a0_ (Rd.lower h1 (below_size B_z.out))
       clear h1
       replace B_m0 := bl_b B_m0 hb
       replace B_d0 := bl_b B_d0 hb
       replace B_m1 := bl_b B_m1 hb
       replace B_d1 := bl_b B_d1 hb
       replace HB := bl_b HB hb
       replace B_x := bl_b B_x hb
       replace B_y := bl_b B_y hb
       replace B_r := bl_b B_r hb
       replace B_z := bl_b B_z hb
       replace B_L0 := bl_b B_L0 hb
       clear hb
       have B_p0 := a0_ (Below.refl w107.heap.size w107)
       refine on_ 14 (some 31) 32767 HT_ (fun K hK => ?_)
       refine vl_ ?_
       refine hK.out _ _ (by obtain ⟨q0, q1, q2, q3, q4, q5⟩ := hHeld; exact ⟨pw_cell_below (below_alloc (Below.refl _ _) _) q0, pw_cell_below (below_alloc (Below.refl _ _) _) q1, pw_cell_below (below_alloc (Below.refl _ _) _) q2, pw_cell_below (below_alloc (Below.refl _ _) _) q3, pw_cell_below (below_alloc (Below.refl _ _) _) q4, pw_cell_below (below_alloc (Below.refl _ _) _) q5⟩) (fun hHeld => ?_)
       clear hK K
       refine nm_ (some 31) ?_
       have hb : Below w107.heap.size w107 (w107.alloc (.cells #[.slice A2 (limbs m1).length c2, .slice A1 (limbs d0).length c1] 28 (0, 0))) := below_alloc (Below.refl _ _) _
       have hl0 : (w107.alloc (.cells #[.slice A2 (limbs m1).length c2, .slice A1 (limbs d0).length c1] 28 (0, 0))).cell? ⟨w107.heap.size, 0, none⟩ = some (.slice A2 (limbs m1).length c2) := (blk_cell (blk_new w107 _) 0).trans rfl
       have hl1 : (w107.alloc (.cells #[.slice A2 (limbs m1).length c2, .slice A1 (limbs d0).length c1] 28 (0, 0))).cell? ⟨w107.heap.size, 1, none⟩ = some (.slice A1 (limbs d0).length c1) := (blk_cell (blk_new w107 _) 1).trans rfl
       obtain ⟨w108, hw_⟩ : ∃ x, x = w107.alloc (.cells #[.slice A2 (limbs m1).length c2, .slice A1 (limbs d0).length c1] 28 (0, 0)) := ⟨_, rfl⟩
       rw [← hw_] at hb hl0 hl1 hHeld ⊢
       obtain ⟨gl1, hgl1⟩ : ∃ x, x = w107.heap.size := ⟨_, rfl⟩
       rw [← hgl1] at hl0 hl1 ⊢
       clear hgl1 hw_
       replace B_m0 := bl_b B_m0 hb
       replace B_d0 := bl_b B_d0 hb
       replace B_m1 := bl_b B_m1 hb
       replace B_d1 := bl_b B_d1 hb
       replace HB := bl_b HB hb
       replace B_x := bl_b B_x hb
       replace B_y := bl_b B_y hb
       replace B_r := bl_b B_r hb
       replace B_z := bl_b B_z hb
       replace B_L0 := bl_b B_L0 hb
       replace B_p0 := bl_b B_p0 hb
       clear hb
       have LA1 := a0_ hl0
       have LB1 := a0_ hl1
       clear hl0 hl1
       have B_L1 := a0_ (Below.refl w108.heap.size w108)
       refine on_ 15 (some 32) 65535 HT_ (fun K hK => ?_)
       refine gs_ Try.func36 #[.slice (some ⟨gl1, 0, none⟩) 2 2] ?_
       refine (product2_calls m1 d0 (fits16 o1.2.2.2.1) (fits16 o0.2.2.2.2) gl1 _ _ _ _ _ (pw_cell_below B_L1.out LA1.out) (pw_cell_below B_L1.out LB1.out) (Kd.C_below R_m1.out B_m1.out) C_m1.out (Kd.C_below R_d0.out B_d0.out) C_d0.out).mono ?_
       rintro e w109 ⟨v1, rfl, h1, hb⟩
       refine ⟨_, rfl, ?_⟩
       refine hK.out _ _ (by obtain ⟨q0, q1, q2, q3, q4, q5⟩ := hHeld; exact ⟨pw_cell_below hb q0, pw_cell_below hb q1, pw_cell_below hb q2, pw_cell_below hb q3, pw_cell_below hb q4, pw_cell_below hb q5⟩) (fun hHeld => ?_)
       clear hK K
       refine nm_ (some 32) ?_
       have D_p1 := a0_ (Rd.lower h1 (below_size B_z.out))
       clear h1
       replace B_m0 := bl_b B_m0 hb
       replace B_d0 := bl_b B_d0 hb
       replace B_m1 := bl_b B_m1 hb
       replace B_d1 := bl_b B_d1 hb
       replace HB := bl_b HB hb
       replace B_x := bl_b B_x hb
       replace B_y := bl_b B_y hb
       replace B_r := bl_b B_r hb
       replace B_z := bl_b B_z hb
       replace B_L0 := bl_b B_L0 hb
       replace B_p0 := bl_b B_p0 hb
       replace B_L1 := bl_b B_L1 hb
       clear hb
       have B_p1 := a0_ (Below.refl w109.heap.size w109)
       exact HC (.slice (some ⟨gl0, 0, none⟩) 2 2, v0, .slice (some ⟨gl1, 0, none⟩) 2 2, v1) _ ⟨Rd.below D_p0.out B_p0.out, Rd.below D_p1.out B_p1.out, B_z.out, hHeld⟩
     · skip
       refine vl_ ?_
       refine hK.out _ _ (by obtain ⟨q0, q1, q2, q3, q4, q5⟩ := hHeld; exact ⟨pw_cell_below (below_alloc (Below.refl _ _) _) q0, pw_cell_below (below_alloc (Below.refl _ _) _) q1, pw_cell_below (below_alloc (Below.refl _ _) _) q2, pw_cell_below (below_alloc (Below.refl _ _) _) q3, pw_cell_below (below_alloc (Below.refl _ _) _) q4, pw_cell_below (below_alloc (Below.refl _ _) _) q5⟩) (fun hHeld => ?_)
       clear hK K
       refine nm_ (some 31) ?_
       have hb : Below w106.heap.size w106 (w106.alloc (.cells #[.slice A2 (limbs m1).length c2, .slice A1 (limbs d0).length c1] 28 (0, 0))) := below_alloc (Below.refl _ _) _
       have hl0 : (w106.alloc (.cells #[.slice A2 (limbs m1).length c2, .slice A1 (limbs d0).length c1] 28 (0, 0))).cell? ⟨w106.heap.size, 0, none⟩ = some (.slice A2 (limbs m1).length c2) := (blk_cell (blk_new w106 _) 0).trans rfl
       have hl1 : (w106.alloc (.cells #[.slice A2 (limbs m1).length c2, .slice A1 (limbs d0).length c1] 28 (0, 0))).cell? ⟨w106.heap.size, 1, none⟩ = some (.slice A1 (limbs d0).length c1) := (blk_cell (blk_new w106 _) 1).trans rfl
       obtain ⟨w107, hw_⟩ : ∃ x, x = w106.alloc (.cells #[.slice A2 (limbs m1).length c2, .slice A1 (limbs d0).length c1] 28 (0, 0)) := ⟨_, rfl⟩
       rw [← hw_] at hb hl0 hl1 hHeld ⊢
       obtain ⟨gl1, hgl1⟩ : ∃ x, x = w106.heap.size := ⟨_, rfl⟩
       rw [← hgl1] at hl0 hl1 ⊢
       clear hgl1 hw_
       replace B_m0 := bl_b B_m0 hb
       replace B_d0 := bl_b B_d0 hb
       replace B_m1 := bl_b B_m1 hb
       replace B_d1 := bl_b B_d1 hb
       replace HB := bl_b HB hb
       replace B_x := bl_b B_x hb
       replace B_y := bl_b B_y hb
       replace B_r := bl_b B_r hb
       replace B_z := bl_b B_z hb
       replace B_L0 := bl_b B_L0 hb
       clear hb
       have LA1 := a0_ hl0
       have LB1 := a0_ hl1
       clear hl0 hl1
       have B_L1 := a0_ (Below.refl w107.heap.size w107)
       refine on_ 7 (some 24) 32767 HT_ (fun K hK => ?_)
       refine gs_ Try.func36 #[.slice (some ⟨gl0, 0, none⟩) 2 2] ?_
       refine (product2_calls m0 d1 (fits16 o0.2.2.2.1) (fits16 o1.2.2.2.2) gl0 _ _ _ _ _ (pw_cell_below B_L0.out LA0.out) (pw_cell_below B_L0.out LB0.out) (Kd.C_below R_m0.out B_m0.out) C_m0.out (Kd.C_below R_d1.out B_d1.out) C_d1.out).mono ?_
       rintro e w108 ⟨v0, rfl, h1, hb⟩
       refine ⟨_, rfl, ?_⟩
       refine hK.out _ _ (by obtain ⟨q0, q1, q2, q3, q4, q5⟩ := hHeld; exact ⟨pw_cell_below hb q0, pw_cell_below hb q1, pw_cell_below hb q2, pw_cell_below hb q3, pw_cell_below hb q4, pw_cell_below hb q5⟩) (fun hHeld => ?_)
       clear hK K
       refine nm_ (some 24) ?_
       have D_p0 := a0_ (Rd.lower h1 (below_size B_z.out))
       clear h1
       replace B_m0 := bl_b B_m0 hb
       replace B_d0 := bl_b B_d0 hb
       replace B_m1 := bl_b B_m1 hb
       replace B_d1 := bl_b B_d1 hb
       replace HB := bl_b HB hb
       replace B_x := bl_b B_x hb
       replace B_y := bl_b B_y hb
       replace B_r := bl_b B_r hb
       replace B_z := bl_b B_z hb
       replace B_L0 := bl_b B_L0 hb
       replace B_L1 := bl_b B_L1 hb
       clear hb
       have B_p0 := a0_ (Below.refl w108.heap.size w108)
       refine on_ 15 (some 32) 65535 HT_ (fun K hK => ?_)
       refine gs_ Try.func36 #[.slice (some ⟨gl1, 0, none⟩) 2 2] ?_
       refine (product2_calls m1 d0 (fits16 o1.2.2.2.1) (fits16 o0.2.2.2.2) gl1 _ _ _ _ _ (pw_cell_below B_L1.out LA1.out) (pw_cell_below B_L1.out LB1.out) (Kd.C_below R_m1.out B_m1.out) C_m1.out (Kd.C_below R_d0.out B_d0.out) C_d0.out).mono ?_
       rintro e w109 ⟨v1, rfl, h1, hb⟩
       refine ⟨_, rfl, ?_⟩
       refine hK.out _ _ (by obtain ⟨q0, q1, q2, q3, q4, q5⟩ := hHeld; exact ⟨pw_cell_below hb q0, pw_cell_below hb q1, pw_cell_below hb q2, pw_cell_below hb q3, pw_cell_below hb q4, pw_cell_below hb q5⟩) (fun hHeld => ?_)
       clear hK K
       refine nm_ (some 32) ?_
       have D_p1 := a0_ (Rd.lower h1 (below_size B_z.out))
       clear h1
       replace B_m0 := bl_b B_m0 hb
       replace B_d0 := bl_b B_d0 hb
       replace B_m1 := bl_b B_m1 hb
       replace B_d1 := bl_b B_d1 hb
       replace HB := bl_b HB hb
       replace B_x := bl_b B_x hb
       replace B_y := bl_b B_y hb
       replace B_r := bl_b B_r hb
       replace B_z := bl_b B_z hb
       replace B_L0 := bl_b B_L0 hb
       replace B_L1 := bl_b B_L1 hb
       replace B_p0 := bl_b B_p0 hb
       clear hb
       have B_p1 := a0_ (Below.refl w109.heap.size w109)
       exact HC (.slice (some ⟨gl0, 0, none⟩) 2 2, v0, .slice (some ⟨gl1, 0, none⟩) 2 2, v1) _ ⟨Rd.below D_p0.out B_p0.out, Rd.below D_p1.out B_p1.out, B_z.out, hHeld⟩
   · skip
     refine vl_ ?_
     refine hK.out _ _ (by obtain ⟨q0, q1, q2, q3, q4, q5⟩ := hHeld; exact ⟨pw_cell_below (below_alloc (Below.refl _ _) _) q0, pw_cell_below (below_alloc (Below.refl _ _) _) q1, pw_cell_below (below_alloc (Below.refl _ _) _) q2, pw_cell_below (below_alloc (Below.refl _ _) _) q3, pw_cell_below (below_alloc (Below.refl _ _) _) q4, pw_cell_below (below_alloc (Below.refl _ _) _) q5⟩) (fun hHeld => ?_)
     clear hK K
     refine nm_ (some 31) ?_
     have hb : Below w105.heap.size w105 (w105.alloc (.cells #[.slice A2 (limbs m1).length c2, .slice A1 (limbs d0).length c1] 28 (0, 0))) := below_alloc (Below.refl _ _) _
     have hl0 : (w105.alloc (.cells #[.slice A2 (limbs m1).length c2, .slice A1 (limbs d0).length c1] 28 (0, 0))).cell? ⟨w105.heap.size, 0, none⟩ = some (.slice A2 (limbs m1).length c2) := (blk_cell (blk_new w105 _) 0).trans rfl
     have hl1 : (w105.alloc (.cells #[.slice A2 (limbs m1).length c2, .slice A1 (limbs d0).length c1] 28 (0, 0))).cell? ⟨w105.heap.size, 1, none⟩ = some (.slice A1 (limbs d0).length c1) := (blk_cell (blk_new w105 _) 1).trans rfl
     obtain ⟨w106, hw_⟩ : ∃ x, x = w105.alloc (.cells #[.slice A2 (limbs m1).length c2, .slice A1 (limbs d0).length c1] 28 (0, 0)) := ⟨_, rfl⟩
     rw [← hw_] at hb hl0 hl1 hHeld ⊢
     obtain ⟨gl1, hgl1⟩ : ∃ x, x = w105.heap.size := ⟨_, rfl⟩
     rw [← hgl1] at hl0 hl1 ⊢
     clear hgl1 hw_
     replace B_m0 := bl_b B_m0 hb
     replace B_d0 := bl_b B_d0 hb
     replace B_m1 := bl_b B_m1 hb
     replace B_d1 := bl_b B_d1 hb
     replace HB := bl_b HB hb
     replace B_x := bl_b B_x hb
     replace B_y := bl_b B_y hb
     replace B_r := bl_b B_r hb
     replace B_z := bl_b B_z hb
     clear hb
     have LA1 := a0_ hl0
     have LB1 := a0_ hl1
     clear hl0 hl1
     have B_L1 := a0_ (Below.refl w106.heap.size w106)
     refine on_ 6 (some 23) 32639 HT_ (fun K hK => ?_)
     refine vl_ ?_
     refine hK.out _ _ (by obtain ⟨q0, q1, q2, q3, q4, q5⟩ := hHeld; exact ⟨pw_cell_below (below_alloc (Below.refl _ _) _) q0, pw_cell_below (below_alloc (Below.refl _ _) _) q1, pw_cell_below (below_alloc (Below.refl _ _) _) q2, pw_cell_below (below_alloc (Below.refl _ _) _) q3, pw_cell_below (below_alloc (Below.refl _ _) _) q4, pw_cell_below (below_alloc (Below.refl _ _) _) q5⟩) (fun hHeld => ?_)
     clear hK K
     refine nm_ (some 23) ?_
     have hb : Below w106.heap.size w106 (w106.alloc (.cells #[.slice A0 (limbs m0).length c0, .slice A3 (limbs d1).length c3] 28 (0, 0))) := below_alloc (Below.refl _ _) _
     have hl0 : (w106.alloc (.cells #[.slice A0 (limbs m0).length c0, .slice A3 (limbs d1).length c3] 28 (0, 0))).cell? ⟨w106.heap.size, 0, none⟩ = some (.slice A0 (limbs m0).length c0) := (blk_cell (blk_new w106 _) 0).trans rfl
     have hl1 : (w106.alloc (.cells #[.slice A0 (limbs m0).length c0, .slice A3 (limbs d1).length c3] 28 (0, 0))).cell? ⟨w106.heap.size, 1, none⟩ = some (.slice A3 (limbs d1).length c3) := (blk_cell (blk_new w106 _) 1).trans rfl
     obtain ⟨w107, hw_⟩ : ∃ x, x = w106.alloc (.cells #[.slice A0 (limbs m0).length c0, .slice A3 (limbs d1).length c3] 28 (0, 0)) := ⟨_, rfl⟩
     rw [← hw_] at hb hl0 hl1 hHeld ⊢
     obtain ⟨gl0, hgl0⟩ : ∃ x, x = w106.heap.size := ⟨_, rfl⟩
     rw [← hgl0] at hl0 hl1 ⊢
     clear hgl0 hw_
     replace B_m0 := bl_b B_m0 hb
     replace B_d0 := bl_b B_d0 hb
     replace B_m1 := bl_b B_m1 hb
     replace B_d1 := bl_b B_d1 hb
     replace HB := bl_b HB hb
     replace B_x := bl_b B_x hb
     replace B_y := bl_b B_y hb
     replace B_r := bl_b B_r hb
     replace B_z := bl_b B_z hb
     replace B_L1 := bl_b B_L1 hb
     clear hb
     have LA0 := a0_ hl0
     have LB0 := a0_ hl1
     clear hl0 hl1
     have B_L0 := a0_ (Below.refl w107.heap.size w107)
     refine on_ 7 (some 24) 32767 HT_ (fun K hK => ?_)
     refine gs_ Try.func36 #[.slice (some ⟨gl0, 0, none⟩) 2 2] ?_
     refine (product2_calls m0 d1 (fits16 o0.2.2.2.1) (fits16 o1.2.2.2.2) gl0 _ _ _ _ _ (pw_cell_below B_L0.out LA0.out) (pw_cell_below B_L0.out LB0.out) (Kd.C_below R_m0.out B_m0.out) C_m0.out (Kd.C_below R_d1.out B_d1.out) C_d1.out).mono ?_
     rintro e w108 ⟨v0, rfl, h1, hb⟩
     refine ⟨_, rfl, ?_⟩
     refine hK.out _ _ (by obtain ⟨q0, q1, q2, q3, q4, q5⟩ := hHeld; exact ⟨pw_cell_below hb q0, pw_cell_below hb q1, pw_cell_below hb q2, pw_cell_below hb q3, pw_cell_below hb q4, pw_cell_below hb q5⟩) (fun hHeld => ?_)
     clear hK K
     refine nm_ (some 24) ?_
     have D_p0 := a0_ (Rd.lower h1 (below_size B_z.out))
     clear h1
     replace B_m0 := bl_b B_m0 hb
     replace B_d0 := bl_b B_d0 hb
     replace B_m1 := bl_b B_m1 hb
     replace B_d1 := bl_b B_d1 hb
     replace HB := bl_b HB hb
     replace B_x := bl_b B_x hb
     replace B_y := bl_b B_y hb
     replace B_r := bl_b B_r hb
     replace B_z := bl_b B_z hb
     replace B_L1 := bl_b B_L1 hb
     replace B_L0 := bl_b B_L0 hb
     clear hb
     have B_p0 := a0_ (Below.refl w108.heap.size w108)
     refine on_ 15 (some 32) 65535 HT_ (fun K hK => ?_)
     refine gs_ Try.func36 #[.slice (some ⟨gl1, 0, none⟩) 2 2] ?_
     refine (product2_calls m1 d0 (fits16 o1.2.2.2.1) (fits16 o0.2.2.2.2) gl1 _ _ _ _ _ (pw_cell_below B_L1.out LA1.out) (pw_cell_below B_L1.out LB1.out) (Kd.C_below R_m1.out B_m1.out) C_m1.out (Kd.C_below R_d0.out B_d0.out) C_d0.out).mono ?_
     rintro e w109 ⟨v1, rfl, h1, hb⟩
     refine ⟨_, rfl, ?_⟩
     refine hK.out _ _ (by obtain ⟨q0, q1, q2, q3, q4, q5⟩ := hHeld; exact ⟨pw_cell_below hb q0, pw_cell_below hb q1, pw_cell_below hb q2, pw_cell_below hb q3, pw_cell_below hb q4, pw_cell_below hb q5⟩) (fun hHeld => ?_)
     clear hK K
     refine nm_ (some 32) ?_
     have D_p1 := a0_ (Rd.lower h1 (below_size B_z.out))
     clear h1
     replace B_m0 := bl_b B_m0 hb
     replace B_d0 := bl_b B_d0 hb
     replace B_m1 := bl_b B_m1 hb
     replace B_d1 := bl_b B_d1 hb
     replace HB := bl_b HB hb
     replace B_x := bl_b B_x hb
     replace B_y := bl_b B_y hb
     replace B_r := bl_b B_r hb
     replace B_z := bl_b B_z hb
     replace B_L1 := bl_b B_L1 hb
     replace B_L0 := bl_b B_L0 hb
     replace B_p0 := bl_b B_p0 hb
     clear hb
     have B_p1 := a0_ (Below.refl w109.heap.size w109)
     exact HC (.slice (some ⟨gl0, 0, none⟩) 2 2, v0, .slice (some ⟨gl1, 0, none⟩) 2 2, v1) _ ⟨Rd.below D_p0.out B_p0.out, Rd.below D_p1.out B_p1.out, B_z.out, hHeld⟩
 clear B_z
 rintro ⟨l0_, v0, l1_, v1⟩ w125 ⟨h1, h2, hb, hHeld⟩
 refine norm_ (a' := ?_) ?_ ?_
 rotate_left
 · simp only [putAll, PU]
   rfl
 have hs_ := below_size (by repeat (first | exact HB.out | apply below_alloc | apply pw_below_drewN | apply below_drew1) : Below w.heap.size w w105)
 have D_p0 := a0_ (Rd.lower h1 hs_)
 have D_p1 := a0_ (Rd.lower h2 hs_)
 clear hs_
 obtain ⟨A_p0, c_p0, rfl, hlo0, hC0⟩ := Rd.reads h1
 clear h1
 obtain ⟨A_p1, c_p1, rfl, hlo1, hC1⟩ := Rd.reads h2
 clear h2
 replace B_m0 := bl_b B_m0 hb
 replace B_d0 := bl_b B_d0 hb
 replace B_m1 := bl_b B_m1 hb
 replace B_d1 := bl_b B_d1 hb
 replace HB := bl_b HB hb
 replace B_x := bl_b B_x hb
 replace B_y := bl_b B_y hb
 replace B_r := bl_b B_r hb
 clear hb
 have R_p0 := a0_ hC0
 have C_p0 := a0_ hlo0
 clear hC0 hlo0
 have B_p0 := a0_ (Below.refl w125.heap.size w125)
 have R_p1 := a0_ hC1
 have C_p1 := a0_ hlo1
 clear hC1 hlo1
 have B_p1 := a0_ (Below.refl w125.heap.size w125)
 refine on_ 16 (some 33) 131071 HT_ (fun K hK => ?_)
 refine gs_ Try.func37 #[.bool s0, .slice A_p0 (limbs (m0 * d1)).length c_p0, .bool (s1), .slice A_p1 (limbs (m1 * d0)).length c_p1] ?_
 refine (sum_calls s0 (s1) (m0 * d1) (m1 * d0) (fits32 (fits_mul o0.2.2.2.1 o1.2.2.2.2)) (fits32 (fits_mul o1.2.2.2.1 o0.2.2.2.2)) _ _ _ _ _ (Kd.C_below R_p0.out B_p0.out) C_p0.out (Kd.C_below R_p1.out B_p1.out) C_p1.out).mono ?_
 rintro e w126 ⟨v, rfl, ho, hb⟩
 refine ⟨_, rfl, ?_⟩
 refine hK.out _ _ (by obtain ⟨q0, q1, q2, q3, q4, q5⟩ := hHeld; exact ⟨pw_cell_below hb q0, pw_cell_below hb q1, pw_cell_below hb q2, pw_cell_below hb q3, pw_cell_below hb q4, pw_cell_below hb q5⟩) (fun hHeld => ?_)
 clear hK K
 refine nm_ (some 33) ?_
 obtain ⟨A_s, c_s, rfl, hlo, hC⟩ := Rd.reads ho
 clear ho
 replace B_m0 := bl_b B_m0 hb
 replace B_d0 := bl_b B_d0 hb
 replace B_m1 := bl_b B_m1 hb
 replace B_d1 := bl_b B_d1 hb
 replace B_p0 := bl_b B_p0 hb
 replace B_p1 := bl_b B_p1 hb
 replace HB := bl_b HB hb
 replace B_x := bl_b B_x hb
 replace B_y := bl_b B_y hb
 replace B_r := bl_b B_r hb
 clear hb
 have R_s := a0_ hC
 have C_s := a0_ hlo
 clear hC hlo
 have B_s := a0_ (Below.refl w126.heap.size w126)
 clear R_p0 C_p0 B_p0
 clear R_p1 C_p1 B_p1
 clear R_m0 C_m0 B_m0
 clear R_m1 C_m1 B_m1
 refine pu_ 17 (some 16) 262143 HT_ ?_
 refine pu_ 18 (some 34) 524287 HT_ ?_
 refine pu_ 19 (some 35) 1048575 HT_ ?_
 refine pu_ 20 (some 7) 2097151 HT_ ?_
 refine pu_ 21 (some 8) 4194303 HT_ ?_
 refine do_ HT_ ?_
 clear HT_ HW_ hHeld
 have bk_x := blk_below K_x.out B_x.out
 have hz_x_0 : w126.cell? ⟨g_x, 0, none⟩ = some (.bool s0) := (blk_cell bk_x 0).trans rfl
 have hz_x_1 : w126.cell? ⟨g_x, 1, none⟩ = some (.slice A0 (limbs m0).length c0) := (blk_cell bk_x 1).trans rfl
 have hz_x_2 : w126.cell? ⟨g_x, 2, none⟩ = some (.slice A1 (limbs d0).length c1) := (blk_cell bk_x 2).trans rfl
 clear bk_x
 have bk_y := blk_below K_y.out B_y.out
 have hz_y_0 : w126.cell? ⟨g_y, 0, none⟩ = some (.bool s1) := (blk_cell bk_y 0).trans rfl
 have hz_y_1 : w126.cell? ⟨g_y, 1, none⟩ = some (.slice A2 (limbs m1).length c2) := (blk_cell bk_y 1).trans rfl
 have hz_y_2 : w126.cell? ⟨g_y, 2, none⟩ = some (.slice A3 (limbs d1).length c3) := (blk_cell bk_y 2).trans rfl
 clear bk_y
 go_wp2_with fail
 clear hz_x_0 hz_x_1 hz_x_2
 clear hz_y_0 hz_y_1 hz_y_2
 have hb : Below w126.heap.size w126 (w126.alloc (.cells #[.slice A1 (limbs d0).length c1, .slice A3 (limbs d1).length c3] 28 (0, 0))) := below_alloc (Below.refl _ _) _
 have hl0 : (w126.alloc (.cells #[.slice A1 (limbs d0).length c1, .slice A3 (limbs d1).length c3] 28 (0, 0))).cell? ⟨w126.heap.size, 0, none⟩ = some (.slice A1 (limbs d0).length c1) := (blk_cell (blk_new w126 _) 0).trans rfl
 have hl1 : (w126.alloc (.cells #[.slice A1 (limbs d0).length c1, .slice A3 (limbs d1).length c3] 28 (0, 0))).cell? ⟨w126.heap.size, 1, none⟩ = some (.slice A3 (limbs d1).length c3) := (blk_cell (blk_new w126 _) 1).trans rfl
 obtain ⟨w127, hw_⟩ : ∃ x, x = w126.alloc (.cells #[.slice A1 (limbs d0).length c1, .slice A3 (limbs d1).length c3] 28 (0, 0)) := ⟨_, rfl⟩
 rw [← hw_] at hb hl0 hl1 ⊢
 clear hw_
 replace B_d0 := bl_b B_d0 hb
 replace B_d1 := bl_b B_d1 hb
 replace B_s := bl_b B_s hb
 replace HB := bl_b HB hb
 replace B_x := bl_b B_x hb
 replace B_y := bl_b B_y hb
 replace B_r := bl_b B_r hb
 clear hb
 refine (product2_calls d0 d1 (fits16 o0.2.2.2.2) (fits16 o1.2.2.2.2) _ _ _ _ _ _ hl0 hl1 (Kd.C_below R_d0.out B_d0.out) C_d0.out (Kd.C_below R_d1.out B_d1.out) C_d1.out).mono ?_
 rintro e w128 ⟨v, rfl, ho, hb⟩
 clear hl0 hl1
 obtain ⟨A_q, c_q, rfl, hlo, hC⟩ := Rd.reads ho
 clear ho
 replace B_d0 := bl_b B_d0 hb
 replace B_d1 := bl_b B_d1 hb
 replace B_s := bl_b B_s hb
 replace HB := bl_b HB hb
 replace B_x := bl_b B_x hb
 replace B_y := bl_b B_y hb
 replace B_r := bl_b B_r hb
 clear hb
 have R_q := a0_ hC
 have C_q := a0_ hlo
 clear hC hlo
 have B_q := a0_ (Below.refl w128.heap.size w128)
 clear R_d0 C_d0 B_d0
 clear R_d1 C_d1 B_d1
 have L_r : Aside0 (g_r < w128.heap.size) := ⟨blk_lt (blk_below K_r.out B_r.out)⟩
 have S_r : Aside0 (w.heap.size ≤ w128.heap.size) := ⟨below_size HB.out⟩
 go_wp2_with fail
 refine (reduced_calls (sumB s0 (m0 * d1) (s1) (m1 * d0)).1 (sumB s0 (m0 * d1) (s1) (m1 * d0)).2 (d0 * d1) (Nat.mul_pos o0.2.1 o1.2.1) (fits_sum (fits_mul o0.2.2.2.1 o1.2.2.2.2) (fits_mul o1.2.2.2.1 o0.2.2.2.2)) (fits32 (fits_mul o0.2.2.2.2 o1.2.2.2.2)) _ _ _ _ _ (Kd.C_below R_s.out B_s.out) C_s.out (Kd.C_below R_q.out B_q.out) C_q.out).mono ?_
 rintro e w129 ⟨v1, v2, rfl, h1, h2, hb⟩
 have D_M := a0_ h1
 have D_D := a0_ h2
 obtain ⟨A_M, c_M, rfl, -, -⟩ := Rd.reads h1
 obtain ⟨A_D, c_D, rfl, -, -⟩ := Rd.reads h2
 clear h1 h2
 replace B_s := bl_b B_s hb
 replace B_q := bl_b B_q hb
 replace HB := bl_b HB hb
 replace B_x := bl_b B_x hb
 replace B_y := bl_b B_y hb
 replace B_r := bl_b B_r hb
 clear hb
 have B_M := a0_ (Below.refl w129.heap.size w129)
 have bk_r := blk_below K_r.out B_r.out
 have hz_r_0 : w129.cell? ⟨g_r, 0, none⟩ = some (.bool false) := (blk_cell bk_r 0).trans rfl
 have hf_r_0 := blk_frozen bk_r 0
 have hz_r_1 : w129.cell? ⟨g_r, 1, none⟩ = some (.slice none 0 0) := (blk_cell bk_r 1).trans rfl
 have hf_r_1 := blk_frozen bk_r 1
 have hz_r_2 : w129.cell? ⟨g_r, 2, none⟩ = some (.slice none 0 0) := (blk_cell bk_r 2).trans rfl
 have hf_r_2 := blk_frozen bk_r 2
 clear bk_r
 go_wp2_with fail
 refine bodyPost_ret (results_ct rfl _ _ g_r 30 #[.bool (red (sumB s0 (m0 * d1) (s1) (m1 * d0)).1 (sumB s0 (m0 * d1) (s1) (m1 * d0)).2 (d0 * d1)).1, .slice A_M (limbs (red (sumB s0 (m0 * d1) (s1) (m1 * d0)).1 (sumB s0 (m0 * d1) (s1) (m1 * d0)).2 (d0 * d1)).2.1).length c_M, .slice A_D (limbs (red (sumB s0 (m0 * d1) (s1) (m1 * d0)).1 (sumB s0 (m0 * d1) (s1) (m1 * d0)).2 (d0 * d1)).2.2.1).length c_D] (0, 0) _ rfl (by (with_reducible repeat (first | refine blk_drewN ?_ _ | refine blk_drew ?_ | refine blk_alloc ?_ _)); refine blk_put (cs := #[.bool (red (sumB s0 (m0 * d1) (s1) (m1 * d0)).1 (sumB s0 (m0 * d1) (s1) (m1 * d0)).2 (d0 * d1)).1, .slice A_M (limbs (red (sumB s0 (m0 * d1) (s1) (m1 * d0)).1 (sumB s0 (m0 * d1) (s1) (m1 * d0)).2 (d0 * d1)).2.1).length c_M, .slice none 0 0]) ?_ 2 _ rfl; (with_reducible repeat (first | refine blk_drewN ?_ _ | refine blk_drew ?_ | refine blk_alloc ?_ _)); refine blk_put (cs := #[.bool (red (sumB s0 (m0 * d1) (s1) (m1 * d0)).1 (sumB s0 (m0 * d1) (s1) (m1 * d0)).2 (d0 * d1)).1, .slice none 0 0, .slice none 0 0]) ?_ 1 _ rfl; (with_reducible repeat (first | refine blk_drewN ?_ _ | refine blk_drew ?_ | refine blk_alloc ?_ _)); refine blk_put (cs := #[.bool false, .slice none 0 0, .slice none 0 0]) ?_ 0 _ rfl; (with_reducible repeat (first | refine blk_drewN ?_ _ | refine blk_drew ?_ | refine blk_alloc ?_ _)); exact blk_below K_r.out B_r.out) Try.underlying30 rfl (by kernel_rfl)) rfl ?_
 exact ⟨_, _, rfl, Rd.lower (Rd.set (Rd.set (Rd.set (Rd.below D_M.out B_M.out) _ L_r.out _) _ L_r.out _) _ L_r.out _) S_r.out, Rd.lower (Rd.set (Rd.set (Rd.set (Rd.below D_D.out B_M.out) _ L_r.out _) _ L_r.out _) _ L_r.out _) S_r.out, below_set (below_set (below_set HB.out G_r.out) G_r.out) G_r.out⟩
end Go.Proofs.Ytgdkgahbmfhgcaa.PN
