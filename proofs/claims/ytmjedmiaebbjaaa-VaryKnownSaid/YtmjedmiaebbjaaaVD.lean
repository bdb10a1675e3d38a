/- The walk of VaryAgain: what a reader takes off without an error is written so. -/
import Derived.Test.YtmjedmiaebbjaaaVC
import Derived.Test.YtmjedmiaebbjaaaPVx2
import Derived.Test.YtmjedmiaebbjaaaH
namespace Go.Proofs.Ytmjedmiaebbjaaa.VD
open Go.RowKit Go.Proofs.Ytmjedmiaebbjaaa.PV Go.Proofs.Ytmjedmiaebbjaaa.VA Go.Proofs.Ytmjedmiaebbjaaa.VC Go.Proofs.Ytmjedmiaebbjaaa.H Go.Proofs.YtmjedmiaebbjaaaW.PrintWords Go.Proofs.YtmjedmiaebbjaaaW.PrintLast Go.Proofs.YtmjedmiaebbjaaaW.PrintMore
set_option linter.unusedVariables false
set_option linter.unusedSimpArgs false

theorem awake_calls (w : World) : Calls Try.prog 10 #[] w fun e w' => e = .returned (.bool true) ∧ Below w.heap.size w w' := driftnetlaw06_awake.calls 12 true w awake_ok
theorem str_size (t : List Int) : (strOfNums t).size = t.length := by
  show ((t.map fun n => UInt8.ofNat n.toNat).toArray).size = _
  simp
theorem bytesOf_str (t : List Int) (h : ∀ x ∈ t, 0 ≤ x ∧ x < 256) : bytesOf (strOfNums t) = t := by
  show (((t.map fun n => UInt8.ofNat n.toNat).toArray).toList.map fun b => (b.toNat : Int)) = t
  simp only [List.map_map]
  conv => rhs; rw [← List.map_id t]
  refine List.map_congr_left fun x hx => ?_
  obtain ⟨h0, h1⟩ := h x hx
  show ((UInt8.ofNat x.toNat).toNat : Int) = x
  rw [UInt8.toNat_ofNat']
  omega
theorem U_yes (n : Int) (h0 : 0 ≤ n) (h1 : n ≤ 18014398509481982) (w : World) : Calls Try.prog 9 #[.int .i64 n] w fun e w' => ∃ v0_ : Value, e = .returned (.tuple #[v0_, .int .i64 0]) ∧ Kd.R (Kd.int .u8) 5 w' w.heap.size (fun _ => True) v0_ (enc 7 n) ∧ Below w.heap.size w w' := vary_U.calls 20 n _ _ w (U_good 20 n (by decide) h0 h1)
theorem S_yes (n : Int) (h0 : 0 ≤ n) (h1 : n ≤ 18014398509481982) (w : World) : Calls Try.prog 13 #[.int .i64 (sOf n)] w fun e w' => ∃ v0_ : Value, e = .returned (.tuple #[v0_, .int .i64 0]) ∧ Kd.R (Kd.int .u8) 5 w' w.heap.size (fun _ => True) v0_ (enc 7 n) ∧ Below w.heap.size w w' := by
  have hb := sOf_bound n h0 h1
  have h := S_good 20 (sOf n) (by decide) hb.1 hb.2
  rw [zig_sOf n h0] at h
  exact vary_S.calls 20 (sOf n) _ _ w h
theorem T_yes (t : List Int) (hw : ∀ x ∈ t, 0 ≤ x ∧ x < 256) (h1 : (t.length : Int) ≤ 65535) (w : World) : Calls Try.prog 15 #[.string (strOfNums t)] w fun e w' => ∃ v0_ : Value, e = .returned (.tuple #[v0_, .int .i64 0]) ∧ Kd.R (Kd.int .u8) 5 w' w.heap.size (fun _ => True) v0_ (enc 7 (t.length : Int) ++ t) ∧ Below w.heap.size w w' := by
  refine vary_Text.calls 20 (strOfNums t) _ _ w ?_
  have hl := (enc_len 7 (t.length : Int)).2
  unfold vary_Text.f
  rw [str_size, if_neg (by omega), U_good 20 _ (by decide) (by omega) (by omega)]
  simp only [Option.bind_some]
  rw [if_pos (by omega), bytesOf_str t hw]
theorem Left_at (w : World) (g : Nat) (S : Nat → Prop) (l : List Int) (hI : Rd w g S l 0) :
    Calls Try.prog 32 #[.pointer (some ⟨g, 0, none⟩)] w fun x w' => x = .returned (.int .i64 (l.length : Int)) ∧ w' = w := vary_Left.calls w g S l 0 hI
/-- What the law needs of bytes x that begin l and leave l'. -/
structure Fit (l x l' : List Int) : Prop where
  e : x ++ l' = l
theorem Fit.sum {l x l' : List Int} (h : Fit l x l') : ((x.length : Int) + (l'.length : Int) != (l.length : Int)) = false := by
  rw [← h.e, List.length_append]; simp
theorem Fit.le {l x l' : List Int} (h : Fit l x l') : x.length ≤ l.length ∧ l.length = x.length + l'.length := by
  rw [← h.e, List.length_append]; omega
theorem Fit.eq {l x l' : List Int} (h : Fit l x l') : l.take x.length = x := by rw [← h.e]; exact List.take_left

theorem news_ne {w : World} {g : Nat} {l : List Int} {e : Int} {b : Nat} (_ : Rd w g (fun k => b ≤ k ∧ k < g) l e) : ∀ k, (fun k => b ≤ k ∧ k < g) k → k ≠ g := fun k h e => by omega
set_option maxHeartbeats 6400000 in
set_option maxRecDepth 100000 in
theorem walk (A0 : Option Addr) (c0 : Nat) (l : List Int) (w : World) (hr : Kd.C (Kd.int .u8) w A0 l.length l) (hc : l.length ≤ c0) (hl : l.length ≤ 140737488351232) (hwf : ∀ x ∈ l, 0 ≤ x ∧ x < 256) :
    Calls Try.prog 7 #[.slice A0 l.length c0] w fun e w' => e = .returned (.bool true) ∧ Below w.heap.size w w' := by
  have HR := Aside0.mk hr
  have HC := Aside0.mk hc
  have HL := Aside0.mk (show l.length < 140737488355328 by omega)
  have HWF := Aside0.mk hwf
  obtain ⟨n, l', e, hu⟩ : ∃ n l' e, uRes l = (n, l', e) := ⟨_, _, _, rfl⟩
  obtain ⟨t, lt, te, ht⟩ : ∃ t lt te, tRes 65535 l = (t, lt, te) := ⟨_, _, _, rfl⟩
  obtain ⟨u0, u1⟩ := uRes_bound l
  rw [show (uRes l).1 = n by rw [hu]] at u0 u1
  have HU := Aside0.mk hu
  have HT := Aside0.mk ht
  clear hr hc
  by_cases he : e = 0
  · subst he
    have FU : Fit l (enc 7 n) l' := ⟨uRes_ok l l' n hwf hu⟩
    by_cases hte : te = 0
    · subst hte
      obtain ⟨f1, f2, f3⟩ := tRes_ok 65535 l t lt hwf ht
      have HTY := Aside0.mk (T_yes t (fun x hx => hwf x (by rw [← f1]; simp [hx])) f2)
      obtain ⟨xt, hxt⟩ : ∃ xt, xt = enc 7 (t.length : Int) ++ t := ⟨_, rfl⟩
      rw [← hxt] at f1 HTY
      have FT : Fit l xt lt := ⟨f1⟩
      clear f1 f2 f3 hu ht hwf hxt

      have HB := Aside0.mk (Below.refl w.heap.size w)
      go_enter Try.func7, Try.ntmps7

      go_wp2_with fail
      refine (vary_New.calls A0 c0 l _ (by exact Kd.C_below HR.out HB.out) HC.out HL.out).mono ?_
      rintro x wn1 ⟨g1, rfl, hg, hI, hb⟩
      have HS1 := Aside0.mk (news_ne hI)
      have HG1 := Aside0.mk (Nat.le_trans HB.out.size hg)
      have HI1 := Aside0.mk hI
      have HB' := Aside0.mk (below_step HB.out hb)
      clear hI hb hg HB
      have HB := HB'
      clear HB'

      go_wp2_with fail
      refine (vary_U.calls _ g1 _ l HI1.out HS1.out HWF.out).mono ?_

      rintro x wu hx
      unfold UPost at hx
      rw [HU.out] at hx
      obtain ⟨rfl, h1, h3⟩ := hx
      change Rd wu g1 _ l' 0 at h1

      have HJ1 := Aside0.mk h1
      have HB' := Aside0.mk (HB.out.trans (h3.below HG1.out))
      clear h1 h3 HB
      have HB := HB'
      clear HB'
      go_wp2_with fail
      refine (vary_Err.calls _ g1 _ _ _ HJ1.out).mono ?_
      rintro x w' ⟨rfl, rfl⟩

      go_wp2_with fail
      refine (U_yes n u0 u1 _).mono ?_
      rintro x wx1 ⟨vx1, rfl, hx, hb⟩
      obtain ⟨Ax1, cx1, rfl, hlx, hCx⟩ := Kd.R_reads hx
      have HX1 := Aside0.mk hCx
      have HLX1 := Aside0.mk hlx
      have HK1 := Aside0.mk (HJ1.out.below hb)
      have HB' := Aside0.mk (below_step HB.out hb)
      clear hx hb hlx hCx HB
      have HB := HB'
      clear HB'
      have hsum := (FU).sum
      obtain ⟨hle, hlen⟩ := (FU).le
      obtain ⟨i0, hi0, _, hsz, _⟩ := info_parts hinfo5
      have hct := cut_to (P := Try.prog) 22 5 .i64 Try.underlying22 hi0 A0 l.length c0 ((l.length : Int) - ((l').length : Int)) (by omega) (by omega) HC.out
      rw [show ((l.length : Int) - ((l').length : Int)).toNat = (enc 7 n).length by omega] at hct
      have hnb : (0 : Int) ≤ (l.length : Int) - ((l').length : Int) := by omega
      have hxl : (enc 7 n).length ≤ 140737488351232 := by omega
      have EQ : ∀ W, Below w.heap.size w W → Kd.C (Kd.int .u8) W Ax1 (enc 7 n).length (enc 7 n) → Calls Try.prog 11 #[.slice Ax1 (enc 7 n).length cx1, .slice A0 (enc 7 n).length c0] W fun e w' => e = .returned (.bool true) ∧ Drawn0 W w' := by
        intro W hW h1
        have h2 := Kd.C_take (m := (enc 7 n).length) (Kd.C_below HR.out hW) hle
        rw [(FU).eq] at h2
        exact driftnetref00_EqBytes.calls ((enc 7 n).length + 1) _ cx1 (enc 7 n) A0 c0 (enc 7 n) true W h1 HLX1.out h2 (by have := HC.out; omega) (by rw [eqB _ _ _ (by omega) (by omega)]; simp)
      have HEQ1 := Aside0.mk EQ
      have HH := Aside0.mk hlen
      clear EQ hi0 hsz hlen
      go_wp2_with (first | (go_at_call 32; (with_reducible refine (Left_at _ g1 _ _ HK1.out).mono ?_); rintro x w' ⟨rfl, rfl⟩) | (go_at_call 11; (with_reducible refine (HEQ1.out _ HB.out HX1.out).mono ?_); rintro x w' ⟨rfl, ⟨nd1, rfl⟩⟩; have HBn := Aside0.mk (pw_below_drewN HB.out nd1)) | fail)
      clear HB hsum hct hnb hxl hle HH
      have HB := HBn
      clear HBn

      go_wp2_with fail
      refine (vary_New.calls A0 c0 l _ (by exact Kd.C_below HR.out HB.out) HC.out HL.out).mono ?_
      rintro x wn2 ⟨g2, rfl, hg, hI, hb⟩
      have HS2 := Aside0.mk (news_ne hI)
      have HG2 := Aside0.mk (Nat.le_trans HB.out.size hg)
      have HI2 := Aside0.mk hI
      have HB' := Aside0.mk (below_step HB.out hb)
      clear hI hb hg HB
      have HB := HB'
      clear HB'

      go_wp2_with fail
      refine (vary_S.calls _ g2 _ l HI2.out HS2.out HWF.out).mono ?_

      rintro x wu ⟨rfl, h1, h3⟩
      rw [HU.out] at h1 ⊢
      change Rd wu g2 _ l' 0 at h1

      have HJ2 := Aside0.mk h1
      have HB' := Aside0.mk (HB.out.trans (h3.below HG2.out))
      clear h1 h3 HB
      have HB := HB'
      clear HB'
      go_wp2_with fail
      refine (vary_Err.calls _ g2 _ _ _ HJ2.out).mono ?_
      rintro x w' ⟨rfl, rfl⟩

      go_wp2_with fail
      refine (S_yes n u0 u1 _).mono ?_
      rintro x wx2 ⟨vx2, rfl, hx, hb⟩
      obtain ⟨Ax2, cx2, rfl, hlx, hCx⟩ := Kd.R_reads hx
      have HX2 := Aside0.mk hCx
      have HLX2 := Aside0.mk hlx
      have HK2 := Aside0.mk (HJ2.out.below hb)
      have HB' := Aside0.mk (below_step HB.out hb)
      clear hx hb hlx hCx HB
      have HB := HB'
      clear HB'
      have hsum := (FU).sum
      obtain ⟨hle, hlen⟩ := (FU).le
      obtain ⟨i0, hi0, _, hsz, _⟩ := info_parts hinfo5
      have hct := cut_to (P := Try.prog) 22 5 .i64 Try.underlying22 hi0 A0 l.length c0 ((l.length : Int) - ((l').length : Int)) (by omega) (by omega) HC.out
      rw [show ((l.length : Int) - ((l').length : Int)).toNat = (enc 7 n).length by omega] at hct
      have hnb : (0 : Int) ≤ (l.length : Int) - ((l').length : Int) := by omega
      have hxl : (enc 7 n).length ≤ 140737488351232 := by omega
      have EQ : ∀ W, Below w.heap.size w W → Kd.C (Kd.int .u8) W Ax2 (enc 7 n).length (enc 7 n) → Calls Try.prog 11 #[.slice Ax2 (enc 7 n).length cx2, .slice A0 (enc 7 n).length c0] W fun e w' => e = .returned (.bool true) ∧ Drawn0 W w' := by
        intro W hW h1
        have h2 := Kd.C_take (m := (enc 7 n).length) (Kd.C_below HR.out hW) hle
        rw [(FU).eq] at h2
        exact driftnetref00_EqBytes.calls ((enc 7 n).length + 1) _ cx2 (enc 7 n) A0 c0 (enc 7 n) true W h1 HLX2.out h2 (by have := HC.out; omega) (by rw [eqB _ _ _ (by omega) (by omega)]; simp)
      have HEQ2 := Aside0.mk EQ
      have HH := Aside0.mk hlen
      clear EQ hi0 hsz hlen
      go_wp2_with (first | (go_at_call 32; (with_reducible refine (Left_at _ g2 _ _ HK2.out).mono ?_); rintro x w' ⟨rfl, rfl⟩) | (go_at_call 11; (with_reducible refine (HEQ2.out _ HB.out HX2.out).mono ?_); rintro x w' ⟨rfl, ⟨nd2, rfl⟩⟩; have HBn := Aside0.mk (pw_below_drewN HB.out nd2)) | fail)
      clear HB hsum hct hnb hxl hle HH
      have HB := HBn
      clear HBn

      go_wp2_with fail
      refine (vary_New.calls A0 c0 l _ (by exact Kd.C_below HR.out HB.out) HC.out HL.out).mono ?_
      rintro x wn3 ⟨g3, rfl, hg, hI, hb⟩
      have HS3 := Aside0.mk (news_ne hI)
      have HG3 := Aside0.mk (Nat.le_trans HB.out.size hg)
      have HI3 := Aside0.mk hI
      have HB' := Aside0.mk (below_step HB.out hb)
      clear hI hb hg HB
      have HB := HB'
      clear HB'

      go_wp2_with fail
      refine (vary_Text.calls _ g3 _ 65535 l HI3.out HS3.out HWF.out).mono ?_

      rintro x wu hx
      unfold TPost at hx
      rw [HT.out] at hx
      obtain ⟨rfl, h1, h3⟩ := hx
      change Rd wu g3 _ lt 0 at h1

      have HJ3 := Aside0.mk h1
      have HB' := Aside0.mk (HB.out.trans (h3.below HG3.out))
      clear h1 h3 HB
      have HB := HB'
      clear HB'
      go_wp2_with fail
      refine (vary_Err.calls _ g3 _ _ _ HJ3.out).mono ?_
      rintro x w' ⟨rfl, rfl⟩

      go_wp2_with fail
      refine (HTY.out _).mono ?_
      rintro x wx3 ⟨vx3, rfl, hx, hb⟩
      obtain ⟨Ax3, cx3, rfl, hlx, hCx⟩ := Kd.R_reads hx
      have HX3 := Aside0.mk hCx
      have HLX3 := Aside0.mk hlx
      have HK3 := Aside0.mk (HJ3.out.below hb)
      have HB' := Aside0.mk (below_step HB.out hb)
      clear hx hb hlx hCx HB
      have HB := HB'
      clear HB'
      have hsum := (FT).sum
      obtain ⟨hle, hlen⟩ := (FT).le
      obtain ⟨i0, hi0, _, hsz, _⟩ := info_parts hinfo5
      have hct := cut_to (P := Try.prog) 22 5 .i64 Try.underlying22 hi0 A0 l.length c0 ((l.length : Int) - ((lt).length : Int)) (by omega) (by omega) HC.out
      rw [show ((l.length : Int) - ((lt).length : Int)).toNat = (xt).length by omega] at hct
      have hnb : (0 : Int) ≤ (l.length : Int) - ((lt).length : Int) := by omega
      have hxl : (xt).length ≤ 140737488351232 := by omega
      have EQ : ∀ W, Below w.heap.size w W → Kd.C (Kd.int .u8) W Ax3 (xt).length (xt) → Calls Try.prog 11 #[.slice Ax3 (xt).length cx3, .slice A0 (xt).length c0] W fun e w' => e = .returned (.bool true) ∧ Drawn0 W w' := by
        intro W hW h1
        have h2 := Kd.C_take (m := (xt).length) (Kd.C_below HR.out hW) hle
        rw [(FT).eq] at h2
        exact driftnetref00_EqBytes.calls ((xt).length + 1) _ cx3 (xt) A0 c0 (xt) true W h1 HLX3.out h2 (by have := HC.out; omega) (by rw [eqB _ _ _ (by omega) (by omega)]; simp)
      have HEQ3 := Aside0.mk EQ
      have HH := Aside0.mk hlen
      clear EQ hi0 hsz hlen
      go_wp2_with (first | (go_at_call 32; (with_reducible refine (Left_at _ g3 _ _ HK3.out).mono ?_); rintro x w' ⟨rfl, rfl⟩) | (go_at_call 11; (with_reducible refine (HEQ3.out _ HB.out HX3.out).mono ?_); rintro x w' ⟨rfl, ⟨nd3, rfl⟩⟩; have HBn := Aside0.mk (pw_below_drewN HB.out nd3)) | fail)
      clear HB hsum hct hnb hxl hle HH
      have HB := HBn
      clear HBn

      go_wp2_with (go_at_call 10; (with_reducible refine (awake_calls _).mono ?_); rintro e w3 ⟨rfl, hb⟩; have HZ := Aside0.mk (below_step HB.out hb); clear hb)
      go_ret
      exact ⟨rfl, HZ.out⟩

    · have hb0 : (te == 0) = false := by simpa using hte
      clear hu ht hwf hte

      have HB := Aside0.mk (Below.refl w.heap.size w)
      go_enter Try.func7, Try.ntmps7

      go_wp2_with fail
      refine (vary_New.calls A0 c0 l _ (by exact Kd.C_below HR.out HB.out) HC.out HL.out).mono ?_
      rintro x wn1 ⟨g1, rfl, hg, hI, hb⟩
      have HS1 := Aside0.mk (news_ne hI)
      have HG1 := Aside0.mk (Nat.le_trans HB.out.size hg)
      have HI1 := Aside0.mk hI
      have HB' := Aside0.mk (below_step HB.out hb)
      clear hI hb hg HB
      have HB := HB'
      clear HB'

      go_wp2_with fail
      refine (vary_U.calls _ g1 _ l HI1.out HS1.out HWF.out).mono ?_

      rintro x wu hx
      unfold UPost at hx
      rw [HU.out] at hx
      obtain ⟨rfl, h1, h3⟩ := hx
      change Rd wu g1 _ l' 0 at h1

      have HJ1 := Aside0.mk h1
      have HB' := Aside0.mk (HB.out.trans (h3.below HG1.out))
      clear h1 h3 HB
      have HB := HB'
      clear HB'
      go_wp2_with fail
      refine (vary_Err.calls _ g1 _ _ _ HJ1.out).mono ?_
      rintro x w' ⟨rfl, rfl⟩

      go_wp2_with fail
      refine (U_yes n u0 u1 _).mono ?_
      rintro x wx1 ⟨vx1, rfl, hx, hb⟩
      obtain ⟨Ax1, cx1, rfl, hlx, hCx⟩ := Kd.R_reads hx
      have HX1 := Aside0.mk hCx
      have HLX1 := Aside0.mk hlx
      have HK1 := Aside0.mk (HJ1.out.below hb)
      have HB' := Aside0.mk (below_step HB.out hb)
      clear hx hb hlx hCx HB
      have HB := HB'
      clear HB'
      have hsum := (FU).sum
      obtain ⟨hle, hlen⟩ := (FU).le
      obtain ⟨i0, hi0, _, hsz, _⟩ := info_parts hinfo5
      have hct := cut_to (P := Try.prog) 22 5 .i64 Try.underlying22 hi0 A0 l.length c0 ((l.length : Int) - ((l').length : Int)) (by omega) (by omega) HC.out
      rw [show ((l.length : Int) - ((l').length : Int)).toNat = (enc 7 n).length by omega] at hct
      have hnb : (0 : Int) ≤ (l.length : Int) - ((l').length : Int) := by omega
      have hxl : (enc 7 n).length ≤ 140737488351232 := by omega
      have EQ : ∀ W, Below w.heap.size w W → Kd.C (Kd.int .u8) W Ax1 (enc 7 n).length (enc 7 n) → Calls Try.prog 11 #[.slice Ax1 (enc 7 n).length cx1, .slice A0 (enc 7 n).length c0] W fun e w' => e = .returned (.bool true) ∧ Drawn0 W w' := by
        intro W hW h1
        have h2 := Kd.C_take (m := (enc 7 n).length) (Kd.C_below HR.out hW) hle
        rw [(FU).eq] at h2
        exact driftnetref00_EqBytes.calls ((enc 7 n).length + 1) _ cx1 (enc 7 n) A0 c0 (enc 7 n) true W h1 HLX1.out h2 (by have := HC.out; omega) (by rw [eqB _ _ _ (by omega) (by omega)]; simp)
      have HEQ1 := Aside0.mk EQ
      have HH := Aside0.mk hlen
      clear EQ hi0 hsz hlen
      go_wp2_with (first | (go_at_call 32; (with_reducible refine (Left_at _ g1 _ _ HK1.out).mono ?_); rintro x w' ⟨rfl, rfl⟩) | (go_at_call 11; (with_reducible refine (HEQ1.out _ HB.out HX1.out).mono ?_); rintro x w' ⟨rfl, ⟨nd1, rfl⟩⟩; have HBn := Aside0.mk (pw_below_drewN HB.out nd1)) | fail)
      clear HB hsum hct hnb hxl hle HH
      have HB := HBn
      clear HBn

      go_wp2_with fail
      refine (vary_New.calls A0 c0 l _ (by exact Kd.C_below HR.out HB.out) HC.out HL.out).mono ?_
      rintro x wn2 ⟨g2, rfl, hg, hI, hb⟩
      have HS2 := Aside0.mk (news_ne hI)
      have HG2 := Aside0.mk (Nat.le_trans HB.out.size hg)
      have HI2 := Aside0.mk hI
      have HB' := Aside0.mk (below_step HB.out hb)
      clear hI hb hg HB
      have HB := HB'
      clear HB'

      go_wp2_with fail
      refine (vary_S.calls _ g2 _ l HI2.out HS2.out HWF.out).mono ?_

      rintro x wu ⟨rfl, h1, h3⟩
      rw [HU.out] at h1 ⊢
      change Rd wu g2 _ l' 0 at h1

      have HJ2 := Aside0.mk h1
      have HB' := Aside0.mk (HB.out.trans (h3.below HG2.out))
      clear h1 h3 HB
      have HB := HB'
      clear HB'
      go_wp2_with fail
      refine (vary_Err.calls _ g2 _ _ _ HJ2.out).mono ?_
      rintro x w' ⟨rfl, rfl⟩

      go_wp2_with fail
      refine (S_yes n u0 u1 _).mono ?_
      rintro x wx2 ⟨vx2, rfl, hx, hb⟩
      obtain ⟨Ax2, cx2, rfl, hlx, hCx⟩ := Kd.R_reads hx
      have HX2 := Aside0.mk hCx
      have HLX2 := Aside0.mk hlx
      have HK2 := Aside0.mk (HJ2.out.below hb)
      have HB' := Aside0.mk (below_step HB.out hb)
      clear hx hb hlx hCx HB
      have HB := HB'
      clear HB'
      have hsum := (FU).sum
      obtain ⟨hle, hlen⟩ := (FU).le
      obtain ⟨i0, hi0, _, hsz, _⟩ := info_parts hinfo5
      have hct := cut_to (P := Try.prog) 22 5 .i64 Try.underlying22 hi0 A0 l.length c0 ((l.length : Int) - ((l').length : Int)) (by omega) (by omega) HC.out
      rw [show ((l.length : Int) - ((l').length : Int)).toNat = (enc 7 n).length by omega] at hct
      have hnb : (0 : Int) ≤ (l.length : Int) - ((l').length : Int) := by omega
      have hxl : (enc 7 n).length ≤ 140737488351232 := by omega
      have EQ : ∀ W, Below w.heap.size w W → Kd.C (Kd.int .u8) W Ax2 (enc 7 n).length (enc 7 n) → Calls Try.prog 11 #[.slice Ax2 (enc 7 n).length cx2, .slice A0 (enc 7 n).length c0] W fun e w' => e = .returned (.bool true) ∧ Drawn0 W w' := by
        intro W hW h1
        have h2 := Kd.C_take (m := (enc 7 n).length) (Kd.C_below HR.out hW) hle
        rw [(FU).eq] at h2
        exact driftnetref00_EqBytes.calls ((enc 7 n).length + 1) _ cx2 (enc 7 n) A0 c0 (enc 7 n) true W h1 HLX2.out h2 (by have := HC.out; omega) (by rw [eqB _ _ _ (by omega) (by omega)]; simp)
      have HEQ2 := Aside0.mk EQ
      have HH := Aside0.mk hlen
      clear EQ hi0 hsz hlen
      go_wp2_with (first | (go_at_call 32; (with_reducible refine (Left_at _ g2 _ _ HK2.out).mono ?_); rintro x w' ⟨rfl, rfl⟩) | (go_at_call 11; (with_reducible refine (HEQ2.out _ HB.out HX2.out).mono ?_); rintro x w' ⟨rfl, ⟨nd2, rfl⟩⟩; have HBn := Aside0.mk (pw_below_drewN HB.out nd2)) | fail)
      clear HB hsum hct hnb hxl hle HH
      have HB := HBn
      clear HBn

      go_wp2_with fail
      refine (vary_New.calls A0 c0 l _ (by exact Kd.C_below HR.out HB.out) HC.out HL.out).mono ?_
      rintro x wn3 ⟨g3, rfl, hg, hI, hb⟩
      have HS3 := Aside0.mk (news_ne hI)
      have HG3 := Aside0.mk (Nat.le_trans HB.out.size hg)
      have HI3 := Aside0.mk hI
      have HB' := Aside0.mk (below_step HB.out hb)
      clear hI hb hg HB
      have HB := HB'
      clear HB'

      go_wp2_with fail
      refine (vary_Text.calls _ g3 _ 65535 l HI3.out HS3.out HWF.out).mono ?_

      rintro x wu hx
      unfold TPost at hx
      rw [HT.out] at hx
      obtain ⟨rfl, h1, h3⟩ := hx
      change Rd wu g3 _ lt te at h1

      have HJ3 := Aside0.mk h1
      have HB' := Aside0.mk (HB.out.trans (h3.below HG3.out))
      clear h1 h3 HB
      have HB := HB'
      clear HB'
      go_wp2_with fail
      refine (vary_Err.calls _ g3 _ _ _ HJ3.out).mono ?_
      rintro x w' ⟨rfl, rfl⟩

      go_wp2_with (go_at_call 10; (with_reducible refine (awake_calls _).mono ?_); rintro e w3 ⟨rfl, hb⟩; have HZ := Aside0.mk (below_step HB.out hb); clear hb)
      go_ret
      exact ⟨rfl, HZ.out⟩

  · have hte : te ≠ 0 := by
      have := tRes_bad 65535 l (by rw [hu]; exact he)
      rw [ht] at this
      exact this
    have hb0 : (te == 0) = false := by simpa using hte
    have hb1 : (e == 0) = false := by simpa using he
    clear hu ht hwf hte he

    have HB := Aside0.mk (Below.refl w.heap.size w)
    go_enter Try.func7, Try.ntmps7

    go_wp2_with fail
    refine (vary_New.calls A0 c0 l _ (by exact Kd.C_below HR.out HB.out) HC.out HL.out).mono ?_
    rintro x wn1 ⟨g1, rfl, hg, hI, hb⟩
    have HS1 := Aside0.mk (news_ne hI)
    have HG1 := Aside0.mk (Nat.le_trans HB.out.size hg)
    have HI1 := Aside0.mk hI
    have HB' := Aside0.mk (below_step HB.out hb)
    clear hI hb hg HB
    have HB := HB'
    clear HB'

    go_wp2_with fail
    refine (vary_U.calls _ g1 _ l HI1.out HS1.out HWF.out).mono ?_

    rintro x wu hx
    unfold UPost at hx
    rw [HU.out] at hx
    obtain ⟨rfl, h1, h3⟩ := hx
    change Rd wu g1 _ l' e at h1

    have HJ1 := Aside0.mk h1
    have HB' := Aside0.mk (HB.out.trans (h3.below HG1.out))
    clear h1 h3 HB
    have HB := HB'
    clear HB'
    go_wp2_with fail
    refine (vary_Err.calls _ g1 _ _ _ HJ1.out).mono ?_
    rintro x w' ⟨rfl, rfl⟩

    go_wp2_with fail
    refine (vary_New.calls A0 c0 l _ (by exact Kd.C_below HR.out HB.out) HC.out HL.out).mono ?_
    rintro x wn2 ⟨g2, rfl, hg, hI, hb⟩
    have HS2 := Aside0.mk (news_ne hI)
    have HG2 := Aside0.mk (Nat.le_trans HB.out.size hg)
    have HI2 := Aside0.mk hI
    have HB' := Aside0.mk (below_step HB.out hb)
    clear hI hb hg HB
    have HB := HB'
    clear HB'

    go_wp2_with fail
    refine (vary_S.calls _ g2 _ l HI2.out HS2.out HWF.out).mono ?_

    rintro x wu ⟨rfl, h1, h3⟩
    rw [HU.out] at h1 ⊢
    change Rd wu g2 _ l' e at h1

    have HJ2 := Aside0.mk h1
    have HB' := Aside0.mk (HB.out.trans (h3.below HG2.out))
    clear h1 h3 HB
    have HB := HB'
    clear HB'
    go_wp2_with fail
    refine (vary_Err.calls _ g2 _ _ _ HJ2.out).mono ?_
    rintro x w' ⟨rfl, rfl⟩

    go_wp2_with fail
    refine (vary_New.calls A0 c0 l _ (by exact Kd.C_below HR.out HB.out) HC.out HL.out).mono ?_
    rintro x wn3 ⟨g3, rfl, hg, hI, hb⟩
    have HS3 := Aside0.mk (news_ne hI)
    have HG3 := Aside0.mk (Nat.le_trans HB.out.size hg)
    have HI3 := Aside0.mk hI
    have HB' := Aside0.mk (below_step HB.out hb)
    clear hI hb hg HB
    have HB := HB'
    clear HB'

    go_wp2_with fail
    refine (vary_Text.calls _ g3 _ 65535 l HI3.out HS3.out HWF.out).mono ?_

    rintro x wu hx
    unfold TPost at hx
    rw [HT.out] at hx
    obtain ⟨rfl, h1, h3⟩ := hx
    change Rd wu g3 _ lt te at h1

    have HJ3 := Aside0.mk h1
    have HB' := Aside0.mk (HB.out.trans (h3.below HG3.out))
    clear h1 h3 HB
    have HB := HB'
    clear HB'
    go_wp2_with fail
    refine (vary_Err.calls _ g3 _ _ _ HJ3.out).mono ?_
    rintro x w' ⟨rfl, rfl⟩

    go_wp2_with (go_at_call 10; (with_reducible refine (awake_calls _).mono ?_); rintro e w3 ⟨rfl, hb⟩; have HZ := Aside0.mk (below_step HB.out hb); clear hb)
    go_ret
    exact ⟨rfl, HZ.out⟩

#print axioms walk
end Go.Proofs.Ytmjedmiaebbjaaa.VD
