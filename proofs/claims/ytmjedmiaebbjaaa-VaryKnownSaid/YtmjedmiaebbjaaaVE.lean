/- The walk of VaryBack: what was written is read as it was, whatever stands behind it; of bytes behind, and texts, of 1048576 bytes at most. -/
import Derived.Test.YtmjedmiaebbjaaaVD
namespace Go.Proofs.Ytmjedmiaebbjaaa.VE
open Go.RowKit Go.Proofs.Ytmjedmiaebbjaaa.PV Go.Proofs.Ytmjedmiaebbjaaa.VA Go.Proofs.Ytmjedmiaebbjaaa.VC Go.Proofs.Ytmjedmiaebbjaaa.VD Go.Proofs.Ytmjedmiaebbjaaa.H Go.Proofs.YtmjedmiaebbjaaaW.PrintWords Go.Proofs.YtmjedmiaebbjaaaW.PrintLast Go.Proofs.YtmjedmiaebbjaaaW.PrintMore
set_option linter.unusedVariables false
set_option linter.unusedSimpArgs false

theorem U_no (n : Int) (h : n < 0 ∨ 18014398509481982 < n) (w : World) : Calls Try.prog 9 #[.int .i64 n] w fun e w' => ∃ v0_ : Value, e = .returned (.tuple #[v0_, .int .i64 9]) ∧ Kd.R (Kd.int .u8) 5 w' w.heap.size (fun _ => True) v0_ [] ∧ Below w.heap.size w w' := vary_U.calls 20 n _ _ w (U_bad 20 n (by decide) h)
theorem S_no (n : Int) (h : n < -9007199254740991 ∨ 9007199254740991 < n) (w : World) : Calls Try.prog 13 #[.int .i64 n] w fun e w' => ∃ v0_ : Value, e = .returned (.tuple #[v0_, .int .i64 9]) ∧ Kd.R (Kd.int .u8) 5 w' w.heap.size (fun _ => True) v0_ [] ∧ Below w.heap.size w w' := vary_S.calls 20 n _ _ w (S_bad 20 n h)
theorem S_go (n : Int) (h0 : -9007199254740991 ≤ n) (h1 : n ≤ 9007199254740991) (w : World) : Calls Try.prog 13 #[.int .i64 n] w fun e w' => ∃ v0_ : Value, e = .returned (.tuple #[v0_, .int .i64 0]) ∧ Kd.R (Kd.int .u8) 5 w' w.heap.size (fun _ => True) v0_ (enc 7 (zig n)) ∧ Below w.heap.size w w' := vary_S.calls 20 n _ _ w (S_good 20 n (by decide) h0 h1)
theorem T_no (s : ByteArray) (h : ¬ (s.size : Int) ≤ 65535) (w : World) : Calls Try.prog 15 #[.string s] w fun e w' => ∃ v0_ : Value, e = .returned (.tuple #[v0_, .int .i64 5]) ∧ Kd.R (Kd.int .u8) 5 w' w.heap.size (fun _ => True) v0_ [] ∧ Below w.heap.size w w' := by
  refine vary_Text.calls 20 s _ _ w ?_
  unfold vary_Text.f
  rw [if_pos (by omega)]
theorem T_go (s : ByteArray) (h : (s.size : Int) ≤ 65535) (w : World) : Calls Try.prog 15 #[.string s] w fun e w' => ∃ v0_ : Value, e = .returned (.tuple #[v0_, .int .i64 0]) ∧ Kd.R (Kd.int .u8) 5 w' w.heap.size (fun _ => True) v0_ (enc 7 (s.size : Int) ++ bytesOf s) ∧ Below w.heap.size w w' := by
  refine vary_Text.calls 20 s _ _ w ?_
  have hl := (enc_len 7 (s.size : Int)).2
  unfold vary_Text.f
  rw [if_neg (by omega), U_good 20 _ (by decide) (by omega) (by omega)]
  simp only [Option.bind_some]
  rw [if_pos (by omega)]
theorem str_back (s : ByteArray) : strOfNums (bytesOf s) = s := by
  have h : (s.data.toList.map fun b => (b.toNat : Int)).map (fun n => UInt8.ofNat n.toNat) = s.data.toList := by
    rw [List.map_map]
    conv => rhs; rw [← List.map_id s.data.toList]
    refine List.map_congr_left fun x _ => ?_
    show UInt8.ofNat (x.toNat : Int).toNat = x
    simp
  show (⟨((s.data.toList.map fun b => (b.toNat : Int)).map fun n => UInt8.ofNat n.toNat).toArray⟩ : ByteArray) = s
  rw [h]
theorem bytesOf_wf (s : ByteArray) : ∀ x ∈ bytesOf s, 0 ≤ x ∧ x < 256 := by
  intro x hx
  unfold bytesOf at hx
  obtain ⟨b, _, rfl⟩ := List.mem_map.1 hx
  have := b.toNat_lt
  omega
theorem tRes_txt (s : ByteArray) (rest : List Int) (h : (s.size : Int) ≤ 65535) : tRes 65535 (enc 7 (s.size : Int) ++ bytesOf s ++ rest) = (bytesOf s, rest, 0) := by
  have := tRes_enc 65535 (bytesOf s) rest (by rw [bytesOf_length]; exact h) (by rw [bytesOf_length]; omega)
  rwa [bytesOf_length] at this

set_option maxHeartbeats 6400000 in
set_option maxRecDepth 100000 in
theorem walk (n : Int) (s : ByteArray) (A0 : Option Addr) (c0 : Nat) (l : List Int) (w : World) (hr : Kd.C (Kd.int .u8) w A0 l.length l) (hc : l.length ≤ c0) (hl : l.length ≤ 1048576) (hz : s.size ≤ 1048576) (hwf : ∀ x ∈ l, 0 ≤ x ∧ x < 256) :
    Calls Try.prog 6 #[.int .i64 n, .string s, .slice A0 l.length c0] w fun e w' => e = .returned (.bool true) ∧ Below w.heap.size w w' := by
  have HR := Aside0.mk hr
  have HC := Aside0.mk hc
  have LD := Aside0.mk hl
  have HWF := Aside0.mk hwf
  have LS := Aside0.mk hz
  clear hr hc hl hwf hz
  rcases show (n < -9007199254740991) ∨ (-9007199254740991 ≤ n ∧ n < 0) ∨ (0 ≤ n ∧ n ≤ 9007199254740991) ∨ (9007199254740991 < n ∧ n ≤ 18014398509481982) ∨ 18014398509481982 < n from by omega with h | ⟨h, h'⟩ | ⟨h, h'⟩ | ⟨h, h'⟩ | h
  · have hu : n < 0 ∨ 18014398509481982 < n := by omega
    have hs : n < -9007199254740991 ∨ 9007199254740991 < n := by omega
    by_cases ht : (s.size : Int) ≤ 65535
    · have KU := U_no n hu
      have KS := S_no n hs
      have KT := T_go s ht
      obtain ⟨a, ea⟩ : ∃ a, a = ([] : List Int) := ⟨_, rfl⟩
      obtain ⟨b, eb⟩ : ∃ b, b = ([] : List Int) := ⟨_, rfl⟩
      obtain ⟨c, ec⟩ : ∃ c, c = (enc 7 (s.size : Int) ++ bytesOf s) := ⟨_, rfl⟩
      rw [← ea] at KU
      rw [← eb] at KS
      rw [← ec] at KT
      have LA : Aside0 (a.length ≤ 8) := ⟨by rw [ea]; simp⟩
      have LB : Aside0 (b.length ≤ 8) := ⟨by rw [eb]; simp⟩
      have LC : Aside0 (c.length ≤ 65543) := ⟨by rw [ec]; rw [List.length_append, bytesOf_length]; have := (enc_len 7 (s.size : Int)).2; omega⟩
      have EA := Aside0.mk ea.symm
      have EB := Aside0.mk eb.symm
      have EC := Aside0.mk ec.symm
      have KU := Aside0.mk KU
      have KS := Aside0.mk KS
      have KT := Aside0.mk KT
      clear ea eb ec
      have HB := Aside0.mk (Below.refl w.heap.size w)
      go_enter Try.func6, Try.ntmps6

      go_wp2_with fail
      refine (KU.out _).mono ?_
      rintro x wx1 ⟨vx1, rfl, hx, hb⟩
      obtain ⟨Ax1, cx1, rfl, hlx, hCx⟩ := Kd.R_reads hx
      have HX1 := Aside0.mk hCx
      have HB' := Aside0.mk (below_step HB.out hb)
      clear hx hb hlx hCx HB
      have HB := HB'
      clear HB'

      go_wp2_with fail
      refine (KS.out _).mono ?_
      rintro x wx2 ⟨vx2, rfl, hx, hb⟩
      obtain ⟨Ax2, cx2, rfl, hlx, hCx⟩ := Kd.R_reads hx
      have HX1' := Aside0.mk (Kd.C_below HX1.out hb)
      clear HX1
      have HX1 := HX1'
      clear HX1'
      have HX2 := Aside0.mk hCx
      have HB' := Aside0.mk (below_step HB.out hb)
      clear hx hb hlx hCx HB
      have HB := HB'
      clear HB'

      go_wp2_with fail
      refine (KT.out _).mono ?_
      rintro x wx3 ⟨vx3, rfl, hx, hb⟩
      obtain ⟨Ax3, cx3, rfl, hlx, hCx⟩ := Kd.R_reads hx
      have HX1' := Aside0.mk (Kd.C_below HX1.out hb)
      clear HX1
      have HX1 := HX1'
      clear HX1'
      have HX2' := Aside0.mk (Kd.C_below HX2.out hb)
      clear HX2
      have HX2 := HX2'
      clear HX2'
      have HX3 := Aside0.mk hCx
      have HB' := Aside0.mk (below_step HB.out hb)
      clear hx hb hlx hCx HB
      have HB := HB'
      clear HB'

      have HR' := Aside0.mk (Kd.C_below HR.out HB.out)
      generalize hwz : wx3 = wz at HB HX1 HX2 HX3 HR' ⊢
      clear hwz
      go_wp2_with (first
        | ((with_reducible refine gate_dst (N := 29) rfl ?_); refine Kd.R_lit (Kd.int .u8) (w0 := wz) wz.heap.size 5 ?hg (N := 29) ?hd (xs := ([] : List Int)) (inner := []) (ok := fun _ => True) (okp := fun _ => True) ?hr ?hp (fun _ hk => hk) trivial (Below.refl _ _) (Nat.le_refl _) (by simp) ?_; (case hd => rfl); (case hg => rfl); (case hr => first | (go_simp; done) | (go_simp; rfl)); (case hp => exact (Reps.none _ _)); intro v1 w21 ho4 hb hg_ hnew_; clear hg_ hnew_; have HW1 := Aside0.mk hb; have HO1 := Aside0.mk ho4; clear ho4 hb)
        | ((with_reducible refine gate_builtin (b := .append) (xs := #[.tmp 29, .tmp 30]) rfl ?_); at_builtin; refine Kd.R_append_rows (Kd.int .u8) (w0 := wz) wz.heap.size rfl (.tmp 29) (.tmp 30) 22 5 (.int .u8 0) 1 rfl Try.underlying22 hinfo5 rfl (by decide) (by omega) v1 ([] : List Int) a _ _ _ (fun _ => True) (fun _ => False) rfl rfl ?aO ?aR (fun _ _ h => h) (fun _ h => h.elim) ?aF ?aB ?aS ?aL ?_; (case aR => exact Kd.C_below HX1.out HW1.out); (case aB => exact HW1.out); (case aF => exact (fun _ _ => trivial)); (case aO => exact HO1.out); (case aS => exact below_size HW1.out); (case aL => have h1 := LA.out; have h2 := LB.out; have h3 := LC.out; have h4 := LD.out; (try simp only [List.length_append, List.length_nil] at *); omega); intro v2 w21 ho hb hg hat; have HW2 := Aside0.mk hb; have HO2 := Aside0.mk ho; clear ho hb hg hat)
        | ((with_reducible refine gate_builtin (b := .append) (xs := #[.tmp 31, .tmp 32]) rfl ?_); at_builtin; refine Kd.R_append_rows (Kd.int .u8) (w0 := wz) wz.heap.size rfl (.tmp 31) (.tmp 32) 22 5 (.int .u8 0) 1 rfl Try.underlying22 hinfo5 rfl (by decide) (by omega) v2 (([] : List Int) ++ a) b _ _ _ (fun _ => True) (fun _ => False) rfl rfl ?aO ?aR (fun _ _ h => h) (fun _ h => h.elim) ?aF ?aB ?aS ?aL ?_; (case aR => exact Kd.C_below HX2.out HW2.out); (case aB => exact HW2.out); (case aF => exact (fun _ _ => trivial)); (case aO => exact HO2.out); (case aS => exact below_size HW2.out); (case aL => have h1 := LA.out; have h2 := LB.out; have h3 := LC.out; have h4 := LD.out; (try simp only [List.length_append, List.length_nil] at *); omega); intro v3 w22 ho hb hg hat; have HW3 := Aside0.mk hb; have HO3 := Aside0.mk ho; clear ho hb hg hat)
        | ((with_reducible refine gate_builtin (b := .append) (xs := #[.tmp 33, .tmp 34]) rfl ?_); at_builtin; refine Kd.R_append_rows (Kd.int .u8) (w0 := wz) wz.heap.size rfl (.tmp 33) (.tmp 34) 22 5 (.int .u8 0) 1 rfl Try.underlying22 hinfo5 rfl (by decide) (by omega) v3 (([] : List Int) ++ a ++ b) c _ _ _ (fun _ => True) (fun _ => False) rfl rfl ?aO ?aR (fun _ _ h => h) (fun _ h => h.elim) ?aF ?aB ?aS ?aL ?_; (case aR => exact Kd.C_below HX3.out HW3.out); (case aB => exact HW3.out); (case aF => exact (fun _ _ => trivial)); (case aO => exact HO3.out); (case aS => exact below_size HW3.out); (case aL => have h1 := LA.out; have h2 := LB.out; have h3 := LC.out; have h4 := LD.out; (try simp only [List.length_append, List.length_nil] at *); omega); intro v4 w23 ho hb hg hat; have HW4 := Aside0.mk hb; have HO4 := Aside0.mk ho; clear ho hb hg hat)
        | ((with_reducible refine gate_builtin (b := .append) (xs := #[.tmp 35, .tmp 36]) rfl ?_); at_builtin; refine Kd.R_append_rows (Kd.int .u8) (w0 := wz) wz.heap.size rfl (.tmp 35) (.tmp 36) 22 5 (.int .u8 0) 1 rfl Try.underlying22 hinfo5 rfl (by decide) (by omega) v4 (([] : List Int) ++ a ++ b ++ c) l _ _ _ (fun _ => True) (fun _ => False) rfl rfl ?aO ?aR (fun _ _ h => h) (fun _ h => h.elim) ?aF ?aB ?aS ?aL ?_; (case aR => exact Kd.C_below HR'.out HW4.out); (case aB => exact HW4.out); (case aF => exact (fun _ _ => trivial)); (case aO => exact HO4.out); (case aS => exact below_size HW4.out); (case aL => have h1 := LA.out; have h2 := LB.out; have h3 := LC.out; have h4 := LD.out; (try simp only [List.length_append, List.length_nil] at *); omega); intro v5 w24 ho hb hg hat; have HW5 := Aside0.mk hb; have HO5 := Aside0.mk ho; clear ho hb hg hat)
        | fail)

      obtain ⟨Az, cz, rfl, hlz, hCz⟩ := Kd.R_reads HO5.out
      have HLZ := Aside0.mk hlz
      have HCZ := Aside0.mk hCz
      obtain ⟨L, eL⟩ : ∃ L, L = ([] : List Int) ++ a ++ b ++ c ++ l := ⟨_, rfl⟩
      rw [← eL] at HLZ HCZ ⊢
      have HEL := Aside0.mk eL
      clear hlz hCz eL
      refine (vary_New.calls Az cz L _ HCZ.out HLZ.out (by rw [HEL.out]; simp only [List.length_append, List.length_nil]; have h1 := LA.out; have h2 := LB.out; have h3 := LC.out; have h4 := LD.out; omega)).mono ?_
      rintro x wn ⟨g, rfl, hg, hI, hb⟩
      have HS := Aside0.mk (news_ne hI)
      have HBn := Aside0.mk (below_step HB.out (below_step HW5.out hb))
      have HG := Aside0.mk (Nat.le_trans (below_size (below_step HB.out HW5.out)) hg)
      have HI := Aside0.mk hI
      clear hI hb hg

      have hL : L = a ++ (b ++ (c ++ l)) := by rw [HEL.out]; simp [List.append_assoc]
      have HWC : Aside0 (∀ x ∈ c ++ l, 0 ≤ x ∧ x < 256) := ⟨fun x hx => by
        rcases List.mem_append.1 hx with hx | hx
        · rw [← EC.out] at hx
          exact (List.mem_append.1 hx).elim (fun h => enc_wf 7 _ (by omega) (by omega) x h) (fun h => bytesOf_wf s x h)
        · exact HWF.out x hx⟩
      have HWB : Aside0 (∀ x ∈ b ++ (c ++ l), 0 ≤ x ∧ x < 256) := ⟨fun x hx => by
        rcases List.mem_append.1 hx with hx | hx
        · rw [← EB.out] at hx
          simp at hx
        · exact HWC.out x hx⟩
      have HWA : Aside0 (∀ x ∈ a ++ (b ++ (c ++ l)), 0 ≤ x ∧ x < 256) := ⟨fun x hx => by
        rcases List.mem_append.1 hx with hx | hx
        · rw [← EA.out] at hx
          simp at hx
        · exact HWB.out x hx⟩
      have HUR : Aside0 (a ++ (b ++ (c ++ l)) = b ++ (c ++ l)) := ⟨by rw [← EA.out]; exact rfl⟩
      have HSR : Aside0 (b ++ (c ++ l) = c ++ l) := ⟨by rw [← EB.out]; exact rfl⟩
      have HTR : Aside0 (tRes 65535 (c ++ l) = (bytesOf s, l, 0)) := ⟨by rw [← EC.out]; exact tRes_txt s l ht⟩
      have hI := HI.out
      rw [hL] at hI
      obtain ⟨X0, hX0⟩ : ∃ X, X = a ++ (b ++ (c ++ l)) := ⟨_, rfl⟩
      obtain ⟨X1, hX1⟩ : ∃ X, X = b ++ (c ++ l) := ⟨_, rfl⟩
      obtain ⟨X2, hX2⟩ : ∃ X, X = c ++ l := ⟨_, rfl⟩
      rw [← hX2] at HWC hX1 hX0 hI HUR HSR HTR HWB HWA
      rw [← hX1] at hX0 hI HUR HSR HWB HWA
      rw [← hX0] at hI HUR HWA
      have HI := Aside0.mk hI
      clear hL hX0 hX1 hX2 hI HX1 HX2 HX3 HCZ HLZ HEL
      rw [HUR.out] at HI
      rw [HSR.out] at HI

      go_wp2_with fail
      refine (vary_Text.calls _ g _ 65535 X2 HI.out HS.out HWC.out).mono ?_
      rintro x wu hx
      unfold TPost at hx
      rw [HTR.out] at hx
      obtain ⟨rfl, h1, h3⟩ := hx
      change Rd wu g _ l 0 at h1
      rw [show strOfNums (bytesOf s, l, (0 : Int)).1 = s from str_back s]
      have HI' := Aside0.mk h1
      have HBn' := Aside0.mk (HBn.out.trans (h3.below HG.out))
      clear h1 h3 HI HBn
      have HI := HI'
      have HBn := HBn'
      clear HI' HBn'

      go_wp2_with (first | (go_at_call 31; (with_reducible refine (vary_Err.calls _ g _ l 0 HI.out).mono ?_); rintro x w' ⟨rfl, rfl⟩) | (go_at_call 32; (with_reducible refine (Left_at _ g _ l HI.out).mono ?_); rintro x w' ⟨rfl, rfl⟩) | (go_at_call 10; (with_reducible refine (awake_calls _).mono ?_); rintro e w3 ⟨rfl, hb⟩; have HZ := Aside0.mk (below_step HBn.out hb); clear hb) | fail)
      go_ret
      exact ⟨rfl, HZ.out⟩

    · have ht' : (65535 : Int) < (s.size : Int) := by omega
      have KU := U_no n hu
      have KS := S_no n hs
      have KT := T_no s ht
      obtain ⟨a, ea⟩ : ∃ a, a = ([] : List Int) := ⟨_, rfl⟩
      obtain ⟨b, eb⟩ : ∃ b, b = ([] : List Int) := ⟨_, rfl⟩
      obtain ⟨c, ec⟩ : ∃ c, c = ([] : List Int) := ⟨_, rfl⟩
      rw [← ea] at KU
      rw [← eb] at KS
      rw [← ec] at KT
      have LA : Aside0 (a.length ≤ 8) := ⟨by rw [ea]; simp⟩
      have LB : Aside0 (b.length ≤ 8) := ⟨by rw [eb]; simp⟩
      have LC : Aside0 (c.length ≤ 65543) := ⟨by rw [ec]; simp⟩
      have EA := Aside0.mk ea.symm
      have EB := Aside0.mk eb.symm
      have EC := Aside0.mk ec.symm
      have KU := Aside0.mk KU
      have KS := Aside0.mk KS
      have KT := Aside0.mk KT
      clear ea eb ec
      have HB := Aside0.mk (Below.refl w.heap.size w)
      go_enter Try.func6, Try.ntmps6

      go_wp2_with fail
      refine (KU.out _).mono ?_
      rintro x wx1 ⟨vx1, rfl, hx, hb⟩
      obtain ⟨Ax1, cx1, rfl, hlx, hCx⟩ := Kd.R_reads hx
      have HX1 := Aside0.mk hCx
      have HB' := Aside0.mk (below_step HB.out hb)
      clear hx hb hlx hCx HB
      have HB := HB'
      clear HB'

      go_wp2_with fail
      refine (KS.out _).mono ?_
      rintro x wx2 ⟨vx2, rfl, hx, hb⟩
      obtain ⟨Ax2, cx2, rfl, hlx, hCx⟩ := Kd.R_reads hx
      have HX1' := Aside0.mk (Kd.C_below HX1.out hb)
      clear HX1
      have HX1 := HX1'
      clear HX1'
      have HX2 := Aside0.mk hCx
      have HB' := Aside0.mk (below_step HB.out hb)
      clear hx hb hlx hCx HB
      have HB := HB'
      clear HB'

      go_wp2_with fail
      refine (KT.out _).mono ?_
      rintro x wx3 ⟨vx3, rfl, hx, hb⟩
      obtain ⟨Ax3, cx3, rfl, hlx, hCx⟩ := Kd.R_reads hx
      have HX1' := Aside0.mk (Kd.C_below HX1.out hb)
      clear HX1
      have HX1 := HX1'
      clear HX1'
      have HX2' := Aside0.mk (Kd.C_below HX2.out hb)
      clear HX2
      have HX2 := HX2'
      clear HX2'
      have HX3 := Aside0.mk hCx
      have HB' := Aside0.mk (below_step HB.out hb)
      clear hx hb hlx hCx HB
      have HB := HB'
      clear HB'

      have HR' := Aside0.mk (Kd.C_below HR.out HB.out)
      generalize hwz : wx3 = wz at HB HX1 HX2 HX3 HR' ⊢
      clear hwz
      go_wp2_with (first
        | ((with_reducible refine gate_dst (N := 29) rfl ?_); refine Kd.R_lit (Kd.int .u8) (w0 := wz) wz.heap.size 5 ?hg (N := 29) ?hd (xs := ([] : List Int)) (inner := []) (ok := fun _ => True) (okp := fun _ => True) ?hr ?hp (fun _ hk => hk) trivial (Below.refl _ _) (Nat.le_refl _) (by simp) ?_; (case hd => rfl); (case hg => rfl); (case hr => first | (go_simp; done) | (go_simp; rfl)); (case hp => exact (Reps.none _ _)); intro v1 w21 ho4 hb hg_ hnew_; clear hg_ hnew_; have HW1 := Aside0.mk hb; have HO1 := Aside0.mk ho4; clear ho4 hb)
        | ((with_reducible refine gate_builtin (b := .append) (xs := #[.tmp 29, .tmp 30]) rfl ?_); at_builtin; refine Kd.R_append_rows (Kd.int .u8) (w0 := wz) wz.heap.size rfl (.tmp 29) (.tmp 30) 22 5 (.int .u8 0) 1 rfl Try.underlying22 hinfo5 rfl (by decide) (by omega) v1 ([] : List Int) a _ _ _ (fun _ => True) (fun _ => False) rfl rfl ?aO ?aR (fun _ _ h => h) (fun _ h => h.elim) ?aF ?aB ?aS ?aL ?_; (case aR => exact Kd.C_below HX1.out HW1.out); (case aB => exact HW1.out); (case aF => exact (fun _ _ => trivial)); (case aO => exact HO1.out); (case aS => exact below_size HW1.out); (case aL => have h1 := LA.out; have h2 := LB.out; have h3 := LC.out; have h4 := LD.out; (try simp only [List.length_append, List.length_nil] at *); omega); intro v2 w21 ho hb hg hat; have HW2 := Aside0.mk hb; have HO2 := Aside0.mk ho; clear ho hb hg hat)
        | ((with_reducible refine gate_builtin (b := .append) (xs := #[.tmp 31, .tmp 32]) rfl ?_); at_builtin; refine Kd.R_append_rows (Kd.int .u8) (w0 := wz) wz.heap.size rfl (.tmp 31) (.tmp 32) 22 5 (.int .u8 0) 1 rfl Try.underlying22 hinfo5 rfl (by decide) (by omega) v2 (([] : List Int) ++ a) b _ _ _ (fun _ => True) (fun _ => False) rfl rfl ?aO ?aR (fun _ _ h => h) (fun _ h => h.elim) ?aF ?aB ?aS ?aL ?_; (case aR => exact Kd.C_below HX2.out HW2.out); (case aB => exact HW2.out); (case aF => exact (fun _ _ => trivial)); (case aO => exact HO2.out); (case aS => exact below_size HW2.out); (case aL => have h1 := LA.out; have h2 := LB.out; have h3 := LC.out; have h4 := LD.out; (try simp only [List.length_append, List.length_nil] at *); omega); intro v3 w22 ho hb hg hat; have HW3 := Aside0.mk hb; have HO3 := Aside0.mk ho; clear ho hb hg hat)
        | ((with_reducible refine gate_builtin (b := .append) (xs := #[.tmp 33, .tmp 34]) rfl ?_); at_builtin; refine Kd.R_append_rows (Kd.int .u8) (w0 := wz) wz.heap.size rfl (.tmp 33) (.tmp 34) 22 5 (.int .u8 0) 1 rfl Try.underlying22 hinfo5 rfl (by decide) (by omega) v3 (([] : List Int) ++ a ++ b) c _ _ _ (fun _ => True) (fun _ => False) rfl rfl ?aO ?aR (fun _ _ h => h) (fun _ h => h.elim) ?aF ?aB ?aS ?aL ?_; (case aR => exact Kd.C_below HX3.out HW3.out); (case aB => exact HW3.out); (case aF => exact (fun _ _ => trivial)); (case aO => exact HO3.out); (case aS => exact below_size HW3.out); (case aL => have h1 := LA.out; have h2 := LB.out; have h3 := LC.out; have h4 := LD.out; (try simp only [List.length_append, List.length_nil] at *); omega); intro v4 w23 ho hb hg hat; have HW4 := Aside0.mk hb; have HO4 := Aside0.mk ho; clear ho hb hg hat)
        | ((with_reducible refine gate_builtin (b := .append) (xs := #[.tmp 35, .tmp 36]) rfl ?_); at_builtin; refine Kd.R_append_rows (Kd.int .u8) (w0 := wz) wz.heap.size rfl (.tmp 35) (.tmp 36) 22 5 (.int .u8 0) 1 rfl Try.underlying22 hinfo5 rfl (by decide) (by omega) v4 (([] : List Int) ++ a ++ b ++ c) l _ _ _ (fun _ => True) (fun _ => False) rfl rfl ?aO ?aR (fun _ _ h => h) (fun _ h => h.elim) ?aF ?aB ?aS ?aL ?_; (case aR => exact Kd.C_below HR'.out HW4.out); (case aB => exact HW4.out); (case aF => exact (fun _ _ => trivial)); (case aO => exact HO4.out); (case aS => exact below_size HW4.out); (case aL => have h1 := LA.out; have h2 := LB.out; have h3 := LC.out; have h4 := LD.out; (try simp only [List.length_append, List.length_nil] at *); omega); intro v5 w24 ho hb hg hat; have HW5 := Aside0.mk hb; have HO5 := Aside0.mk ho; clear ho hb hg hat)
        | fail)

      obtain ⟨Az, cz, rfl, hlz, hCz⟩ := Kd.R_reads HO5.out
      have HLZ := Aside0.mk hlz
      have HCZ := Aside0.mk hCz
      obtain ⟨L, eL⟩ : ∃ L, L = ([] : List Int) ++ a ++ b ++ c ++ l := ⟨_, rfl⟩
      rw [← eL] at HLZ HCZ ⊢
      have HEL := Aside0.mk eL
      clear hlz hCz eL
      refine (vary_New.calls Az cz L _ HCZ.out HLZ.out (by rw [HEL.out]; simp only [List.length_append, List.length_nil]; have h1 := LA.out; have h2 := LB.out; have h3 := LC.out; have h4 := LD.out; omega)).mono ?_
      rintro x wn ⟨g, rfl, hg, hI, hb⟩
      have HS := Aside0.mk (news_ne hI)
      have HBn := Aside0.mk (below_step HB.out (below_step HW5.out hb))
      have HG := Aside0.mk (Nat.le_trans (below_size (below_step HB.out HW5.out)) hg)
      have HI := Aside0.mk hI
      clear hI hb hg

      have hL : L = a ++ (b ++ (c ++ l)) := by rw [HEL.out]; simp [List.append_assoc]
      have HWC : Aside0 (∀ x ∈ c ++ l, 0 ≤ x ∧ x < 256) := ⟨fun x hx => by
        rcases List.mem_append.1 hx with hx | hx
        · rw [← EC.out] at hx
          simp at hx
        · exact HWF.out x hx⟩
      have HWB : Aside0 (∀ x ∈ b ++ (c ++ l), 0 ≤ x ∧ x < 256) := ⟨fun x hx => by
        rcases List.mem_append.1 hx with hx | hx
        · rw [← EB.out] at hx
          simp at hx
        · exact HWC.out x hx⟩
      have HWA : Aside0 (∀ x ∈ a ++ (b ++ (c ++ l)), 0 ≤ x ∧ x < 256) := ⟨fun x hx => by
        rcases List.mem_append.1 hx with hx | hx
        · rw [← EA.out] at hx
          simp at hx
        · exact HWB.out x hx⟩
      have HUR : Aside0 (a ++ (b ++ (c ++ l)) = b ++ (c ++ l)) := ⟨by rw [← EA.out]; exact rfl⟩
      have HSR : Aside0 (b ++ (c ++ l) = c ++ l) := ⟨by rw [← EB.out]; exact rfl⟩
      have HTR : Aside0 (c ++ l = l) := ⟨by rw [← EC.out]; exact rfl⟩
      have hI := HI.out
      rw [hL] at hI
      obtain ⟨X0, hX0⟩ : ∃ X, X = a ++ (b ++ (c ++ l)) := ⟨_, rfl⟩
      obtain ⟨X1, hX1⟩ : ∃ X, X = b ++ (c ++ l) := ⟨_, rfl⟩
      obtain ⟨X2, hX2⟩ : ∃ X, X = c ++ l := ⟨_, rfl⟩
      rw [← hX2] at HWC hX1 hX0 hI HUR HSR HTR HWB HWA
      rw [← hX1] at hX0 hI HUR HSR HWB HWA
      rw [← hX0] at hI HUR HWA
      have HI := Aside0.mk hI
      clear hL hX0 hX1 hX2 hI HX1 HX2 HX3 HCZ HLZ HEL
      rw [HUR.out] at HI
      rw [HSR.out] at HI
      rw [HTR.out] at HI

      go_wp2_with (first | (go_at_call 31; (with_reducible refine (vary_Err.calls _ g _ l 0 HI.out).mono ?_); rintro x w' ⟨rfl, rfl⟩) | (go_at_call 32; (with_reducible refine (Left_at _ g _ l HI.out).mono ?_); rintro x w' ⟨rfl, rfl⟩) | (go_at_call 10; (with_reducible refine (awake_calls _).mono ?_); rintro e w3 ⟨rfl, hb⟩; have HZ := Aside0.mk (below_step HBn.out hb); clear hb) | fail)
      go_ret
      exact ⟨rfl, HZ.out⟩

  · have hu : n < 0 ∨ 18014398509481982 < n := by omega
    have hs : -9007199254740991 ≤ n ∧ n ≤ 9007199254740991 := by omega
    by_cases ht : (s.size : Int) ≤ 65535
    · have KU := U_no n hu
      have KS := S_go n hs.1 hs.2
      have KT := T_go s ht
      obtain ⟨a, ea⟩ : ∃ a, a = ([] : List Int) := ⟨_, rfl⟩
      obtain ⟨b, eb⟩ : ∃ b, b = (enc 7 (zig n)) := ⟨_, rfl⟩
      obtain ⟨c, ec⟩ : ∃ c, c = (enc 7 (s.size : Int) ++ bytesOf s) := ⟨_, rfl⟩
      rw [← ea] at KU
      rw [← eb] at KS
      rw [← ec] at KT
      have LA : Aside0 (a.length ≤ 8) := ⟨by rw [ea]; simp⟩
      have LB : Aside0 (b.length ≤ 8) := ⟨by rw [eb]; exact (enc_len 7 _).2⟩
      have LC : Aside0 (c.length ≤ 65543) := ⟨by rw [ec]; rw [List.length_append, bytesOf_length]; have := (enc_len 7 (s.size : Int)).2; omega⟩
      have EA := Aside0.mk ea.symm
      have EB := Aside0.mk eb.symm
      have EC := Aside0.mk ec.symm
      have KU := Aside0.mk KU
      have KS := Aside0.mk KS
      have KT := Aside0.mk KT
      clear ea eb ec
      have HB := Aside0.mk (Below.refl w.heap.size w)
      go_enter Try.func6, Try.ntmps6

      go_wp2_with fail
      refine (KU.out _).mono ?_
      rintro x wx1 ⟨vx1, rfl, hx, hb⟩
      obtain ⟨Ax1, cx1, rfl, hlx, hCx⟩ := Kd.R_reads hx
      have HX1 := Aside0.mk hCx
      have HB' := Aside0.mk (below_step HB.out hb)
      clear hx hb hlx hCx HB
      have HB := HB'
      clear HB'

      go_wp2_with fail
      refine (KS.out _).mono ?_
      rintro x wx2 ⟨vx2, rfl, hx, hb⟩
      obtain ⟨Ax2, cx2, rfl, hlx, hCx⟩ := Kd.R_reads hx
      have HX1' := Aside0.mk (Kd.C_below HX1.out hb)
      clear HX1
      have HX1 := HX1'
      clear HX1'
      have HX2 := Aside0.mk hCx
      have HB' := Aside0.mk (below_step HB.out hb)
      clear hx hb hlx hCx HB
      have HB := HB'
      clear HB'

      go_wp2_with fail
      refine (KT.out _).mono ?_
      rintro x wx3 ⟨vx3, rfl, hx, hb⟩
      obtain ⟨Ax3, cx3, rfl, hlx, hCx⟩ := Kd.R_reads hx
      have HX1' := Aside0.mk (Kd.C_below HX1.out hb)
      clear HX1
      have HX1 := HX1'
      clear HX1'
      have HX2' := Aside0.mk (Kd.C_below HX2.out hb)
      clear HX2
      have HX2 := HX2'
      clear HX2'
      have HX3 := Aside0.mk hCx
      have HB' := Aside0.mk (below_step HB.out hb)
      clear hx hb hlx hCx HB
      have HB := HB'
      clear HB'

      have HR' := Aside0.mk (Kd.C_below HR.out HB.out)
      generalize hwz : wx3 = wz at HB HX1 HX2 HX3 HR' ⊢
      clear hwz
      go_wp2_with (first
        | ((with_reducible refine gate_dst (N := 29) rfl ?_); refine Kd.R_lit (Kd.int .u8) (w0 := wz) wz.heap.size 5 ?hg (N := 29) ?hd (xs := ([] : List Int)) (inner := []) (ok := fun _ => True) (okp := fun _ => True) ?hr ?hp (fun _ hk => hk) trivial (Below.refl _ _) (Nat.le_refl _) (by simp) ?_; (case hd => rfl); (case hg => rfl); (case hr => first | (go_simp; done) | (go_simp; rfl)); (case hp => exact (Reps.none _ _)); intro v1 w21 ho4 hb hg_ hnew_; clear hg_ hnew_; have HW1 := Aside0.mk hb; have HO1 := Aside0.mk ho4; clear ho4 hb)
        | ((with_reducible refine gate_builtin (b := .append) (xs := #[.tmp 29, .tmp 30]) rfl ?_); at_builtin; refine Kd.R_append_rows (Kd.int .u8) (w0 := wz) wz.heap.size rfl (.tmp 29) (.tmp 30) 22 5 (.int .u8 0) 1 rfl Try.underlying22 hinfo5 rfl (by decide) (by omega) v1 ([] : List Int) a _ _ _ (fun _ => True) (fun _ => False) rfl rfl ?aO ?aR (fun _ _ h => h) (fun _ h => h.elim) ?aF ?aB ?aS ?aL ?_; (case aR => exact Kd.C_below HX1.out HW1.out); (case aB => exact HW1.out); (case aF => exact (fun _ _ => trivial)); (case aO => exact HO1.out); (case aS => exact below_size HW1.out); (case aL => have h1 := LA.out; have h2 := LB.out; have h3 := LC.out; have h4 := LD.out; (try simp only [List.length_append, List.length_nil] at *); omega); intro v2 w21 ho hb hg hat; have HW2 := Aside0.mk hb; have HO2 := Aside0.mk ho; clear ho hb hg hat)
        | ((with_reducible refine gate_builtin (b := .append) (xs := #[.tmp 31, .tmp 32]) rfl ?_); at_builtin; refine Kd.R_append_rows (Kd.int .u8) (w0 := wz) wz.heap.size rfl (.tmp 31) (.tmp 32) 22 5 (.int .u8 0) 1 rfl Try.underlying22 hinfo5 rfl (by decide) (by omega) v2 (([] : List Int) ++ a) b _ _ _ (fun _ => True) (fun _ => False) rfl rfl ?aO ?aR (fun _ _ h => h) (fun _ h => h.elim) ?aF ?aB ?aS ?aL ?_; (case aR => exact Kd.C_below HX2.out HW2.out); (case aB => exact HW2.out); (case aF => exact (fun _ _ => trivial)); (case aO => exact HO2.out); (case aS => exact below_size HW2.out); (case aL => have h1 := LA.out; have h2 := LB.out; have h3 := LC.out; have h4 := LD.out; (try simp only [List.length_append, List.length_nil] at *); omega); intro v3 w22 ho hb hg hat; have HW3 := Aside0.mk hb; have HO3 := Aside0.mk ho; clear ho hb hg hat)
        | ((with_reducible refine gate_builtin (b := .append) (xs := #[.tmp 33, .tmp 34]) rfl ?_); at_builtin; refine Kd.R_append_rows (Kd.int .u8) (w0 := wz) wz.heap.size rfl (.tmp 33) (.tmp 34) 22 5 (.int .u8 0) 1 rfl Try.underlying22 hinfo5 rfl (by decide) (by omega) v3 (([] : List Int) ++ a ++ b) c _ _ _ (fun _ => True) (fun _ => False) rfl rfl ?aO ?aR (fun _ _ h => h) (fun _ h => h.elim) ?aF ?aB ?aS ?aL ?_; (case aR => exact Kd.C_below HX3.out HW3.out); (case aB => exact HW3.out); (case aF => exact (fun _ _ => trivial)); (case aO => exact HO3.out); (case aS => exact below_size HW3.out); (case aL => have h1 := LA.out; have h2 := LB.out; have h3 := LC.out; have h4 := LD.out; (try simp only [List.length_append, List.length_nil] at *); omega); intro v4 w23 ho hb hg hat; have HW4 := Aside0.mk hb; have HO4 := Aside0.mk ho; clear ho hb hg hat)
        | ((with_reducible refine gate_builtin (b := .append) (xs := #[.tmp 35, .tmp 36]) rfl ?_); at_builtin; refine Kd.R_append_rows (Kd.int .u8) (w0 := wz) wz.heap.size rfl (.tmp 35) (.tmp 36) 22 5 (.int .u8 0) 1 rfl Try.underlying22 hinfo5 rfl (by decide) (by omega) v4 (([] : List Int) ++ a ++ b ++ c) l _ _ _ (fun _ => True) (fun _ => False) rfl rfl ?aO ?aR (fun _ _ h => h) (fun _ h => h.elim) ?aF ?aB ?aS ?aL ?_; (case aR => exact Kd.C_below HR'.out HW4.out); (case aB => exact HW4.out); (case aF => exact (fun _ _ => trivial)); (case aO => exact HO4.out); (case aS => exact below_size HW4.out); (case aL => have h1 := LA.out; have h2 := LB.out; have h3 := LC.out; have h4 := LD.out; (try simp only [List.length_append, List.length_nil] at *); omega); intro v5 w24 ho hb hg hat; have HW5 := Aside0.mk hb; have HO5 := Aside0.mk ho; clear ho hb hg hat)
        | fail)

      obtain ⟨Az, cz, rfl, hlz, hCz⟩ := Kd.R_reads HO5.out
      have HLZ := Aside0.mk hlz
      have HCZ := Aside0.mk hCz
      obtain ⟨L, eL⟩ : ∃ L, L = ([] : List Int) ++ a ++ b ++ c ++ l := ⟨_, rfl⟩
      rw [← eL] at HLZ HCZ ⊢
      have HEL := Aside0.mk eL
      clear hlz hCz eL
      refine (vary_New.calls Az cz L _ HCZ.out HLZ.out (by rw [HEL.out]; simp only [List.length_append, List.length_nil]; have h1 := LA.out; have h2 := LB.out; have h3 := LC.out; have h4 := LD.out; omega)).mono ?_
      rintro x wn ⟨g, rfl, hg, hI, hb⟩
      have HS := Aside0.mk (news_ne hI)
      have HBn := Aside0.mk (below_step HB.out (below_step HW5.out hb))
      have HG := Aside0.mk (Nat.le_trans (below_size (below_step HB.out HW5.out)) hg)
      have HI := Aside0.mk hI
      clear hI hb hg

      have hL : L = a ++ (b ++ (c ++ l)) := by rw [HEL.out]; simp [List.append_assoc]
      have HWC : Aside0 (∀ x ∈ c ++ l, 0 ≤ x ∧ x < 256) := ⟨fun x hx => by
        rcases List.mem_append.1 hx with hx | hx
        · rw [← EC.out] at hx
          exact (List.mem_append.1 hx).elim (fun h => enc_wf 7 _ (by omega) (by omega) x h) (fun h => bytesOf_wf s x h)
        · exact HWF.out x hx⟩
      have HWB : Aside0 (∀ x ∈ b ++ (c ++ l), 0 ≤ x ∧ x < 256) := ⟨fun x hx => by
        rcases List.mem_append.1 hx with hx | hx
        · rw [← EB.out] at hx
          exact enc_wf 7 _ (zig_bound n hs.1 hs.2).1 (by have := (zig_bound n hs.1 hs.2).2; omega) x hx
        · exact HWC.out x hx⟩
      have HWA : Aside0 (∀ x ∈ a ++ (b ++ (c ++ l)), 0 ≤ x ∧ x < 256) := ⟨fun x hx => by
        rcases List.mem_append.1 hx with hx | hx
        · rw [← EA.out] at hx
          simp at hx
        · exact HWB.out x hx⟩
      have HUR : Aside0 (a ++ (b ++ (c ++ l)) = b ++ (c ++ l)) := ⟨by rw [← EA.out]; exact rfl⟩
      have HSR : Aside0 (uRes (b ++ (c ++ l)) = (zig n, c ++ l, 0)) := ⟨by rw [← EB.out]; exact uRes_enc (zig n) _ (zig_bound n hs.1 hs.2).1 (zig_bound n hs.1 hs.2).2⟩
      have HTR : Aside0 (tRes 65535 (c ++ l) = (bytesOf s, l, 0)) := ⟨by rw [← EC.out]; exact tRes_txt s l ht⟩
      have hI := HI.out
      rw [hL] at hI
      obtain ⟨X0, hX0⟩ : ∃ X, X = a ++ (b ++ (c ++ l)) := ⟨_, rfl⟩
      obtain ⟨X1, hX1⟩ : ∃ X, X = b ++ (c ++ l) := ⟨_, rfl⟩
      obtain ⟨X2, hX2⟩ : ∃ X, X = c ++ l := ⟨_, rfl⟩
      rw [← hX2] at HWC hX1 hX0 hI HUR HSR HTR HWB HWA
      rw [← hX1] at hX0 hI HUR HSR HWB HWA
      rw [← hX0] at hI HUR HWA
      have HI := Aside0.mk hI
      clear hL hX0 hX1 hX2 hI HX1 HX2 HX3 HCZ HLZ HEL
      rw [HUR.out] at HI

      go_wp2_with fail
      refine (vary_S.calls _ g _ X1 HI.out HS.out HWB.out).mono ?_
      rintro x wu ⟨rfl, h1, h3⟩
      rw [HSR.out] at h1 ⊢
      change Rd wu g _ X2 0 at h1
      rw [show sOf (zig n, X2, (0 : Int)).1 = n from sOf_zig n]
      have HI' := Aside0.mk h1
      have HBn' := Aside0.mk (HBn.out.trans (h3.below HG.out))
      clear h1 h3 HI HBn
      have HI := HI'
      have HBn := HBn'
      clear HI' HBn'

      go_wp2_with fail
      refine (vary_Text.calls _ g _ 65535 X2 HI.out HS.out HWC.out).mono ?_
      rintro x wu hx
      unfold TPost at hx
      rw [HTR.out] at hx
      obtain ⟨rfl, h1, h3⟩ := hx
      change Rd wu g _ l 0 at h1
      rw [show strOfNums (bytesOf s, l, (0 : Int)).1 = s from str_back s]
      have HI' := Aside0.mk h1
      have HBn' := Aside0.mk (HBn.out.trans (h3.below HG.out))
      clear h1 h3 HI HBn
      have HI := HI'
      have HBn := HBn'
      clear HI' HBn'

      go_wp2_with (first | (go_at_call 31; (with_reducible refine (vary_Err.calls _ g _ l 0 HI.out).mono ?_); rintro x w' ⟨rfl, rfl⟩) | (go_at_call 32; (with_reducible refine (Left_at _ g _ l HI.out).mono ?_); rintro x w' ⟨rfl, rfl⟩) | (go_at_call 10; (with_reducible refine (awake_calls _).mono ?_); rintro e w3 ⟨rfl, hb⟩; have HZ := Aside0.mk (below_step HBn.out hb); clear hb) | fail)
      go_ret
      exact ⟨rfl, HZ.out⟩

    · have ht' : (65535 : Int) < (s.size : Int) := by omega
      have KU := U_no n hu
      have KS := S_go n hs.1 hs.2
      have KT := T_no s ht
      obtain ⟨a, ea⟩ : ∃ a, a = ([] : List Int) := ⟨_, rfl⟩
      obtain ⟨b, eb⟩ : ∃ b, b = (enc 7 (zig n)) := ⟨_, rfl⟩
      obtain ⟨c, ec⟩ : ∃ c, c = ([] : List Int) := ⟨_, rfl⟩
      rw [← ea] at KU
      rw [← eb] at KS
      rw [← ec] at KT
      have LA : Aside0 (a.length ≤ 8) := ⟨by rw [ea]; simp⟩
      have LB : Aside0 (b.length ≤ 8) := ⟨by rw [eb]; exact (enc_len 7 _).2⟩
      have LC : Aside0 (c.length ≤ 65543) := ⟨by rw [ec]; simp⟩
      have EA := Aside0.mk ea.symm
      have EB := Aside0.mk eb.symm
      have EC := Aside0.mk ec.symm
      have KU := Aside0.mk KU
      have KS := Aside0.mk KS
      have KT := Aside0.mk KT
      clear ea eb ec
      have HB := Aside0.mk (Below.refl w.heap.size w)
      go_enter Try.func6, Try.ntmps6

      go_wp2_with fail
      refine (KU.out _).mono ?_
      rintro x wx1 ⟨vx1, rfl, hx, hb⟩
      obtain ⟨Ax1, cx1, rfl, hlx, hCx⟩ := Kd.R_reads hx
      have HX1 := Aside0.mk hCx
      have HB' := Aside0.mk (below_step HB.out hb)
      clear hx hb hlx hCx HB
      have HB := HB'
      clear HB'

      go_wp2_with fail
      refine (KS.out _).mono ?_
      rintro x wx2 ⟨vx2, rfl, hx, hb⟩
      obtain ⟨Ax2, cx2, rfl, hlx, hCx⟩ := Kd.R_reads hx
      have HX1' := Aside0.mk (Kd.C_below HX1.out hb)
      clear HX1
      have HX1 := HX1'
      clear HX1'
      have HX2 := Aside0.mk hCx
      have HB' := Aside0.mk (below_step HB.out hb)
      clear hx hb hlx hCx HB
      have HB := HB'
      clear HB'

      go_wp2_with fail
      refine (KT.out _).mono ?_
      rintro x wx3 ⟨vx3, rfl, hx, hb⟩
      obtain ⟨Ax3, cx3, rfl, hlx, hCx⟩ := Kd.R_reads hx
      have HX1' := Aside0.mk (Kd.C_below HX1.out hb)
      clear HX1
      have HX1 := HX1'
      clear HX1'
      have HX2' := Aside0.mk (Kd.C_below HX2.out hb)
      clear HX2
      have HX2 := HX2'
      clear HX2'
      have HX3 := Aside0.mk hCx
      have HB' := Aside0.mk (below_step HB.out hb)
      clear hx hb hlx hCx HB
      have HB := HB'
      clear HB'

      have HR' := Aside0.mk (Kd.C_below HR.out HB.out)
      generalize hwz : wx3 = wz at HB HX1 HX2 HX3 HR' ⊢
      clear hwz
      go_wp2_with (first
        | ((with_reducible refine gate_dst (N := 29) rfl ?_); refine Kd.R_lit (Kd.int .u8) (w0 := wz) wz.heap.size 5 ?hg (N := 29) ?hd (xs := ([] : List Int)) (inner := []) (ok := fun _ => True) (okp := fun _ => True) ?hr ?hp (fun _ hk => hk) trivial (Below.refl _ _) (Nat.le_refl _) (by simp) ?_; (case hd => rfl); (case hg => rfl); (case hr => first | (go_simp; done) | (go_simp; rfl)); (case hp => exact (Reps.none _ _)); intro v1 w21 ho4 hb hg_ hnew_; clear hg_ hnew_; have HW1 := Aside0.mk hb; have HO1 := Aside0.mk ho4; clear ho4 hb)
        | ((with_reducible refine gate_builtin (b := .append) (xs := #[.tmp 29, .tmp 30]) rfl ?_); at_builtin; refine Kd.R_append_rows (Kd.int .u8) (w0 := wz) wz.heap.size rfl (.tmp 29) (.tmp 30) 22 5 (.int .u8 0) 1 rfl Try.underlying22 hinfo5 rfl (by decide) (by omega) v1 ([] : List Int) a _ _ _ (fun _ => True) (fun _ => False) rfl rfl ?aO ?aR (fun _ _ h => h) (fun _ h => h.elim) ?aF ?aB ?aS ?aL ?_; (case aR => exact Kd.C_below HX1.out HW1.out); (case aB => exact HW1.out); (case aF => exact (fun _ _ => trivial)); (case aO => exact HO1.out); (case aS => exact below_size HW1.out); (case aL => have h1 := LA.out; have h2 := LB.out; have h3 := LC.out; have h4 := LD.out; (try simp only [List.length_append, List.length_nil] at *); omega); intro v2 w21 ho hb hg hat; have HW2 := Aside0.mk hb; have HO2 := Aside0.mk ho; clear ho hb hg hat)
        | ((with_reducible refine gate_builtin (b := .append) (xs := #[.tmp 31, .tmp 32]) rfl ?_); at_builtin; refine Kd.R_append_rows (Kd.int .u8) (w0 := wz) wz.heap.size rfl (.tmp 31) (.tmp 32) 22 5 (.int .u8 0) 1 rfl Try.underlying22 hinfo5 rfl (by decide) (by omega) v2 (([] : List Int) ++ a) b _ _ _ (fun _ => True) (fun _ => False) rfl rfl ?aO ?aR (fun _ _ h => h) (fun _ h => h.elim) ?aF ?aB ?aS ?aL ?_; (case aR => exact Kd.C_below HX2.out HW2.out); (case aB => exact HW2.out); (case aF => exact (fun _ _ => trivial)); (case aO => exact HO2.out); (case aS => exact below_size HW2.out); (case aL => have h1 := LA.out; have h2 := LB.out; have h3 := LC.out; have h4 := LD.out; (try simp only [List.length_append, List.length_nil] at *); omega); intro v3 w22 ho hb hg hat; have HW3 := Aside0.mk hb; have HO3 := Aside0.mk ho; clear ho hb hg hat)
        | ((with_reducible refine gate_builtin (b := .append) (xs := #[.tmp 33, .tmp 34]) rfl ?_); at_builtin; refine Kd.R_append_rows (Kd.int .u8) (w0 := wz) wz.heap.size rfl (.tmp 33) (.tmp 34) 22 5 (.int .u8 0) 1 rfl Try.underlying22 hinfo5 rfl (by decide) (by omega) v3 (([] : List Int) ++ a ++ b) c _ _ _ (fun _ => True) (fun _ => False) rfl rfl ?aO ?aR (fun _ _ h => h) (fun _ h => h.elim) ?aF ?aB ?aS ?aL ?_; (case aR => exact Kd.C_below HX3.out HW3.out); (case aB => exact HW3.out); (case aF => exact (fun _ _ => trivial)); (case aO => exact HO3.out); (case aS => exact below_size HW3.out); (case aL => have h1 := LA.out; have h2 := LB.out; have h3 := LC.out; have h4 := LD.out; (try simp only [List.length_append, List.length_nil] at *); omega); intro v4 w23 ho hb hg hat; have HW4 := Aside0.mk hb; have HO4 := Aside0.mk ho; clear ho hb hg hat)
        | ((with_reducible refine gate_builtin (b := .append) (xs := #[.tmp 35, .tmp 36]) rfl ?_); at_builtin; refine Kd.R_append_rows (Kd.int .u8) (w0 := wz) wz.heap.size rfl (.tmp 35) (.tmp 36) 22 5 (.int .u8 0) 1 rfl Try.underlying22 hinfo5 rfl (by decide) (by omega) v4 (([] : List Int) ++ a ++ b ++ c) l _ _ _ (fun _ => True) (fun _ => False) rfl rfl ?aO ?aR (fun _ _ h => h) (fun _ h => h.elim) ?aF ?aB ?aS ?aL ?_; (case aR => exact Kd.C_below HR'.out HW4.out); (case aB => exact HW4.out); (case aF => exact (fun _ _ => trivial)); (case aO => exact HO4.out); (case aS => exact below_size HW4.out); (case aL => have h1 := LA.out; have h2 := LB.out; have h3 := LC.out; have h4 := LD.out; (try simp only [List.length_append, List.length_nil] at *); omega); intro v5 w24 ho hb hg hat; have HW5 := Aside0.mk hb; have HO5 := Aside0.mk ho; clear ho hb hg hat)
        | fail)

      obtain ⟨Az, cz, rfl, hlz, hCz⟩ := Kd.R_reads HO5.out
      have HLZ := Aside0.mk hlz
      have HCZ := Aside0.mk hCz
      obtain ⟨L, eL⟩ : ∃ L, L = ([] : List Int) ++ a ++ b ++ c ++ l := ⟨_, rfl⟩
      rw [← eL] at HLZ HCZ ⊢
      have HEL := Aside0.mk eL
      clear hlz hCz eL
      refine (vary_New.calls Az cz L _ HCZ.out HLZ.out (by rw [HEL.out]; simp only [List.length_append, List.length_nil]; have h1 := LA.out; have h2 := LB.out; have h3 := LC.out; have h4 := LD.out; omega)).mono ?_
      rintro x wn ⟨g, rfl, hg, hI, hb⟩
      have HS := Aside0.mk (news_ne hI)
      have HBn := Aside0.mk (below_step HB.out (below_step HW5.out hb))
      have HG := Aside0.mk (Nat.le_trans (below_size (below_step HB.out HW5.out)) hg)
      have HI := Aside0.mk hI
      clear hI hb hg

      have hL : L = a ++ (b ++ (c ++ l)) := by rw [HEL.out]; simp [List.append_assoc]
      have HWC : Aside0 (∀ x ∈ c ++ l, 0 ≤ x ∧ x < 256) := ⟨fun x hx => by
        rcases List.mem_append.1 hx with hx | hx
        · rw [← EC.out] at hx
          simp at hx
        · exact HWF.out x hx⟩
      have HWB : Aside0 (∀ x ∈ b ++ (c ++ l), 0 ≤ x ∧ x < 256) := ⟨fun x hx => by
        rcases List.mem_append.1 hx with hx | hx
        · rw [← EB.out] at hx
          exact enc_wf 7 _ (zig_bound n hs.1 hs.2).1 (by have := (zig_bound n hs.1 hs.2).2; omega) x hx
        · exact HWC.out x hx⟩
      have HWA : Aside0 (∀ x ∈ a ++ (b ++ (c ++ l)), 0 ≤ x ∧ x < 256) := ⟨fun x hx => by
        rcases List.mem_append.1 hx with hx | hx
        · rw [← EA.out] at hx
          simp at hx
        · exact HWB.out x hx⟩
      have HUR : Aside0 (a ++ (b ++ (c ++ l)) = b ++ (c ++ l)) := ⟨by rw [← EA.out]; exact rfl⟩
      have HSR : Aside0 (uRes (b ++ (c ++ l)) = (zig n, c ++ l, 0)) := ⟨by rw [← EB.out]; exact uRes_enc (zig n) _ (zig_bound n hs.1 hs.2).1 (zig_bound n hs.1 hs.2).2⟩
      have HTR : Aside0 (c ++ l = l) := ⟨by rw [← EC.out]; exact rfl⟩
      have hI := HI.out
      rw [hL] at hI
      obtain ⟨X0, hX0⟩ : ∃ X, X = a ++ (b ++ (c ++ l)) := ⟨_, rfl⟩
      obtain ⟨X1, hX1⟩ : ∃ X, X = b ++ (c ++ l) := ⟨_, rfl⟩
      obtain ⟨X2, hX2⟩ : ∃ X, X = c ++ l := ⟨_, rfl⟩
      rw [← hX2] at HWC hX1 hX0 hI HUR HSR HTR HWB HWA
      rw [← hX1] at hX0 hI HUR HSR HWB HWA
      rw [← hX0] at hI HUR HWA
      have HI := Aside0.mk hI
      clear hL hX0 hX1 hX2 hI HX1 HX2 HX3 HCZ HLZ HEL
      rw [HUR.out] at HI

      go_wp2_with fail
      refine (vary_S.calls _ g _ X1 HI.out HS.out HWB.out).mono ?_
      rintro x wu ⟨rfl, h1, h3⟩
      rw [HSR.out] at h1 ⊢
      change Rd wu g _ X2 0 at h1
      rw [show sOf (zig n, X2, (0 : Int)).1 = n from sOf_zig n]
      have HI' := Aside0.mk h1
      have HBn' := Aside0.mk (HBn.out.trans (h3.below HG.out))
      clear h1 h3 HI HBn
      have HI := HI'
      have HBn := HBn'
      clear HI' HBn'
      rw [HTR.out] at HI

      go_wp2_with (first | (go_at_call 31; (with_reducible refine (vary_Err.calls _ g _ l 0 HI.out).mono ?_); rintro x w' ⟨rfl, rfl⟩) | (go_at_call 32; (with_reducible refine (Left_at _ g _ l HI.out).mono ?_); rintro x w' ⟨rfl, rfl⟩) | (go_at_call 10; (with_reducible refine (awake_calls _).mono ?_); rintro e w3 ⟨rfl, hb⟩; have HZ := Aside0.mk (below_step HBn.out hb); clear hb) | fail)
      go_ret
      exact ⟨rfl, HZ.out⟩

  · have hu : 0 ≤ n ∧ n ≤ 18014398509481982 := by omega
    have hs : -9007199254740991 ≤ n ∧ n ≤ 9007199254740991 := by omega
    by_cases ht : (s.size : Int) ≤ 65535
    · have KU := U_yes n hu.1 hu.2
      have KS := S_go n hs.1 hs.2
      have KT := T_go s ht
      obtain ⟨a, ea⟩ : ∃ a, a = (enc 7 n) := ⟨_, rfl⟩
      obtain ⟨b, eb⟩ : ∃ b, b = (enc 7 (zig n)) := ⟨_, rfl⟩
      obtain ⟨c, ec⟩ : ∃ c, c = (enc 7 (s.size : Int) ++ bytesOf s) := ⟨_, rfl⟩
      rw [← ea] at KU
      rw [← eb] at KS
      rw [← ec] at KT
      have LA : Aside0 (a.length ≤ 8) := ⟨by rw [ea]; exact (enc_len 7 n).2⟩
      have LB : Aside0 (b.length ≤ 8) := ⟨by rw [eb]; exact (enc_len 7 _).2⟩
      have LC : Aside0 (c.length ≤ 65543) := ⟨by rw [ec]; rw [List.length_append, bytesOf_length]; have := (enc_len 7 (s.size : Int)).2; omega⟩
      have EA := Aside0.mk ea.symm
      have EB := Aside0.mk eb.symm
      have EC := Aside0.mk ec.symm
      have KU := Aside0.mk KU
      have KS := Aside0.mk KS
      have KT := Aside0.mk KT
      clear ea eb ec
      have HB := Aside0.mk (Below.refl w.heap.size w)
      go_enter Try.func6, Try.ntmps6

      go_wp2_with fail
      refine (KU.out _).mono ?_
      rintro x wx1 ⟨vx1, rfl, hx, hb⟩
      obtain ⟨Ax1, cx1, rfl, hlx, hCx⟩ := Kd.R_reads hx
      have HX1 := Aside0.mk hCx
      have HB' := Aside0.mk (below_step HB.out hb)
      clear hx hb hlx hCx HB
      have HB := HB'
      clear HB'

      go_wp2_with fail
      refine (KS.out _).mono ?_
      rintro x wx2 ⟨vx2, rfl, hx, hb⟩
      obtain ⟨Ax2, cx2, rfl, hlx, hCx⟩ := Kd.R_reads hx
      have HX1' := Aside0.mk (Kd.C_below HX1.out hb)
      clear HX1
      have HX1 := HX1'
      clear HX1'
      have HX2 := Aside0.mk hCx
      have HB' := Aside0.mk (below_step HB.out hb)
      clear hx hb hlx hCx HB
      have HB := HB'
      clear HB'

      go_wp2_with fail
      refine (KT.out _).mono ?_
      rintro x wx3 ⟨vx3, rfl, hx, hb⟩
      obtain ⟨Ax3, cx3, rfl, hlx, hCx⟩ := Kd.R_reads hx
      have HX1' := Aside0.mk (Kd.C_below HX1.out hb)
      clear HX1
      have HX1 := HX1'
      clear HX1'
      have HX2' := Aside0.mk (Kd.C_below HX2.out hb)
      clear HX2
      have HX2 := HX2'
      clear HX2'
      have HX3 := Aside0.mk hCx
      have HB' := Aside0.mk (below_step HB.out hb)
      clear hx hb hlx hCx HB
      have HB := HB'
      clear HB'

      have HR' := Aside0.mk (Kd.C_below HR.out HB.out)
      generalize hwz : wx3 = wz at HB HX1 HX2 HX3 HR' ⊢
      clear hwz
      go_wp2_with (first
        | ((with_reducible refine gate_dst (N := 29) rfl ?_); refine Kd.R_lit (Kd.int .u8) (w0 := wz) wz.heap.size 5 ?hg (N := 29) ?hd (xs := ([] : List Int)) (inner := []) (ok := fun _ => True) (okp := fun _ => True) ?hr ?hp (fun _ hk => hk) trivial (Below.refl _ _) (Nat.le_refl _) (by simp) ?_; (case hd => rfl); (case hg => rfl); (case hr => first | (go_simp; done) | (go_simp; rfl)); (case hp => exact (Reps.none _ _)); intro v1 w21 ho4 hb hg_ hnew_; clear hg_ hnew_; have HW1 := Aside0.mk hb; have HO1 := Aside0.mk ho4; clear ho4 hb)
        | ((with_reducible refine gate_builtin (b := .append) (xs := #[.tmp 29, .tmp 30]) rfl ?_); at_builtin; refine Kd.R_append_rows (Kd.int .u8) (w0 := wz) wz.heap.size rfl (.tmp 29) (.tmp 30) 22 5 (.int .u8 0) 1 rfl Try.underlying22 hinfo5 rfl (by decide) (by omega) v1 ([] : List Int) a _ _ _ (fun _ => True) (fun _ => False) rfl rfl ?aO ?aR (fun _ _ h => h) (fun _ h => h.elim) ?aF ?aB ?aS ?aL ?_; (case aR => exact Kd.C_below HX1.out HW1.out); (case aB => exact HW1.out); (case aF => exact (fun _ _ => trivial)); (case aO => exact HO1.out); (case aS => exact below_size HW1.out); (case aL => have h1 := LA.out; have h2 := LB.out; have h3 := LC.out; have h4 := LD.out; (try simp only [List.length_append, List.length_nil] at *); omega); intro v2 w21 ho hb hg hat; have HW2 := Aside0.mk hb; have HO2 := Aside0.mk ho; clear ho hb hg hat)
        | ((with_reducible refine gate_builtin (b := .append) (xs := #[.tmp 31, .tmp 32]) rfl ?_); at_builtin; refine Kd.R_append_rows (Kd.int .u8) (w0 := wz) wz.heap.size rfl (.tmp 31) (.tmp 32) 22 5 (.int .u8 0) 1 rfl Try.underlying22 hinfo5 rfl (by decide) (by omega) v2 (([] : List Int) ++ a) b _ _ _ (fun _ => True) (fun _ => False) rfl rfl ?aO ?aR (fun _ _ h => h) (fun _ h => h.elim) ?aF ?aB ?aS ?aL ?_; (case aR => exact Kd.C_below HX2.out HW2.out); (case aB => exact HW2.out); (case aF => exact (fun _ _ => trivial)); (case aO => exact HO2.out); (case aS => exact below_size HW2.out); (case aL => have h1 := LA.out; have h2 := LB.out; have h3 := LC.out; have h4 := LD.out; (try simp only [List.length_append, List.length_nil] at *); omega); intro v3 w22 ho hb hg hat; have HW3 := Aside0.mk hb; have HO3 := Aside0.mk ho; clear ho hb hg hat)
        | ((with_reducible refine gate_builtin (b := .append) (xs := #[.tmp 33, .tmp 34]) rfl ?_); at_builtin; refine Kd.R_append_rows (Kd.int .u8) (w0 := wz) wz.heap.size rfl (.tmp 33) (.tmp 34) 22 5 (.int .u8 0) 1 rfl Try.underlying22 hinfo5 rfl (by decide) (by omega) v3 (([] : List Int) ++ a ++ b) c _ _ _ (fun _ => True) (fun _ => False) rfl rfl ?aO ?aR (fun _ _ h => h) (fun _ h => h.elim) ?aF ?aB ?aS ?aL ?_; (case aR => exact Kd.C_below HX3.out HW3.out); (case aB => exact HW3.out); (case aF => exact (fun _ _ => trivial)); (case aO => exact HO3.out); (case aS => exact below_size HW3.out); (case aL => have h1 := LA.out; have h2 := LB.out; have h3 := LC.out; have h4 := LD.out; (try simp only [List.length_append, List.length_nil] at *); omega); intro v4 w23 ho hb hg hat; have HW4 := Aside0.mk hb; have HO4 := Aside0.mk ho; clear ho hb hg hat)
        | ((with_reducible refine gate_builtin (b := .append) (xs := #[.tmp 35, .tmp 36]) rfl ?_); at_builtin; refine Kd.R_append_rows (Kd.int .u8) (w0 := wz) wz.heap.size rfl (.tmp 35) (.tmp 36) 22 5 (.int .u8 0) 1 rfl Try.underlying22 hinfo5 rfl (by decide) (by omega) v4 (([] : List Int) ++ a ++ b ++ c) l _ _ _ (fun _ => True) (fun _ => False) rfl rfl ?aO ?aR (fun _ _ h => h) (fun _ h => h.elim) ?aF ?aB ?aS ?aL ?_; (case aR => exact Kd.C_below HR'.out HW4.out); (case aB => exact HW4.out); (case aF => exact (fun _ _ => trivial)); (case aO => exact HO4.out); (case aS => exact below_size HW4.out); (case aL => have h1 := LA.out; have h2 := LB.out; have h3 := LC.out; have h4 := LD.out; (try simp only [List.length_append, List.length_nil] at *); omega); intro v5 w24 ho hb hg hat; have HW5 := Aside0.mk hb; have HO5 := Aside0.mk ho; clear ho hb hg hat)
        | fail)

      obtain ⟨Az, cz, rfl, hlz, hCz⟩ := Kd.R_reads HO5.out
      have HLZ := Aside0.mk hlz
      have HCZ := Aside0.mk hCz
      obtain ⟨L, eL⟩ : ∃ L, L = ([] : List Int) ++ a ++ b ++ c ++ l := ⟨_, rfl⟩
      rw [← eL] at HLZ HCZ ⊢
      have HEL := Aside0.mk eL
      clear hlz hCz eL
      refine (vary_New.calls Az cz L _ HCZ.out HLZ.out (by rw [HEL.out]; simp only [List.length_append, List.length_nil]; have h1 := LA.out; have h2 := LB.out; have h3 := LC.out; have h4 := LD.out; omega)).mono ?_
      rintro x wn ⟨g, rfl, hg, hI, hb⟩
      have HS := Aside0.mk (news_ne hI)
      have HBn := Aside0.mk (below_step HB.out (below_step HW5.out hb))
      have HG := Aside0.mk (Nat.le_trans (below_size (below_step HB.out HW5.out)) hg)
      have HI := Aside0.mk hI
      clear hI hb hg

      have hL : L = a ++ (b ++ (c ++ l)) := by rw [HEL.out]; simp [List.append_assoc]
      have HWC : Aside0 (∀ x ∈ c ++ l, 0 ≤ x ∧ x < 256) := ⟨fun x hx => by
        rcases List.mem_append.1 hx with hx | hx
        · rw [← EC.out] at hx
          exact (List.mem_append.1 hx).elim (fun h => enc_wf 7 _ (by omega) (by omega) x h) (fun h => bytesOf_wf s x h)
        · exact HWF.out x hx⟩
      have HWB : Aside0 (∀ x ∈ b ++ (c ++ l), 0 ≤ x ∧ x < 256) := ⟨fun x hx => by
        rcases List.mem_append.1 hx with hx | hx
        · rw [← EB.out] at hx
          exact enc_wf 7 _ (zig_bound n hs.1 hs.2).1 (by have := (zig_bound n hs.1 hs.2).2; omega) x hx
        · exact HWC.out x hx⟩
      have HWA : Aside0 (∀ x ∈ a ++ (b ++ (c ++ l)), 0 ≤ x ∧ x < 256) := ⟨fun x hx => by
        rcases List.mem_append.1 hx with hx | hx
        · rw [← EA.out] at hx
          exact enc_wf 7 _ hu.1 (by have := hu.2; omega) x hx
        · exact HWB.out x hx⟩
      have HUR : Aside0 (uRes (a ++ (b ++ (c ++ l))) = (n, b ++ (c ++ l), 0)) := ⟨by rw [← EA.out]; exact uRes_enc n _ hu.1 hu.2⟩
      have HSR : Aside0 (uRes (b ++ (c ++ l)) = (zig n, c ++ l, 0)) := ⟨by rw [← EB.out]; exact uRes_enc (zig n) _ (zig_bound n hs.1 hs.2).1 (zig_bound n hs.1 hs.2).2⟩
      have HTR : Aside0 (tRes 65535 (c ++ l) = (bytesOf s, l, 0)) := ⟨by rw [← EC.out]; exact tRes_txt s l ht⟩
      have hI := HI.out
      rw [hL] at hI
      obtain ⟨X0, hX0⟩ : ∃ X, X = a ++ (b ++ (c ++ l)) := ⟨_, rfl⟩
      obtain ⟨X1, hX1⟩ : ∃ X, X = b ++ (c ++ l) := ⟨_, rfl⟩
      obtain ⟨X2, hX2⟩ : ∃ X, X = c ++ l := ⟨_, rfl⟩
      rw [← hX2] at HWC hX1 hX0 hI HUR HSR HTR HWB HWA
      rw [← hX1] at hX0 hI HUR HSR HWB HWA
      rw [← hX0] at hI HUR HWA
      have HI := Aside0.mk hI
      clear hL hX0 hX1 hX2 hI HX1 HX2 HX3 HCZ HLZ HEL

      go_wp2_with fail
      refine (vary_U.calls _ g _ X0 HI.out HS.out HWA.out).mono ?_
      rintro x wu hx
      unfold UPost at hx
      rw [HUR.out] at hx
      obtain ⟨rfl, h1, h3⟩ := hx
      change Rd wu g _ X1 0 at h1
      have HI' := Aside0.mk h1
      have HBn' := Aside0.mk (HBn.out.trans (h3.below HG.out))
      clear h1 h3 HI HBn
      have HI := HI'
      have HBn := HBn'
      clear HI' HBn'

      go_wp2_with fail
      refine (vary_S.calls _ g _ X1 HI.out HS.out HWB.out).mono ?_
      rintro x wu ⟨rfl, h1, h3⟩
      rw [HSR.out] at h1 ⊢
      change Rd wu g _ X2 0 at h1
      rw [show sOf (zig n, X2, (0 : Int)).1 = n from sOf_zig n]
      have HI' := Aside0.mk h1
      have HBn' := Aside0.mk (HBn.out.trans (h3.below HG.out))
      clear h1 h3 HI HBn
      have HI := HI'
      have HBn := HBn'
      clear HI' HBn'

      go_wp2_with fail
      refine (vary_Text.calls _ g _ 65535 X2 HI.out HS.out HWC.out).mono ?_
      rintro x wu hx
      unfold TPost at hx
      rw [HTR.out] at hx
      obtain ⟨rfl, h1, h3⟩ := hx
      change Rd wu g _ l 0 at h1
      rw [show strOfNums (bytesOf s, l, (0 : Int)).1 = s from str_back s]
      have HI' := Aside0.mk h1
      have HBn' := Aside0.mk (HBn.out.trans (h3.below HG.out))
      clear h1 h3 HI HBn
      have HI := HI'
      have HBn := HBn'
      clear HI' HBn'

      go_wp2_with (first | (go_at_call 31; (with_reducible refine (vary_Err.calls _ g _ l 0 HI.out).mono ?_); rintro x w' ⟨rfl, rfl⟩) | (go_at_call 32; (with_reducible refine (Left_at _ g _ l HI.out).mono ?_); rintro x w' ⟨rfl, rfl⟩) | (go_at_call 10; (with_reducible refine (awake_calls _).mono ?_); rintro e w3 ⟨rfl, hb⟩; have HZ := Aside0.mk (below_step HBn.out hb); clear hb) | fail)
      go_ret
      exact ⟨rfl, HZ.out⟩

    · have ht' : (65535 : Int) < (s.size : Int) := by omega
      have KU := U_yes n hu.1 hu.2
      have KS := S_go n hs.1 hs.2
      have KT := T_no s ht
      obtain ⟨a, ea⟩ : ∃ a, a = (enc 7 n) := ⟨_, rfl⟩
      obtain ⟨b, eb⟩ : ∃ b, b = (enc 7 (zig n)) := ⟨_, rfl⟩
      obtain ⟨c, ec⟩ : ∃ c, c = ([] : List Int) := ⟨_, rfl⟩
      rw [← ea] at KU
      rw [← eb] at KS
      rw [← ec] at KT
      have LA : Aside0 (a.length ≤ 8) := ⟨by rw [ea]; exact (enc_len 7 n).2⟩
      have LB : Aside0 (b.length ≤ 8) := ⟨by rw [eb]; exact (enc_len 7 _).2⟩
      have LC : Aside0 (c.length ≤ 65543) := ⟨by rw [ec]; simp⟩
      have EA := Aside0.mk ea.symm
      have EB := Aside0.mk eb.symm
      have EC := Aside0.mk ec.symm
      have KU := Aside0.mk KU
      have KS := Aside0.mk KS
      have KT := Aside0.mk KT
      clear ea eb ec
      have HB := Aside0.mk (Below.refl w.heap.size w)
      go_enter Try.func6, Try.ntmps6

      go_wp2_with fail
      refine (KU.out _).mono ?_
      rintro x wx1 ⟨vx1, rfl, hx, hb⟩
      obtain ⟨Ax1, cx1, rfl, hlx, hCx⟩ := Kd.R_reads hx
      have HX1 := Aside0.mk hCx
      have HB' := Aside0.mk (below_step HB.out hb)
      clear hx hb hlx hCx HB
      have HB := HB'
      clear HB'

      go_wp2_with fail
      refine (KS.out _).mono ?_
      rintro x wx2 ⟨vx2, rfl, hx, hb⟩
      obtain ⟨Ax2, cx2, rfl, hlx, hCx⟩ := Kd.R_reads hx
      have HX1' := Aside0.mk (Kd.C_below HX1.out hb)
      clear HX1
      have HX1 := HX1'
      clear HX1'
      have HX2 := Aside0.mk hCx
      have HB' := Aside0.mk (below_step HB.out hb)
      clear hx hb hlx hCx HB
      have HB := HB'
      clear HB'

      go_wp2_with fail
      refine (KT.out _).mono ?_
      rintro x wx3 ⟨vx3, rfl, hx, hb⟩
      obtain ⟨Ax3, cx3, rfl, hlx, hCx⟩ := Kd.R_reads hx
      have HX1' := Aside0.mk (Kd.C_below HX1.out hb)
      clear HX1
      have HX1 := HX1'
      clear HX1'
      have HX2' := Aside0.mk (Kd.C_below HX2.out hb)
      clear HX2
      have HX2 := HX2'
      clear HX2'
      have HX3 := Aside0.mk hCx
      have HB' := Aside0.mk (below_step HB.out hb)
      clear hx hb hlx hCx HB
      have HB := HB'
      clear HB'

      have HR' := Aside0.mk (Kd.C_below HR.out HB.out)
      generalize hwz : wx3 = wz at HB HX1 HX2 HX3 HR' ⊢
      clear hwz
      go_wp2_with (first
        | ((with_reducible refine gate_dst (N := 29) rfl ?_); refine Kd.R_lit (Kd.int .u8) (w0 := wz) wz.heap.size 5 ?hg (N := 29) ?hd (xs := ([] : List Int)) (inner := []) (ok := fun _ => True) (okp := fun _ => True) ?hr ?hp (fun _ hk => hk) trivial (Below.refl _ _) (Nat.le_refl _) (by simp) ?_; (case hd => rfl); (case hg => rfl); (case hr => first | (go_simp; done) | (go_simp; rfl)); (case hp => exact (Reps.none _ _)); intro v1 w21 ho4 hb hg_ hnew_; clear hg_ hnew_; have HW1 := Aside0.mk hb; have HO1 := Aside0.mk ho4; clear ho4 hb)
        | ((with_reducible refine gate_builtin (b := .append) (xs := #[.tmp 29, .tmp 30]) rfl ?_); at_builtin; refine Kd.R_append_rows (Kd.int .u8) (w0 := wz) wz.heap.size rfl (.tmp 29) (.tmp 30) 22 5 (.int .u8 0) 1 rfl Try.underlying22 hinfo5 rfl (by decide) (by omega) v1 ([] : List Int) a _ _ _ (fun _ => True) (fun _ => False) rfl rfl ?aO ?aR (fun _ _ h => h) (fun _ h => h.elim) ?aF ?aB ?aS ?aL ?_; (case aR => exact Kd.C_below HX1.out HW1.out); (case aB => exact HW1.out); (case aF => exact (fun _ _ => trivial)); (case aO => exact HO1.out); (case aS => exact below_size HW1.out); (case aL => have h1 := LA.out; have h2 := LB.out; have h3 := LC.out; have h4 := LD.out; (try simp only [List.length_append, List.length_nil] at *); omega); intro v2 w21 ho hb hg hat; have HW2 := Aside0.mk hb; have HO2 := Aside0.mk ho; clear ho hb hg hat)
        | ((with_reducible refine gate_builtin (b := .append) (xs := #[.tmp 31, .tmp 32]) rfl ?_); at_builtin; refine Kd.R_append_rows (Kd.int .u8) (w0 := wz) wz.heap.size rfl (.tmp 31) (.tmp 32) 22 5 (.int .u8 0) 1 rfl Try.underlying22 hinfo5 rfl (by decide) (by omega) v2 (([] : List Int) ++ a) b _ _ _ (fun _ => True) (fun _ => False) rfl rfl ?aO ?aR (fun _ _ h => h) (fun _ h => h.elim) ?aF ?aB ?aS ?aL ?_; (case aR => exact Kd.C_below HX2.out HW2.out); (case aB => exact HW2.out); (case aF => exact (fun _ _ => trivial)); (case aO => exact HO2.out); (case aS => exact below_size HW2.out); (case aL => have h1 := LA.out; have h2 := LB.out; have h3 := LC.out; have h4 := LD.out; (try simp only [List.length_append, List.length_nil] at *); omega); intro v3 w22 ho hb hg hat; have HW3 := Aside0.mk hb; have HO3 := Aside0.mk ho; clear ho hb hg hat)
        | ((with_reducible refine gate_builtin (b := .append) (xs := #[.tmp 33, .tmp 34]) rfl ?_); at_builtin; refine Kd.R_append_rows (Kd.int .u8) (w0 := wz) wz.heap.size rfl (.tmp 33) (.tmp 34) 22 5 (.int .u8 0) 1 rfl Try.underlying22 hinfo5 rfl (by decide) (by omega) v3 (([] : List Int) ++ a ++ b) c _ _ _ (fun _ => True) (fun _ => False) rfl rfl ?aO ?aR (fun _ _ h => h) (fun _ h => h.elim) ?aF ?aB ?aS ?aL ?_; (case aR => exact Kd.C_below HX3.out HW3.out); (case aB => exact HW3.out); (case aF => exact (fun _ _ => trivial)); (case aO => exact HO3.out); (case aS => exact below_size HW3.out); (case aL => have h1 := LA.out; have h2 := LB.out; have h3 := LC.out; have h4 := LD.out; (try simp only [List.length_append, List.length_nil] at *); omega); intro v4 w23 ho hb hg hat; have HW4 := Aside0.mk hb; have HO4 := Aside0.mk ho; clear ho hb hg hat)
        | ((with_reducible refine gate_builtin (b := .append) (xs := #[.tmp 35, .tmp 36]) rfl ?_); at_builtin; refine Kd.R_append_rows (Kd.int .u8) (w0 := wz) wz.heap.size rfl (.tmp 35) (.tmp 36) 22 5 (.int .u8 0) 1 rfl Try.underlying22 hinfo5 rfl (by decide) (by omega) v4 (([] : List Int) ++ a ++ b ++ c) l _ _ _ (fun _ => True) (fun _ => False) rfl rfl ?aO ?aR (fun _ _ h => h) (fun _ h => h.elim) ?aF ?aB ?aS ?aL ?_; (case aR => exact Kd.C_below HR'.out HW4.out); (case aB => exact HW4.out); (case aF => exact (fun _ _ => trivial)); (case aO => exact HO4.out); (case aS => exact below_size HW4.out); (case aL => have h1 := LA.out; have h2 := LB.out; have h3 := LC.out; have h4 := LD.out; (try simp only [List.length_append, List.length_nil] at *); omega); intro v5 w24 ho hb hg hat; have HW5 := Aside0.mk hb; have HO5 := Aside0.mk ho; clear ho hb hg hat)
        | fail)

      obtain ⟨Az, cz, rfl, hlz, hCz⟩ := Kd.R_reads HO5.out
      have HLZ := Aside0.mk hlz
      have HCZ := Aside0.mk hCz
      obtain ⟨L, eL⟩ : ∃ L, L = ([] : List Int) ++ a ++ b ++ c ++ l := ⟨_, rfl⟩
      rw [← eL] at HLZ HCZ ⊢
      have HEL := Aside0.mk eL
      clear hlz hCz eL
      refine (vary_New.calls Az cz L _ HCZ.out HLZ.out (by rw [HEL.out]; simp only [List.length_append, List.length_nil]; have h1 := LA.out; have h2 := LB.out; have h3 := LC.out; have h4 := LD.out; omega)).mono ?_
      rintro x wn ⟨g, rfl, hg, hI, hb⟩
      have HS := Aside0.mk (news_ne hI)
      have HBn := Aside0.mk (below_step HB.out (below_step HW5.out hb))
      have HG := Aside0.mk (Nat.le_trans (below_size (below_step HB.out HW5.out)) hg)
      have HI := Aside0.mk hI
      clear hI hb hg

      have hL : L = a ++ (b ++ (c ++ l)) := by rw [HEL.out]; simp [List.append_assoc]
      have HWC : Aside0 (∀ x ∈ c ++ l, 0 ≤ x ∧ x < 256) := ⟨fun x hx => by
        rcases List.mem_append.1 hx with hx | hx
        · rw [← EC.out] at hx
          simp at hx
        · exact HWF.out x hx⟩
      have HWB : Aside0 (∀ x ∈ b ++ (c ++ l), 0 ≤ x ∧ x < 256) := ⟨fun x hx => by
        rcases List.mem_append.1 hx with hx | hx
        · rw [← EB.out] at hx
          exact enc_wf 7 _ (zig_bound n hs.1 hs.2).1 (by have := (zig_bound n hs.1 hs.2).2; omega) x hx
        · exact HWC.out x hx⟩
      have HWA : Aside0 (∀ x ∈ a ++ (b ++ (c ++ l)), 0 ≤ x ∧ x < 256) := ⟨fun x hx => by
        rcases List.mem_append.1 hx with hx | hx
        · rw [← EA.out] at hx
          exact enc_wf 7 _ hu.1 (by have := hu.2; omega) x hx
        · exact HWB.out x hx⟩
      have HUR : Aside0 (uRes (a ++ (b ++ (c ++ l))) = (n, b ++ (c ++ l), 0)) := ⟨by rw [← EA.out]; exact uRes_enc n _ hu.1 hu.2⟩
      have HSR : Aside0 (uRes (b ++ (c ++ l)) = (zig n, c ++ l, 0)) := ⟨by rw [← EB.out]; exact uRes_enc (zig n) _ (zig_bound n hs.1 hs.2).1 (zig_bound n hs.1 hs.2).2⟩
      have HTR : Aside0 (c ++ l = l) := ⟨by rw [← EC.out]; exact rfl⟩
      have hI := HI.out
      rw [hL] at hI
      obtain ⟨X0, hX0⟩ : ∃ X, X = a ++ (b ++ (c ++ l)) := ⟨_, rfl⟩
      obtain ⟨X1, hX1⟩ : ∃ X, X = b ++ (c ++ l) := ⟨_, rfl⟩
      obtain ⟨X2, hX2⟩ : ∃ X, X = c ++ l := ⟨_, rfl⟩
      rw [← hX2] at HWC hX1 hX0 hI HUR HSR HTR HWB HWA
      rw [← hX1] at hX0 hI HUR HSR HWB HWA
      rw [← hX0] at hI HUR HWA
      have HI := Aside0.mk hI
      clear hL hX0 hX1 hX2 hI HX1 HX2 HX3 HCZ HLZ HEL

      go_wp2_with fail
      refine (vary_U.calls _ g _ X0 HI.out HS.out HWA.out).mono ?_
      rintro x wu hx
      unfold UPost at hx
      rw [HUR.out] at hx
      obtain ⟨rfl, h1, h3⟩ := hx
      change Rd wu g _ X1 0 at h1
      have HI' := Aside0.mk h1
      have HBn' := Aside0.mk (HBn.out.trans (h3.below HG.out))
      clear h1 h3 HI HBn
      have HI := HI'
      have HBn := HBn'
      clear HI' HBn'

      go_wp2_with fail
      refine (vary_S.calls _ g _ X1 HI.out HS.out HWB.out).mono ?_
      rintro x wu ⟨rfl, h1, h3⟩
      rw [HSR.out] at h1 ⊢
      change Rd wu g _ X2 0 at h1
      rw [show sOf (zig n, X2, (0 : Int)).1 = n from sOf_zig n]
      have HI' := Aside0.mk h1
      have HBn' := Aside0.mk (HBn.out.trans (h3.below HG.out))
      clear h1 h3 HI HBn
      have HI := HI'
      have HBn := HBn'
      clear HI' HBn'
      rw [HTR.out] at HI

      go_wp2_with (first | (go_at_call 31; (with_reducible refine (vary_Err.calls _ g _ l 0 HI.out).mono ?_); rintro x w' ⟨rfl, rfl⟩) | (go_at_call 32; (with_reducible refine (Left_at _ g _ l HI.out).mono ?_); rintro x w' ⟨rfl, rfl⟩) | (go_at_call 10; (with_reducible refine (awake_calls _).mono ?_); rintro e w3 ⟨rfl, hb⟩; have HZ := Aside0.mk (below_step HBn.out hb); clear hb) | fail)
      go_ret
      exact ⟨rfl, HZ.out⟩

  · have hu : 0 ≤ n ∧ n ≤ 18014398509481982 := by omega
    have hs : n < -9007199254740991 ∨ 9007199254740991 < n := by omega
    by_cases ht : (s.size : Int) ≤ 65535
    · have KU := U_yes n hu.1 hu.2
      have KS := S_no n hs
      have KT := T_go s ht
      obtain ⟨a, ea⟩ : ∃ a, a = (enc 7 n) := ⟨_, rfl⟩
      obtain ⟨b, eb⟩ : ∃ b, b = ([] : List Int) := ⟨_, rfl⟩
      obtain ⟨c, ec⟩ : ∃ c, c = (enc 7 (s.size : Int) ++ bytesOf s) := ⟨_, rfl⟩
      rw [← ea] at KU
      rw [← eb] at KS
      rw [← ec] at KT
      have LA : Aside0 (a.length ≤ 8) := ⟨by rw [ea]; exact (enc_len 7 n).2⟩
      have LB : Aside0 (b.length ≤ 8) := ⟨by rw [eb]; simp⟩
      have LC : Aside0 (c.length ≤ 65543) := ⟨by rw [ec]; rw [List.length_append, bytesOf_length]; have := (enc_len 7 (s.size : Int)).2; omega⟩
      have EA := Aside0.mk ea.symm
      have EB := Aside0.mk eb.symm
      have EC := Aside0.mk ec.symm
      have KU := Aside0.mk KU
      have KS := Aside0.mk KS
      have KT := Aside0.mk KT
      clear ea eb ec
      have HB := Aside0.mk (Below.refl w.heap.size w)
      go_enter Try.func6, Try.ntmps6

      go_wp2_with fail
      refine (KU.out _).mono ?_
      rintro x wx1 ⟨vx1, rfl, hx, hb⟩
      obtain ⟨Ax1, cx1, rfl, hlx, hCx⟩ := Kd.R_reads hx
      have HX1 := Aside0.mk hCx
      have HB' := Aside0.mk (below_step HB.out hb)
      clear hx hb hlx hCx HB
      have HB := HB'
      clear HB'

      go_wp2_with fail
      refine (KS.out _).mono ?_
      rintro x wx2 ⟨vx2, rfl, hx, hb⟩
      obtain ⟨Ax2, cx2, rfl, hlx, hCx⟩ := Kd.R_reads hx
      have HX1' := Aside0.mk (Kd.C_below HX1.out hb)
      clear HX1
      have HX1 := HX1'
      clear HX1'
      have HX2 := Aside0.mk hCx
      have HB' := Aside0.mk (below_step HB.out hb)
      clear hx hb hlx hCx HB
      have HB := HB'
      clear HB'

      go_wp2_with fail
      refine (KT.out _).mono ?_
      rintro x wx3 ⟨vx3, rfl, hx, hb⟩
      obtain ⟨Ax3, cx3, rfl, hlx, hCx⟩ := Kd.R_reads hx
      have HX1' := Aside0.mk (Kd.C_below HX1.out hb)
      clear HX1
      have HX1 := HX1'
      clear HX1'
      have HX2' := Aside0.mk (Kd.C_below HX2.out hb)
      clear HX2
      have HX2 := HX2'
      clear HX2'
      have HX3 := Aside0.mk hCx
      have HB' := Aside0.mk (below_step HB.out hb)
      clear hx hb hlx hCx HB
      have HB := HB'
      clear HB'

      have HR' := Aside0.mk (Kd.C_below HR.out HB.out)
      generalize hwz : wx3 = wz at HB HX1 HX2 HX3 HR' ⊢
      clear hwz
      go_wp2_with (first
        | ((with_reducible refine gate_dst (N := 29) rfl ?_); refine Kd.R_lit (Kd.int .u8) (w0 := wz) wz.heap.size 5 ?hg (N := 29) ?hd (xs := ([] : List Int)) (inner := []) (ok := fun _ => True) (okp := fun _ => True) ?hr ?hp (fun _ hk => hk) trivial (Below.refl _ _) (Nat.le_refl _) (by simp) ?_; (case hd => rfl); (case hg => rfl); (case hr => first | (go_simp; done) | (go_simp; rfl)); (case hp => exact (Reps.none _ _)); intro v1 w21 ho4 hb hg_ hnew_; clear hg_ hnew_; have HW1 := Aside0.mk hb; have HO1 := Aside0.mk ho4; clear ho4 hb)
        | ((with_reducible refine gate_builtin (b := .append) (xs := #[.tmp 29, .tmp 30]) rfl ?_); at_builtin; refine Kd.R_append_rows (Kd.int .u8) (w0 := wz) wz.heap.size rfl (.tmp 29) (.tmp 30) 22 5 (.int .u8 0) 1 rfl Try.underlying22 hinfo5 rfl (by decide) (by omega) v1 ([] : List Int) a _ _ _ (fun _ => True) (fun _ => False) rfl rfl ?aO ?aR (fun _ _ h => h) (fun _ h => h.elim) ?aF ?aB ?aS ?aL ?_; (case aR => exact Kd.C_below HX1.out HW1.out); (case aB => exact HW1.out); (case aF => exact (fun _ _ => trivial)); (case aO => exact HO1.out); (case aS => exact below_size HW1.out); (case aL => have h1 := LA.out; have h2 := LB.out; have h3 := LC.out; have h4 := LD.out; (try simp only [List.length_append, List.length_nil] at *); omega); intro v2 w21 ho hb hg hat; have HW2 := Aside0.mk hb; have HO2 := Aside0.mk ho; clear ho hb hg hat)
        | ((with_reducible refine gate_builtin (b := .append) (xs := #[.tmp 31, .tmp 32]) rfl ?_); at_builtin; refine Kd.R_append_rows (Kd.int .u8) (w0 := wz) wz.heap.size rfl (.tmp 31) (.tmp 32) 22 5 (.int .u8 0) 1 rfl Try.underlying22 hinfo5 rfl (by decide) (by omega) v2 (([] : List Int) ++ a) b _ _ _ (fun _ => True) (fun _ => False) rfl rfl ?aO ?aR (fun _ _ h => h) (fun _ h => h.elim) ?aF ?aB ?aS ?aL ?_; (case aR => exact Kd.C_below HX2.out HW2.out); (case aB => exact HW2.out); (case aF => exact (fun _ _ => trivial)); (case aO => exact HO2.out); (case aS => exact below_size HW2.out); (case aL => have h1 := LA.out; have h2 := LB.out; have h3 := LC.out; have h4 := LD.out; (try simp only [List.length_append, List.length_nil] at *); omega); intro v3 w22 ho hb hg hat; have HW3 := Aside0.mk hb; have HO3 := Aside0.mk ho; clear ho hb hg hat)
        | ((with_reducible refine gate_builtin (b := .append) (xs := #[.tmp 33, .tmp 34]) rfl ?_); at_builtin; refine Kd.R_append_rows (Kd.int .u8) (w0 := wz) wz.heap.size rfl (.tmp 33) (.tmp 34) 22 5 (.int .u8 0) 1 rfl Try.underlying22 hinfo5 rfl (by decide) (by omega) v3 (([] : List Int) ++ a ++ b) c _ _ _ (fun _ => True) (fun _ => False) rfl rfl ?aO ?aR (fun _ _ h => h) (fun _ h => h.elim) ?aF ?aB ?aS ?aL ?_; (case aR => exact Kd.C_below HX3.out HW3.out); (case aB => exact HW3.out); (case aF => exact (fun _ _ => trivial)); (case aO => exact HO3.out); (case aS => exact below_size HW3.out); (case aL => have h1 := LA.out; have h2 := LB.out; have h3 := LC.out; have h4 := LD.out; (try simp only [List.length_append, List.length_nil] at *); omega); intro v4 w23 ho hb hg hat; have HW4 := Aside0.mk hb; have HO4 := Aside0.mk ho; clear ho hb hg hat)
        | ((with_reducible refine gate_builtin (b := .append) (xs := #[.tmp 35, .tmp 36]) rfl ?_); at_builtin; refine Kd.R_append_rows (Kd.int .u8) (w0 := wz) wz.heap.size rfl (.tmp 35) (.tmp 36) 22 5 (.int .u8 0) 1 rfl Try.underlying22 hinfo5 rfl (by decide) (by omega) v4 (([] : List Int) ++ a ++ b ++ c) l _ _ _ (fun _ => True) (fun _ => False) rfl rfl ?aO ?aR (fun _ _ h => h) (fun _ h => h.elim) ?aF ?aB ?aS ?aL ?_; (case aR => exact Kd.C_below HR'.out HW4.out); (case aB => exact HW4.out); (case aF => exact (fun _ _ => trivial)); (case aO => exact HO4.out); (case aS => exact below_size HW4.out); (case aL => have h1 := LA.out; have h2 := LB.out; have h3 := LC.out; have h4 := LD.out; (try simp only [List.length_append, List.length_nil] at *); omega); intro v5 w24 ho hb hg hat; have HW5 := Aside0.mk hb; have HO5 := Aside0.mk ho; clear ho hb hg hat)
        | fail)

      obtain ⟨Az, cz, rfl, hlz, hCz⟩ := Kd.R_reads HO5.out
      have HLZ := Aside0.mk hlz
      have HCZ := Aside0.mk hCz
      obtain ⟨L, eL⟩ : ∃ L, L = ([] : List Int) ++ a ++ b ++ c ++ l := ⟨_, rfl⟩
      rw [← eL] at HLZ HCZ ⊢
      have HEL := Aside0.mk eL
      clear hlz hCz eL
      refine (vary_New.calls Az cz L _ HCZ.out HLZ.out (by rw [HEL.out]; simp only [List.length_append, List.length_nil]; have h1 := LA.out; have h2 := LB.out; have h3 := LC.out; have h4 := LD.out; omega)).mono ?_
      rintro x wn ⟨g, rfl, hg, hI, hb⟩
      have HS := Aside0.mk (news_ne hI)
      have HBn := Aside0.mk (below_step HB.out (below_step HW5.out hb))
      have HG := Aside0.mk (Nat.le_trans (below_size (below_step HB.out HW5.out)) hg)
      have HI := Aside0.mk hI
      clear hI hb hg

      have hL : L = a ++ (b ++ (c ++ l)) := by rw [HEL.out]; simp [List.append_assoc]
      have HWC : Aside0 (∀ x ∈ c ++ l, 0 ≤ x ∧ x < 256) := ⟨fun x hx => by
        rcases List.mem_append.1 hx with hx | hx
        · rw [← EC.out] at hx
          exact (List.mem_append.1 hx).elim (fun h => enc_wf 7 _ (by omega) (by omega) x h) (fun h => bytesOf_wf s x h)
        · exact HWF.out x hx⟩
      have HWB : Aside0 (∀ x ∈ b ++ (c ++ l), 0 ≤ x ∧ x < 256) := ⟨fun x hx => by
        rcases List.mem_append.1 hx with hx | hx
        · rw [← EB.out] at hx
          simp at hx
        · exact HWC.out x hx⟩
      have HWA : Aside0 (∀ x ∈ a ++ (b ++ (c ++ l)), 0 ≤ x ∧ x < 256) := ⟨fun x hx => by
        rcases List.mem_append.1 hx with hx | hx
        · rw [← EA.out] at hx
          exact enc_wf 7 _ hu.1 (by have := hu.2; omega) x hx
        · exact HWB.out x hx⟩
      have HUR : Aside0 (uRes (a ++ (b ++ (c ++ l))) = (n, b ++ (c ++ l), 0)) := ⟨by rw [← EA.out]; exact uRes_enc n _ hu.1 hu.2⟩
      have HSR : Aside0 (b ++ (c ++ l) = c ++ l) := ⟨by rw [← EB.out]; exact rfl⟩
      have HTR : Aside0 (tRes 65535 (c ++ l) = (bytesOf s, l, 0)) := ⟨by rw [← EC.out]; exact tRes_txt s l ht⟩
      have hI := HI.out
      rw [hL] at hI
      obtain ⟨X0, hX0⟩ : ∃ X, X = a ++ (b ++ (c ++ l)) := ⟨_, rfl⟩
      obtain ⟨X1, hX1⟩ : ∃ X, X = b ++ (c ++ l) := ⟨_, rfl⟩
      obtain ⟨X2, hX2⟩ : ∃ X, X = c ++ l := ⟨_, rfl⟩
      rw [← hX2] at HWC hX1 hX0 hI HUR HSR HTR HWB HWA
      rw [← hX1] at hX0 hI HUR HSR HWB HWA
      rw [← hX0] at hI HUR HWA
      have HI := Aside0.mk hI
      clear hL hX0 hX1 hX2 hI HX1 HX2 HX3 HCZ HLZ HEL

      go_wp2_with fail
      refine (vary_U.calls _ g _ X0 HI.out HS.out HWA.out).mono ?_
      rintro x wu hx
      unfold UPost at hx
      rw [HUR.out] at hx
      obtain ⟨rfl, h1, h3⟩ := hx
      change Rd wu g _ X1 0 at h1
      have HI' := Aside0.mk h1
      have HBn' := Aside0.mk (HBn.out.trans (h3.below HG.out))
      clear h1 h3 HI HBn
      have HI := HI'
      have HBn := HBn'
      clear HI' HBn'
      rw [HSR.out] at HI

      go_wp2_with fail
      refine (vary_Text.calls _ g _ 65535 X2 HI.out HS.out HWC.out).mono ?_
      rintro x wu hx
      unfold TPost at hx
      rw [HTR.out] at hx
      obtain ⟨rfl, h1, h3⟩ := hx
      change Rd wu g _ l 0 at h1
      rw [show strOfNums (bytesOf s, l, (0 : Int)).1 = s from str_back s]
      have HI' := Aside0.mk h1
      have HBn' := Aside0.mk (HBn.out.trans (h3.below HG.out))
      clear h1 h3 HI HBn
      have HI := HI'
      have HBn := HBn'
      clear HI' HBn'

      go_wp2_with (first | (go_at_call 31; (with_reducible refine (vary_Err.calls _ g _ l 0 HI.out).mono ?_); rintro x w' ⟨rfl, rfl⟩) | (go_at_call 32; (with_reducible refine (Left_at _ g _ l HI.out).mono ?_); rintro x w' ⟨rfl, rfl⟩) | (go_at_call 10; (with_reducible refine (awake_calls _).mono ?_); rintro e w3 ⟨rfl, hb⟩; have HZ := Aside0.mk (below_step HBn.out hb); clear hb) | fail)
      go_ret
      exact ⟨rfl, HZ.out⟩

    · have ht' : (65535 : Int) < (s.size : Int) := by omega
      have KU := U_yes n hu.1 hu.2
      have KS := S_no n hs
      have KT := T_no s ht
      obtain ⟨a, ea⟩ : ∃ a, a = (enc 7 n) := ⟨_, rfl⟩
      obtain ⟨b, eb⟩ : ∃ b, b = ([] : List Int) := ⟨_, rfl⟩
      obtain ⟨c, ec⟩ : ∃ c, c = ([] : List Int) := ⟨_, rfl⟩
      rw [← ea] at KU
      rw [← eb] at KS
      rw [← ec] at KT
      have LA : Aside0 (a.length ≤ 8) := ⟨by rw [ea]; exact (enc_len 7 n).2⟩
      have LB : Aside0 (b.length ≤ 8) := ⟨by rw [eb]; simp⟩
      have LC : Aside0 (c.length ≤ 65543) := ⟨by rw [ec]; simp⟩
      have EA := Aside0.mk ea.symm
      have EB := Aside0.mk eb.symm
      have EC := Aside0.mk ec.symm
      have KU := Aside0.mk KU
      have KS := Aside0.mk KS
      have KT := Aside0.mk KT
      clear ea eb ec
      have HB := Aside0.mk (Below.refl w.heap.size w)
      go_enter Try.func6, Try.ntmps6

      go_wp2_with fail
      refine (KU.out _).mono ?_
      rintro x wx1 ⟨vx1, rfl, hx, hb⟩
      obtain ⟨Ax1, cx1, rfl, hlx, hCx⟩ := Kd.R_reads hx
      have HX1 := Aside0.mk hCx
      have HB' := Aside0.mk (below_step HB.out hb)
      clear hx hb hlx hCx HB
      have HB := HB'
      clear HB'

      go_wp2_with fail
      refine (KS.out _).mono ?_
      rintro x wx2 ⟨vx2, rfl, hx, hb⟩
      obtain ⟨Ax2, cx2, rfl, hlx, hCx⟩ := Kd.R_reads hx
      have HX1' := Aside0.mk (Kd.C_below HX1.out hb)
      clear HX1
      have HX1 := HX1'
      clear HX1'
      have HX2 := Aside0.mk hCx
      have HB' := Aside0.mk (below_step HB.out hb)
      clear hx hb hlx hCx HB
      have HB := HB'
      clear HB'

      go_wp2_with fail
      refine (KT.out _).mono ?_
      rintro x wx3 ⟨vx3, rfl, hx, hb⟩
      obtain ⟨Ax3, cx3, rfl, hlx, hCx⟩ := Kd.R_reads hx
      have HX1' := Aside0.mk (Kd.C_below HX1.out hb)
      clear HX1
      have HX1 := HX1'
      clear HX1'
      have HX2' := Aside0.mk (Kd.C_below HX2.out hb)
      clear HX2
      have HX2 := HX2'
      clear HX2'
      have HX3 := Aside0.mk hCx
      have HB' := Aside0.mk (below_step HB.out hb)
      clear hx hb hlx hCx HB
      have HB := HB'
      clear HB'

      have HR' := Aside0.mk (Kd.C_below HR.out HB.out)
      generalize hwz : wx3 = wz at HB HX1 HX2 HX3 HR' ⊢
      clear hwz
      go_wp2_with (first
        | ((with_reducible refine gate_dst (N := 29) rfl ?_); refine Kd.R_lit (Kd.int .u8) (w0 := wz) wz.heap.size 5 ?hg (N := 29) ?hd (xs := ([] : List Int)) (inner := []) (ok := fun _ => True) (okp := fun _ => True) ?hr ?hp (fun _ hk => hk) trivial (Below.refl _ _) (Nat.le_refl _) (by simp) ?_; (case hd => rfl); (case hg => rfl); (case hr => first | (go_simp; done) | (go_simp; rfl)); (case hp => exact (Reps.none _ _)); intro v1 w21 ho4 hb hg_ hnew_; clear hg_ hnew_; have HW1 := Aside0.mk hb; have HO1 := Aside0.mk ho4; clear ho4 hb)
        | ((with_reducible refine gate_builtin (b := .append) (xs := #[.tmp 29, .tmp 30]) rfl ?_); at_builtin; refine Kd.R_append_rows (Kd.int .u8) (w0 := wz) wz.heap.size rfl (.tmp 29) (.tmp 30) 22 5 (.int .u8 0) 1 rfl Try.underlying22 hinfo5 rfl (by decide) (by omega) v1 ([] : List Int) a _ _ _ (fun _ => True) (fun _ => False) rfl rfl ?aO ?aR (fun _ _ h => h) (fun _ h => h.elim) ?aF ?aB ?aS ?aL ?_; (case aR => exact Kd.C_below HX1.out HW1.out); (case aB => exact HW1.out); (case aF => exact (fun _ _ => trivial)); (case aO => exact HO1.out); (case aS => exact below_size HW1.out); (case aL => have h1 := LA.out; have h2 := LB.out; have h3 := LC.out; have h4 := LD.out; (try simp only [List.length_append, List.length_nil] at *); omega); intro v2 w21 ho hb hg hat; have HW2 := Aside0.mk hb; have HO2 := Aside0.mk ho; clear ho hb hg hat)
        | ((with_reducible refine gate_builtin (b := .append) (xs := #[.tmp 31, .tmp 32]) rfl ?_); at_builtin; refine Kd.R_append_rows (Kd.int .u8) (w0 := wz) wz.heap.size rfl (.tmp 31) (.tmp 32) 22 5 (.int .u8 0) 1 rfl Try.underlying22 hinfo5 rfl (by decide) (by omega) v2 (([] : List Int) ++ a) b _ _ _ (fun _ => True) (fun _ => False) rfl rfl ?aO ?aR (fun _ _ h => h) (fun _ h => h.elim) ?aF ?aB ?aS ?aL ?_; (case aR => exact Kd.C_below HX2.out HW2.out); (case aB => exact HW2.out); (case aF => exact (fun _ _ => trivial)); (case aO => exact HO2.out); (case aS => exact below_size HW2.out); (case aL => have h1 := LA.out; have h2 := LB.out; have h3 := LC.out; have h4 := LD.out; (try simp only [List.length_append, List.length_nil] at *); omega); intro v3 w22 ho hb hg hat; have HW3 := Aside0.mk hb; have HO3 := Aside0.mk ho; clear ho hb hg hat)
        | ((with_reducible refine gate_builtin (b := .append) (xs := #[.tmp 33, .tmp 34]) rfl ?_); at_builtin; refine Kd.R_append_rows (Kd.int .u8) (w0 := wz) wz.heap.size rfl (.tmp 33) (.tmp 34) 22 5 (.int .u8 0) 1 rfl Try.underlying22 hinfo5 rfl (by decide) (by omega) v3 (([] : List Int) ++ a ++ b) c _ _ _ (fun _ => True) (fun _ => False) rfl rfl ?aO ?aR (fun _ _ h => h) (fun _ h => h.elim) ?aF ?aB ?aS ?aL ?_; (case aR => exact Kd.C_below HX3.out HW3.out); (case aB => exact HW3.out); (case aF => exact (fun _ _ => trivial)); (case aO => exact HO3.out); (case aS => exact below_size HW3.out); (case aL => have h1 := LA.out; have h2 := LB.out; have h3 := LC.out; have h4 := LD.out; (try simp only [List.length_append, List.length_nil] at *); omega); intro v4 w23 ho hb hg hat; have HW4 := Aside0.mk hb; have HO4 := Aside0.mk ho; clear ho hb hg hat)
        | ((with_reducible refine gate_builtin (b := .append) (xs := #[.tmp 35, .tmp 36]) rfl ?_); at_builtin; refine Kd.R_append_rows (Kd.int .u8) (w0 := wz) wz.heap.size rfl (.tmp 35) (.tmp 36) 22 5 (.int .u8 0) 1 rfl Try.underlying22 hinfo5 rfl (by decide) (by omega) v4 (([] : List Int) ++ a ++ b ++ c) l _ _ _ (fun _ => True) (fun _ => False) rfl rfl ?aO ?aR (fun _ _ h => h) (fun _ h => h.elim) ?aF ?aB ?aS ?aL ?_; (case aR => exact Kd.C_below HR'.out HW4.out); (case aB => exact HW4.out); (case aF => exact (fun _ _ => trivial)); (case aO => exact HO4.out); (case aS => exact below_size HW4.out); (case aL => have h1 := LA.out; have h2 := LB.out; have h3 := LC.out; have h4 := LD.out; (try simp only [List.length_append, List.length_nil] at *); omega); intro v5 w24 ho hb hg hat; have HW5 := Aside0.mk hb; have HO5 := Aside0.mk ho; clear ho hb hg hat)
        | fail)

      obtain ⟨Az, cz, rfl, hlz, hCz⟩ := Kd.R_reads HO5.out
      have HLZ := Aside0.mk hlz
      have HCZ := Aside0.mk hCz
      obtain ⟨L, eL⟩ : ∃ L, L = ([] : List Int) ++ a ++ b ++ c ++ l := ⟨_, rfl⟩
      rw [← eL] at HLZ HCZ ⊢
      have HEL := Aside0.mk eL
      clear hlz hCz eL
      refine (vary_New.calls Az cz L _ HCZ.out HLZ.out (by rw [HEL.out]; simp only [List.length_append, List.length_nil]; have h1 := LA.out; have h2 := LB.out; have h3 := LC.out; have h4 := LD.out; omega)).mono ?_
      rintro x wn ⟨g, rfl, hg, hI, hb⟩
      have HS := Aside0.mk (news_ne hI)
      have HBn := Aside0.mk (below_step HB.out (below_step HW5.out hb))
      have HG := Aside0.mk (Nat.le_trans (below_size (below_step HB.out HW5.out)) hg)
      have HI := Aside0.mk hI
      clear hI hb hg

      have hL : L = a ++ (b ++ (c ++ l)) := by rw [HEL.out]; simp [List.append_assoc]
      have HWC : Aside0 (∀ x ∈ c ++ l, 0 ≤ x ∧ x < 256) := ⟨fun x hx => by
        rcases List.mem_append.1 hx with hx | hx
        · rw [← EC.out] at hx
          simp at hx
        · exact HWF.out x hx⟩
      have HWB : Aside0 (∀ x ∈ b ++ (c ++ l), 0 ≤ x ∧ x < 256) := ⟨fun x hx => by
        rcases List.mem_append.1 hx with hx | hx
        · rw [← EB.out] at hx
          simp at hx
        · exact HWC.out x hx⟩
      have HWA : Aside0 (∀ x ∈ a ++ (b ++ (c ++ l)), 0 ≤ x ∧ x < 256) := ⟨fun x hx => by
        rcases List.mem_append.1 hx with hx | hx
        · rw [← EA.out] at hx
          exact enc_wf 7 _ hu.1 (by have := hu.2; omega) x hx
        · exact HWB.out x hx⟩
      have HUR : Aside0 (uRes (a ++ (b ++ (c ++ l))) = (n, b ++ (c ++ l), 0)) := ⟨by rw [← EA.out]; exact uRes_enc n _ hu.1 hu.2⟩
      have HSR : Aside0 (b ++ (c ++ l) = c ++ l) := ⟨by rw [← EB.out]; exact rfl⟩
      have HTR : Aside0 (c ++ l = l) := ⟨by rw [← EC.out]; exact rfl⟩
      have hI := HI.out
      rw [hL] at hI
      obtain ⟨X0, hX0⟩ : ∃ X, X = a ++ (b ++ (c ++ l)) := ⟨_, rfl⟩
      obtain ⟨X1, hX1⟩ : ∃ X, X = b ++ (c ++ l) := ⟨_, rfl⟩
      obtain ⟨X2, hX2⟩ : ∃ X, X = c ++ l := ⟨_, rfl⟩
      rw [← hX2] at HWC hX1 hX0 hI HUR HSR HTR HWB HWA
      rw [← hX1] at hX0 hI HUR HSR HWB HWA
      rw [← hX0] at hI HUR HWA
      have HI := Aside0.mk hI
      clear hL hX0 hX1 hX2 hI HX1 HX2 HX3 HCZ HLZ HEL

      go_wp2_with fail
      refine (vary_U.calls _ g _ X0 HI.out HS.out HWA.out).mono ?_
      rintro x wu hx
      unfold UPost at hx
      rw [HUR.out] at hx
      obtain ⟨rfl, h1, h3⟩ := hx
      change Rd wu g _ X1 0 at h1
      have HI' := Aside0.mk h1
      have HBn' := Aside0.mk (HBn.out.trans (h3.below HG.out))
      clear h1 h3 HI HBn
      have HI := HI'
      have HBn := HBn'
      clear HI' HBn'
      rw [HSR.out] at HI
      rw [HTR.out] at HI

      go_wp2_with (first | (go_at_call 31; (with_reducible refine (vary_Err.calls _ g _ l 0 HI.out).mono ?_); rintro x w' ⟨rfl, rfl⟩) | (go_at_call 32; (with_reducible refine (Left_at _ g _ l HI.out).mono ?_); rintro x w' ⟨rfl, rfl⟩) | (go_at_call 10; (with_reducible refine (awake_calls _).mono ?_); rintro e w3 ⟨rfl, hb⟩; have HZ := Aside0.mk (below_step HBn.out hb); clear hb) | fail)
      go_ret
      exact ⟨rfl, HZ.out⟩

  · have hu : n < 0 ∨ 18014398509481982 < n := by omega
    have hs : n < -9007199254740991 ∨ 9007199254740991 < n := by omega
    by_cases ht : (s.size : Int) ≤ 65535
    · have KU := U_no n hu
      have KS := S_no n hs
      have KT := T_go s ht
      obtain ⟨a, ea⟩ : ∃ a, a = ([] : List Int) := ⟨_, rfl⟩
      obtain ⟨b, eb⟩ : ∃ b, b = ([] : List Int) := ⟨_, rfl⟩
      obtain ⟨c, ec⟩ : ∃ c, c = (enc 7 (s.size : Int) ++ bytesOf s) := ⟨_, rfl⟩
      rw [← ea] at KU
      rw [← eb] at KS
      rw [← ec] at KT
      have LA : Aside0 (a.length ≤ 8) := ⟨by rw [ea]; simp⟩
      have LB : Aside0 (b.length ≤ 8) := ⟨by rw [eb]; simp⟩
      have LC : Aside0 (c.length ≤ 65543) := ⟨by rw [ec]; rw [List.length_append, bytesOf_length]; have := (enc_len 7 (s.size : Int)).2; omega⟩
      have EA := Aside0.mk ea.symm
      have EB := Aside0.mk eb.symm
      have EC := Aside0.mk ec.symm
      have KU := Aside0.mk KU
      have KS := Aside0.mk KS
      have KT := Aside0.mk KT
      clear ea eb ec
      have HB := Aside0.mk (Below.refl w.heap.size w)
      go_enter Try.func6, Try.ntmps6

      go_wp2_with fail
      refine (KU.out _).mono ?_
      rintro x wx1 ⟨vx1, rfl, hx, hb⟩
      obtain ⟨Ax1, cx1, rfl, hlx, hCx⟩ := Kd.R_reads hx
      have HX1 := Aside0.mk hCx
      have HB' := Aside0.mk (below_step HB.out hb)
      clear hx hb hlx hCx HB
      have HB := HB'
      clear HB'

      go_wp2_with fail
      refine (KS.out _).mono ?_
      rintro x wx2 ⟨vx2, rfl, hx, hb⟩
      obtain ⟨Ax2, cx2, rfl, hlx, hCx⟩ := Kd.R_reads hx
      have HX1' := Aside0.mk (Kd.C_below HX1.out hb)
      clear HX1
      have HX1 := HX1'
      clear HX1'
      have HX2 := Aside0.mk hCx
      have HB' := Aside0.mk (below_step HB.out hb)
      clear hx hb hlx hCx HB
      have HB := HB'
      clear HB'

      go_wp2_with fail
      refine (KT.out _).mono ?_
      rintro x wx3 ⟨vx3, rfl, hx, hb⟩
      obtain ⟨Ax3, cx3, rfl, hlx, hCx⟩ := Kd.R_reads hx
      have HX1' := Aside0.mk (Kd.C_below HX1.out hb)
      clear HX1
      have HX1 := HX1'
      clear HX1'
      have HX2' := Aside0.mk (Kd.C_below HX2.out hb)
      clear HX2
      have HX2 := HX2'
      clear HX2'
      have HX3 := Aside0.mk hCx
      have HB' := Aside0.mk (below_step HB.out hb)
      clear hx hb hlx hCx HB
      have HB := HB'
      clear HB'

      have HR' := Aside0.mk (Kd.C_below HR.out HB.out)
      generalize hwz : wx3 = wz at HB HX1 HX2 HX3 HR' ⊢
      clear hwz
      go_wp2_with (first
        | ((with_reducible refine gate_dst (N := 29) rfl ?_); refine Kd.R_lit (Kd.int .u8) (w0 := wz) wz.heap.size 5 ?hg (N := 29) ?hd (xs := ([] : List Int)) (inner := []) (ok := fun _ => True) (okp := fun _ => True) ?hr ?hp (fun _ hk => hk) trivial (Below.refl _ _) (Nat.le_refl _) (by simp) ?_; (case hd => rfl); (case hg => rfl); (case hr => first | (go_simp; done) | (go_simp; rfl)); (case hp => exact (Reps.none _ _)); intro v1 w21 ho4 hb hg_ hnew_; clear hg_ hnew_; have HW1 := Aside0.mk hb; have HO1 := Aside0.mk ho4; clear ho4 hb)
        | ((with_reducible refine gate_builtin (b := .append) (xs := #[.tmp 29, .tmp 30]) rfl ?_); at_builtin; refine Kd.R_append_rows (Kd.int .u8) (w0 := wz) wz.heap.size rfl (.tmp 29) (.tmp 30) 22 5 (.int .u8 0) 1 rfl Try.underlying22 hinfo5 rfl (by decide) (by omega) v1 ([] : List Int) a _ _ _ (fun _ => True) (fun _ => False) rfl rfl ?aO ?aR (fun _ _ h => h) (fun _ h => h.elim) ?aF ?aB ?aS ?aL ?_; (case aR => exact Kd.C_below HX1.out HW1.out); (case aB => exact HW1.out); (case aF => exact (fun _ _ => trivial)); (case aO => exact HO1.out); (case aS => exact below_size HW1.out); (case aL => have h1 := LA.out; have h2 := LB.out; have h3 := LC.out; have h4 := LD.out; (try simp only [List.length_append, List.length_nil] at *); omega); intro v2 w21 ho hb hg hat; have HW2 := Aside0.mk hb; have HO2 := Aside0.mk ho; clear ho hb hg hat)
        | ((with_reducible refine gate_builtin (b := .append) (xs := #[.tmp 31, .tmp 32]) rfl ?_); at_builtin; refine Kd.R_append_rows (Kd.int .u8) (w0 := wz) wz.heap.size rfl (.tmp 31) (.tmp 32) 22 5 (.int .u8 0) 1 rfl Try.underlying22 hinfo5 rfl (by decide) (by omega) v2 (([] : List Int) ++ a) b _ _ _ (fun _ => True) (fun _ => False) rfl rfl ?aO ?aR (fun _ _ h => h) (fun _ h => h.elim) ?aF ?aB ?aS ?aL ?_; (case aR => exact Kd.C_below HX2.out HW2.out); (case aB => exact HW2.out); (case aF => exact (fun _ _ => trivial)); (case aO => exact HO2.out); (case aS => exact below_size HW2.out); (case aL => have h1 := LA.out; have h2 := LB.out; have h3 := LC.out; have h4 := LD.out; (try simp only [List.length_append, List.length_nil] at *); omega); intro v3 w22 ho hb hg hat; have HW3 := Aside0.mk hb; have HO3 := Aside0.mk ho; clear ho hb hg hat)
        | ((with_reducible refine gate_builtin (b := .append) (xs := #[.tmp 33, .tmp 34]) rfl ?_); at_builtin; refine Kd.R_append_rows (Kd.int .u8) (w0 := wz) wz.heap.size rfl (.tmp 33) (.tmp 34) 22 5 (.int .u8 0) 1 rfl Try.underlying22 hinfo5 rfl (by decide) (by omega) v3 (([] : List Int) ++ a ++ b) c _ _ _ (fun _ => True) (fun _ => False) rfl rfl ?aO ?aR (fun _ _ h => h) (fun _ h => h.elim) ?aF ?aB ?aS ?aL ?_; (case aR => exact Kd.C_below HX3.out HW3.out); (case aB => exact HW3.out); (case aF => exact (fun _ _ => trivial)); (case aO => exact HO3.out); (case aS => exact below_size HW3.out); (case aL => have h1 := LA.out; have h2 := LB.out; have h3 := LC.out; have h4 := LD.out; (try simp only [List.length_append, List.length_nil] at *); omega); intro v4 w23 ho hb hg hat; have HW4 := Aside0.mk hb; have HO4 := Aside0.mk ho; clear ho hb hg hat)
        | ((with_reducible refine gate_builtin (b := .append) (xs := #[.tmp 35, .tmp 36]) rfl ?_); at_builtin; refine Kd.R_append_rows (Kd.int .u8) (w0 := wz) wz.heap.size rfl (.tmp 35) (.tmp 36) 22 5 (.int .u8 0) 1 rfl Try.underlying22 hinfo5 rfl (by decide) (by omega) v4 (([] : List Int) ++ a ++ b ++ c) l _ _ _ (fun _ => True) (fun _ => False) rfl rfl ?aO ?aR (fun _ _ h => h) (fun _ h => h.elim) ?aF ?aB ?aS ?aL ?_; (case aR => exact Kd.C_below HR'.out HW4.out); (case aB => exact HW4.out); (case aF => exact (fun _ _ => trivial)); (case aO => exact HO4.out); (case aS => exact below_size HW4.out); (case aL => have h1 := LA.out; have h2 := LB.out; have h3 := LC.out; have h4 := LD.out; (try simp only [List.length_append, List.length_nil] at *); omega); intro v5 w24 ho hb hg hat; have HW5 := Aside0.mk hb; have HO5 := Aside0.mk ho; clear ho hb hg hat)
        | fail)

      obtain ⟨Az, cz, rfl, hlz, hCz⟩ := Kd.R_reads HO5.out
      have HLZ := Aside0.mk hlz
      have HCZ := Aside0.mk hCz
      obtain ⟨L, eL⟩ : ∃ L, L = ([] : List Int) ++ a ++ b ++ c ++ l := ⟨_, rfl⟩
      rw [← eL] at HLZ HCZ ⊢
      have HEL := Aside0.mk eL
      clear hlz hCz eL
      refine (vary_New.calls Az cz L _ HCZ.out HLZ.out (by rw [HEL.out]; simp only [List.length_append, List.length_nil]; have h1 := LA.out; have h2 := LB.out; have h3 := LC.out; have h4 := LD.out; omega)).mono ?_
      rintro x wn ⟨g, rfl, hg, hI, hb⟩
      have HS := Aside0.mk (news_ne hI)
      have HBn := Aside0.mk (below_step HB.out (below_step HW5.out hb))
      have HG := Aside0.mk (Nat.le_trans (below_size (below_step HB.out HW5.out)) hg)
      have HI := Aside0.mk hI
      clear hI hb hg

      have hL : L = a ++ (b ++ (c ++ l)) := by rw [HEL.out]; simp [List.append_assoc]
      have HWC : Aside0 (∀ x ∈ c ++ l, 0 ≤ x ∧ x < 256) := ⟨fun x hx => by
        rcases List.mem_append.1 hx with hx | hx
        · rw [← EC.out] at hx
          exact (List.mem_append.1 hx).elim (fun h => enc_wf 7 _ (by omega) (by omega) x h) (fun h => bytesOf_wf s x h)
        · exact HWF.out x hx⟩
      have HWB : Aside0 (∀ x ∈ b ++ (c ++ l), 0 ≤ x ∧ x < 256) := ⟨fun x hx => by
        rcases List.mem_append.1 hx with hx | hx
        · rw [← EB.out] at hx
          simp at hx
        · exact HWC.out x hx⟩
      have HWA : Aside0 (∀ x ∈ a ++ (b ++ (c ++ l)), 0 ≤ x ∧ x < 256) := ⟨fun x hx => by
        rcases List.mem_append.1 hx with hx | hx
        · rw [← EA.out] at hx
          simp at hx
        · exact HWB.out x hx⟩
      have HUR : Aside0 (a ++ (b ++ (c ++ l)) = b ++ (c ++ l)) := ⟨by rw [← EA.out]; exact rfl⟩
      have HSR : Aside0 (b ++ (c ++ l) = c ++ l) := ⟨by rw [← EB.out]; exact rfl⟩
      have HTR : Aside0 (tRes 65535 (c ++ l) = (bytesOf s, l, 0)) := ⟨by rw [← EC.out]; exact tRes_txt s l ht⟩
      have hI := HI.out
      rw [hL] at hI
      obtain ⟨X0, hX0⟩ : ∃ X, X = a ++ (b ++ (c ++ l)) := ⟨_, rfl⟩
      obtain ⟨X1, hX1⟩ : ∃ X, X = b ++ (c ++ l) := ⟨_, rfl⟩
      obtain ⟨X2, hX2⟩ : ∃ X, X = c ++ l := ⟨_, rfl⟩
      rw [← hX2] at HWC hX1 hX0 hI HUR HSR HTR HWB HWA
      rw [← hX1] at hX0 hI HUR HSR HWB HWA
      rw [← hX0] at hI HUR HWA
      have HI := Aside0.mk hI
      clear hL hX0 hX1 hX2 hI HX1 HX2 HX3 HCZ HLZ HEL
      rw [HUR.out] at HI
      rw [HSR.out] at HI

      go_wp2_with fail
      refine (vary_Text.calls _ g _ 65535 X2 HI.out HS.out HWC.out).mono ?_
      rintro x wu hx
      unfold TPost at hx
      rw [HTR.out] at hx
      obtain ⟨rfl, h1, h3⟩ := hx
      change Rd wu g _ l 0 at h1
      rw [show strOfNums (bytesOf s, l, (0 : Int)).1 = s from str_back s]
      have HI' := Aside0.mk h1
      have HBn' := Aside0.mk (HBn.out.trans (h3.below HG.out))
      clear h1 h3 HI HBn
      have HI := HI'
      have HBn := HBn'
      clear HI' HBn'

      go_wp2_with (first | (go_at_call 31; (with_reducible refine (vary_Err.calls _ g _ l 0 HI.out).mono ?_); rintro x w' ⟨rfl, rfl⟩) | (go_at_call 32; (with_reducible refine (Left_at _ g _ l HI.out).mono ?_); rintro x w' ⟨rfl, rfl⟩) | (go_at_call 10; (with_reducible refine (awake_calls _).mono ?_); rintro e w3 ⟨rfl, hb⟩; have HZ := Aside0.mk (below_step HBn.out hb); clear hb) | fail)
      go_ret
      exact ⟨rfl, HZ.out⟩

    · have ht' : (65535 : Int) < (s.size : Int) := by omega
      have KU := U_no n hu
      have KS := S_no n hs
      have KT := T_no s ht
      obtain ⟨a, ea⟩ : ∃ a, a = ([] : List Int) := ⟨_, rfl⟩
      obtain ⟨b, eb⟩ : ∃ b, b = ([] : List Int) := ⟨_, rfl⟩
      obtain ⟨c, ec⟩ : ∃ c, c = ([] : List Int) := ⟨_, rfl⟩
      rw [← ea] at KU
      rw [← eb] at KS
      rw [← ec] at KT
      have LA : Aside0 (a.length ≤ 8) := ⟨by rw [ea]; simp⟩
      have LB : Aside0 (b.length ≤ 8) := ⟨by rw [eb]; simp⟩
      have LC : Aside0 (c.length ≤ 65543) := ⟨by rw [ec]; simp⟩
      have EA := Aside0.mk ea.symm
      have EB := Aside0.mk eb.symm
      have EC := Aside0.mk ec.symm
      have KU := Aside0.mk KU
      have KS := Aside0.mk KS
      have KT := Aside0.mk KT
      clear ea eb ec
      have HB := Aside0.mk (Below.refl w.heap.size w)
      go_enter Try.func6, Try.ntmps6

      go_wp2_with fail
      refine (KU.out _).mono ?_
      rintro x wx1 ⟨vx1, rfl, hx, hb⟩
      obtain ⟨Ax1, cx1, rfl, hlx, hCx⟩ := Kd.R_reads hx
      have HX1 := Aside0.mk hCx
      have HB' := Aside0.mk (below_step HB.out hb)
      clear hx hb hlx hCx HB
      have HB := HB'
      clear HB'

      go_wp2_with fail
      refine (KS.out _).mono ?_
      rintro x wx2 ⟨vx2, rfl, hx, hb⟩
      obtain ⟨Ax2, cx2, rfl, hlx, hCx⟩ := Kd.R_reads hx
      have HX1' := Aside0.mk (Kd.C_below HX1.out hb)
      clear HX1
      have HX1 := HX1'
      clear HX1'
      have HX2 := Aside0.mk hCx
      have HB' := Aside0.mk (below_step HB.out hb)
      clear hx hb hlx hCx HB
      have HB := HB'
      clear HB'

      go_wp2_with fail
      refine (KT.out _).mono ?_
      rintro x wx3 ⟨vx3, rfl, hx, hb⟩
      obtain ⟨Ax3, cx3, rfl, hlx, hCx⟩ := Kd.R_reads hx
      have HX1' := Aside0.mk (Kd.C_below HX1.out hb)
      clear HX1
      have HX1 := HX1'
      clear HX1'
      have HX2' := Aside0.mk (Kd.C_below HX2.out hb)
      clear HX2
      have HX2 := HX2'
      clear HX2'
      have HX3 := Aside0.mk hCx
      have HB' := Aside0.mk (below_step HB.out hb)
      clear hx hb hlx hCx HB
      have HB := HB'
      clear HB'

      have HR' := Aside0.mk (Kd.C_below HR.out HB.out)
      generalize hwz : wx3 = wz at HB HX1 HX2 HX3 HR' ⊢
      clear hwz
      go_wp2_with (first
        | ((with_reducible refine gate_dst (N := 29) rfl ?_); refine Kd.R_lit (Kd.int .u8) (w0 := wz) wz.heap.size 5 ?hg (N := 29) ?hd (xs := ([] : List Int)) (inner := []) (ok := fun _ => True) (okp := fun _ => True) ?hr ?hp (fun _ hk => hk) trivial (Below.refl _ _) (Nat.le_refl _) (by simp) ?_; (case hd => rfl); (case hg => rfl); (case hr => first | (go_simp; done) | (go_simp; rfl)); (case hp => exact (Reps.none _ _)); intro v1 w21 ho4 hb hg_ hnew_; clear hg_ hnew_; have HW1 := Aside0.mk hb; have HO1 := Aside0.mk ho4; clear ho4 hb)
        | ((with_reducible refine gate_builtin (b := .append) (xs := #[.tmp 29, .tmp 30]) rfl ?_); at_builtin; refine Kd.R_append_rows (Kd.int .u8) (w0 := wz) wz.heap.size rfl (.tmp 29) (.tmp 30) 22 5 (.int .u8 0) 1 rfl Try.underlying22 hinfo5 rfl (by decide) (by omega) v1 ([] : List Int) a _ _ _ (fun _ => True) (fun _ => False) rfl rfl ?aO ?aR (fun _ _ h => h) (fun _ h => h.elim) ?aF ?aB ?aS ?aL ?_; (case aR => exact Kd.C_below HX1.out HW1.out); (case aB => exact HW1.out); (case aF => exact (fun _ _ => trivial)); (case aO => exact HO1.out); (case aS => exact below_size HW1.out); (case aL => have h1 := LA.out; have h2 := LB.out; have h3 := LC.out; have h4 := LD.out; (try simp only [List.length_append, List.length_nil] at *); omega); intro v2 w21 ho hb hg hat; have HW2 := Aside0.mk hb; have HO2 := Aside0.mk ho; clear ho hb hg hat)
        | ((with_reducible refine gate_builtin (b := .append) (xs := #[.tmp 31, .tmp 32]) rfl ?_); at_builtin; refine Kd.R_append_rows (Kd.int .u8) (w0 := wz) wz.heap.size rfl (.tmp 31) (.tmp 32) 22 5 (.int .u8 0) 1 rfl Try.underlying22 hinfo5 rfl (by decide) (by omega) v2 (([] : List Int) ++ a) b _ _ _ (fun _ => True) (fun _ => False) rfl rfl ?aO ?aR (fun _ _ h => h) (fun _ h => h.elim) ?aF ?aB ?aS ?aL ?_; (case aR => exact Kd.C_below HX2.out HW2.out); (case aB => exact HW2.out); (case aF => exact (fun _ _ => trivial)); (case aO => exact HO2.out); (case aS => exact below_size HW2.out); (case aL => have h1 := LA.out; have h2 := LB.out; have h3 := LC.out; have h4 := LD.out; (try simp only [List.length_append, List.length_nil] at *); omega); intro v3 w22 ho hb hg hat; have HW3 := Aside0.mk hb; have HO3 := Aside0.mk ho; clear ho hb hg hat)
        | ((with_reducible refine gate_builtin (b := .append) (xs := #[.tmp 33, .tmp 34]) rfl ?_); at_builtin; refine Kd.R_append_rows (Kd.int .u8) (w0 := wz) wz.heap.size rfl (.tmp 33) (.tmp 34) 22 5 (.int .u8 0) 1 rfl Try.underlying22 hinfo5 rfl (by decide) (by omega) v3 (([] : List Int) ++ a ++ b) c _ _ _ (fun _ => True) (fun _ => False) rfl rfl ?aO ?aR (fun _ _ h => h) (fun _ h => h.elim) ?aF ?aB ?aS ?aL ?_; (case aR => exact Kd.C_below HX3.out HW3.out); (case aB => exact HW3.out); (case aF => exact (fun _ _ => trivial)); (case aO => exact HO3.out); (case aS => exact below_size HW3.out); (case aL => have h1 := LA.out; have h2 := LB.out; have h3 := LC.out; have h4 := LD.out; (try simp only [List.length_append, List.length_nil] at *); omega); intro v4 w23 ho hb hg hat; have HW4 := Aside0.mk hb; have HO4 := Aside0.mk ho; clear ho hb hg hat)
        | ((with_reducible refine gate_builtin (b := .append) (xs := #[.tmp 35, .tmp 36]) rfl ?_); at_builtin; refine Kd.R_append_rows (Kd.int .u8) (w0 := wz) wz.heap.size rfl (.tmp 35) (.tmp 36) 22 5 (.int .u8 0) 1 rfl Try.underlying22 hinfo5 rfl (by decide) (by omega) v4 (([] : List Int) ++ a ++ b ++ c) l _ _ _ (fun _ => True) (fun _ => False) rfl rfl ?aO ?aR (fun _ _ h => h) (fun _ h => h.elim) ?aF ?aB ?aS ?aL ?_; (case aR => exact Kd.C_below HR'.out HW4.out); (case aB => exact HW4.out); (case aF => exact (fun _ _ => trivial)); (case aO => exact HO4.out); (case aS => exact below_size HW4.out); (case aL => have h1 := LA.out; have h2 := LB.out; have h3 := LC.out; have h4 := LD.out; (try simp only [List.length_append, List.length_nil] at *); omega); intro v5 w24 ho hb hg hat; have HW5 := Aside0.mk hb; have HO5 := Aside0.mk ho; clear ho hb hg hat)
        | fail)

      obtain ⟨Az, cz, rfl, hlz, hCz⟩ := Kd.R_reads HO5.out
      have HLZ := Aside0.mk hlz
      have HCZ := Aside0.mk hCz
      obtain ⟨L, eL⟩ : ∃ L, L = ([] : List Int) ++ a ++ b ++ c ++ l := ⟨_, rfl⟩
      rw [← eL] at HLZ HCZ ⊢
      have HEL := Aside0.mk eL
      clear hlz hCz eL
      refine (vary_New.calls Az cz L _ HCZ.out HLZ.out (by rw [HEL.out]; simp only [List.length_append, List.length_nil]; have h1 := LA.out; have h2 := LB.out; have h3 := LC.out; have h4 := LD.out; omega)).mono ?_
      rintro x wn ⟨g, rfl, hg, hI, hb⟩
      have HS := Aside0.mk (news_ne hI)
      have HBn := Aside0.mk (below_step HB.out (below_step HW5.out hb))
      have HG := Aside0.mk (Nat.le_trans (below_size (below_step HB.out HW5.out)) hg)
      have HI := Aside0.mk hI
      clear hI hb hg

      have hL : L = a ++ (b ++ (c ++ l)) := by rw [HEL.out]; simp [List.append_assoc]
      have HWC : Aside0 (∀ x ∈ c ++ l, 0 ≤ x ∧ x < 256) := ⟨fun x hx => by
        rcases List.mem_append.1 hx with hx | hx
        · rw [← EC.out] at hx
          simp at hx
        · exact HWF.out x hx⟩
      have HWB : Aside0 (∀ x ∈ b ++ (c ++ l), 0 ≤ x ∧ x < 256) := ⟨fun x hx => by
        rcases List.mem_append.1 hx with hx | hx
        · rw [← EB.out] at hx
          simp at hx
        · exact HWC.out x hx⟩
      have HWA : Aside0 (∀ x ∈ a ++ (b ++ (c ++ l)), 0 ≤ x ∧ x < 256) := ⟨fun x hx => by
        rcases List.mem_append.1 hx with hx | hx
        · rw [← EA.out] at hx
          simp at hx
        · exact HWB.out x hx⟩
      have HUR : Aside0 (a ++ (b ++ (c ++ l)) = b ++ (c ++ l)) := ⟨by rw [← EA.out]; exact rfl⟩
      have HSR : Aside0 (b ++ (c ++ l) = c ++ l) := ⟨by rw [← EB.out]; exact rfl⟩
      have HTR : Aside0 (c ++ l = l) := ⟨by rw [← EC.out]; exact rfl⟩
      have hI := HI.out
      rw [hL] at hI
      obtain ⟨X0, hX0⟩ : ∃ X, X = a ++ (b ++ (c ++ l)) := ⟨_, rfl⟩
      obtain ⟨X1, hX1⟩ : ∃ X, X = b ++ (c ++ l) := ⟨_, rfl⟩
      obtain ⟨X2, hX2⟩ : ∃ X, X = c ++ l := ⟨_, rfl⟩
      rw [← hX2] at HWC hX1 hX0 hI HUR HSR HTR HWB HWA
      rw [← hX1] at hX0 hI HUR HSR HWB HWA
      rw [← hX0] at hI HUR HWA
      have HI := Aside0.mk hI
      clear hL hX0 hX1 hX2 hI HX1 HX2 HX3 HCZ HLZ HEL
      rw [HUR.out] at HI
      rw [HSR.out] at HI
      rw [HTR.out] at HI

      go_wp2_with (first | (go_at_call 31; (with_reducible refine (vary_Err.calls _ g _ l 0 HI.out).mono ?_); rintro x w' ⟨rfl, rfl⟩) | (go_at_call 32; (with_reducible refine (Left_at _ g _ l HI.out).mono ?_); rintro x w' ⟨rfl, rfl⟩) | (go_at_call 10; (with_reducible refine (awake_calls _).mono ?_); rintro e w3 ⟨rfl, hb⟩; have HZ := Aside0.mk (below_step HBn.out hb); clear hb) | fail)
      go_ret
      exact ⟨rfl, HZ.out⟩

#print axioms walk
end Go.Proofs.Ytmjedmiaebbjaaa.VE
