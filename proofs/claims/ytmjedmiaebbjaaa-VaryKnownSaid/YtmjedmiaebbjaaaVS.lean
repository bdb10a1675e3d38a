/- The walk of VaryShort: the law returns true, at all two numbers. -/
import Derived.Test.YtmjedmiaebbjaaaVC
import Derived.Test.YtmjedmiaebbjaaaH
import Derived.RegionTactic
import Derived.Deep.RegionWith
namespace Go.Proofs.Ytmjedmiaebbjaaa.VS
open Go.RowKit Go.Proofs.Ytmjedmiaebbjaaa.PV Go.Proofs.Ytmjedmiaebbjaaa.VA Go.Proofs.Ytmjedmiaebbjaaa.VC Go.Proofs.YtmjedmiaebbjaaaW.PrintWords Go.Proofs.YtmjedmiaebbjaaaW.PrintLast Go.Proofs.YtmjedmiaebbjaaaW.PrintMore
set_option linter.unusedVariables false
set_option linter.unusedSimpArgs false

theorem awake_calls (w : World) : Calls Try.prog 10 #[] w fun e w' => e = .returned (.bool true) ∧ Below w.heap.size w w' := driftnetlaw06_awake.calls 12 true w awake_ok
/-- What U answers, in one: bytes and an error. -/
def uOut (n : Int) : List Int := if n < 0 ∨ 18014398509481982 < n then [] else enc 7 n
def uErr (n : Int) : Int := if n < 0 ∨ 18014398509481982 < n then 9 else 0
theorem U_out (n : Int) : vary_U.f 20 n = some (uOut n, uErr n) := by
  unfold uOut uErr
  by_cases h : n < 0 ∨ 18014398509481982 < n
  · rw [if_pos h, if_pos h, U_bad 20 n (by decide) h]
  · rw [if_neg h, if_neg h, U_good 20 n (by decide) (by omega) (by omega)]
theorem U_calls (n : Int) (w : World) : Calls Try.prog 9 #[.int .i64 n] w fun e w' => ∃ v0_ : Value, e = .returned (.tuple #[v0_, .int .i64 (uErr n)]) ∧ Kd.R (Kd.int .u8) 5 w' w.heap.size (fun _ => True) v0_ (uOut n) ∧ Below w.heap.size w w' := vary_U.calls 20 n _ _ w (U_out n)
theorem apart (m n : Int) (hm0 : 0 ≤ m) (hm1 : m ≤ 18014398509481982) (hn0 : 0 ≤ n) (hn1 : n ≤ 18014398509481982) (hne : m ≠ n) (k : Nat) (hk : k = (enc 7 m).length ∨ k = (enc 7 n).length) :
    (enc 7 m).take k ≠ (enc 7 n).take k := by
  intro h
  have r1 := uRes_enc m [] hm0 hm1
  have r2 := uRes_enc n [] hn0 hn1
  rw [List.append_nil] at r1 r2
  rcases hk with rfl | rfl
  · rw [List.take_length] at h
    have e : enc 7 m ++ (enc 7 n).drop (enc 7 m).length = enc 7 n := by
      have := List.take_append_drop (enc 7 m).length (enc 7 n)
      rwa [← h] at this
    have r3 := uRes_enc m ((enc 7 n).drop (enc 7 m).length) hm0 hm1
    rw [e, r2] at r3
    exact hne (Prod.mk.inj r3).1.symm
  · rw [List.take_length] at h
    have e : enc 7 n ++ (enc 7 m).drop (enc 7 n).length = enc 7 m := by
      have := List.take_append_drop (enc 7 n).length (enc 7 m)
      rwa [h] at this
    have r3 := uRes_enc n ((enc 7 m).drop (enc 7 n).length) hn0 hn1
    rw [e, r1] at r3
    exact hne (Prod.mk.inj r3).1
/-- What the law comes to where it looks at the bytes. -/
structure Facts (m n : Int) (a b : List Int) : Prop where
  h1 : (decide (n < m) && decide (a.length < b.length)) = false
  h2 : (decide (m < n) && decide (b.length < a.length)) = false
  h3 : a.take (min a.length b.length) ≠ b.take (min a.length b.length)
  la : a.length ≤ 8
  lb : b.length ≤ 8
theorem facts (m n : Int) (hm : ¬ (m < 0 ∨ 18014398509481982 < m)) (hn : ¬ (n < 0 ∨ 18014398509481982 < n)) (hne : m ≠ n) : Facts m n (uOut m) (uOut n) := by
  unfold uOut
  rw [if_neg hm, if_neg hn]
  refine ⟨?_, ?_, ?_, (enc_len 7 m).2, (enc_len 7 n).2⟩
  · by_cases h : n < m
    · have := enc_mono 7 n m (by omega); simp; omega
    · simp [h]
  · by_cases h : m < n
    · have := enc_mono 7 m n (by omega); simp; omega
    · simp [h]
  · exact apart m n (by omega) (by omega) (by omega) (by omega) hne _ (by omega)
set_option maxHeartbeats 1600000 in
set_option maxRecDepth 100000 in
theorem walk (m n : Int) (w : World) : Calls Try.prog 3 #[.int .i64 m, .int .i64 n] w fun e w' => e = .returned (.bool true) ∧ Below w.heap.size w w' := by
  by_cases hm : m < 0 ∨ 18014398509481982 < m
  · have he : uErr m = 9 := if_pos hm
    have HE := Aside0.mk he
    clear hm he
    go_enter Try.func3, Try.ntmps3
    go_wp2_with fail
    refine (U_calls m w).mono ?_
    rintro e w1 ⟨v1, rfl, ho1, hb1⟩
    rw [HE.out]
    have HB1 := Aside0.mk hb1
    clear ho1 hb1
    go_wp2_with fail
    refine (U_calls n _).mono ?_
    rintro e w2 ⟨v2, rfl, ho2, hb2⟩
    have HB2 := Aside0.mk (below_then HB1.out HB1.out.size hb2)
    clear ho2 hb2
    go_wp2_with (go_at_call 10; (with_reducible refine (awake_calls _).mono ?_); rintro e w3 ⟨rfl, hb⟩; have HB3 := Aside0.mk (below_then HB2.out HB2.out.size hb); clear hb)
    go_ret
    exact ⟨rfl, HB3.out⟩
  · by_cases hn : n < 0 ∨ 18014398509481982 < n
    · have he : uErr m = 0 := if_neg hm
      have hf : uErr n = 9 := if_pos hn
      have HE := Aside0.mk he
      have HF := Aside0.mk hf
      clear hm hn he hf
      go_enter Try.func3, Try.ntmps3
      go_wp2_with fail
      refine (U_calls m w).mono ?_
      rintro e w1 ⟨v1, rfl, ho1, hb1⟩
      rw [HE.out]
      have HB1 := Aside0.mk hb1
      clear ho1 hb1
      go_wp2_with fail
      refine (U_calls n _).mono ?_
      rintro e w2 ⟨v2, rfl, ho2, hb2⟩
      rw [HF.out]
      have HB2 := Aside0.mk (below_then HB1.out HB1.out.size hb2)
      clear ho2 hb2
      go_wp2_with (go_at_call 10; (with_reducible refine (awake_calls _).mono ?_); rintro e w3 ⟨rfl, hb⟩; have HB3 := Aside0.mk (below_then HB2.out HB2.out.size hb); clear hb)
      go_ret
      exact ⟨rfl, HB3.out⟩
    · have he : uErr m = 0 := if_neg hm
      have hf : uErr n = 0 := if_neg hn
      have HE := Aside0.mk he
      have HF := Aside0.mk hf
      by_cases hmn : m = n
      · have hbmn : (m == n) = true := by simpa using hmn
        clear hm hn he hf hmn
        go_enter Try.func3, Try.ntmps3
        go_wp2_with fail
        refine (U_calls m w).mono ?_
        rintro e w1 ⟨v1, rfl, ho1, hb1⟩
        rw [HE.out]
        have HB1 := Aside0.mk hb1
        clear ho1 hb1
        go_wp2_with fail
        refine (U_calls n _).mono ?_
        rintro e w2 ⟨v2, rfl, ho2, hb2⟩
        rw [HF.out]
        have HB2 := Aside0.mk (below_then HB1.out HB1.out.size hb2)
        clear ho2 hb2
        go_wp2_with (go_at_call 10; (with_reducible refine (awake_calls _).mono ?_); rintro e w3 ⟨rfl, hb⟩; have HB3 := Aside0.mk (below_then HB2.out HB2.out.size hb); clear hb)
        go_ret
        exact ⟨rfl, HB3.out⟩
      · have hbmn : (m == n) = false := by simpa using hmn
        have FA := facts m n hm hn hmn
        obtain ⟨a, ha⟩ : ∃ a, a = uOut m := ⟨_, rfl⟩
        obtain ⟨b, hb⟩ : ∃ b, b = uOut n := ⟨_, rfl⟩
        rw [← ha, ← hb] at FA
        obtain ⟨f1, f2, f3, f4, f5⟩ := FA
        have HA := Aside0.mk ha
        have HBB := Aside0.mk hb
        clear ha hb hm hn he hf
        obtain ⟨i0, hi0, _, hsz, _⟩ := info_parts H.hinfo5
        by_cases hlt : b.length < a.length
        · have hnm : n < m := by
            by_cases h : m < n
            · simp [h, hlt] at f2
            · omega
          rw [Nat.min_eq_right (by omega)] at f3
          have F3 := Aside0.mk f3
          clear f1 f2 f3 hmn
          go_enter Try.func3, Try.ntmps3
          go_wp2_with fail
          refine (U_calls m w).mono ?_
          rintro e w1 ⟨v1, rfl, ho1, hb1⟩
          rw [HE.out]
          rw [← HA.out] at ho1
          have HO1 := Aside0.mk ho1
          have HB1 := Aside0.mk hb1
          clear ho1 hb1
          go_wp2_with fail
          refine (U_calls n _).mono ?_
          rintro e w2 ⟨v2, rfl, ho2, hb2⟩
          rw [HF.out]
          rw [← HBB.out] at ho2
          obtain ⟨A1, c1, rfl, hl1, hC1⟩ := Kd.R_reads (Kd.R_below HO1.out hb2)
          obtain ⟨A2, c2, rfl, hl2, hC2⟩ := Kd.R_reads ho2
          have HB2 := Aside0.mk (below_then HB1.out HB1.out.size hb2)
          have HC1 := Aside0.mk hC1
          have HC2 := Aside0.mk hC2
          have HL1 := Aside0.mk hl1
          have HL2 := Aside0.mk hl2
          have hct1 := cut_to (P := Try.prog) 22 5 .i64 Try.underlying22 hi0 A1 a.length c1 ((b.length : Nat) : Int) (by omega) (by omega) hl1
          have hct2 := cut_to (P := Try.prog) 22 5 .i64 Try.underlying22 hi0 A2 b.length c2 ((b.length : Nat) : Int) (by omega) (by omega) hl2
          rw [Int.toNat_natCast] at hct1 hct2
          have HT1 := Aside0.mk (Kd.C_take (m := b.length) hC1 (by omega))
          have HT2 := Aside0.mk (Kd.C_take (m := b.length) hC2 (by omega))
          have e1 : (a.take (b.length)).length = b.length := by rw [List.length_take]; omega
          have e2 : (b.take (b.length)).length = b.length := by rw [List.length_take]; omega
          have EQ : ∀ W, Kd.C (Kd.int .u8) W A1 (a.take (b.length)).length (a.take (b.length)) → Kd.C (Kd.int .u8) W A2 (b.take (b.length)).length (b.take (b.length)) → Calls Try.prog 11 #[.slice A1 (b.length) c1, .slice A2 (b.length) c2] W fun e w' => e = .returned (.bool false) ∧ Drawn0 W w' := by
            intro W h1 h2
            have := driftnetref00_EqBytes.calls 20 A1 c1 (a.take (b.length)) A2 c2 (b.take (b.length)) false W h1 (by rw [e1]; omega) h2 (by rw [e2]; omega) (by rw [eqB _ _ 20 (by omega) (by omega), decide_eq_false F3.out])
            rwa [e1, e2] at this
          have HEQ := Aside0.mk EQ
          clear ho2 hb2 hC1 hC2 hl1 hl2 e1 e2 EQ hi0 hsz
          go_wp2_with fail
          go_region_with (first | (go_at_call 11; (with_reducible refine (HEQ.out _ (by first | exact Kd.C_drew HT1.out | exact Kd.C_drewN HT1.out _) (by first | exact Kd.C_drew HT2.out | exact Kd.C_drewN HT2.out _)).mono ?_); rintro e w' ⟨rfl, ⟨nd, rfl⟩⟩) | (go_at_call 10; (with_reducible refine (awake_calls _).mono ?_); rintro e w3 ⟨rfl, hb⟩; have HB3 := Aside0.mk (below_step (by repeat (first | exact HB2.out | apply pw_below_drewN | apply below_drew1)) hb); clear hb))
          all_goals go_wp2
          all_goals go_ret
          all_goals exact ⟨rfl, HB3.out⟩
        · rw [Nat.min_eq_left (by omega)] at f3
          have F3 := Aside0.mk f3
          by_cases hnm : n < m
          · have hba : b.length ≤ a.length := by
              simp [hnm] at f1
              exact f1
            clear f1 f2 f3 hmn
            go_enter Try.func3, Try.ntmps3
            go_wp2_with fail
            refine (U_calls m w).mono ?_
            rintro e w1 ⟨v1, rfl, ho1, hb1⟩
            rw [HE.out]
            rw [← HA.out] at ho1
            have HO1 := Aside0.mk ho1
            have HB1 := Aside0.mk hb1
            clear ho1 hb1
            go_wp2_with fail
            refine (U_calls n _).mono ?_
            rintro e w2 ⟨v2, rfl, ho2, hb2⟩
            rw [HF.out]
            rw [← HBB.out] at ho2
            obtain ⟨A1, c1, rfl, hl1, hC1⟩ := Kd.R_reads (Kd.R_below HO1.out hb2)
            obtain ⟨A2, c2, rfl, hl2, hC2⟩ := Kd.R_reads ho2
            have HB2 := Aside0.mk (below_then HB1.out HB1.out.size hb2)
            have HC1 := Aside0.mk hC1
            have HC2 := Aside0.mk hC2
            have HL1 := Aside0.mk hl1
            have HL2 := Aside0.mk hl2
            have hct1 := cut_to (P := Try.prog) 22 5 .i64 Try.underlying22 hi0 A1 a.length c1 ((a.length : Nat) : Int) (by omega) (by omega) hl1
            have hct2 := cut_to (P := Try.prog) 22 5 .i64 Try.underlying22 hi0 A2 b.length c2 ((a.length : Nat) : Int) (by omega) (by omega) hl2
            rw [Int.toNat_natCast] at hct1 hct2
            have HT1 := Aside0.mk (Kd.C_take (m := a.length) hC1 (by omega))
            have HT2 := Aside0.mk (Kd.C_take (m := a.length) hC2 (by omega))
            have e1 : (a.take (a.length)).length = a.length := by rw [List.length_take]; omega
            have e2 : (b.take (a.length)).length = a.length := by rw [List.length_take]; omega
            have EQ : ∀ W, Kd.C (Kd.int .u8) W A1 (a.take (a.length)).length (a.take (a.length)) → Kd.C (Kd.int .u8) W A2 (b.take (a.length)).length (b.take (a.length)) → Calls Try.prog 11 #[.slice A1 (a.length) c1, .slice A2 (a.length) c2] W fun e w' => e = .returned (.bool false) ∧ Drawn0 W w' := by
              intro W h1 h2
              have := driftnetref00_EqBytes.calls 20 A1 c1 (a.take (a.length)) A2 c2 (b.take (a.length)) false W h1 (by rw [e1]; omega) h2 (by rw [e2]; omega) (by rw [eqB _ _ 20 (by omega) (by omega), decide_eq_false F3.out])
              rwa [e1, e2] at this
            have HEQ := Aside0.mk EQ
            clear ho2 hb2 hC1 hC2 hl1 hl2 e1 e2 EQ hi0 hsz
            go_wp2_with fail
            go_region_with (first | (go_at_call 11; (with_reducible refine (HEQ.out _ (by first | exact Kd.C_drew HT1.out | exact Kd.C_drewN HT1.out _) (by first | exact Kd.C_drew HT2.out | exact Kd.C_drewN HT2.out _)).mono ?_); rintro e w' ⟨rfl, ⟨nd, rfl⟩⟩) | (go_at_call 10; (with_reducible refine (awake_calls _).mono ?_); rintro e w3 ⟨rfl, hb⟩; have HB3 := Aside0.mk (below_step (by repeat (first | exact HB2.out | apply pw_below_drewN | apply below_drew1)) hb); clear hb))
            all_goals go_wp2
            all_goals go_ret
            all_goals exact ⟨rfl, HB3.out⟩
          · have hmn' : m < n := by omega
            clear f1 f2 f3 hmn
            go_enter Try.func3, Try.ntmps3
            go_wp2_with fail
            refine (U_calls m w).mono ?_
            rintro e w1 ⟨v1, rfl, ho1, hb1⟩
            rw [HE.out]
            rw [← HA.out] at ho1
            have HO1 := Aside0.mk ho1
            have HB1 := Aside0.mk hb1
            clear ho1 hb1
            go_wp2_with fail
            refine (U_calls n _).mono ?_
            rintro e w2 ⟨v2, rfl, ho2, hb2⟩
            rw [HF.out]
            rw [← HBB.out] at ho2
            obtain ⟨A1, c1, rfl, hl1, hC1⟩ := Kd.R_reads (Kd.R_below HO1.out hb2)
            obtain ⟨A2, c2, rfl, hl2, hC2⟩ := Kd.R_reads ho2
            have HB2 := Aside0.mk (below_then HB1.out HB1.out.size hb2)
            have HC1 := Aside0.mk hC1
            have HC2 := Aside0.mk hC2
            have HL1 := Aside0.mk hl1
            have HL2 := Aside0.mk hl2
            have hct1 := cut_to (P := Try.prog) 22 5 .i64 Try.underlying22 hi0 A1 a.length c1 ((a.length : Nat) : Int) (by omega) (by omega) hl1
            have hct2 := cut_to (P := Try.prog) 22 5 .i64 Try.underlying22 hi0 A2 b.length c2 ((a.length : Nat) : Int) (by omega) (by omega) hl2
            rw [Int.toNat_natCast] at hct1 hct2
            have HT1 := Aside0.mk (Kd.C_take (m := a.length) hC1 (by omega))
            have HT2 := Aside0.mk (Kd.C_take (m := a.length) hC2 (by omega))
            have e1 : (a.take (a.length)).length = a.length := by rw [List.length_take]; omega
            have e2 : (b.take (a.length)).length = a.length := by rw [List.length_take]; omega
            have EQ : ∀ W, Kd.C (Kd.int .u8) W A1 (a.take (a.length)).length (a.take (a.length)) → Kd.C (Kd.int .u8) W A2 (b.take (a.length)).length (b.take (a.length)) → Calls Try.prog 11 #[.slice A1 (a.length) c1, .slice A2 (a.length) c2] W fun e w' => e = .returned (.bool false) ∧ Drawn0 W w' := by
              intro W h1 h2
              have := driftnetref00_EqBytes.calls 20 A1 c1 (a.take (a.length)) A2 c2 (b.take (a.length)) false W h1 (by rw [e1]; omega) h2 (by rw [e2]; omega) (by rw [eqB _ _ 20 (by omega) (by omega), decide_eq_false F3.out])
              rwa [e1, e2] at this
            have HEQ := Aside0.mk EQ
            clear ho2 hb2 hC1 hC2 hl1 hl2 e1 e2 EQ hi0 hsz
            go_wp2_with fail
            go_region_with (first | (go_at_call 11; (with_reducible refine (HEQ.out _ (by first | exact Kd.C_drew HT1.out | exact Kd.C_drewN HT1.out _) (by first | exact Kd.C_drew HT2.out | exact Kd.C_drewN HT2.out _)).mono ?_); rintro e w' ⟨rfl, ⟨nd, rfl⟩⟩) | (go_at_call 10; (with_reducible refine (awake_calls _).mono ?_); rintro e w3 ⟨rfl, hb⟩; have HB3 := Aside0.mk (below_step (by repeat (first | exact HB2.out | apply pw_below_drewN | apply below_drew1)) hb); clear hb))
            all_goals go_wp2
            all_goals go_ret
            all_goals exact ⟨rfl, HB3.out⟩
#print axioms walk
end Go.Proofs.Ytmjedmiaebbjaaa.VS
