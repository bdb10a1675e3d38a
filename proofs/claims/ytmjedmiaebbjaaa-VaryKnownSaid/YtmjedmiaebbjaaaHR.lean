/- The document's reader (driftnetref06), call by call: what each answers and how the reader stands behind it. Conditions: the bytes are bytes (0 to 255). -/
import Derived.Test.YtmjedmiaebbjaaaProg
import Derived.Below
import Derived.Deep.Draws
import Derived.Deep.AppendLies
import Derived.Maps.AppendAt
import Derived.OwnWalk
import Derived.Laws.BytesArg
import Derived.Laws.MakeOwn
import Derived.Laws.OwnMore
import Derived.Deep.OwnRows
import Derived.Tactics
import Derived.Lib.ConvBytes
import Derived.Laws.Slices
import Derived.WalkKit
import Derived.KernelRfl
import Derived.RowKit3
import Derived.Deep.LoopGhost
import Derived.Deep.QuietTactic
import Derived.BigQuiet
import Derived.WideLaws
import Derived.Deep.DeepCutAuto
import Derived.Deep.CutBlock
import Derived.Deep.RegionHeld3
import Derived.Laws.Rows
import Derived.Lib.AppendStr
import Derived.ArgAppend
import Derived.Laws.IdiomCopy
import Derived.OrdersHeld
import Derived.Laws.BitsLemmas
import Derived.RowKit
import Derived.Test.YtmjedmiaebbjaaaWWords
import Derived.Test.YtmjedmiaebbjaaaWLast
import Derived.Test.YtmjedmiaebbjaaaWTab
import Derived.Test.YtmjedmiaebbjaaaWFour
import Derived.Test.YtmjedmiaebbjaaaWQPut
import Derived.Test.YtmjedmiaebbjaaaWApart
import Derived.Test.YtmjedmiaebbjaaaWArr
import Derived.Test.YtmjedmiaebbjaaaWZeros
import Derived.Test.YtmjedmiaebbjaaaWFoot
import Derived.Test.YtmjedmiaebbjaaaWKept
import Derived.Test.YtmjedmiaebbjaaaWShare
import Derived.Test.YtmjedmiaebbjaaaWN
import Derived.Test.YtmjedmiaebbjaaaWFootNe
import Derived.Test.YtmjedmiaebbjaaaWAt
import Derived.Test.YtmjedmiaebbjaaaWEqStruct
import Derived.Test.YtmjedmiaebbjaaaWRepsOne
import Derived.Test.YtmjedmiaebbjaaaWInv
import Derived.Test.YtmjedmiaebbjaaaWInvWords
import Derived.Test.YtmjedmiaebbjaaaWGuard
import Derived.Test.YtmjedmiaebbjaaaWNEv
import Derived.Test.YtmjedmiaebbjaaaWMore
import Derived.WalkSpells
import Derived.Test.YtmjedmiaebbjaaaH
namespace Go.Proofs.Ytmjedmiaebbjaaa.H
open Go.RowKit Go.Proofs.YtmjedmiaebbjaaaW.PrintWords Go.Proofs.YtmjedmiaebbjaaaW.PrintLast Go.Proofs.YtmjedmiaebbjaaaW.PrintMore
set_option linter.unusedVariables false
set_option linter.unusedSimpArgs false
theorem val_drop (l : List Int) (k i : Nat) (hi : i ≤ k) (hk : k < l.length) : VA.val ((l.take (k + 1)).drop i) = l.getD i 0 % 128 + 128 * VA.val ((l.take (k + 1)).drop (i + 1)) := by
  have h1 : i < (l.take (k + 1)).length := by rw [List.length_take]; omega
  rw [List.drop_eq_getElem_cons h1]
  simp only [VA.val]
  congr 2
  rw [List.getElem_take, List.getD_eq_getElem?_getD, List.getElem?_eq_getElem (by omega)]
  rfl
theorem val_drop_bound (l : List Int) (k i : Nat) (hk : k < 8) : 0 ≤ VA.val ((l.take (k + 1)).drop i) ∧ VA.val ((l.take (k + 1)).drop i) < 72057594037927936 := by
  obtain ⟨h1, h2⟩ := VA.val_bound ((l.take (k + 1)).drop i)
  refine ⟨h1, Int.lt_of_lt_of_le h2 ?_⟩
  have h3 : ((l.take (k + 1)).drop i).length ≤ 8 := by rw [List.length_drop, List.length_take]; omega
  have h4 : (128 : Nat) ^ ((l.take (k + 1)).drop i).length ≤ 128 ^ 8 := Nat.pow_le_pow_right (by decide) h3
  have h5 : (128 : Int) ^ ((l.take (k + 1)).drop i).length ≤ 128 ^ 8 := by exact_mod_cast h4
  simpa using h5
def RUPost (w : World) (g : Nat) (S : Nat → Prop) (l : List Int) (x : Ending) (w' : World) : Prop := x = .returned (.int .i64 (VA.uRes l).1) ∧ Rr w' g S (VA.uRes l).2.1 (VA.uRes l).2.2 ∧ Only w w' g
theorem rupost_fail {w : World} {g : Nat} {S : Nat → Prop} {l : List Int} {e : Int} (hI : Rr w g S l 0) (hS : ∀ k, S k → k ≠ g) (h : VA.uRes l = (0, l, e)) : RUPost w g S l (.returned (.int .i64 0)) (w.setCell ⟨g, 1, none⟩ (.int .i64 e)) := by
  unfold RUPost
  rw [h]
  exact ⟨rfl, hI.set_err hS e, (Only.refl _ _).setCell _ _⟩
theorem rupost_good {w : World} {g : Nat} {S : Nat → Prop} {l l' : List Int} {m v : Int} {v' : Value} (hI : Rr w g S l 0) (hS : ∀ k, S k → k ≠ g) (h : VA.uRes l = (v, l', 0)) (hv : RowIn w S v' l') (hm : m = v) : RUPost w g S l (.returned (.int .i64 m)) (w.setCell ⟨g, 0, none⟩ v') := by
  unfold RUPost
  rw [h]
  exact ⟨by rw [hm], hI.set_left hS hv, (Only.refl _ _).setCell _ _⟩
set_option maxHeartbeats 1600000 in
set_option maxRecDepth 100000 in
theorem ref_U_err (w : World) (g : Nat) (S : Nat → Prop) (l : List Int) (e : Int) (hI : Rr w g S l e) (he : e ≠ 0) :
    Calls Try.prog 26 #[.pointer (some ⟨g, 0, none⟩)] w fun x w' => x = .returned (.int .i64 0) ∧ w' = w := by
  obtain ⟨v, hb, hr⟩ := hI
  have c2 : w.cell? ⟨g, 1, none⟩ = some (.int .i64 e) := by rw [blk_cell hb]; rfl
  have hb0 : (e == 0) = false := by simpa using he
  have hb1 : (e != 0) = true := by simpa using he
  clear hr hb he
  go_enter Try.func26, Try.ntmps26
  go_wp2
  go_ret
  exact ⟨rfl, rfl⟩
set_option maxHeartbeats 3200000 in
set_option maxRecDepth 100000 in
theorem ref_U.calls (w : World) (g : Nat) (S : Nat → Prop) (l : List Int) (hI : Rr w g S l 0) (hS : ∀ k, S k → k ≠ g) (hwf : ∀ x ∈ l, 0 ≤ x ∧ x < 256) :
    Calls Try.prog 26 #[.pointer (some ⟨g, 0, none⟩)] w (RUPost w g S l) := by
  have HI := Aside0.mk hI
  have HWF := Aside0.mk hwf
  have HS := Aside0.mk hS
  obtain ⟨v, hb, A, c, rfl, hl, hC, hA⟩ := hI
  have hmax : l.length ≤ 9223372036854775807 := hC.2.1
  have c0 : w.cell? ⟨g, 0, none⟩ = some (.slice A l.length c) := by rw [blk_cell hb]; rfl
  have f0 : w.frozen? ⟨g, 0, none⟩ = false := blk_frozen hb 0
  have c2 : w.cell? ⟨g, 1, none⟩ = some (.int .i64 0) := by rw [blk_cell hb]; rfl
  have f2 : w.frozen? ⟨g, 1, none⟩ = false := blk_frozen hb 1
  have HC := Aside0.mk hC
  have HL := Aside0.mk hl
  have HA := Aside0.mk hA
  have hle := VA.lead_le l
  clear hC hb hwf hA hS
  go_enter Try.func26, Try.ntmps26
  go_wp2_with fail
  go_loop [3, 12, 13, 14, 15, 16, 17, 18, 19, 20, 21, 22, 23, 24, 25, 26, 27, 28, 29, 30, 31, 32, 33] (fun i _ _ _ _ _ _ _ _ _ _ _ _ _ _ _ _ _ _ _ _ _ _ => ∃ k : Nat, k ≤ l.length ∧ k ≤ 8 ∧ Aside0 (k ≤ VA.lead l) ∧ i = .int .i64 k) (fun i _ _ _ _ _ _ _ _ _ _ _ _ _ _ _ _ _ _ _ _ _ _ => l.length - (intOf i).toNat)
  case atStart => exact ⟨0, Nat.zero_le _, by decide, ⟨Nat.zero_le _⟩, rfl⟩
  case round =>
    obtain ⟨k, hk, hk8, hld, rfl⟩ := hrel
    by_cases hlt : k < l.length
    · have hki : (k : Int) < (l.length : Int) := by omega
      have hk0 : (0 : Int) ≤ (k : Int) := by omega
      obtain ⟨ad, rfl, hx⟩ := Kd.at_int HC.out (k : Int) hk0 hki
      rw [show ((k : Int)).toNat = k from rfl] at hx
      obtain ⟨c5, hc5⟩ : ∃ c5, c5 = rd l (k : Int) := ⟨_, rfl⟩
      rw [← hc5] at hx
      have hcd : c5 = l.getD k 0 := hc5
      have hcm : c5 ∈ l := by rw [hcd, List.getD_eq_getElem?_getD, List.getElem?_eq_getElem hlt]; exact List.getElem_mem hlt
      obtain ⟨hc0, hc1⟩ := HWF.out c5 hcm
      have HST := Aside0.mk (VA.lead_step l k hld.out hlt)
      have HCD := Aside0.mk hcd
      clear hc5 hcd hcm
      by_cases h8 : k = 8
      · have HU := Aside0.mk (VA.uRes_big l (by have := hld.out; omega))
        have hk8b : ((k : Int) == 8) = true := by simp; omega
        have h89 : ¬ (k : Int) < 8 := by omega
        clear h8
        go_wp2_with fail
        go_ret
        exact rupost_fail HI.out HS.out HU.out
      · have hk7 : (k : Int) < 8 := by omega
        have hk7b : ((k : Int) == 8) = false := by simp; omega
        have hk7n : k < 8 := by omega
        clear h8
        by_cases hge : 128 ≤ c5
        · have hld' := HST.out.1 (by rw [← HCD.out]; exact hge)
          go_wp2_with fail
          go_round
          case rel => exact ⟨k + 1, by omega, by omega, ⟨hld'⟩, by go_num⟩
          case measure => simp [intOf]; omega
        · have hlk := Aside0.mk (HST.out.2 (by rw [← HCD.out]; omega))
          have hge' : c5 < 128 := by omega
          have hkl : ((k : Int) == (l.length : Int)) = false := by simp; omega
          clear hge
          go_wp2_with fail
          go_loop [4, 5] (fun n i => ∃ (i' : Nat) (m : Int), i' ≤ k + 1 ∧ i = .int .i64 ((i' : Int) - 1) ∧ n = .int .i64 m ∧ Aside0 (m = VA.val ((l.take (k + 1)).drop i'))) (fun _ i => (intOf i + 1).toNat)
          case atStart => exact ⟨k + 1, 0, Nat.le_refl _, by go_num, rfl, ⟨by rw [List.drop_eq_nil_of_le (by rw [List.length_take]; omega)]; rfl⟩⟩
          case round =>
            obtain ⟨i', m, hi', rfl, rfl, hm⟩ := hrel
            by_cases h0 : i' = 0
            · subst h0
              have hm' : Aside0 (m = VA.val (l.take (k + 1))) := ⟨hm.out⟩
              have hb5 : (c5 == l.getD k 0) = true := by rw [HCD.out]; simp
              clear hm hb5
              rw [show ((0 : Nat) : Int) - 1 = -1 by decide]
              by_cases hbad : (0 < k ∧ c5 = 0) ∨ 18014398509481982 < m
              · have HU := Aside0.mk (VA.uRes_bad l k hk7n hlk.out hlt (by rw [← HCD.out, ← hm'.out]; exact hbad))
                by_cases hb1 : 0 < k
                · by_cases hb2 : c5 = 0
                  · have hb2b : (c5 == 0) = true := by simpa using hb2
                    clear hbad hb2
                    go_wp2_with fail
                    go_ret
                    exact rupost_fail HI.out HS.out HU.out
                  · have hb3 : 18014398509481982 < m := by omega
                    have hb2b : (c5 == 0) = false := by simpa using hb2
                    clear hbad hb2
                    go_wp2_with fail
                    go_ret
                    exact rupost_fail HI.out HS.out HU.out
                · have hb3 : 18014398509481982 < m := by omega
                  clear hbad
                  go_wp2_with fail
                  go_ret
                  exact rupost_fail HI.out HS.out HU.out
              · have HU := Aside0.mk (VA.uRes_good l k hk7n hlk.out hlt (by rw [← HCD.out, ← hm'.out]; exact hbad))
                have hle2 : m ≤ 18014398509481982 := by omega
                obtain ⟨i0, hi0, _, hsz, _⟩ := info_parts hinfo5
                have hcut := cut_from (P := Try.prog) 22 5 .i64 Try.underlying22 hi0 1 hsz (some ad) l.length c ((k : Int) + 1) (by omega) (by omega)
                rw [show ((k : Int) + 1).toNat = k + 1 from by omega] at hcut
                have hr := RowIn.cut (m := k + 1) HL.out HC.out HA.out (by omega)
                obtain ⟨v', hv'⟩ : ∃ v', v' = Value.slice (if c = k + 1 then some ad else (some ad : Option Addr).map (·.add ((k + 1) * 1))) (l.length - (k + 1)) (c - (k + 1)) := ⟨_, rfl⟩
                rw [← hv'] at hcut hr
                obtain ⟨A1, c1', e1, _⟩ := id hr
                obtain ⟨n1, hn1⟩ : ∃ n1, n1 = (l.drop (k + 1)).length := ⟨_, rfl⟩
                rw [← hn1] at e1
                rw [e1] at hcut
                have HV := Aside0.mk e1
                have HR := Aside0.mk hr
                clear hr hi0 hsz hv' e1 hn1
                by_cases hb1 : 0 < k
                · have hb2 : ¬ c5 = 0 := by omega
                  have hb2b : (c5 == 0) = false := by simpa using hb2
                  clear hbad hb2
                  go_wp2_with fail
                  go_ret
                  rw [← HV.out]
                  exact rupost_good HI.out HS.out HU.out HR.out hm'.out
                · clear hbad
                  go_wp2_with fail
                  go_ret
                  rw [← HV.out]
                  exact rupost_good HI.out HS.out HU.out HR.out hm'.out
            · obtain ⟨j, rfl⟩ : ∃ j, i' = j + 1 := ⟨i' - 1, by omega⟩
              have hj : j ≤ k := by omega
              have hjl : (j : Int) < (l.length : Int) := by omega
              have hj0 : (0 : Int) ≤ (j : Int) := by omega
              obtain ⟨ad', ead, hxj⟩ := Kd.at_int HC.out (j : Int) hj0 hjl
              obtain rfl : ad = ad' := Option.some.inj ead
              rw [show ((j : Int)).toNat = j from rfl] at hxj
              obtain ⟨cj, hcj⟩ : ∃ cj, cj = rd l (j : Int) := ⟨_, rfl⟩
              rw [← hcj] at hxj
              have hcd : cj = l.getD j 0 := hcj
              have hcm : cj ∈ l := by rw [hcd, List.getD_eq_getElem?_getD, List.getElem?_eq_getElem (by omega)]; exact List.getElem_mem (by omega)
              obtain ⟨hcj0, hcj1⟩ := HWF.out cj hcm
              have hv := val_drop l k j hj hlt
              obtain ⟨hb0, hb1⟩ := val_drop_bound l k (j + 1) hk7n
              rw [← hm.out] at hv hb0 hb1
              rw [← hcd] at hv
              have HV := Aside0.mk hv
              clear hcj hcd hcm hv h0
              rw [show ((j + 1 : Nat) : Int) - 1 = (j : Int) by omega]
              go_wp2_with fail
              go_round
              case rel => exact ⟨j, cj % 128 + 128 * m, by omega, by go_num, by go_num, ⟨by rw [HV.out]⟩⟩
              case measure => first | (simp [intOf]; done) | (simp [intOf]; omega)
    · have hkl : k = l.length := by omega
      have hklb : ((k : Int) == (l.length : Int)) = true := by simp; omega
      by_cases h8 : k = 8
      · have HU := Aside0.mk (VA.uRes_big l (by have := hld.out; omega))
        have hk8b : ((k : Int) == 8) = true := by simp; omega
        clear h8 hkl hle
        go_wp2_with fail
        go_ret
        exact rupost_fail HI.out HS.out HU.out
      · have HU := Aside0.mk (VA.uRes_short l (by omega) (by have := hld.out; omega))
        have hk8b : ((k : Int) == 8) = false := by simp; omega
        clear h8 hkl hle
        go_wp2_with fail
        go_ret
        exact rupost_fail HI.out HS.out HU.out
set_option maxHeartbeats 800000 in
set_option maxRecDepth 100000 in
theorem ref_New.calls (A0 : Option Addr) (c0 : Nat) (l0 : List Int) (w : World) (hr0 : Kd.C (Kd.int .u8) w A0 l0.length l0) (hc0 : l0.length ≤ c0) (h : l0.length < 140737488355328) :
    Calls Try.prog 23 #[.slice A0 l0.length c0] w fun e w' => ∃ (g : Nat), e = .returned (.pointer (some ⟨g, 0, none⟩)) ∧ w.heap.size ≤ g ∧ Rr w' g (fun k => w.heap.size ≤ k ∧ k < g) l0 0 ∧ Below w.heap.size w w' := by
  have hu46 := Try.underlying46
  have HR0 := Aside0.mk hr0
  have HC0 := Aside0.mk hc0
  have HL := Aside0.mk h
  have HB := Aside0.mk (Below.refl w.heap.size w)
  clear hr0 hc0 h
  go_enter Try.func23, Try.ntmps23
  go_wp2_with (first
    | ((with_reducible refine gate_builtin (b := .append) (xs := #[.tmp 4, .tmp 5]) rfl ?_); at_builtin; refine Kd.R_append_rows (Kd.int .u8) (w0 := w) w.heap.size rfl (.tmp 4) (.tmp 5) 22 5 (.int .u8 0) 1 rfl Try.underlying22 hinfo5 rfl (by decide) (by omega) (.slice none 0 0) ([] : List Int) l0 _ _ _ (fun _ => True) (fun _ => False) rfl rfl ?aO ?aR (fun _ _ h => h) (fun _ h => h.elim) ?aF ?aB ?aS ?aL ?_; (case aR => exact HR0.out); (case aB => exact HB.out); (case aF => exact (fun _ _ => trivial)); (case aO => exact ((Kd.R_nil _ _ _ _ (fun _ => True)))); (case aS => exact (below_size HB.out)); (case aL => have := HL.out; simp; omega); intro v250 w3 ho hb hg hat; rw [List.nil_append] at ho; have HI := Aside0.mk (RowIn.of_R ho); obtain ⟨A, c, rfl, hl, hC⟩ := Kd.R_reads ho; have HB' := Aside0.mk hb; clear hb hl hC ho hat hg HB)
    | fail)
  go_ret
  exact ⟨_, rfl, HB'.out.size, ⟨_, by simpa using heap_alloc_new _ _, HI.out.below (below_alloc (Below.refl _ _) _)⟩, below_alloc HB'.out _⟩
theorem ref_Err {w : World} {g : Nat} {S : Nat → Prop} {l : List Int} {e : Int} (h : Rr w g S l e) : w.cell? ⟨g, 1, none⟩ = some (.int .i64 e) := by
  obtain ⟨v, hb, _⟩ := h
  rw [blk_cell hb]; rfl
set_option maxHeartbeats 800000 in
theorem ref_Left.calls (w : World) (g : Nat) (S : Nat → Prop) (l : List Int) (e : Int) (hI : Rr w g S l e) :
    Calls Try.prog 33 #[.pointer (some ⟨g, 0, none⟩)] w fun x w' => x = .returned (.int .i64 (leftOf l e)) ∧ w' = w := by
  have HI := Aside0.mk hI
  obtain ⟨v, hb, A, c, rfl, hl, hC, hA⟩ := hI
  have c0 : w.cell? ⟨g, 0, none⟩ = some (.slice A l.length c) := by rw [blk_cell hb]; rfl
  have c1 : w.cell? ⟨g, 1, none⟩ = some (.int .i64 e) := by rw [blk_cell hb]; rfl
  clear hC hb hA
  by_cases he : e = 0
  · subst he
    go_enter Try.func33, Try.ntmps33
    go_wp2
    go_ret
    exact ⟨rfl, rfl⟩
  · have hb0 : (e == 0) = false := by simpa using he
    have hb1 : (e != 0) = true := by simpa using he
    have HE := Aside0.mk he
    clear he
    go_enter Try.func33, Try.ntmps33
    go_wp2
    go_ret
    exact ⟨by unfold leftOf; rw [if_neg HE.out]; rfl, rfl⟩
set_option maxHeartbeats 1600000 in
set_option maxRecDepth 100000 in
theorem ref_S.calls (w : World) (g : Nat) (S : Nat → Prop) (l : List Int) (hI : Rr w g S l 0) (hS : ∀ k, S k → k ≠ g) (hwf : ∀ x ∈ l, 0 ≤ x ∧ x < 256) :
    Calls Try.prog 28 #[.pointer (some ⟨g, 0, none⟩)] w fun x w' => x = .returned (.int .i64 (VA.sOf (VA.uRes l).1)) ∧ Rr w' g S (VA.uRes l).2.1 (VA.uRes l).2.2 ∧ Only w w' g := by
  have HI := Aside0.mk hI
  have HS := Aside0.mk hS
  have HWF := Aside0.mk hwf
  obtain ⟨u0, u1⟩ := VA.uRes_bound l
  obtain ⟨n, hn⟩ : ∃ n, n = (VA.uRes l).1 := ⟨_, rfl⟩
  rw [← hn] at u0 u1
  have HN := Aside0.mk hn
  clear hI hS hwf hn
  by_cases ho : n % 2 = 1
  · have hob : (n % 2 == 1) = true := by simpa using ho
    have HO := Aside0.mk ho
    clear ho
    go_enter Try.func28, Try.ntmps28
    go_wp2_with (go_at_call 26; (with_reducible refine (ref_U.calls _ g S l HI.out HS.out HWF.out).mono ?_); rintro x w' ⟨rfl, h1, h2⟩; rw [← HN.out]; have H1 := Aside0.mk h1; have H2 := Aside0.mk h2; clear h1 h2)
    go_ret
    exact ⟨by rw [← HN.out]; refine ret_i64 ?_; unfold VA.sOf; rw [if_pos HO.out, Int.tdiv_eq_ediv_of_nonneg (by omega)]; unfold wrap64; omega, H1.out, H2.out⟩
  · have hob : (n % 2 == 1) = false := by simpa using ho
    have HO := Aside0.mk ho
    clear ho
    go_enter Try.func28, Try.ntmps28
    go_wp2_with (go_at_call 26; (with_reducible refine (ref_U.calls _ g S l HI.out HS.out HWF.out).mono ?_); rintro x w' ⟨rfl, h1, h2⟩; rw [← HN.out]; have H1 := Aside0.mk h1; have H2 := Aside0.mk h2; clear h1 h2)
    go_ret
    exact ⟨by rw [← HN.out]; refine ret_i64 ?_; unfold VA.sOf; rw [if_neg HO.out], H1.out, H2.out⟩
set_option maxHeartbeats 1600000 in
set_option maxRecDepth 100000 in
theorem ref_S_err (w : World) (g : Nat) (S : Nat → Prop) (l : List Int) (e : Int) (hI : Rr w g S l e) (he : e ≠ 0) :
    Calls Try.prog 28 #[.pointer (some ⟨g, 0, none⟩)] w fun x w' => x = .returned (.int .i64 0) ∧ w' = w := by
  have HI := Aside0.mk hI
  have HE := Aside0.mk he
  clear hI he
  go_enter Try.func28, Try.ntmps28
  go_wp2_with (go_at_call 26; (with_reducible refine (ref_U_err _ g S l e HI.out HE.out).mono ?_); rintro x w' ⟨rfl, rfl⟩)
  go_ret
  exact ⟨rfl, rfl⟩
def RTPost (w : World) (g : Nat) (S : Nat → Prop) (most : Int) (l : List Int) (x : Ending) (w' : World) : Prop := x = .returned (.string (strOfNums (VA.tRes most l).1)) ∧ Rr w' g S (VA.tRes most l).2.1 (VA.tRes most l).2.2 ∧ Only w w' g
theorem rtpost_fail {w w1 : World} {g : Nat} {S : Nat → Prop} {l l' : List Int} {e most : Int} (hI : Rr w1 g S l' 0) (hS : ∀ k, S k → k ≠ g) (hK : Only w w1 g) (h : VA.tRes most l = ([], l', e)) : RTPost w g S most l (.returned (.string ⟨#[]⟩)) (w1.setCell ⟨g, 1, none⟩ (.int .i64 e)) := by
  unfold RTPost
  rw [h]
  exact ⟨rfl, hI.set_err hS e, hK.setCell _ _⟩
theorem rtpost_err {w w1 : World} {g : Nat} {S : Nat → Prop} {l l' : List Int} {e most : Int} (hI : Rr w1 g S l' e) (hK : Only w w1 g) (h : VA.tRes most l = ([], l', e)) : RTPost w g S most l (.returned (.string ⟨#[]⟩)) w1 := by
  unfold RTPost
  rw [h]
  exact ⟨rfl, hI, hK⟩
theorem rtpost_good {w w1 : World} {g : Nat} {S : Nat → Prop} {l l1 l2 l3 : List Int} {most : Int} {v' : Value} (hI : Rr w1 g S l1 0) (hS : ∀ k, S k → k ≠ g) (hK : Only w w1 g) (h : VA.tRes most l = (l2, l3, 0)) (hv : RowIn w1 S v' l3) : RTPost w g S most l (.returned (.string (strOfNums l2))) (w1.setCell ⟨g, 0, none⟩ v') := by
  unfold RTPost
  rw [h]
  exact ⟨rfl, hI.set_left hS hv, hK.setCell _ _⟩
set_option maxHeartbeats 1600000 in
set_option maxRecDepth 100000 in
theorem ref_Text_err (w : World) (g : Nat) (S : Nat → Prop) (most : Int) (l : List Int) (e : Int) (hI : Rr w g S l e) (he : e ≠ 0) :
    Calls Try.prog 30 #[.pointer (some ⟨g, 0, none⟩), .int .i64 most] w fun x w' => x = .returned (.string ⟨#[]⟩) ∧ w' = w := by
  have HI := Aside0.mk hI
  have HE := Aside0.mk he
  have hb0 : (e == 0) = false := by simpa using he
  have hb1 : (e != 0) = true := by simpa using he
  have c1 := ref_Err hI
  clear hI he
  go_enter Try.func30, Try.ntmps30
  go_wp2_with (first | (go_at_call 26; (with_reducible refine (ref_U_err _ g S l e HI.out HE.out).mono ?_); rintro x w' ⟨rfl, rfl⟩))
  go_ret
  exact ⟨rfl, rfl⟩
set_option maxHeartbeats 3200000 in
set_option maxRecDepth 100000 in
theorem ref_Text.calls (w : World) (g : Nat) (S : Nat → Prop) (most : Int) (l : List Int) (hI : Rr w g S l 0) (hS : ∀ k, S k → k ≠ g) (hwf : ∀ x ∈ l, 0 ≤ x ∧ x < 256) :
    Calls Try.prog 30 #[.pointer (some ⟨g, 0, none⟩), .int .i64 most] w (RTPost w g S most l) := by
  have HI := Aside0.mk hI
  have HS := Aside0.mk hS
  have HWF := Aside0.mk hwf
  obtain ⟨u0, u1⟩ := VA.uRes_bound l
  clear hI hS hwf
  obtain ⟨n, l', e, hn⟩ : ∃ n l' e, VA.uRes l = (n, l', e) := ⟨_, _, _, rfl⟩
  rw [show (VA.uRes l).1 = n by rw [hn]] at u0 u1
  have HN := Aside0.mk hn
  clear hn
  go_enter Try.func30, Try.ntmps30
  go_wp2_with fail
  refine (ref_U.calls _ g S l HI.out HS.out HWF.out).mono ?_
  rintro x w1 hx
  unfold RUPost at hx
  rw [HN.out] at hx
  obtain ⟨rfl, h1, h3⟩ := hx
  change Rr w1 g S l' e at h1
  have H1 := Aside0.mk h1
  have H3 := Aside0.mk h3
  obtain ⟨v, hb, A, c, rfl, hl, hC, hA⟩ := h1
  have c0 : w1.cell? ⟨g, 0, none⟩ = some (.slice A l'.length c) := by rw [blk_cell hb]; rfl
  have f0 : w1.frozen? ⟨g, 0, none⟩ = false := blk_frozen hb 0
  have c2 : w1.cell? ⟨g, 1, none⟩ = some (.int .i64 e) := by rw [blk_cell hb]; rfl
  have f2 : w1.frozen? ⟨g, 1, none⟩ = false := blk_frozen hb 1
  have HC := Aside0.mk hC
  have HL := Aside0.mk hl
  have HA := Aside0.mk hA
  clear h3 hb hC hl hA
  by_cases he : e = 0
  · subst he
    by_cases hm : most < n
    · have HT := Aside0.mk (VA.tRes_most most l l' n HN.out hm)
      go_wp2_with fail
      go_ret
      exact rtpost_fail H1.out HS.out H3.out HT.out
    · by_cases hs : (l'.length : Int) < n
      · have HT := Aside0.mk (VA.tRes_short most l l' n HN.out hm hs)
        go_wp2_with fail
        go_ret
        exact rtpost_fail H1.out HS.out H3.out HT.out
      · have HT := Aside0.mk (VA.tRes_good most l l' n HN.out hm hs)
        have hnl : n ≤ (l'.length : Int) := by omega
        obtain ⟨i0, hi0, _, hsz, _⟩ := info_parts hinfo5
        obtain ⟨j, rfl⟩ := Int.eq_ofNat_of_zero_le u0
        have hcut := cut_from (P := Try.prog) 22 5 .i64 Try.underlying22 hi0 1 hsz A l'.length c (j : Int) u0 hnl
        have hct := cut_to (P := Try.prog) 22 5 .i64 Try.underlying22 hi0 A l'.length c (j : Int) u0 hnl HL.out
        rw [show ((j : Nat) : Int).toNat = j from rfl] at hcut hct
        have hr := RowIn.cut (m := j) HL.out HC.out HA.out (by omega)
        have hrt := Kd.C_take (m := j) HC.out (by omega)
        rw [show (l'.take j).length = j by rw [List.length_take]; omega] at hrt
        have hcv : (convert 22 9 (.slice A j c)).run Try.prog w1 = .ok (.string (strOfNums (l'.take j))) w1 := Kd.C_string Try.underlying22 Try.underlying5 Try.underlying9 hrt
        obtain ⟨s, hs2⟩ : ∃ s, s = strOfNums (l'.take j) := ⟨_, rfl⟩
        rw [← hs2] at hcv
        have HS2 := Aside0.mk hs2
        obtain ⟨v', hv'⟩ : ∃ v', v' = Value.slice (if c = j then A else A.map (·.add (j * 1))) (l'.length - j) (c - j) := ⟨_, rfl⟩
        rw [← hv'] at hcut hr
        obtain ⟨A1, c1', e1, _⟩ := id hr
        obtain ⟨n1, hn1⟩ : ∃ n1, n1 = (l'.drop j).length := ⟨_, rfl⟩
        rw [← hn1] at e1
        rw [e1] at hcut
        have HV := Aside0.mk e1
        have HR := Aside0.mk hr
        clear hr hi0 hsz hv' e1 hn1 hrt hs2
        go_wp2_with fail
        go_ret
        rw [← HV.out, HS2.out]
        exact rtpost_good H1.out HS.out H3.out HT.out HR.out
  · have HT := Aside0.mk (VA.tRes_err most l l' n e HN.out he)
    have hb0 : (e == 0) = false := by simpa using he
    have hb1 : (e != 0) = true := by simpa using he
    clear he
    go_wp2_with fail
    go_ret
    exact rtpost_err H1.out H3.out HT.out
end Go.Proofs.Ytmjedmiaebbjaaa.H
