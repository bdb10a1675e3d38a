/- Written by a program of this session (wip/hand.py, over the kit's print): functions of the given program as plain Lean functions, and that the machine's calls come to what these say. -/
import Derived.Test.YtoihjhpabccigaaPN
import Derived.Test.YtoihjhpabccigaaHA
import Derived.Test.YtoihjhpabccigaaHL
import Derived.Test.YtoihjhpabccigaaPRx0
import Derived.Test.YtoihjhpabccigaaPRx3
import Derived.Test.YtoihjhpabccigaaPRx4
import Derived.Test.YtoihjhpabccigaaPRx5
import Derived.Test.YtoihjhpabccigaaPRx6
import Derived.Test.YtoihjhpabccigaaPRx7
import Derived.Test.YtoihjhpabccigaaPRx11
namespace Go.Proofs.Ytoihjhpabccigaa.PR
open Go.RowKit Go.Proofs.YtoihjhpabccigaaW.PrintWords Go.Proofs.YtoihjhpabccigaaW.PrintLast Go.Proofs.YtoihjhpabccigaaW.PrintMore
attribute [local go_sem] max2_int min2_int max_two min_two max_three min_three max_four min_four   -- for this text's walks alone
set_option linter.unusedVariables false
set_option linter.unusedSimpArgs false

/-! ### driftnetlaw09_RunesTwo: function 4 (by hand) -/
def driftnetlaw09_RunesTwo.f (k : Nat) (l0 : List (S41)) (l1 : List (S41)) : Option Bool := (driftnetlaw09_set.f k (l0.take 15)).bind fun x => ((driftnetlaw09_set.f k (l1.take 15)).bind fun y => ((driftnetref09_Of.f k (l0.take 15)).bind fun oa => ((driftnetref09_Of.f k (l1.take 15)).bind fun ob => ((driftnetref09_Equal.f k oa ob).bind fun s1 => ((runes_Join.f [x, y]).bind fun j => ((driftnetlaw09_ranges.f k j).bind fun rj => ((driftnetref09_Of.f k ((l0.take 15) ++ (l1.take 15))).bind fun o1 => ((driftnetref09_Equal.f k rj o1).bind fun e1 => if e1 = true then ((runes_Both.f k x y).bind fun bo => ((driftnetlaw09_ranges.f k bo).bind fun rb => ((driftnetref09_Both.f k (l0.take 15) (l1.take 15)).bind fun rB => ((driftnetref09_Equal.f k rb rB).bind fun e2 => if e2 = true then ((runes_Same.f k x y).bind fun s2 => (if s2 = s1 then ((driftnetlaw09_ranges.f k x).bind fun rx => ((driftnetref09_Equal.f k rx (l0.take 15)).bind fun e3 => if e3 = true then ((driftnetlaw09_awake.f k).bind fun e4 => if e4 = true then (some true) else none) else none)) else none)) else none)))) else none))))))))
theorem driftnetlaw09_RunesTwo.mono : ∀ a0 a1 k, LeO (driftnetlaw09_RunesTwo.f k a0 a1) (driftnetlaw09_RunesTwo.f (k + 1) a0 a1) := by
  intro a0 a1 k
  unfold driftnetlaw09_RunesTwo.f
  repeat' first
      | (with_reducible exact driftnetlaw09_set.mono _ _)
      | (with_reducible exact driftnetref09_Of.mono _ _)
      | (with_reducible exact driftnetref09_Equal.mono _ _ _)
      | (with_reducible exact driftnetlaw09_ranges.mono _ _)
      | (with_reducible exact runes_Both.mono _ _ _)
      | (with_reducible exact driftnetref09_Both.mono _ _ _)
      | (with_reducible exact runes_Same.mono _ _ _)
      | (with_reducible exact driftnetlaw09_awake.mono _)
      | (with_reducible exact LeO.refl _)
      | (with_reducible exact LeO.none _)
      | (with_reducible refine LeO.ite ?_ ?_)
      | (with_reducible refine LeO.bind ?_ (fun _ => ?_))
      | exact driftnetlaw09_set.mono _ _
      | exact driftnetref09_Of.mono _ _
      | exact driftnetref09_Equal.mono _ _ _
      | exact driftnetlaw09_ranges.mono _ _
      | exact runes_Both.mono _ _ _
      | exact driftnetref09_Both.mono _ _ _
      | exact runes_Same.mono _ _ _
      | exact driftnetlaw09_awake.mono _
      | exact LeO.refl _
      | exact LeO.none _
      | refine LeO.ite ?_ ?_
      | refine LeO.bind ?_ (fun _ => ?_)
set_option maxHeartbeats 6000000 in
set_option maxRecDepth 100000 in
theorem driftnetlaw09_RunesTwo.calls (k : Nat) (A0 : Option Addr) (c0 : Nat) (l0 : List (S41)) (A1 : Option Addr) (c1 : Nat) (l1 : List (S41)) (r : Bool) (w : World) (hrl0 : Kd.C k41 w A0 l0.length l0) (hcl0 : l0.length ≤ c0) (hrl1 : Kd.C k41 w A1 l1.length l1) (hcl1 : l1.length ≤ c1) (h : driftnetlaw09_RunesTwo.f k l0 l1 = some r) :
    Calls Try.prog 4 #[.slice A0 l0.length c0, .slice A1 l1.length c1] w fun e w' => e = .returned (.bool r) ∧ Below w.heap.size w w' := by
  unfold driftnetlaw09_RunesTwo.f at h
  obtain ⟨x, a_, h_⟩ := Option.bind_eq_some_iff.mp h
  clear h
  have h := h_
  clear h_
  have Hx := Aside0.mk a_
  clear a_
  obtain ⟨y, a_, h_⟩ := Option.bind_eq_some_iff.mp h
  clear h
  have h := h_
  clear h_
  have Hy := Aside0.mk a_
  clear a_
  obtain ⟨oa, a_, h_⟩ := Option.bind_eq_some_iff.mp h
  clear h
  have h := h_
  clear h_
  have Hoa := Aside0.mk a_
  clear a_
  obtain ⟨ob, a_, h_⟩ := Option.bind_eq_some_iff.mp h
  clear h
  have h := h_
  clear h_
  have Hob := Aside0.mk a_
  clear a_
  obtain ⟨s1, a_, h_⟩ := Option.bind_eq_some_iff.mp h
  clear h
  have h := h_
  clear h_
  have Hs1 := Aside0.mk a_
  clear a_
  obtain ⟨j, a_, h_⟩ := Option.bind_eq_some_iff.mp h
  clear h
  have h := h_
  clear h_
  have Hj := Aside0.mk a_
  clear a_
  obtain ⟨rj, a_, h_⟩ := Option.bind_eq_some_iff.mp h
  clear h
  have h := h_
  clear h_
  have Hrj := Aside0.mk a_
  clear a_
  obtain ⟨o1, a_, h_⟩ := Option.bind_eq_some_iff.mp h
  clear h
  have h := h_
  clear h_
  have Ho1 := Aside0.mk a_
  clear a_
  obtain ⟨e1, a_, h_⟩ := Option.bind_eq_some_iff.mp h
  clear h
  have h := h_
  clear h_
  have He1 := Aside0.mk a_
  clear a_
  by_cases hc_ : e1 = true
  rotate_left
  · rw [if_neg hc_] at h; cases h
  rw [if_pos hc_] at h
  rw [hc_] at He1
  clear hc_
  obtain ⟨bo, a_, h_⟩ := Option.bind_eq_some_iff.mp h
  clear h
  have h := h_
  clear h_
  have Hbo := Aside0.mk a_
  clear a_
  obtain ⟨rb, a_, h_⟩ := Option.bind_eq_some_iff.mp h
  clear h
  have h := h_
  clear h_
  have Hrb := Aside0.mk a_
  clear a_
  obtain ⟨rB, a_, h_⟩ := Option.bind_eq_some_iff.mp h
  clear h
  have h := h_
  clear h_
  have HrB := Aside0.mk a_
  clear a_
  obtain ⟨e2, a_, h_⟩ := Option.bind_eq_some_iff.mp h
  clear h
  have h := h_
  clear h_
  have He2 := Aside0.mk a_
  clear a_
  by_cases hc_ : e2 = true
  rotate_left
  · rw [if_neg hc_] at h; cases h
  rw [if_pos hc_] at h
  rw [hc_] at He2
  clear hc_
  obtain ⟨s2, a_, h_⟩ := Option.bind_eq_some_iff.mp h
  clear h
  have h := h_
  clear h_
  have Hs2 := Aside0.mk a_
  clear a_
  by_cases hc_ : s2 = s1
  rotate_left
  · rw [if_neg hc_] at h; cases h
  rw [if_pos hc_] at h
  have HQ0 := Aside0.mk hc_
  clear hc_
  obtain ⟨rx, a_, h_⟩ := Option.bind_eq_some_iff.mp h
  clear h
  have h := h_
  clear h_
  have Hrx := Aside0.mk a_
  clear a_
  obtain ⟨e3, a_, h_⟩ := Option.bind_eq_some_iff.mp h
  clear h
  have h := h_
  clear h_
  have He3 := Aside0.mk a_
  clear a_
  by_cases hc_ : e3 = true
  rotate_left
  · rw [if_neg hc_] at h; cases h
  rw [if_pos hc_] at h
  rw [hc_] at He3
  clear hc_
  obtain ⟨e4, a_, h_⟩ := Option.bind_eq_some_iff.mp h
  clear h
  have h := h_
  clear h_
  have He4 := Aside0.mk a_
  clear a_
  by_cases hc_ : e4 = true
  rotate_left
  · rw [if_neg hc_] at h; cases h
  rw [if_pos hc_] at h
  rw [hc_] at He4
  clear hc_
  obtain rfl := Option.some.inj h
  clear h
  have R_l0 := Aside0.mk hrl0
  have C_l0 := Aside0.mk hcl0
  clear hrl0 hcl0
  have B_l0 := Aside0.mk (Below.refl w.heap.size w)
  have R_l1 := Aside0.mk hrl1
  have C_l1 := Aside0.mk hcl1
  clear hrl1 hcl1
  have B_l1 := Aside0.mk (Below.refl w.heap.size w)
  have HB := Aside0.mk (Below.refl w.heap.size w)
  obtain ⟨m_l0, hm_l0⟩ : ∃ m_ : Int, (if 15 < (l0.length : Int) then 15 else (l0.length : Int)) = m_ := ⟨_, rfl⟩
  have q0_l0 : 0 ≤ m_l0 := by rw [← hm_l0]; split <;> omega
  have q1_l0 : m_l0 ≤ (l0.length : Int) := by rw [← hm_l0]; split <;> omega
  have q2_l0 : l0.take m_l0.toNat = l0.take 15 := by
    rw [← hm_l0]
    split
    · rfl
    · rw [Int.toNat_natCast, List.take_of_length_le (Nat.le_refl _), List.take_of_length_le (by omega)]
  obtain ⟨i_l0, hi_l0, _, _, _⟩ := info_parts info41
  have hcut_l0 := cut_to (P := Try.prog) 22 41 .i64 Try.underlying22 hi_l0 A0 l0.length c0 m_l0 q0_l0 q1_l0 C_l0.out
  have hr_l0 := Kd.C_take (m := m_l0.toNat) R_l0.out (by omega)
  have hl_l0 : (l0.take m_l0.toNat).length = m_l0.toNat := by rw [List.length_take]; omega
  rw [← hl_l0] at hcut_l0
  rw [q2_l0] at hr_l0 hcut_l0
  have hc_l0 : (l0.take 15).length ≤ c0 := by have := C_l0.out; rw [List.length_take]; omega
  obtain ⟨a, hy_l0⟩ : ∃ y_, y_ = l0.take 15 := ⟨_, rfl⟩
  rw [← hy_l0] at hr_l0 hcut_l0 hc_l0
  have R_a := Aside0.mk hr_l0
  have C_a := Aside0.mk hc_l0
  have Y_a := Aside0.mk hy_l0
  clear hr_l0 hc_l0 hy_l0 q2_l0 hl_l0 hi_l0
  obtain ⟨m_l1, hm_l1⟩ : ∃ m_ : Int, (if 15 < (l1.length : Int) then 15 else (l1.length : Int)) = m_ := ⟨_, rfl⟩
  have q0_l1 : 0 ≤ m_l1 := by rw [← hm_l1]; split <;> omega
  have q1_l1 : m_l1 ≤ (l1.length : Int) := by rw [← hm_l1]; split <;> omega
  have q2_l1 : l1.take m_l1.toNat = l1.take 15 := by
    rw [← hm_l1]
    split
    · rfl
    · rw [Int.toNat_natCast, List.take_of_length_le (Nat.le_refl _), List.take_of_length_le (by omega)]
  obtain ⟨i_l1, hi_l1, _, _, _⟩ := info_parts info41
  have hcut_l1 := cut_to (P := Try.prog) 22 41 .i64 Try.underlying22 hi_l1 A1 l1.length c1 m_l1 q0_l1 q1_l1 C_l1.out
  have hr_l1 := Kd.C_take (m := m_l1.toNat) R_l1.out (by omega)
  have hl_l1 : (l1.take m_l1.toNat).length = m_l1.toNat := by rw [List.length_take]; omega
  rw [← hl_l1] at hcut_l1
  rw [q2_l1] at hr_l1 hcut_l1
  have hc_l1 : (l1.take 15).length ≤ c1 := by have := C_l1.out; rw [List.length_take]; omega
  obtain ⟨b, hy_l1⟩ : ∃ y_, y_ = l1.take 15 := ⟨_, rfl⟩
  rw [← hy_l1] at hr_l1 hcut_l1 hc_l1
  have R_b := Aside0.mk hr_l1
  have C_b := Aside0.mk hc_l1
  have Y_b := Aside0.mk hy_l1
  clear hr_l1 hc_l1 hy_l1 q2_l1 hl_l1 hi_l1
  simp only [← Y_a.out, ← Y_b.out] at Hx Hy Hoa Hob Ho1 HrB He3
  go_enter Try.func4, Try.ntmps4
  go_wp2_with fail
  go_quiet (fail)
  obtain ⟨w100, hw100⟩ : ∃ w_, w_ = w.drewN nq := ⟨_, rfl⟩
  rw [← hw100]
  have hb : Below w.heap.size w w100 := by rw [hw100]; exact pw_below_drewN (Below.refl _ _) _
  clear hw100
  have B_a := Aside0.mk (Below.refl w.heap.size w)
  have B_b := Aside0.mk (Below.refl w.heap.size w)
  have Z_ := Aside0.mk (below_step (by repeat (first | exact B_l0.out | apply below_alloc | apply pw_below_drewN | apply below_drew1)) hb)
  clear B_l0
  have B_l0 := Z_
  clear Z_
  have Z_ := Aside0.mk (below_step (by repeat (first | exact B_l1.out | apply below_alloc | apply pw_below_drewN | apply below_drew1)) hb)
  clear B_l1
  have B_l1 := Z_
  clear Z_
  have Z_ := Aside0.mk (below_step (by repeat (first | exact B_a.out | apply below_alloc | apply pw_below_drewN | apply below_drew1)) hb)
  clear B_a
  have B_a := Z_
  clear Z_
  have Z_ := Aside0.mk (below_step (by repeat (first | exact B_b.out | apply below_alloc | apply pw_below_drewN | apply below_drew1)) hb)
  clear B_b
  have B_b := Z_
  clear Z_
  have Z_ := Aside0.mk (below_step (by repeat (first | exact HB.out | apply below_alloc | apply pw_below_drewN | apply below_drew1)) hb)
  clear HB
  have HB := Z_
  clear Z_
  clear hb
  clear R_l0 C_l0 B_l0
  clear R_l1 C_l1 B_l1
  clear hcut_l0 hcut_l1 q0_l0 q1_l0 q0_l1 q1_l1 hm_l0 hm_l1
  go_wp2_with fail
  with_reducible refine (driftnetlaw09_set.calls k _ _ a _ _ (by repeat (first | exact (Kd.C_below R_a.out B_a.out) | (with_reducible refine Kd.C_alloc ?_ _) | (with_reducible refine Kd.C_drewN ?_ _) | (with_reducible refine Kd.C_drew ?_))) C_a.out Hx.out).mono ?_
  rintro e w101 ⟨v, rfl, ho, hb⟩
  obtain ⟨A_x, c_x, rfl, hlo, hC⟩ := Kd.R_reads ho
  clear ho
  have Z_ := Aside0.mk (below_step (by repeat (first | exact B_a.out | apply below_alloc | apply pw_below_drewN | apply below_drew1)) hb)
  clear B_a
  have B_a := Z_
  clear Z_
  have Z_ := Aside0.mk (below_step (by repeat (first | exact B_b.out | apply below_alloc | apply pw_below_drewN | apply below_drew1)) hb)
  clear B_b
  have B_b := Z_
  clear Z_
  have Z_ := Aside0.mk (below_step (by repeat (first | exact HB.out | apply below_alloc | apply pw_below_drewN | apply below_drew1)) hb)
  clear HB
  have HB := Z_
  clear Z_
  clear hb
  have R_x := Aside0.mk hC
  have C_x := Aside0.mk hlo
  clear hC hlo
  have B_x := Aside0.mk (Below.refl w101.heap.size w101)
  go_wp2_with fail
  with_reducible refine (driftnetlaw09_set.calls k _ _ b _ _ (by repeat (first | exact (Kd.C_below R_b.out B_b.out) | (with_reducible refine Kd.C_alloc ?_ _) | (with_reducible refine Kd.C_drewN ?_ _) | (with_reducible refine Kd.C_drew ?_))) C_b.out Hy.out).mono ?_
  rintro e w102 ⟨v, rfl, ho, hb⟩
  obtain ⟨A_y, c_y, rfl, hlo, hC⟩ := Kd.R_reads ho
  clear ho
  have Z_ := Aside0.mk (below_step (by repeat (first | exact B_a.out | apply below_alloc | apply pw_below_drewN | apply below_drew1)) hb)
  clear B_a
  have B_a := Z_
  clear Z_
  have Z_ := Aside0.mk (below_step (by repeat (first | exact B_b.out | apply below_alloc | apply pw_below_drewN | apply below_drew1)) hb)
  clear B_b
  have B_b := Z_
  clear Z_
  have Z_ := Aside0.mk (below_step (by repeat (first | exact B_x.out | apply below_alloc | apply pw_below_drewN | apply below_drew1)) hb)
  clear B_x
  have B_x := Z_
  clear Z_
  have Z_ := Aside0.mk (below_step (by repeat (first | exact HB.out | apply below_alloc | apply pw_below_drewN | apply below_drew1)) hb)
  clear HB
  have HB := Z_
  clear Z_
  clear hb
  have R_y := Aside0.mk hC
  have C_y := Aside0.mk hlo
  clear hC hlo
  have B_y := Aside0.mk (Below.refl w102.heap.size w102)
  have L_all0 : Aside0 (a.length ≤ 15) := ⟨by rw [Y_a.out, List.length_take]; omega⟩
  have L_all1 : Aside0 (a.length + b.length ≤ 30) := ⟨by rw [Y_a.out, Y_b.out, List.length_take, List.length_take]; omega⟩
  go_wp2_with (first | ((with_reducible refine gate_builtin (b := .append) (xs := #[.tmp 23, .tmp 24]) rfl ?_); at_builtin; refine Kd.R_append_rows k41 (Rr := k41.K w102) (w0 := w102) w102.heap.size rfl (.tmp 23) (.tmp 24) 22 41 (.agg #[.int .i64 0, .int .i64 0]) 16 rfl Try.underlying22 info41 rfl (by decide) (by omega) (.slice none 0 0) ([]) a A0 a.length c0 (fun _ => True) (fun _ => False) rfl rfl ?aOall0 ?aRall0 ?aKall0 (fun _ h => h.elim) ?aFall0 ?aBall0 ?aSall0 ?aLall0 ?_; (case aOall0 => exact Kd.R_nil _ _ _ _ _); (case aRall0 => exact Kd.C_below R_a.out B_a.out); (case aKall0 => exact fun x cs h => by rw [k41_open h]; exact k41_mkM _ _ _ _); (case aFall0 => exact fun _ _ => trivial); (case aBall0 => exact Below.refl _ _); (case aSall0 => first | exact Nat.le_refl _ | exact P_all0.out.size); (case aLall0 => have := L_all0.out; simp only [List.length_append, List.length_nil]; omega); intro v_all0 w_all0 ho hb hg hat; have O_all0 := Aside0.mk ho; have P_all0 := Aside0.mk hb; clear ho hb hg hat) | ((with_reducible refine gate_builtin (b := .append) (xs := #[.tmp 25, .tmp 26]) rfl ?_); at_builtin; refine Kd.R_append_rows k41 (Rr := k41.K w_all0) (w0 := w102) w102.heap.size rfl (.tmp 25) (.tmp 26) 22 41 (.agg #[.int .i64 0, .int .i64 0]) 16 rfl Try.underlying22 info41 rfl (by decide) (by omega) v_all0 ([] ++ a) b A1 b.length c1 (fun _ => True) (fun _ => False) rfl rfl ?aOall1 ?aRall1 ?aKall1 (fun _ h => h.elim) ?aFall1 ?aBall1 ?aSall1 ?aLall1 ?_; (case aOall1 => exact O_all0.out); (case aRall1 => exact Kd.C_below (Kd.C_below R_b.out B_b.out) P_all0.out); (case aKall1 => exact fun x cs h => by rw [k41_open h]; exact k41_mkM _ _ _ _); (case aFall1 => exact fun _ _ => trivial); (case aBall1 => exact P_all0.out); (case aSall1 => first | exact Nat.le_refl _ | exact P_all0.out.size); (case aLall1 => have := L_all1.out; simp only [List.length_append, List.length_nil]; omega); intro v_all1 w_all1 ho hb hg hat; have O_all1 := Aside0.mk ho; have P_all1 := Aside0.mk hb; clear ho hb hg hat))
  have hb := P_all1.out
  have ho := O_all1.out
  obtain ⟨all, hall_⟩ : ∃ y_, y_ = [] ++ a ++ b := ⟨_, rfl⟩
  rw [← hall_] at ho
  have E_all := Aside0.mk hall_
  clear hall_
  obtain ⟨A_all, c_all, hv_all, hlo, hC⟩ := Kd.R_reads ho
  subst hv_all
  clear ho O_all0 P_all0 O_all1 P_all1
  have Z_ := Aside0.mk (below_step (by repeat (first | exact B_a.out | apply below_alloc | apply pw_below_drewN | apply below_drew1)) hb)
  clear B_a
  have B_a := Z_
  clear Z_
  have Z_ := Aside0.mk (below_step (by repeat (first | exact B_b.out | apply below_alloc | apply pw_below_drewN | apply below_drew1)) hb)
  clear B_b
  have B_b := Z_
  clear Z_
  have Z_ := Aside0.mk (below_step (by repeat (first | exact B_x.out | apply below_alloc | apply pw_below_drewN | apply below_drew1)) hb)
  clear B_x
  have B_x := Z_
  clear Z_
  have Z_ := Aside0.mk (below_step (by repeat (first | exact B_y.out | apply below_alloc | apply pw_below_drewN | apply below_drew1)) hb)
  clear B_y
  have B_y := Z_
  clear Z_
  have Z_ := Aside0.mk (below_step (by repeat (first | exact HB.out | apply below_alloc | apply pw_below_drewN | apply below_drew1)) hb)
  clear HB
  have HB := Z_
  clear Z_
  clear hb
  have R_all := Aside0.mk hC
  have C_all := Aside0.mk hlo
  clear hC hlo
  have B_all := Aside0.mk (Below.refl w_all1.heap.size w_all1)
  simp only [← show all = a ++ b from by rw [E_all.out, List.nil_append]] at Ho1
  go_wp2_with fail
  with_reducible refine (driftnetref09_Of.calls k _ _ a _ _ (by repeat (first | exact (Kd.C_below R_a.out B_a.out) | (with_reducible refine Kd.C_alloc ?_ _) | (with_reducible refine Kd.C_drewN ?_ _) | (with_reducible refine Kd.C_drew ?_))) C_a.out Hoa.out).mono ?_
  rintro e w104 ⟨v, rfl, ho, hb⟩
  obtain ⟨A_oa, c_oa, rfl, hlo, hC⟩ := Kd.R_reads ho
  clear ho
  have Z_ := Aside0.mk (below_step (by repeat (first | exact B_a.out | apply below_alloc | apply pw_below_drewN | apply below_drew1)) hb)
  clear B_a
  have B_a := Z_
  clear Z_
  have Z_ := Aside0.mk (below_step (by repeat (first | exact B_b.out | apply below_alloc | apply pw_below_drewN | apply below_drew1)) hb)
  clear B_b
  have B_b := Z_
  clear Z_
  have Z_ := Aside0.mk (below_step (by repeat (first | exact B_x.out | apply below_alloc | apply pw_below_drewN | apply below_drew1)) hb)
  clear B_x
  have B_x := Z_
  clear Z_
  have Z_ := Aside0.mk (below_step (by repeat (first | exact B_y.out | apply below_alloc | apply pw_below_drewN | apply below_drew1)) hb)
  clear B_y
  have B_y := Z_
  clear Z_
  have Z_ := Aside0.mk (below_step (by repeat (first | exact B_all.out | apply below_alloc | apply pw_below_drewN | apply below_drew1)) hb)
  clear B_all
  have B_all := Z_
  clear Z_
  have Z_ := Aside0.mk (below_step (by repeat (first | exact HB.out | apply below_alloc | apply pw_below_drewN | apply below_drew1)) hb)
  clear HB
  have HB := Z_
  clear Z_
  clear hb
  have R_oa := Aside0.mk hC
  have C_oa := Aside0.mk hlo
  clear hC hlo
  have B_oa := Aside0.mk (Below.refl w104.heap.size w104)
  go_wp2_with fail
  with_reducible refine (driftnetref09_Of.calls k _ _ b _ _ (by repeat (first | exact (Kd.C_below R_b.out B_b.out) | (with_reducible refine Kd.C_alloc ?_ _) | (with_reducible refine Kd.C_drewN ?_ _) | (with_reducible refine Kd.C_drew ?_))) C_b.out Hob.out).mono ?_
  rintro e w105 ⟨v, rfl, ho, hb⟩
  obtain ⟨A_ob, c_ob, rfl, hlo, hC⟩ := Kd.R_reads ho
  clear ho
  have Z_ := Aside0.mk (below_step (by repeat (first | exact B_a.out | apply below_alloc | apply pw_below_drewN | apply below_drew1)) hb)
  clear B_a
  have B_a := Z_
  clear Z_
  have Z_ := Aside0.mk (below_step (by repeat (first | exact B_b.out | apply below_alloc | apply pw_below_drewN | apply below_drew1)) hb)
  clear B_b
  have B_b := Z_
  clear Z_
  have Z_ := Aside0.mk (below_step (by repeat (first | exact B_x.out | apply below_alloc | apply pw_below_drewN | apply below_drew1)) hb)
  clear B_x
  have B_x := Z_
  clear Z_
  have Z_ := Aside0.mk (below_step (by repeat (first | exact B_y.out | apply below_alloc | apply pw_below_drewN | apply below_drew1)) hb)
  clear B_y
  have B_y := Z_
  clear Z_
  have Z_ := Aside0.mk (below_step (by repeat (first | exact B_all.out | apply below_alloc | apply pw_below_drewN | apply below_drew1)) hb)
  clear B_all
  have B_all := Z_
  clear Z_
  have Z_ := Aside0.mk (below_step (by repeat (first | exact B_oa.out | apply below_alloc | apply pw_below_drewN | apply below_drew1)) hb)
  clear B_oa
  have B_oa := Z_
  clear Z_
  have Z_ := Aside0.mk (below_step (by repeat (first | exact HB.out | apply below_alloc | apply pw_below_drewN | apply below_drew1)) hb)
  clear HB
  have HB := Z_
  clear Z_
  clear hb
  have R_ob := Aside0.mk hC
  have C_ob := Aside0.mk hlo
  clear hC hlo
  have B_ob := Aside0.mk (Below.refl w105.heap.size w105)
  go_wp2_with fail
  with_reducible refine (driftnetref09_Equal.calls k _ _ oa _ _ ob _ _ (by repeat (first | exact (Kd.C_below R_oa.out B_oa.out) | (with_reducible refine Kd.C_alloc ?_ _) | (with_reducible refine Kd.C_drewN ?_ _) | (with_reducible refine Kd.C_drew ?_))) C_oa.out (by repeat (first | exact (Kd.C_below R_ob.out B_ob.out) | (with_reducible refine Kd.C_alloc ?_ _) | (with_reducible refine Kd.C_drewN ?_ _) | (with_reducible refine Kd.C_drew ?_))) C_ob.out Hs1.out).mono ?_
  rintro e w106 ⟨rfl, hb0⟩
  have hb := hb0.below
  clear hb0
  have Z_ := Aside0.mk (below_step (by repeat (first | exact B_a.out | apply below_alloc | apply pw_below_drewN | apply below_drew1)) hb)
  clear B_a
  have B_a := Z_
  clear Z_
  have Z_ := Aside0.mk (below_step (by repeat (first | exact B_b.out | apply below_alloc | apply pw_below_drewN | apply below_drew1)) hb)
  clear B_b
  have B_b := Z_
  clear Z_
  have Z_ := Aside0.mk (below_step (by repeat (first | exact B_x.out | apply below_alloc | apply pw_below_drewN | apply below_drew1)) hb)
  clear B_x
  have B_x := Z_
  clear Z_
  have Z_ := Aside0.mk (below_step (by repeat (first | exact B_y.out | apply below_alloc | apply pw_below_drewN | apply below_drew1)) hb)
  clear B_y
  have B_y := Z_
  clear Z_
  have Z_ := Aside0.mk (below_step (by repeat (first | exact B_all.out | apply below_alloc | apply pw_below_drewN | apply below_drew1)) hb)
  clear B_all
  have B_all := Z_
  clear Z_
  have Z_ := Aside0.mk (below_step (by repeat (first | exact B_oa.out | apply below_alloc | apply pw_below_drewN | apply below_drew1)) hb)
  clear B_oa
  have B_oa := Z_
  clear Z_
  have Z_ := Aside0.mk (below_step (by repeat (first | exact B_ob.out | apply below_alloc | apply pw_below_drewN | apply below_drew1)) hb)
  clear B_ob
  have B_ob := Z_
  clear Z_
  have Z_ := Aside0.mk (below_step (by repeat (first | exact HB.out | apply below_alloc | apply pw_below_drewN | apply below_drew1)) hb)
  clear HB
  have HB := Z_
  clear Z_
  clear hb
  clear R_oa C_oa B_oa
  clear R_ob C_ob B_ob
  go_wp2_with fail
  with_reducible refine (join2c _ _ _ _ x y _ _ (by repeat (first | exact (Kd.C_below R_x.out B_x.out) | (with_reducible refine Kd.C_alloc ?_ _) | (with_reducible refine Kd.C_drewN ?_ _) | (with_reducible refine Kd.C_drew ?_))) C_x.out (by repeat (first | exact (Kd.C_below R_y.out B_y.out) | (with_reducible refine Kd.C_alloc ?_ _) | (with_reducible refine Kd.C_drewN ?_ _) | (with_reducible refine Kd.C_drew ?_))) C_y.out Hj.out).mono ?_
  rintro e w107 ⟨v, rfl, ho, hb⟩
  obtain ⟨A_j, c_j, rfl, hlo, hC⟩ := Kd.R_reads ho
  clear ho
  have Z_ := Aside0.mk (below_step (by repeat (first | exact B_a.out | apply below_alloc | apply pw_below_drewN | apply below_drew1)) hb)
  clear B_a
  have B_a := Z_
  clear Z_
  have Z_ := Aside0.mk (below_step (by repeat (first | exact B_b.out | apply below_alloc | apply pw_below_drewN | apply below_drew1)) hb)
  clear B_b
  have B_b := Z_
  clear Z_
  have Z_ := Aside0.mk (below_step (by repeat (first | exact B_x.out | apply below_alloc | apply pw_below_drewN | apply below_drew1)) hb)
  clear B_x
  have B_x := Z_
  clear Z_
  have Z_ := Aside0.mk (below_step (by repeat (first | exact B_y.out | apply below_alloc | apply pw_below_drewN | apply below_drew1)) hb)
  clear B_y
  have B_y := Z_
  clear Z_
  have Z_ := Aside0.mk (below_step (by repeat (first | exact B_all.out | apply below_alloc | apply pw_below_drewN | apply below_drew1)) hb)
  clear B_all
  have B_all := Z_
  clear Z_
  have Z_ := Aside0.mk (below_step (by repeat (first | exact HB.out | apply below_alloc | apply pw_below_drewN | apply below_drew1)) hb)
  clear HB
  have HB := Z_
  clear Z_
  clear hb
  have R_j := Aside0.mk hC
  have C_j := Aside0.mk hlo
  clear hC hlo
  have B_j := Aside0.mk (Below.refl w107.heap.size w107)
  go_wp2_with fail
  with_reducible refine (driftnetlaw09_ranges.calls k _ _ j _ _ (by repeat (first | exact (Kd.C_below R_j.out B_j.out) | (with_reducible refine Kd.C_alloc ?_ _) | (with_reducible refine Kd.C_drewN ?_ _) | (with_reducible refine Kd.C_drew ?_))) C_j.out Hrj.out).mono ?_
  rintro e w108 ⟨v, rfl, ho, hb⟩
  obtain ⟨A_rj, c_rj, rfl, hlo, hC⟩ := Kd.R_reads ho
  clear ho
  have Z_ := Aside0.mk (below_step (by repeat (first | exact B_a.out | apply below_alloc | apply pw_below_drewN | apply below_drew1)) hb)
  clear B_a
  have B_a := Z_
  clear Z_
  have Z_ := Aside0.mk (below_step (by repeat (first | exact B_b.out | apply below_alloc | apply pw_below_drewN | apply below_drew1)) hb)
  clear B_b
  have B_b := Z_
  clear Z_
  have Z_ := Aside0.mk (below_step (by repeat (first | exact B_x.out | apply below_alloc | apply pw_below_drewN | apply below_drew1)) hb)
  clear B_x
  have B_x := Z_
  clear Z_
  have Z_ := Aside0.mk (below_step (by repeat (first | exact B_y.out | apply below_alloc | apply pw_below_drewN | apply below_drew1)) hb)
  clear B_y
  have B_y := Z_
  clear Z_
  have Z_ := Aside0.mk (below_step (by repeat (first | exact B_all.out | apply below_alloc | apply pw_below_drewN | apply below_drew1)) hb)
  clear B_all
  have B_all := Z_
  clear Z_
  have Z_ := Aside0.mk (below_step (by repeat (first | exact B_j.out | apply below_alloc | apply pw_below_drewN | apply below_drew1)) hb)
  clear B_j
  have B_j := Z_
  clear Z_
  have Z_ := Aside0.mk (below_step (by repeat (first | exact HB.out | apply below_alloc | apply pw_below_drewN | apply below_drew1)) hb)
  clear HB
  have HB := Z_
  clear Z_
  clear hb
  have R_rj := Aside0.mk hC
  have C_rj := Aside0.mk hlo
  clear hC hlo
  have B_rj := Aside0.mk (Below.refl w108.heap.size w108)
  go_wp2_with fail
  with_reducible refine (driftnetref09_Of.calls k _ _ all _ _ (by repeat (first | exact (Kd.C_below R_all.out B_all.out) | (with_reducible refine Kd.C_alloc ?_ _) | (with_reducible refine Kd.C_drewN ?_ _) | (with_reducible refine Kd.C_drew ?_))) C_all.out Ho1.out).mono ?_
  rintro e w109 ⟨v, rfl, ho, hb⟩
  obtain ⟨A_o1, c_o1, rfl, hlo, hC⟩ := Kd.R_reads ho
  clear ho
  have Z_ := Aside0.mk (below_step (by repeat (first | exact B_a.out | apply below_alloc | apply pw_below_drewN | apply below_drew1)) hb)
  clear B_a
  have B_a := Z_
  clear Z_
  have Z_ := Aside0.mk (below_step (by repeat (first | exact B_b.out | apply below_alloc | apply pw_below_drewN | apply below_drew1)) hb)
  clear B_b
  have B_b := Z_
  clear Z_
  have Z_ := Aside0.mk (below_step (by repeat (first | exact B_x.out | apply below_alloc | apply pw_below_drewN | apply below_drew1)) hb)
  clear B_x
  have B_x := Z_
  clear Z_
  have Z_ := Aside0.mk (below_step (by repeat (first | exact B_y.out | apply below_alloc | apply pw_below_drewN | apply below_drew1)) hb)
  clear B_y
  have B_y := Z_
  clear Z_
  have Z_ := Aside0.mk (below_step (by repeat (first | exact B_all.out | apply below_alloc | apply pw_below_drewN | apply below_drew1)) hb)
  clear B_all
  have B_all := Z_
  clear Z_
  have Z_ := Aside0.mk (below_step (by repeat (first | exact B_j.out | apply below_alloc | apply pw_below_drewN | apply below_drew1)) hb)
  clear B_j
  have B_j := Z_
  clear Z_
  have Z_ := Aside0.mk (below_step (by repeat (first | exact B_rj.out | apply below_alloc | apply pw_below_drewN | apply below_drew1)) hb)
  clear B_rj
  have B_rj := Z_
  clear Z_
  have Z_ := Aside0.mk (below_step (by repeat (first | exact HB.out | apply below_alloc | apply pw_below_drewN | apply below_drew1)) hb)
  clear HB
  have HB := Z_
  clear Z_
  clear hb
  have R_o1 := Aside0.mk hC
  have C_o1 := Aside0.mk hlo
  clear hC hlo
  have B_o1 := Aside0.mk (Below.refl w109.heap.size w109)
  go_wp2_with fail
  with_reducible refine (driftnetref09_Equal.calls k _ _ rj _ _ o1 _ _ (by repeat (first | exact (Kd.C_below R_rj.out B_rj.out) | (with_reducible refine Kd.C_alloc ?_ _) | (with_reducible refine Kd.C_drewN ?_ _) | (with_reducible refine Kd.C_drew ?_))) C_rj.out (by repeat (first | exact (Kd.C_below R_o1.out B_o1.out) | (with_reducible refine Kd.C_alloc ?_ _) | (with_reducible refine Kd.C_drewN ?_ _) | (with_reducible refine Kd.C_drew ?_))) C_o1.out He1.out).mono ?_
  rintro e w110 ⟨rfl, hb0⟩
  have hb := hb0.below
  clear hb0
  have Z_ := Aside0.mk (below_step (by repeat (first | exact B_a.out | apply below_alloc | apply pw_below_drewN | apply below_drew1)) hb)
  clear B_a
  have B_a := Z_
  clear Z_
  have Z_ := Aside0.mk (below_step (by repeat (first | exact B_b.out | apply below_alloc | apply pw_below_drewN | apply below_drew1)) hb)
  clear B_b
  have B_b := Z_
  clear Z_
  have Z_ := Aside0.mk (below_step (by repeat (first | exact B_x.out | apply below_alloc | apply pw_below_drewN | apply below_drew1)) hb)
  clear B_x
  have B_x := Z_
  clear Z_
  have Z_ := Aside0.mk (below_step (by repeat (first | exact B_y.out | apply below_alloc | apply pw_below_drewN | apply below_drew1)) hb)
  clear B_y
  have B_y := Z_
  clear Z_
  have Z_ := Aside0.mk (below_step (by repeat (first | exact B_all.out | apply below_alloc | apply pw_below_drewN | apply below_drew1)) hb)
  clear B_all
  have B_all := Z_
  clear Z_
  have Z_ := Aside0.mk (below_step (by repeat (first | exact B_j.out | apply below_alloc | apply pw_below_drewN | apply below_drew1)) hb)
  clear B_j
  have B_j := Z_
  clear Z_
  have Z_ := Aside0.mk (below_step (by repeat (first | exact B_rj.out | apply below_alloc | apply pw_below_drewN | apply below_drew1)) hb)
  clear B_rj
  have B_rj := Z_
  clear Z_
  have Z_ := Aside0.mk (below_step (by repeat (first | exact B_o1.out | apply below_alloc | apply pw_below_drewN | apply below_drew1)) hb)
  clear B_o1
  have B_o1 := Z_
  clear Z_
  have Z_ := Aside0.mk (below_step (by repeat (first | exact HB.out | apply below_alloc | apply pw_below_drewN | apply below_drew1)) hb)
  clear HB
  have HB := Z_
  clear Z_
  clear hb
  clear R_j C_j B_j
  clear R_rj C_rj B_rj
  clear R_o1 C_o1 B_o1
  clear R_all C_all B_all
  go_wp2_with fail
  with_reducible refine (runes_Both.calls k _ _ x _ _ y _ _ (by repeat (first | exact (Kd.C_below R_x.out B_x.out) | (with_reducible refine Kd.C_alloc ?_ _) | (with_reducible refine Kd.C_drewN ?_ _) | (with_reducible refine Kd.C_drew ?_))) C_x.out (by repeat (first | exact (Kd.C_below R_y.out B_y.out) | (with_reducible refine Kd.C_alloc ?_ _) | (with_reducible refine Kd.C_drewN ?_ _) | (with_reducible refine Kd.C_drew ?_))) C_y.out Hbo.out).mono ?_
  rintro e w111 ⟨v, rfl, ho, hb⟩
  obtain ⟨A_bo, c_bo, rfl, hlo, hC⟩ := Kd.R_reads ho
  clear ho
  have Z_ := Aside0.mk (below_step (by repeat (first | exact B_a.out | apply below_alloc | apply pw_below_drewN | apply below_drew1)) hb)
  clear B_a
  have B_a := Z_
  clear Z_
  have Z_ := Aside0.mk (below_step (by repeat (first | exact B_b.out | apply below_alloc | apply pw_below_drewN | apply below_drew1)) hb)
  clear B_b
  have B_b := Z_
  clear Z_
  have Z_ := Aside0.mk (below_step (by repeat (first | exact B_x.out | apply below_alloc | apply pw_below_drewN | apply below_drew1)) hb)
  clear B_x
  have B_x := Z_
  clear Z_
  have Z_ := Aside0.mk (below_step (by repeat (first | exact B_y.out | apply below_alloc | apply pw_below_drewN | apply below_drew1)) hb)
  clear B_y
  have B_y := Z_
  clear Z_
  have Z_ := Aside0.mk (below_step (by repeat (first | exact HB.out | apply below_alloc | apply pw_below_drewN | apply below_drew1)) hb)
  clear HB
  have HB := Z_
  clear Z_
  clear hb
  have R_bo := Aside0.mk hC
  have C_bo := Aside0.mk hlo
  clear hC hlo
  have B_bo := Aside0.mk (Below.refl w111.heap.size w111)
  go_wp2_with fail
  with_reducible refine (driftnetlaw09_ranges.calls k _ _ bo _ _ (by repeat (first | exact (Kd.C_below R_bo.out B_bo.out) | (with_reducible refine Kd.C_alloc ?_ _) | (with_reducible refine Kd.C_drewN ?_ _) | (with_reducible refine Kd.C_drew ?_))) C_bo.out Hrb.out).mono ?_
  rintro e w112 ⟨v, rfl, ho, hb⟩
  obtain ⟨A_rb, c_rb, rfl, hlo, hC⟩ := Kd.R_reads ho
  clear ho
  have Z_ := Aside0.mk (below_step (by repeat (first | exact B_a.out | apply below_alloc | apply pw_below_drewN | apply below_drew1)) hb)
  clear B_a
  have B_a := Z_
  clear Z_
  have Z_ := Aside0.mk (below_step (by repeat (first | exact B_b.out | apply below_alloc | apply pw_below_drewN | apply below_drew1)) hb)
  clear B_b
  have B_b := Z_
  clear Z_
  have Z_ := Aside0.mk (below_step (by repeat (first | exact B_x.out | apply below_alloc | apply pw_below_drewN | apply below_drew1)) hb)
  clear B_x
  have B_x := Z_
  clear Z_
  have Z_ := Aside0.mk (below_step (by repeat (first | exact B_y.out | apply below_alloc | apply pw_below_drewN | apply below_drew1)) hb)
  clear B_y
  have B_y := Z_
  clear Z_
  have Z_ := Aside0.mk (below_step (by repeat (first | exact B_bo.out | apply below_alloc | apply pw_below_drewN | apply below_drew1)) hb)
  clear B_bo
  have B_bo := Z_
  clear Z_
  have Z_ := Aside0.mk (below_step (by repeat (first | exact HB.out | apply below_alloc | apply pw_below_drewN | apply below_drew1)) hb)
  clear HB
  have HB := Z_
  clear Z_
  clear hb
  have R_rb := Aside0.mk hC
  have C_rb := Aside0.mk hlo
  clear hC hlo
  have B_rb := Aside0.mk (Below.refl w112.heap.size w112)
  go_wp2_with fail
  with_reducible refine (driftnetref09_Both.calls k _ _ a _ _ b _ _ (by repeat (first | exact (Kd.C_below R_a.out B_a.out) | (with_reducible refine Kd.C_alloc ?_ _) | (with_reducible refine Kd.C_drewN ?_ _) | (with_reducible refine Kd.C_drew ?_))) C_a.out (by repeat (first | exact (Kd.C_below R_b.out B_b.out) | (with_reducible refine Kd.C_alloc ?_ _) | (with_reducible refine Kd.C_drewN ?_ _) | (with_reducible refine Kd.C_drew ?_))) C_b.out HrB.out).mono ?_
  rintro e w113 ⟨v, rfl, ho, hb⟩
  obtain ⟨A_rB, c_rB, rfl, hlo, hC⟩ := Kd.R_reads ho
  clear ho
  have Z_ := Aside0.mk (below_step (by repeat (first | exact B_a.out | apply below_alloc | apply pw_below_drewN | apply below_drew1)) hb)
  clear B_a
  have B_a := Z_
  clear Z_
  have Z_ := Aside0.mk (below_step (by repeat (first | exact B_b.out | apply below_alloc | apply pw_below_drewN | apply below_drew1)) hb)
  clear B_b
  have B_b := Z_
  clear Z_
  have Z_ := Aside0.mk (below_step (by repeat (first | exact B_x.out | apply below_alloc | apply pw_below_drewN | apply below_drew1)) hb)
  clear B_x
  have B_x := Z_
  clear Z_
  have Z_ := Aside0.mk (below_step (by repeat (first | exact B_y.out | apply below_alloc | apply pw_below_drewN | apply below_drew1)) hb)
  clear B_y
  have B_y := Z_
  clear Z_
  have Z_ := Aside0.mk (below_step (by repeat (first | exact B_bo.out | apply below_alloc | apply pw_below_drewN | apply below_drew1)) hb)
  clear B_bo
  have B_bo := Z_
  clear Z_
  have Z_ := Aside0.mk (below_step (by repeat (first | exact B_rb.out | apply below_alloc | apply pw_below_drewN | apply below_drew1)) hb)
  clear B_rb
  have B_rb := Z_
  clear Z_
  have Z_ := Aside0.mk (below_step (by repeat (first | exact HB.out | apply below_alloc | apply pw_below_drewN | apply below_drew1)) hb)
  clear HB
  have HB := Z_
  clear Z_
  clear hb
  have R_rB := Aside0.mk hC
  have C_rB := Aside0.mk hlo
  clear hC hlo
  have B_rB := Aside0.mk (Below.refl w113.heap.size w113)
  go_wp2_with fail
  with_reducible refine (driftnetref09_Equal.calls k _ _ rb _ _ rB _ _ (by repeat (first | exact (Kd.C_below R_rb.out B_rb.out) | (with_reducible refine Kd.C_alloc ?_ _) | (with_reducible refine Kd.C_drewN ?_ _) | (with_reducible refine Kd.C_drew ?_))) C_rb.out (by repeat (first | exact (Kd.C_below R_rB.out B_rB.out) | (with_reducible refine Kd.C_alloc ?_ _) | (with_reducible refine Kd.C_drewN ?_ _) | (with_reducible refine Kd.C_drew ?_))) C_rB.out He2.out).mono ?_
  rintro e w114 ⟨rfl, hb0⟩
  have hb := hb0.below
  clear hb0
  have Z_ := Aside0.mk (below_step (by repeat (first | exact B_a.out | apply below_alloc | apply pw_below_drewN | apply below_drew1)) hb)
  clear B_a
  have B_a := Z_
  clear Z_
  have Z_ := Aside0.mk (below_step (by repeat (first | exact B_b.out | apply below_alloc | apply pw_below_drewN | apply below_drew1)) hb)
  clear B_b
  have B_b := Z_
  clear Z_
  have Z_ := Aside0.mk (below_step (by repeat (first | exact B_x.out | apply below_alloc | apply pw_below_drewN | apply below_drew1)) hb)
  clear B_x
  have B_x := Z_
  clear Z_
  have Z_ := Aside0.mk (below_step (by repeat (first | exact B_y.out | apply below_alloc | apply pw_below_drewN | apply below_drew1)) hb)
  clear B_y
  have B_y := Z_
  clear Z_
  have Z_ := Aside0.mk (below_step (by repeat (first | exact B_bo.out | apply below_alloc | apply pw_below_drewN | apply below_drew1)) hb)
  clear B_bo
  have B_bo := Z_
  clear Z_
  have Z_ := Aside0.mk (below_step (by repeat (first | exact B_rb.out | apply below_alloc | apply pw_below_drewN | apply below_drew1)) hb)
  clear B_rb
  have B_rb := Z_
  clear Z_
  have Z_ := Aside0.mk (below_step (by repeat (first | exact B_rB.out | apply below_alloc | apply pw_below_drewN | apply below_drew1)) hb)
  clear B_rB
  have B_rB := Z_
  clear Z_
  have Z_ := Aside0.mk (below_step (by repeat (first | exact HB.out | apply below_alloc | apply pw_below_drewN | apply below_drew1)) hb)
  clear HB
  have HB := Z_
  clear Z_
  clear hb
  clear R_bo C_bo B_bo
  clear R_rb C_rb B_rb
  clear R_rB C_rB B_rB
  clear R_b C_b B_b
  go_wp2_with fail
  with_reducible refine (runes_Same.calls k _ _ x _ _ y _ _ (by repeat (first | exact (Kd.C_below R_x.out B_x.out) | (with_reducible refine Kd.C_alloc ?_ _) | (with_reducible refine Kd.C_drewN ?_ _) | (with_reducible refine Kd.C_drew ?_))) C_x.out (by repeat (first | exact (Kd.C_below R_y.out B_y.out) | (with_reducible refine Kd.C_alloc ?_ _) | (with_reducible refine Kd.C_drewN ?_ _) | (with_reducible refine Kd.C_drew ?_))) C_y.out Hs2.out).mono ?_
  rintro e w115 ⟨rfl, hb⟩
  have Z_ := Aside0.mk (below_step (by repeat (first | exact B_a.out | apply below_alloc | apply pw_below_drewN | apply below_drew1)) hb)
  clear B_a
  have B_a := Z_
  clear Z_
  have Z_ := Aside0.mk (below_step (by repeat (first | exact B_x.out | apply below_alloc | apply pw_below_drewN | apply below_drew1)) hb)
  clear B_x
  have B_x := Z_
  clear Z_
  have Z_ := Aside0.mk (below_step (by repeat (first | exact B_y.out | apply below_alloc | apply pw_below_drewN | apply below_drew1)) hb)
  clear B_y
  have B_y := Z_
  clear Z_
  have Z_ := Aside0.mk (below_step (by repeat (first | exact HB.out | apply below_alloc | apply pw_below_drewN | apply below_drew1)) hb)
  clear HB
  have HB := Z_
  clear Z_
  clear hb
  obtain rfl := HQ0.out
  go_wp2_with fail
  with_reducible refine (driftnetlaw09_ranges.calls k _ _ x _ _ (by repeat (first | exact (Kd.C_below R_x.out B_x.out) | (with_reducible refine Kd.C_alloc ?_ _) | (with_reducible refine Kd.C_drewN ?_ _) | (with_reducible refine Kd.C_drew ?_))) C_x.out Hrx.out).mono ?_
  rintro e w116 ⟨v, rfl, ho, hb⟩
  obtain ⟨A_rx, c_rx, rfl, hlo, hC⟩ := Kd.R_reads ho
  clear ho
  have Z_ := Aside0.mk (below_step (by repeat (first | exact B_a.out | apply below_alloc | apply pw_below_drewN | apply below_drew1)) hb)
  clear B_a
  have B_a := Z_
  clear Z_
  have Z_ := Aside0.mk (below_step (by repeat (first | exact B_x.out | apply below_alloc | apply pw_below_drewN | apply below_drew1)) hb)
  clear B_x
  have B_x := Z_
  clear Z_
  have Z_ := Aside0.mk (below_step (by repeat (first | exact B_y.out | apply below_alloc | apply pw_below_drewN | apply below_drew1)) hb)
  clear B_y
  have B_y := Z_
  clear Z_
  have Z_ := Aside0.mk (below_step (by repeat (first | exact HB.out | apply below_alloc | apply pw_below_drewN | apply below_drew1)) hb)
  clear HB
  have HB := Z_
  clear Z_
  clear hb
  have R_rx := Aside0.mk hC
  have C_rx := Aside0.mk hlo
  clear hC hlo
  have B_rx := Aside0.mk (Below.refl w116.heap.size w116)
  go_wp2_with fail
  with_reducible refine (driftnetref09_Equal.calls k _ _ rx _ _ a _ _ (by repeat (first | exact (Kd.C_below R_rx.out B_rx.out) | (with_reducible refine Kd.C_alloc ?_ _) | (with_reducible refine Kd.C_drewN ?_ _) | (with_reducible refine Kd.C_drew ?_))) C_rx.out (by repeat (first | exact (Kd.C_below R_a.out B_a.out) | (with_reducible refine Kd.C_alloc ?_ _) | (with_reducible refine Kd.C_drewN ?_ _) | (with_reducible refine Kd.C_drew ?_))) C_a.out He3.out).mono ?_
  rintro e w117 ⟨rfl, hb0⟩
  have hb := hb0.below
  clear hb0
  have Z_ := Aside0.mk (below_step (by repeat (first | exact B_a.out | apply below_alloc | apply pw_below_drewN | apply below_drew1)) hb)
  clear B_a
  have B_a := Z_
  clear Z_
  have Z_ := Aside0.mk (below_step (by repeat (first | exact B_x.out | apply below_alloc | apply pw_below_drewN | apply below_drew1)) hb)
  clear B_x
  have B_x := Z_
  clear Z_
  have Z_ := Aside0.mk (below_step (by repeat (first | exact B_y.out | apply below_alloc | apply pw_below_drewN | apply below_drew1)) hb)
  clear B_y
  have B_y := Z_
  clear Z_
  have Z_ := Aside0.mk (below_step (by repeat (first | exact B_rx.out | apply below_alloc | apply pw_below_drewN | apply below_drew1)) hb)
  clear B_rx
  have B_rx := Z_
  clear Z_
  have Z_ := Aside0.mk (below_step (by repeat (first | exact HB.out | apply below_alloc | apply pw_below_drewN | apply below_drew1)) hb)
  clear HB
  have HB := Z_
  clear Z_
  clear hb
  clear R_rx C_rx B_rx
  clear R_a C_a B_a
  clear R_x C_x B_x
  clear R_y C_y B_y
  go_wp2_with fail
  with_reducible refine (driftnetlaw09_awake.calls k _ _ He4.out).mono ?_
  rintro e w118 ⟨rfl, hb⟩
  have Z_ := Aside0.mk (below_step (by repeat (first | exact HB.out | apply below_alloc | apply pw_below_drewN | apply below_drew1)) hb)
  clear HB
  have HB := Z_
  clear Z_
  clear hb
  go_wp2_with fail
  go_ret
  exact ⟨rfl, by repeat (first | exact HB.out | apply below_alloc | apply pw_below_drewN | apply below_drew1)⟩
/-- THE ONE PURE STATEMENT of driftnetlaw09_RunesTwo. -/
def driftnetlaw09_RunesTwo.Pure : Prop := ∀ (l0 : List (S41)) (l1 : List (S41)), (l0.length * 16 ≤ 140737488351232 ∧ l0.length ≤ maxLen ∧ ∀ y ∈ l0, wf41 y) → (l1.length * 16 ≤ 140737488351232 ∧ l1.length ≤ maxLen ∧ ∀ y ∈ l1, wf41 y) → ∃ k, driftnetlaw09_RunesTwo.f k l0 l1 = some true
theorem driftnetlaw09_RunesTwo.walk (P : driftnetlaw09_RunesTwo.Pure) (A0 : Option Addr) (c0 : Nat) (l0 : List (S41)) (A1 : Option Addr) (c1 : Nat) (l1 : List (S41)) (w : World) (hr0 : Kd.C k41 w A0 l0.length l0) (hc0 : l0.length ≤ c0) (hr1 : Kd.C k41 w A1 l1.length l1) (hc1 : l1.length ≤ c1) (hw0 : l0.length * 16 ≤ 140737488351232 ∧ l0.length ≤ maxLen ∧ ∀ y ∈ l0, wf41 y) (hw1 : l1.length * 16 ≤ 140737488351232 ∧ l1.length ≤ maxLen ∧ ∀ y ∈ l1, wf41 y) :
    Calls Try.prog 4 #[.slice A0 l0.length c0, .slice A1 l1.length c1] w fun e w' => e = .returned (.bool true) ∧ Below w.heap.size w w' := by
  obtain ⟨k, h⟩ := P l0 l1 hw0 hw1
  refine (driftnetlaw09_RunesTwo.calls k _ _ l0 _ _ l1 true w hr0 hc0 hr1 hc1 h).mono ?_
  rintro e w' ⟨rfl, hd⟩
  exact ⟨rfl, hd⟩


end Go.Proofs.Ytoihjhpabccigaa.PR
