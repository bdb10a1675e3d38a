/- Written by a program of this session (wip/hand.py, over the kit's print): functions of the given program as plain Lean functions, and that the machine's calls come to what these say. -/
import Derived.Test.YtoihjhpabccigaaPN
import Derived.Test.YtoihjhpabccigaaHA
import Derived.Test.YtoihjhpabccigaaHL
import Derived.Test.YtoihjhpabccigaaPRx0
import Derived.Test.YtoihjhpabccigaaPRx3
import Derived.Test.YtoihjhpabccigaaPRx4
import Derived.Test.YtoihjhpabccigaaPRx6
import Derived.Test.YtoihjhpabccigaaPRx7
namespace Go.Proofs.Ytoihjhpabccigaa.PR
open Go.RowKit Go.Proofs.YtoihjhpabccigaaW.PrintWords Go.Proofs.YtoihjhpabccigaaW.PrintLast Go.Proofs.YtoihjhpabccigaaW.PrintMore
attribute [local go_sem] max2_int min2_int max_two min_two max_three min_three max_four min_four   -- for this text's walks alone
set_option linter.unusedVariables false
set_option linter.unusedSimpArgs false

/-! ### driftnetlaw09_RunesOnce: function 5 (by hand) -/
/-- A set's ranges from behind, each twice. -/
def backL (x : List S38) : List S38 := (x.reverse.map fun r => [r, r]).flatten
theorem backL_step (x : List S38) (n : Nat) (h : n < x.length) : backL (x.drop n) = backL (x.drop (n + 1)) ++ [rd_T38 x (n : Int), rd_T38 x (n : Int)] := by
  have e : rd_T38 x (n : Int) = x[n] := by
    unfold rd_T38
    rw [List.getD_eq_getElem?_getD, Int.toNat_natCast, List.getElem?_eq_getElem h]
    rfl
  unfold backL
  rw [e, List.drop_eq_getElem_cons h, List.reverse_cons, List.map_append, List.flatten_append]
  rfl
theorem backL_len (x : List S38) : (backL x).length = 2 * x.length := by
  unfold backL
  induction x with
  | nil => rfl
  | cons a r ih => rw [List.reverse_cons, List.map_append, List.flatten_append, List.length_append, ih]; simp; omega
def driftnetlaw09_RunesOnce.T8 : Bool × List (List Nat × List Nat) := (true, [([], []), ([], []), ([], []), ([1, 2], [1, 2]), ([3], [3]), ([], []), ([], []), ([5, 6], [5, 6]), ([7], [7]), ([4, 8], [4, 8]), ([0, 9], [0, 9]), ([10, 10, 0, 1, 2, 3, 4, 5, 6, 7, 8, 9, 10], [0, 10])])
def driftnetlaw09_RunesOnce.B8 : List Nat := [0, 0, 0, 6, 14, 0, 0, 96, 224, 510, 1023, 2047]
theorem driftnetlaw09_RunesOnce.tab8 : rtab .any (opsOf Try.f5 8) = driftnetlaw09_RunesOnce.T8 := by kernel_rfl
theorem driftnetlaw09_RunesOnce.bits8 : waitsOk driftnetlaw09_RunesOnce.T8.2 driftnetlaw09_RunesOnce.B8 = true := by kernel_rfl
def driftnetlaw09_RunesOnce.f (k : Nat) (l0 : List (S41)) (l1 : List (S41)) : Option Bool := (driftnetlaw09_set.f k (l0.take 15)).bind fun x => ((driftnetlaw09_set.f k (l1.take 15)).bind fun y => (if x.length ≤ 100 then ((runes_Of.f x).bind fun own => ((runes_Of.f (backL x)).bind fun ob => ((driftnetlaw09_ranges.f k ob).bind fun r1 => ((driftnetlaw09_ranges.f k own).bind fun r2 => ((driftnetref09_Equal.f k r1 r2).bind fun e1 => if e1 = true then ((runes_Of.f own).bind fun oo => ((driftnetlaw09_ranges.f k oo).bind fun r3 => ((driftnetref09_Equal.f k r3 r2).bind fun e2 => if e2 = true then ((runes_Set_Not.f k x).bind fun n1 => ((runes_Set_Not.f k n1).bind fun n2 => ((driftnetlaw09_ranges.f k n2).bind fun r5 => ((driftnetref09_Equal.f k r5 r2).bind fun e3 => if e3 = true then ((runes_Join.f [x, y]).bind fun j => ((runes_Set_Not.f k j).bind fun nj => ((driftnetlaw09_ranges.f k nj).bind fun r7 => ((runes_Set_Not.f k y).bind fun ny => ((runes_Both.f k n1 ny).bind fun bo => ((driftnetlaw09_ranges.f k bo).bind fun r8 => ((driftnetref09_Equal.f k r7 r8).bind fun e4 => if e4 = true then ((runes_Same.f k x own).bind fun e5 => if e5 = true then ((runes_Join.f [y, x]).bind fun j2 => ((runes_Same.f k j j2).bind fun e6 => if e6 = true then ((driftnetlaw09_awake.f k).bind fun e7 => if e7 = true then (some true) else none) else none)) else none) else none))))))) else none)))) else none))) else none))))) else none))
theorem driftnetlaw09_RunesOnce.mono : ∀ a0 a1 k, LeO (driftnetlaw09_RunesOnce.f k a0 a1) (driftnetlaw09_RunesOnce.f (k + 1) a0 a1) := by
  intro a0 a1 k
  unfold driftnetlaw09_RunesOnce.f
  repeat' first
      | (with_reducible exact driftnetlaw09_set.mono _ _)
      | (with_reducible exact driftnetlaw09_ranges.mono _ _)
      | (with_reducible exact driftnetref09_Equal.mono _ _ _)
      | (with_reducible exact runes_Set_Not.mono _ _)
      | (with_reducible exact runes_Both.mono _ _ _)
      | (with_reducible exact runes_Same.mono _ _ _)
      | (with_reducible exact driftnetlaw09_awake.mono _)
      | (with_reducible exact LeO.refl _)
      | (with_reducible exact LeO.none _)
      | (with_reducible refine LeO.ite ?_ ?_)
      | (with_reducible refine LeO.bind ?_ (fun _ => ?_))
      | exact driftnetlaw09_set.mono _ _
      | exact driftnetlaw09_ranges.mono _ _
      | exact driftnetref09_Equal.mono _ _ _
      | exact runes_Set_Not.mono _ _
      | exact runes_Both.mono _ _ _
      | exact runes_Same.mono _ _ _
      | exact driftnetlaw09_awake.mono _
      | exact LeO.refl _
      | exact LeO.none _
      | refine LeO.ite ?_ ?_
      | refine LeO.bind ?_ (fun _ => ?_)
set_option maxHeartbeats 6000000 in
set_option maxRecDepth 100000 in
theorem driftnetlaw09_RunesOnce.calls (k : Nat) (A0 : Option Addr) (c0 : Nat) (l0 : List (S41)) (A1 : Option Addr) (c1 : Nat) (l1 : List (S41)) (r : Bool) (w : World) (hrl0 : Kd.C k41 w A0 l0.length l0) (hcl0 : l0.length ≤ c0) (hrl1 : Kd.C k41 w A1 l1.length l1) (hcl1 : l1.length ≤ c1) (h : driftnetlaw09_RunesOnce.f k l0 l1 = some r) :
    Calls Try.prog 5 #[.slice A0 l0.length c0, .slice A1 l1.length c1] w fun e w' => e = .returned (.bool r) ∧ Below w.heap.size w w' := by
  unfold driftnetlaw09_RunesOnce.f at h
  obtain ⟨x, a_, h_⟩ := Option.bind_eq_some_iff.mp h
  clear h
  have h := h_
  clear h_
  have Hx := Aside0.mk a_
  clear a_
  obtain ⟨y, a_, h_⟩ := Option.bind_eq_some_iff.mp h
  clear h
  have h := h_
  clear h_
  have Hy := Aside0.mk a_
  clear a_
  by_cases hc_ : x.length ≤ 100
  rotate_left
  · rw [if_neg hc_] at h; cases h
  rw [if_pos hc_] at h
  have HQ0 := Aside0.mk hc_
  clear hc_
  obtain ⟨own, a_, h_⟩ := Option.bind_eq_some_iff.mp h
  clear h
  have h := h_
  clear h_
  have Hown := Aside0.mk a_
  clear a_
  obtain ⟨ob, a_, h_⟩ := Option.bind_eq_some_iff.mp h
  clear h
  have h := h_
  clear h_
  have Hob := Aside0.mk a_
  clear a_
  obtain ⟨r1, a_, h_⟩ := Option.bind_eq_some_iff.mp h
  clear h
  have h := h_
  clear h_
  have Hr1 := Aside0.mk a_
  clear a_
  obtain ⟨r2, a_, h_⟩ := Option.bind_eq_some_iff.mp h
  clear h
  have h := h_
  clear h_
  have Hr2 := Aside0.mk a_
  clear a_
  obtain ⟨e1, a_, h_⟩ := Option.bind_eq_some_iff.mp h
  clear h
  have h := h_
  clear h_
  have He1 := Aside0.mk a_
  clear a_
  by_cases hc_ : e1 = true
  rotate_left
  · rw [if_neg hc_] at h; cases h
  rw [if_pos hc_] at h
  rw [hc_] at He1
  clear hc_
  obtain ⟨oo, a_, h_⟩ := Option.bind_eq_some_iff.mp h
  clear h
  have h := h_
  clear h_
  have Hoo := Aside0.mk a_
  clear a_
  obtain ⟨r3, a_, h_⟩ := Option.bind_eq_some_iff.mp h
  clear h
  have h := h_
  clear h_
  have Hr3 := Aside0.mk a_
  clear a_
  obtain ⟨e2, a_, h_⟩ := Option.bind_eq_some_iff.mp h
  clear h
  have h := h_
  clear h_
  have He2 := Aside0.mk a_
  clear a_
  by_cases hc_ : e2 = true
  rotate_left
  · rw [if_neg hc_] at h; cases h
  rw [if_pos hc_] at h
  rw [hc_] at He2
  clear hc_
  obtain ⟨n1, a_, h_⟩ := Option.bind_eq_some_iff.mp h
  clear h
  have h := h_
  clear h_
  have Hn1 := Aside0.mk a_
  clear a_
  obtain ⟨n2, a_, h_⟩ := Option.bind_eq_some_iff.mp h
  clear h
  have h := h_
  clear h_
  have Hn2 := Aside0.mk a_
  clear a_
  obtain ⟨r5, a_, h_⟩ := Option.bind_eq_some_iff.mp h
  clear h
  have h := h_
  clear h_
  have Hr5 := Aside0.mk a_
  clear a_
  obtain ⟨e3, a_, h_⟩ := Option.bind_eq_some_iff.mp h
  clear h
  have h := h_
  clear h_
  have He3 := Aside0.mk a_
  clear a_
  by_cases hc_ : e3 = true
  rotate_left
  · rw [if_neg hc_] at h; cases h
  rw [if_pos hc_] at h
  rw [hc_] at He3
  clear hc_
  obtain ⟨j, a_, h_⟩ := Option.bind_eq_some_iff.mp h
  clear h
  have h := h_
  clear h_
  have Hj := Aside0.mk a_
  clear a_
  obtain ⟨nj, a_, h_⟩ := Option.bind_eq_some_iff.mp h
  clear h
  have h := h_
  clear h_
  have Hnj := Aside0.mk a_
  clear a_
  obtain ⟨r7, a_, h_⟩ := Option.bind_eq_some_iff.mp h
  clear h
  have h := h_
  clear h_
  have Hr7 := Aside0.mk a_
  clear a_
  obtain ⟨ny, a_, h_⟩ := Option.bind_eq_some_iff.mp h
  clear h
  have h := h_
  clear h_
  have Hny := Aside0.mk a_
  clear a_
  obtain ⟨bo, a_, h_⟩ := Option.bind_eq_some_iff.mp h
  clear h
  have h := h_
  clear h_
  have Hbo := Aside0.mk a_
  clear a_
  obtain ⟨r8, a_, h_⟩ := Option.bind_eq_some_iff.mp h
  clear h
  have h := h_
  clear h_
  have Hr8 := Aside0.mk a_
  clear a_
  obtain ⟨e4, a_, h_⟩ := Option.bind_eq_some_iff.mp h
  clear h
  have h := h_
  clear h_
  have He4 := Aside0.mk a_
  clear a_
  by_cases hc_ : e4 = true
  rotate_left
  · rw [if_neg hc_] at h; cases h
  rw [if_pos hc_] at h
  rw [hc_] at He4
  clear hc_
  obtain ⟨e5, a_, h_⟩ := Option.bind_eq_some_iff.mp h
  clear h
  have h := h_
  clear h_
  have He5 := Aside0.mk a_
  clear a_
  by_cases hc_ : e5 = true
  rotate_left
  · rw [if_neg hc_] at h; cases h
  rw [if_pos hc_] at h
  rw [hc_] at He5
  clear hc_
  obtain ⟨j2, a_, h_⟩ := Option.bind_eq_some_iff.mp h
  clear h
  have h := h_
  clear h_
  have Hj2 := Aside0.mk a_
  clear a_
  obtain ⟨e6, a_, h_⟩ := Option.bind_eq_some_iff.mp h
  clear h
  have h := h_
  clear h_
  have He6 := Aside0.mk a_
  clear a_
  by_cases hc_ : e6 = true
  rotate_left
  · rw [if_neg hc_] at h; cases h
  rw [if_pos hc_] at h
  rw [hc_] at He6
  clear hc_
  obtain ⟨e7, a_, h_⟩ := Option.bind_eq_some_iff.mp h
  clear h
  have h := h_
  clear h_
  have He7 := Aside0.mk a_
  clear a_
  by_cases hc_ : e7 = true
  rotate_left
  · rw [if_neg hc_] at h; cases h
  rw [if_pos hc_] at h
  rw [hc_] at He7
  clear hc_
  obtain rfl := Option.some.inj h
  clear h
  have R_l0 := Aside0.mk hrl0
  have C_l0 := Aside0.mk hcl0
  clear hrl0 hcl0
  have B_l0 := Aside0.mk (Below.refl w.heap.size w)
  have R_l1 := Aside0.mk hrl1
  have C_l1 := Aside0.mk hcl1
  clear hrl1 hcl1
  have B_l1 := Aside0.mk (Below.refl w.heap.size w)
  have HB := Aside0.mk (Below.refl w.heap.size w)
  obtain ⟨m_l0, hm_l0⟩ : ∃ m_ : Int, (if 15 < (l0.length : Int) then 15 else (l0.length : Int)) = m_ := ⟨_, rfl⟩
  have q0_l0 : 0 ≤ m_l0 := by rw [← hm_l0]; split <;> omega
  have q1_l0 : m_l0 ≤ (l0.length : Int) := by rw [← hm_l0]; split <;> omega
  have q2_l0 : l0.take m_l0.toNat = l0.take 15 := by
    rw [← hm_l0]
    split
    · rfl
    · rw [Int.toNat_natCast, List.take_of_length_le (Nat.le_refl _), List.take_of_length_le (by omega)]
  obtain ⟨i_l0, hi_l0, _, _, _⟩ := info_parts info41
  have hcut_l0 := cut_to (P := Try.prog) 22 41 .i64 Try.underlying22 hi_l0 A0 l0.length c0 m_l0 q0_l0 q1_l0 C_l0.out
  have hr_l0 := Kd.C_take (m := m_l0.toNat) R_l0.out (by omega)
  have hl_l0 : (l0.take m_l0.toNat).length = m_l0.toNat := by rw [List.length_take]; omega
  rw [← hl_l0] at hcut_l0
  rw [q2_l0] at hr_l0 hcut_l0
  have hc_l0 : (l0.take 15).length ≤ c0 := by have := C_l0.out; rw [List.length_take]; omega
  obtain ⟨a, hy_l0⟩ : ∃ y_, y_ = l0.take 15 := ⟨_, rfl⟩
  rw [← hy_l0] at hr_l0 hcut_l0 hc_l0
  have R_a := Aside0.mk hr_l0
  have C_a := Aside0.mk hc_l0
  have Y_a := Aside0.mk hy_l0
  clear hr_l0 hc_l0 hy_l0 q2_l0 hl_l0 hi_l0
  obtain ⟨m_l1, hm_l1⟩ : ∃ m_ : Int, (if 15 < (l1.length : Int) then 15 else (l1.length : Int)) = m_ := ⟨_, rfl⟩
  have q0_l1 : 0 ≤ m_l1 := by rw [← hm_l1]; split <;> omega
  have q1_l1 : m_l1 ≤ (l1.length : Int) := by rw [← hm_l1]; split <;> omega
  have q2_l1 : l1.take m_l1.toNat = l1.take 15 := by
    rw [← hm_l1]
    split
    · rfl
    · rw [Int.toNat_natCast, List.take_of_length_le (Nat.le_refl _), List.take_of_length_le (by omega)]
  obtain ⟨i_l1, hi_l1, _, _, _⟩ := info_parts info41
  have hcut_l1 := cut_to (P := Try.prog) 22 41 .i64 Try.underlying22 hi_l1 A1 l1.length c1 m_l1 q0_l1 q1_l1 C_l1.out
  have hr_l1 := Kd.C_take (m := m_l1.toNat) R_l1.out (by omega)
  have hl_l1 : (l1.take m_l1.toNat).length = m_l1.toNat := by rw [List.length_take]; omega
  rw [← hl_l1] at hcut_l1
  rw [q2_l1] at hr_l1 hcut_l1
  have hc_l1 : (l1.take 15).length ≤ c1 := by have := C_l1.out; rw [List.length_take]; omega
  obtain ⟨b, hy_l1⟩ : ∃ y_, y_ = l1.take 15 := ⟨_, rfl⟩
  rw [← hy_l1] at hr_l1 hcut_l1 hc_l1
  have R_b := Aside0.mk hr_l1
  have C_b := Aside0.mk hc_l1
  have Y_b := Aside0.mk hy_l1
  clear hr_l1 hc_l1 hy_l1 q2_l1 hl_l1 hi_l1
  simp only [← Y_a.out, ← Y_b.out] at Hx Hy
  go_enter Try.func5, Try.ntmps5
  go_wp2_with fail
  go_quiet (fail)
  obtain ⟨w100, hw100⟩ : ∃ w_, w_ = w.drewN nq := ⟨_, rfl⟩
  rw [← hw100]
  have hb : Below w.heap.size w w100 := by rw [hw100]; exact pw_below_drewN (Below.refl _ _) _
  clear hw100
  have B_a := Aside0.mk (Below.refl w.heap.size w)
  have B_b := Aside0.mk (Below.refl w.heap.size w)
  have Z_ := Aside0.mk (below_step (by repeat (first | exact B_l0.out | apply below_alloc | apply pw_below_drewN | apply below_drew1)) hb)
  clear B_l0
  have B_l0 := Z_
  clear Z_
  have Z_ := Aside0.mk (below_step (by repeat (first | exact B_l1.out | apply below_alloc | apply pw_below_drewN | apply below_drew1)) hb)
  clear B_l1
  have B_l1 := Z_
  clear Z_
  have Z_ := Aside0.mk (below_step (by repeat (first | exact B_a.out | apply below_alloc | apply pw_below_drewN | apply below_drew1)) hb)
  clear B_a
  have B_a := Z_
  clear Z_
  have Z_ := Aside0.mk (below_step (by repeat (first | exact B_b.out | apply below_alloc | apply pw_below_drewN | apply below_drew1)) hb)
  clear B_b
  have B_b := Z_
  clear Z_
  have Z_ := Aside0.mk (below_step (by repeat (first | exact HB.out | apply below_alloc | apply pw_below_drewN | apply below_drew1)) hb)
  clear HB
  have HB := Z_
  clear Z_
  clear hb
  clear R_l0 C_l0 B_l0
  clear R_l1 C_l1 B_l1
  clear hcut_l0 hcut_l1 q0_l0 q1_l0 q0_l1 q1_l1 hm_l0 hm_l1
  go_wp2_with fail
  with_reducible refine (driftnetlaw09_set.calls k _ _ a _ _ (by repeat (first | exact (Kd.C_below R_a.out B_a.out) | (with_reducible refine Kd.C_alloc ?_ _) | (with_reducible refine Kd.C_drewN ?_ _) | (with_reducible refine Kd.C_drew ?_))) C_a.out Hx.out).mono ?_
  rintro e w101 ⟨v, rfl, ho, hb⟩
  obtain ⟨A_x, c_x, rfl, hlo, hC⟩ := Kd.R_reads ho
  clear ho
  have Z_ := Aside0.mk (below_step (by repeat (first | exact B_a.out | apply below_alloc | apply pw_below_drewN | apply below_drew1)) hb)
  clear B_a
  have B_a := Z_
  clear Z_
  have Z_ := Aside0.mk (below_step (by repeat (first | exact B_b.out | apply below_alloc | apply pw_below_drewN | apply below_drew1)) hb)
  clear B_b
  have B_b := Z_
  clear Z_
  have Z_ := Aside0.mk (below_step (by repeat (first | exact HB.out | apply below_alloc | apply pw_below_drewN | apply below_drew1)) hb)
  clear HB
  have HB := Z_
  clear Z_
  clear hb
  have R_x := Aside0.mk hC
  have C_x := Aside0.mk hlo
  clear hC hlo
  have B_x := Aside0.mk (Below.refl w101.heap.size w101)
  go_wp2_with fail
  with_reducible refine (driftnetlaw09_set.calls k _ _ b _ _ (by repeat (first | exact (Kd.C_below R_b.out B_b.out) | (with_reducible refine Kd.C_alloc ?_ _) | (with_reducible refine Kd.C_drewN ?_ _) | (with_reducible refine Kd.C_drew ?_))) C_b.out Hy.out).mono ?_
  rintro e w102 ⟨v, rfl, ho, hb⟩
  obtain ⟨A_y, c_y, rfl, hlo, hC⟩ := Kd.R_reads ho
  clear ho
  have Z_ := Aside0.mk (below_step (by repeat (first | exact B_a.out | apply below_alloc | apply pw_below_drewN | apply below_drew1)) hb)
  clear B_a
  have B_a := Z_
  clear Z_
  have Z_ := Aside0.mk (below_step (by repeat (first | exact B_b.out | apply below_alloc | apply pw_below_drewN | apply below_drew1)) hb)
  clear B_b
  have B_b := Z_
  clear Z_
  have Z_ := Aside0.mk (below_step (by repeat (first | exact B_x.out | apply below_alloc | apply pw_below_drewN | apply below_drew1)) hb)
  clear B_x
  have B_x := Z_
  clear Z_
  have Z_ := Aside0.mk (below_step (by repeat (first | exact HB.out | apply below_alloc | apply pw_below_drewN | apply below_drew1)) hb)
  clear HB
  have HB := Z_
  clear Z_
  clear hb
  have R_y := Aside0.mk hC
  have C_y := Aside0.mk hlo
  clear hC hlo
  have B_y := Aside0.mk (Below.refl w102.heap.size w102)
  clear R_a C_a B_a
  clear R_b C_b B_b
  go_wp2_with fail
  with_reducible refine (runes_Of.calls _ _ x _ _ (by repeat (first | exact (Kd.C_below R_x.out B_x.out) | (with_reducible refine Kd.C_alloc ?_ _) | (with_reducible refine Kd.C_drewN ?_ _) | (with_reducible refine Kd.C_drew ?_))) C_x.out Hown.out).mono ?_
  rintro e w103 ⟨v, rfl, ho, hb⟩
  obtain ⟨A_own, c_own, rfl, hlo, hC⟩ := Kd.R_reads ho
  clear ho
  have Z_ := Aside0.mk (below_step (by repeat (first | exact B_x.out | apply below_alloc | apply pw_below_drewN | apply below_drew1)) hb)
  clear B_x
  have B_x := Z_
  clear Z_
  have Z_ := Aside0.mk (below_step (by repeat (first | exact B_y.out | apply below_alloc | apply pw_below_drewN | apply below_drew1)) hb)
  clear B_y
  have B_y := Z_
  clear Z_
  have Z_ := Aside0.mk (below_step (by repeat (first | exact HB.out | apply below_alloc | apply pw_below_drewN | apply below_drew1)) hb)
  clear HB
  have HB := Z_
  clear Z_
  clear hb
  have R_own := Aside0.mk hC
  have C_own := Aside0.mk hlo
  clear hC hlo
  have B_own := Aside0.mk (Below.refl w103.heap.size w103)
  have hxl := HQ0.out
  have X0 := Aside0.mk (Kd.C_below R_x.out B_x.out)
  go_wp2_with fail
  go_loopw [8, 9] (fun v i wr => ∃ (m : Nat) (jj : Int), m ≤ x.length ∧ jj = (m : Int) - 1 ∧ i = .int .i64 jj ∧ Aside0 (Kd.R k38 38 wr w103.heap.size (fun _ => True) v (backL (x.drop m))) ∧ Aside0 (Below w103.heap.size w103 wr)) (fun _ i _ => (intOf i + 1).toNat)
  case atStart => exact ⟨x.length, _, Nat.le_refl _, rfl, rfl, ⟨by rw [List.drop_length]; exact Kd.R_nil _ _ _ _ _⟩, ⟨Below.refl _ _⟩⟩
  case round =>
    obtain ⟨m, jj, hk, hj, rfl, HO, HB2⟩ := hrel
    rcases Nat.eq_zero_or_pos m with hm | hm
    rotate_left
    · obtain ⟨q, rfl⟩ : ∃ q, m = q + 1 := ⟨m - 1, by omega⟩
      obtain rfl : jj = (q : Int) := by omega
      have hq0 : (0 : Int) ≤ (q : Int) := by omega
      have hq1 : (q : Int) < (x.length : Int) := by omega
      have hqb : (q : Int) ≤ 100 := by omega
      obtain ⟨ad, hax, hy0, hy1⟩ := at_T38 X0.out (q : Int) hq0 hq1
      rw [show ((q : Int)).toNat = q from rfl] at hy0 hy1
      have HS := Aside0.mk (backL_step x q (by omega))
      have HLN : Aside0 ((backL (x.drop (q + 1))).length ≤ 200) := ⟨by rw [backL_len, List.length_drop]; omega⟩
      obtain ⟨z, hz⟩ : ∃ z, z = rd_T38 x (q : Int) := ⟨_, rfl⟩
      rw [← hz] at hy0 hy1 HS
      have hx0 := pw_cell_below HB2.out hy0
      have hx1 := pw_cell_below HB2.out hy1
      have HAX := Aside0.mk hax
      clear hz hm hj hk hax
      have HAXE := HAX.out
      subst HAXE
      try go_wp2
      have HO6 := Aside0.mk (Kd.R_drew HO.out)
      have HB6 := Aside0.mk (below_drew1 HB2.out)
      clear HO HB2
      have hx0 : wr.drew.cell? (ad.add (q * 2)) = some (.int .i64 z.f0) := hx0
      have hx1 : wr.drew.cell? ⟨(ad.add (q * 2)).block, (ad.add (q * 2)).off + 1, none⟩ = some (.int .i64 z.f1) := hx1
      refine start_ (n := 12) (S := fun w' => w'.cell? (ad.add (q * 2)) = some (.int .i64 z.f0) ∧ w'.cell? ⟨(ad.add (q * 2)).block, (ad.add (q * 2)).off + 1, none⟩ = some (.int .i64 z.f1)) (ds := []) #[false, false, false, false, false, false, false, false, false, false, false, false] (by kernel_rfl) rfl rfl ⟨hx0, hx1⟩ (fun hHeld => ?_); refine with_tabW driftnetlaw09_RunesOnce.tab8 driftnetlaw09_RunesOnce.bits8 (fun HT_ HW_ => ?_)
      generalize wr.drew = w6 at HO6 HB6 hHeld hx0 hx1 ⊢
      refine pure_ (i := 0) (N := some 35) (v := ?_) (a' := ?_) #[true, false, false, false, false, false, false, false, false, false, false, false] rfl rfl (any_of HT_.out (by kernel_rfl)) (fun _ _ _ h => h) (Or.inl ⟨by rfl, ?_⟩) ?_ ?_
      rotate_left
      · intro w'
        go_simp
        with_reducible rfl
      rotate_left
      · simp only [Act.put, List.setIfInBounds_toArray, List.set_cons_zero, List.set_cons_succ, i64_w, i32_w]
        rfl
      refine pure_ (i := 1) (N := some 36) (v := ?_) (a' := ?_) #[true, true, false, false, false, false, false, false, false, false, false, false] rfl rfl (any_of HT_.out (by kernel_rfl)) (fun _ _ _ h => h) (Or.inl ⟨by rfl, ?_⟩) ?_ ?_
      rotate_left
      · intro w'
        go_simp
        with_reducible rfl
      rotate_left
      · simp only [Act.put, List.setIfInBounds_toArray, List.set_cons_zero, List.set_cons_succ, i64_w, i32_w]
        rfl
      refine pure_ (i := 2) (N := some 37) (v := ?_) (a' := ?_) #[true, true, true, false, false, false, false, false, false, false, false, false] rfl rfl (any_of HT_.out (by kernel_rfl)) (fun _ _ _ h => h) (Or.inl ⟨by rfl, ?_⟩) ?_ ?_
      rotate_left
      · intro w'
        go_simp
        with_reducible rfl
      rotate_left
      · simp only [Act.put, List.setIfInBounds_toArray, List.set_cons_zero, List.set_cons_succ, i64_w, i32_w]
        rfl
      refine pure_ (i := 5) (N := some 40) (v := ?_) (a' := ?_) #[true, true, true, false, false, true, false, false, false, false, false, false] rfl rfl (any_of HT_.out (by kernel_rfl)) (fun _ _ _ h => h) (Or.inl ⟨by rfl, ?_⟩) ?_ ?_
      rotate_left
      · intro w'
        go_simp
        with_reducible rfl
      rotate_left
      · simp only [Act.put, List.setIfInBounds_toArray, List.set_cons_zero, List.set_cons_succ, i64_w, i32_w]
        rfl
      refine pure_ (i := 6) (N := some 41) (v := ?_) (a' := ?_) #[true, true, true, false, false, true, true, false, false, false, false, false] rfl rfl (any_of HT_.out (by kernel_rfl)) (fun _ _ _ h => h) (Or.inl ⟨by rfl, ?_⟩) ?_ ?_
      rotate_left
      · intro w'
        go_simp
        with_reducible rfl
      rotate_left
      · simp only [Act.put, List.setIfInBounds_toArray, List.set_cons_zero, List.set_cons_succ, i64_w, i32_w]
        rfl
      refine pure_ (i := 3) (N := some 38) (v := ?_) (a' := ?_) #[true, true, true, true, false, true, true, false, false, false, false, false] rfl rfl (any_of HT_.out (by kernel_rfl)) (fun _ _ _ h => h) (Or.inl ⟨by rfl, ?_⟩) ?_ ?_
      rotate_left
      · intro w'
        go_simp
        with_reducible rfl
      rotate_left
      · simp only [Act.put, List.setIfInBounds_toArray, List.set_cons_zero, List.set_cons_succ, i64_w, i32_w]
        rfl
      refine pure_ (i := 7) (N := some 42) (v := ?_) (a' := ?_) #[true, true, true, true, false, true, true, true, false, false, false, false] rfl rfl (any_of HT_.out (by kernel_rfl)) (fun _ _ _ h => h) (Or.inl ⟨by rfl, ?_⟩) ?_ ?_
      rotate_left
      · intro w'
        go_simp
        with_reducible rfl
      rotate_left
      · simp only [Act.put, List.setIfInBounds_toArray, List.set_cons_zero, List.set_cons_succ, i64_w, i32_w]
        rfl
      refine take_ (i := 4) (N := some 39) (v := ?_) (a' := ?_) #[true, true, true, true, true, true, true, true, false, false, false, false] rfl rfl (take_ofW HT_.out HW_.out (by kernel_rfl)) (fun _ _ _ h => h) (Or.inl ⟨by rfl, ?_⟩) hHeld ?_ ?_
      rotate_left
      · rintro w' ⟨s0, s1⟩
        go_simp
        with_reducible rfl
      rotate_left
      · simp only [Act.put, List.setIfInBounds_toArray, List.set_cons_zero, List.set_cons_succ, i64_w, i32_w]
        rfl
      refine take_ (i := 8) (N := some 43) (v := ?_) (a' := ?_) #[true, true, true, true, true, true, true, true, true, false, false, false] rfl rfl (take_ofW HT_.out HW_.out (by kernel_rfl)) (fun _ _ _ h => h) (Or.inl ⟨by rfl, ?_⟩) hHeld ?_ ?_
      rotate_left
      · rintro w' ⟨s0, s1⟩
        go_simp
        with_reducible rfl
      rotate_left
      · simp only [Act.put, List.setIfInBounds_toArray, List.set_cons_zero, List.set_cons_succ, i64_w, i32_w]
        rfl
      refine one_ (i := 9) (N := some 44) #[true, true, true, true, true, true, true, true, true, true, false, false] rfl rfl (one_of HT_.out (by kernel_rfl)) (by decide) (fun K hK => ?_)
      refine value_ (w1 := ?_) (v := ?_) (by rfl) rfl ?_ ?_
      rotate_left 2
      · go_simp
        constructor
        · rfl
        · rfl
      refine hK.out _ _ ⟨(World.cell?_alloc_lt _ _ _ (World.block_lt_of_cell? _ _ hx0)).trans hx0, (World.cell?_alloc_lt _ _ _ (World.block_lt_of_cell? _ _ hx1)).trans hx1⟩ (fun hHeld => ?_)
      clear hK K
      refine norm_ (a' := ?_) ?_ ?_
      rotate_left
      · show Act.put _ (some 44) _ = _
        simp only [Act.put, List.setIfInBounds_toArray, List.set_cons_zero, List.set_cons_succ, i64_w, i32_w]
        rfl
      refine one_ (i := 10) (N := some 45) #[true, true, true, true, true, true, true, true, true, true, true, false] rfl rfl (one_of HT_.out (by kernel_rfl)) (by decide) (fun K hK => ?_)
      refine Kd.R_append_rows_step k38 (Rr := k38.K (w6.alloc (.cells #[.int .i64 z.f0, .int .i64 z.f1, .int .i64 z.f0, .int .i64 z.f1] 38))) (w0 := w103) w103.heap.size (by rfl) (.tmp 35) (.tmp 44) 24 38 (.agg #[.int .i64 0, .int .i64 0]) 16 rfl Try.underlying24 info38 rfl (by decide) (by omega) u8 (backL (x.drop (q + 1))) [⟨z.f0, z.f1⟩, ⟨z.f0, z.f1⟩] (some ⟨w6.heap.size, 0, none⟩) 2 2 (fun _ => True) (fun _ => False) rfl rfl ?aO ?aR ?aK (fun _ h => h.elim) ?aF ?aB ?aS ?aL ?_
      (case aO => exact Kd.R_alloc HO6.out _)
      (case aR => exact OF.C_s2 _ _ _ _ w6)
      (case aK => exact fun x cs h => by rw [k38_open h]; exact k38_mkM _ _ _ _)
      (case aF => exact fun _ _ => trivial)
      (case aB => exact below_alloc HB6.out _)
      (case aS => exact below_size (below_alloc HB6.out _))
      (case aL => have := HLN.out; omega)
      intro v1 w1 ho hb hg hat
      have HO1 := Aside0.mk ho
      have HB1 := Aside0.mk hb
      clear ho hb hat
      refine hK.out _ _ ?hS (fun hHeld => ?_)
      (case hS => exact ⟨pw_cell_below HB1.out hy0, pw_cell_below HB1.out hy1⟩)
      clear hK K hg
      refine norm_ (a' := ?_) ?_ ?_
      rotate_left
      · show Act.put _ (some 45) _ = _
        simp only [Act.put, List.setIfInBounds_toArray, List.set_cons_zero, List.set_cons_succ, i64_w, i32_w]
        rfl
      refine pure_ (i := 11) (N := some 8) (v := ?_) (a' := ?_) #[true, true, true, true, true, true, true, true, true, true, true, true] rfl rfl (any_of HT_.out (by kernel_rfl)) (fun _ _ _ h => h) (Or.inl ⟨by rfl, ?_⟩) ?_ ?_
      rotate_left
      · intro w'
        go_simp
        with_reducible rfl
      rotate_left
      · simp only [Act.put, List.setIfInBounds_toArray, List.set_cons_zero, List.set_cons_succ, i64_w, i32_w]
        rfl
      refine done_ (done_of HT_.out (by kernel_rfl)) ?_
      try go_wp2
      go_roundw
      case rel => exact ⟨q, (q : Int) - 1, by omega, rfl, rfl, ⟨by rw [HS.out]; exact HO1.out⟩, HB1⟩
      case measure => simp [intOf]
    · subst hm
      have hjn : ¬ (0 ≤ jj) := by omega
      rw [List.drop_zero] at HO
      go_wp2_with fail
      obtain ⟨A_bk, c_bk, rfl, hlo, hC⟩ := Kd.R_reads HO.out
      obtain ⟨bk, hbk⟩ : ∃ bk, bk = backL x := ⟨_, rfl⟩
      rw [← hbk] at hlo hC Hob HO
      rw [← hbk]
      have hb := HB2.out
      clear hk hj hbk hxl hjn
      have Z_ := Aside0.mk (below_step (by repeat (first | exact B_x.out | apply below_alloc | apply pw_below_drewN | apply below_drew1)) hb)
      clear B_x
      have B_x := Z_
      clear Z_
      have Z_ := Aside0.mk (below_step (by repeat (first | exact B_y.out | apply below_alloc | apply pw_below_drewN | apply below_drew1)) hb)
      clear B_y
      have B_y := Z_
      clear Z_
      have Z_ := Aside0.mk (below_step (by repeat (first | exact B_own.out | apply below_alloc | apply pw_below_drewN | apply below_drew1)) hb)
      clear B_own
      have B_own := Z_
      clear Z_
      have Z_ := Aside0.mk (below_step (by repeat (first | exact HB.out | apply below_alloc | apply pw_below_drewN | apply below_drew1)) hb)
      clear HB
      have HB := Z_
      clear Z_
      clear hb
      have R_bk := Aside0.mk hC
      have C_bk := Aside0.mk hlo
      clear hC hlo HO HB2
      have B_bk := Aside0.mk (Below.refl wr.heap.size wr)
      go_wp2_with fail
      with_reducible refine (runes_Of.calls _ _ bk _ _ (by repeat (first | exact (Kd.C_below R_bk.out B_bk.out) | (with_reducible refine Kd.C_alloc ?_ _) | (with_reducible refine Kd.C_drewN ?_ _) | (with_reducible refine Kd.C_drew ?_))) C_bk.out Hob.out).mono ?_
      rintro e w105 ⟨v, rfl, ho, hb⟩
      obtain ⟨A_ob, c_ob, rfl, hlo, hC⟩ := Kd.R_reads ho
      clear ho
      have Z_ := Aside0.mk (below_step (by repeat (first | exact B_x.out | apply below_alloc | apply pw_below_drewN | apply below_drew1)) hb)
      clear B_x
      have B_x := Z_
      clear Z_
      have Z_ := Aside0.mk (below_step (by repeat (first | exact B_y.out | apply below_alloc | apply pw_below_drewN | apply below_drew1)) hb)
      clear B_y
      have B_y := Z_
      clear Z_
      have Z_ := Aside0.mk (below_step (by repeat (first | exact B_own.out | apply below_alloc | apply pw_below_drewN | apply below_drew1)) hb)
      clear B_own
      have B_own := Z_
      clear Z_
      have Z_ := Aside0.mk (below_step (by repeat (first | exact B_bk.out | apply below_alloc | apply pw_below_drewN | apply below_drew1)) hb)
      clear B_bk
      have B_bk := Z_
      clear Z_
      have Z_ := Aside0.mk (below_step (by repeat (first | exact HB.out | apply below_alloc | apply pw_below_drewN | apply below_drew1)) hb)
      clear HB
      have HB := Z_
      clear Z_
      clear hb
      have R_ob := Aside0.mk hC
      have C_ob := Aside0.mk hlo
      clear hC hlo
      have B_ob := Aside0.mk (Below.refl w105.heap.size w105)
      go_wp2_with fail
      with_reducible refine (driftnetlaw09_ranges.calls k _ _ ob _ _ (by repeat (first | exact (Kd.C_below R_ob.out B_ob.out) | (with_reducible refine Kd.C_alloc ?_ _) | (with_reducible refine Kd.C_drewN ?_ _) | (with_reducible refine Kd.C_drew ?_))) C_ob.out Hr1.out).mono ?_
      rintro e w106 ⟨v, rfl, ho, hb⟩
      obtain ⟨A_r1, c_r1, rfl, hlo, hC⟩ := Kd.R_reads ho
      clear ho
      have Z_ := Aside0.mk (below_step (by repeat (first | exact B_x.out | apply below_alloc | apply pw_below_drewN | apply below_drew1)) hb)
      clear B_x
      have B_x := Z_
      clear Z_
      have Z_ := Aside0.mk (below_step (by repeat (first | exact B_y.out | apply below_alloc | apply pw_below_drewN | apply below_drew1)) hb)
      clear B_y
      have B_y := Z_
      clear Z_
      have Z_ := Aside0.mk (below_step (by repeat (first | exact B_own.out | apply below_alloc | apply pw_below_drewN | apply below_drew1)) hb)
      clear B_own
      have B_own := Z_
      clear Z_
      have Z_ := Aside0.mk (below_step (by repeat (first | exact B_bk.out | apply below_alloc | apply pw_below_drewN | apply below_drew1)) hb)
      clear B_bk
      have B_bk := Z_
      clear Z_
      have Z_ := Aside0.mk (below_step (by repeat (first | exact B_ob.out | apply below_alloc | apply pw_below_drewN | apply below_drew1)) hb)
      clear B_ob
      have B_ob := Z_
      clear Z_
      have Z_ := Aside0.mk (below_step (by repeat (first | exact HB.out | apply below_alloc | apply pw_below_drewN | apply below_drew1)) hb)
      clear HB
      have HB := Z_
      clear Z_
      clear hb
      have R_r1 := Aside0.mk hC
      have C_r1 := Aside0.mk hlo
      clear hC hlo
      have B_r1 := Aside0.mk (Below.refl w106.heap.size w106)
      go_wp2_with fail
      with_reducible refine (driftnetlaw09_ranges.calls k _ _ own _ _ (by repeat (first | exact (Kd.C_below R_own.out B_own.out) | (with_reducible refine Kd.C_alloc ?_ _) | (with_reducible refine Kd.C_drewN ?_ _) | (with_reducible refine Kd.C_drew ?_))) C_own.out Hr2.out).mono ?_
      rintro e w107 ⟨v, rfl, ho, hb⟩
      obtain ⟨A_r2, c_r2, rfl, hlo, hC⟩ := Kd.R_reads ho
      clear ho
      have Z_ := Aside0.mk (below_step (by repeat (first | exact B_x.out | apply below_alloc | apply pw_below_drewN | apply below_drew1)) hb)
      clear B_x
      have B_x := Z_
      clear Z_
      have Z_ := Aside0.mk (below_step (by repeat (first | exact B_y.out | apply below_alloc | apply pw_below_drewN | apply below_drew1)) hb)
      clear B_y
      have B_y := Z_
      clear Z_
      have Z_ := Aside0.mk (below_step (by repeat (first | exact B_own.out | apply below_alloc | apply pw_below_drewN | apply below_drew1)) hb)
      clear B_own
      have B_own := Z_
      clear Z_
      have Z_ := Aside0.mk (below_step (by repeat (first | exact B_bk.out | apply below_alloc | apply pw_below_drewN | apply below_drew1)) hb)
      clear B_bk
      have B_bk := Z_
      clear Z_
      have Z_ := Aside0.mk (below_step (by repeat (first | exact B_ob.out | apply below_alloc | apply pw_below_drewN | apply below_drew1)) hb)
      clear B_ob
      have B_ob := Z_
      clear Z_
      have Z_ := Aside0.mk (below_step (by repeat (first | exact B_r1.out | apply below_alloc | apply pw_below_drewN | apply below_drew1)) hb)
      clear B_r1
      have B_r1 := Z_
      clear Z_
      have Z_ := Aside0.mk (below_step (by repeat (first | exact HB.out | apply below_alloc | apply pw_below_drewN | apply below_drew1)) hb)
      clear HB
      have HB := Z_
      clear Z_
      clear hb
      have R_r2 := Aside0.mk hC
      have C_r2 := Aside0.mk hlo
      clear hC hlo
      have B_r2 := Aside0.mk (Below.refl w107.heap.size w107)
      go_wp2_with fail
      with_reducible refine (driftnetref09_Equal.calls k _ _ r1 _ _ r2 _ _ (by repeat (first | exact (Kd.C_below R_r1.out B_r1.out) | (with_reducible refine Kd.C_alloc ?_ _) | (with_reducible refine Kd.C_drewN ?_ _) | (with_reducible refine Kd.C_drew ?_))) C_r1.out (by repeat (first | exact (Kd.C_below R_r2.out B_r2.out) | (with_reducible refine Kd.C_alloc ?_ _) | (with_reducible refine Kd.C_drewN ?_ _) | (with_reducible refine Kd.C_drew ?_))) C_r2.out He1.out).mono ?_
      rintro e w108 ⟨rfl, hb0⟩
      have hb := hb0.below
      clear hb0
      have Z_ := Aside0.mk (below_step (by repeat (first | exact B_x.out | apply below_alloc | apply pw_below_drewN | apply below_drew1)) hb)
      clear B_x
      have B_x := Z_
      clear Z_
      have Z_ := Aside0.mk (below_step (by repeat (first | exact B_y.out | apply below_alloc | apply pw_below_drewN | apply below_drew1)) hb)
      clear B_y
      have B_y := Z_
      clear Z_
      have Z_ := Aside0.mk (below_step (by repeat (first | exact B_own.out | apply below_alloc | apply pw_below_drewN | apply below_drew1)) hb)
      clear B_own
      have B_own := Z_
      clear Z_
      have Z_ := Aside0.mk (below_step (by repeat (first | exact B_bk.out | apply below_alloc | apply pw_below_drewN | apply below_drew1)) hb)
      clear B_bk
      have B_bk := Z_
      clear Z_
      have Z_ := Aside0.mk (below_step (by repeat (first | exact B_ob.out | apply below_alloc | apply pw_below_drewN | apply below_drew1)) hb)
      clear B_ob
      have B_ob := Z_
      clear Z_
      have Z_ := Aside0.mk (below_step (by repeat (first | exact B_r1.out | apply below_alloc | apply pw_below_drewN | apply below_drew1)) hb)
      clear B_r1
      have B_r1 := Z_
      clear Z_
      have Z_ := Aside0.mk (below_step (by repeat (first | exact B_r2.out | apply below_alloc | apply pw_below_drewN | apply below_drew1)) hb)
      clear B_r2
      have B_r2 := Z_
      clear Z_
      have Z_ := Aside0.mk (below_step (by repeat (first | exact HB.out | apply below_alloc | apply pw_below_drewN | apply below_drew1)) hb)
      clear HB
      have HB := Z_
      clear Z_
      clear hb
      clear R_r1 C_r1 B_r1
      clear R_r2 C_r2 B_r2
      clear R_ob C_ob B_ob
      clear R_bk C_bk B_bk
      go_wp2_with fail
      with_reducible refine (runes_Of.calls _ _ own _ _ (by repeat (first | exact (Kd.C_below R_own.out B_own.out) | (with_reducible refine Kd.C_alloc ?_ _) | (with_reducible refine Kd.C_drewN ?_ _) | (with_reducible refine Kd.C_drew ?_))) C_own.out Hoo.out).mono ?_
      rintro e w109 ⟨v, rfl, ho, hb⟩
      obtain ⟨A_oo, c_oo, rfl, hlo, hC⟩ := Kd.R_reads ho
      clear ho
      have Z_ := Aside0.mk (below_step (by repeat (first | exact B_x.out | apply below_alloc | apply pw_below_drewN | apply below_drew1)) hb)
      clear B_x
      have B_x := Z_
      clear Z_
      have Z_ := Aside0.mk (below_step (by repeat (first | exact B_y.out | apply below_alloc | apply pw_below_drewN | apply below_drew1)) hb)
      clear B_y
      have B_y := Z_
      clear Z_
      have Z_ := Aside0.mk (below_step (by repeat (first | exact B_own.out | apply below_alloc | apply pw_below_drewN | apply below_drew1)) hb)
      clear B_own
      have B_own := Z_
      clear Z_
      have Z_ := Aside0.mk (below_step (by repeat (first | exact HB.out | apply below_alloc | apply pw_below_drewN | apply below_drew1)) hb)
      clear HB
      have HB := Z_
      clear Z_
      clear hb
      have R_oo := Aside0.mk hC
      have C_oo := Aside0.mk hlo
      clear hC hlo
      have B_oo := Aside0.mk (Below.refl w109.heap.size w109)
      go_wp2_with fail
      with_reducible refine (driftnetlaw09_ranges.calls k _ _ oo _ _ (by repeat (first | exact (Kd.C_below R_oo.out B_oo.out) | (with_reducible refine Kd.C_alloc ?_ _) | (with_reducible refine Kd.C_drewN ?_ _) | (with_reducible refine Kd.C_drew ?_))) C_oo.out Hr3.out).mono ?_
      rintro e w110 ⟨v, rfl, ho, hb⟩
      obtain ⟨A_r3, c_r3, rfl, hlo, hC⟩ := Kd.R_reads ho
      clear ho
      have Z_ := Aside0.mk (below_step (by repeat (first | exact B_x.out | apply below_alloc | apply pw_below_drewN | apply below_drew1)) hb)
      clear B_x
      have B_x := Z_
      clear Z_
      have Z_ := Aside0.mk (below_step (by repeat (first | exact B_y.out | apply below_alloc | apply pw_below_drewN | apply below_drew1)) hb)
      clear B_y
      have B_y := Z_
      clear Z_
      have Z_ := Aside0.mk (below_step (by repeat (first | exact B_own.out | apply below_alloc | apply pw_below_drewN | apply below_drew1)) hb)
      clear B_own
      have B_own := Z_
      clear Z_
      have Z_ := Aside0.mk (below_step (by repeat (first | exact B_oo.out | apply below_alloc | apply pw_below_drewN | apply below_drew1)) hb)
      clear B_oo
      have B_oo := Z_
      clear Z_
      have Z_ := Aside0.mk (below_step (by repeat (first | exact HB.out | apply below_alloc | apply pw_below_drewN | apply below_drew1)) hb)
      clear HB
      have HB := Z_
      clear Z_
      clear hb
      have R_r3 := Aside0.mk hC
      have C_r3 := Aside0.mk hlo
      clear hC hlo
      have B_r3 := Aside0.mk (Below.refl w110.heap.size w110)
      go_wp2_with fail
      with_reducible refine (driftnetlaw09_ranges.calls k _ _ own _ _ (by repeat (first | exact (Kd.C_below R_own.out B_own.out) | (with_reducible refine Kd.C_alloc ?_ _) | (with_reducible refine Kd.C_drewN ?_ _) | (with_reducible refine Kd.C_drew ?_))) C_own.out Hr2.out).mono ?_
      rintro e w111 ⟨v, rfl, ho, hb⟩
      obtain ⟨A_r2, c_r2, rfl, hlo, hC⟩ := Kd.R_reads ho
      clear ho
      have Z_ := Aside0.mk (below_step (by repeat (first | exact B_x.out | apply below_alloc | apply pw_below_drewN | apply below_drew1)) hb)
      clear B_x
      have B_x := Z_
      clear Z_
      have Z_ := Aside0.mk (below_step (by repeat (first | exact B_y.out | apply below_alloc | apply pw_below_drewN | apply below_drew1)) hb)
      clear B_y
      have B_y := Z_
      clear Z_
      have Z_ := Aside0.mk (below_step (by repeat (first | exact B_own.out | apply below_alloc | apply pw_below_drewN | apply below_drew1)) hb)
      clear B_own
      have B_own := Z_
      clear Z_
      have Z_ := Aside0.mk (below_step (by repeat (first | exact B_oo.out | apply below_alloc | apply pw_below_drewN | apply below_drew1)) hb)
      clear B_oo
      have B_oo := Z_
      clear Z_
      have Z_ := Aside0.mk (below_step (by repeat (first | exact B_r3.out | apply below_alloc | apply pw_below_drewN | apply below_drew1)) hb)
      clear B_r3
      have B_r3 := Z_
      clear Z_
      have Z_ := Aside0.mk (below_step (by repeat (first | exact HB.out | apply below_alloc | apply pw_below_drewN | apply below_drew1)) hb)
      clear HB
      have HB := Z_
      clear Z_
      clear hb
      have R_r2 := Aside0.mk hC
      have C_r2 := Aside0.mk hlo
      clear hC hlo
      have B_r2 := Aside0.mk (Below.refl w111.heap.size w111)
      go_wp2_with fail
      with_reducible refine (driftnetref09_Equal.calls k _ _ r3 _ _ r2 _ _ (by repeat (first | exact (Kd.C_below R_r3.out B_r3.out) | (with_reducible refine Kd.C_alloc ?_ _) | (with_reducible refine Kd.C_drewN ?_ _) | (with_reducible refine Kd.C_drew ?_))) C_r3.out (by repeat (first | exact (Kd.C_below R_r2.out B_r2.out) | (with_reducible refine Kd.C_alloc ?_ _) | (with_reducible refine Kd.C_drewN ?_ _) | (with_reducible refine Kd.C_drew ?_))) C_r2.out He2.out).mono ?_
      rintro e w112 ⟨rfl, hb0⟩
      have hb := hb0.below
      clear hb0
      have Z_ := Aside0.mk (below_step (by repeat (first | exact B_x.out | apply below_alloc | apply pw_below_drewN | apply below_drew1)) hb)
      clear B_x
      have B_x := Z_
      clear Z_
      have Z_ := Aside0.mk (below_step (by repeat (first | exact B_y.out | apply below_alloc | apply pw_below_drewN | apply below_drew1)) hb)
      clear B_y
      have B_y := Z_
      clear Z_
      have Z_ := Aside0.mk (below_step (by repeat (first | exact B_own.out | apply below_alloc | apply pw_below_drewN | apply below_drew1)) hb)
      clear B_own
      have B_own := Z_
      clear Z_
      have Z_ := Aside0.mk (below_step (by repeat (first | exact B_oo.out | apply below_alloc | apply pw_below_drewN | apply below_drew1)) hb)
      clear B_oo
      have B_oo := Z_
      clear Z_
      have Z_ := Aside0.mk (below_step (by repeat (first | exact B_r3.out | apply below_alloc | apply pw_below_drewN | apply below_drew1)) hb)
      clear B_r3
      have B_r3 := Z_
      clear Z_
      have Z_ := Aside0.mk (below_step (by repeat (first | exact B_r2.out | apply below_alloc | apply pw_below_drewN | apply below_drew1)) hb)
      clear B_r2
      have B_r2 := Z_
      clear Z_
      have Z_ := Aside0.mk (below_step (by repeat (first | exact HB.out | apply below_alloc | apply pw_below_drewN | apply below_drew1)) hb)
      clear HB
      have HB := Z_
      clear Z_
      clear hb
      clear R_r3 C_r3 B_r3
      clear R_r2 C_r2 B_r2
      clear R_oo C_oo B_oo
      go_wp2_with fail
      with_reducible refine (runes_Set_Not.calls k _ _ x _ _ (by repeat (first | exact (Kd.C_below R_x.out B_x.out) | (with_reducible refine Kd.C_alloc ?_ _) | (with_reducible refine Kd.C_drewN ?_ _) | (with_reducible refine Kd.C_drew ?_))) C_x.out Hn1.out).mono ?_
      rintro e w113 ⟨v, rfl, ho, hb⟩
      obtain ⟨A_n1, c_n1, rfl, hlo, hC⟩ := Kd.R_reads ho
      clear ho
      have Z_ := Aside0.mk (below_step (by repeat (first | exact B_x.out | apply below_alloc | apply pw_below_drewN | apply below_drew1)) hb)
      clear B_x
      have B_x := Z_
      clear Z_
      have Z_ := Aside0.mk (below_step (by repeat (first | exact B_y.out | apply below_alloc | apply pw_below_drewN | apply below_drew1)) hb)
      clear B_y
      have B_y := Z_
      clear Z_
      have Z_ := Aside0.mk (below_step (by repeat (first | exact B_own.out | apply below_alloc | apply pw_below_drewN | apply below_drew1)) hb)
      clear B_own
      have B_own := Z_
      clear Z_
      have Z_ := Aside0.mk (below_step (by repeat (first | exact HB.out | apply below_alloc | apply pw_below_drewN | apply below_drew1)) hb)
      clear HB
      have HB := Z_
      clear Z_
      clear hb
      have R_n1 := Aside0.mk hC
      have C_n1 := Aside0.mk hlo
      clear hC hlo
      have B_n1 := Aside0.mk (Below.refl w113.heap.size w113)
      go_wp2_with fail
      with_reducible refine (runes_Set_Not.calls k _ _ n1 _ _ (by repeat (first | exact (Kd.C_below R_n1.out B_n1.out) | (with_reducible refine Kd.C_alloc ?_ _) | (with_reducible refine Kd.C_drewN ?_ _) | (with_reducible refine Kd.C_drew ?_))) C_n1.out Hn2.out).mono ?_
      rintro e w114 ⟨v, rfl, ho, hb⟩
      obtain ⟨A_n2, c_n2, rfl, hlo, hC⟩ := Kd.R_reads ho
      clear ho
      have Z_ := Aside0.mk (below_step (by repeat (first | exact B_x.out | apply below_alloc | apply pw_below_drewN | apply below_drew1)) hb)
      clear B_x
      have B_x := Z_
      clear Z_
      have Z_ := Aside0.mk (below_step (by repeat (first | exact B_y.out | apply below_alloc | apply pw_below_drewN | apply below_drew1)) hb)
      clear B_y
      have B_y := Z_
      clear Z_
      have Z_ := Aside0.mk (below_step (by repeat (first | exact B_own.out | apply below_alloc | apply pw_below_drewN | apply below_drew1)) hb)
      clear B_own
      have B_own := Z_
      clear Z_
      have Z_ := Aside0.mk (below_step (by repeat (first | exact B_n1.out | apply below_alloc | apply pw_below_drewN | apply below_drew1)) hb)
      clear B_n1
      have B_n1 := Z_
      clear Z_
      have Z_ := Aside0.mk (below_step (by repeat (first | exact HB.out | apply below_alloc | apply pw_below_drewN | apply below_drew1)) hb)
      clear HB
      have HB := Z_
      clear Z_
      clear hb
      have R_n2 := Aside0.mk hC
      have C_n2 := Aside0.mk hlo
      clear hC hlo
      have B_n2 := Aside0.mk (Below.refl w114.heap.size w114)
      go_wp2_with fail
      with_reducible refine (driftnetlaw09_ranges.calls k _ _ n2 _ _ (by repeat (first | exact (Kd.C_below R_n2.out B_n2.out) | (with_reducible refine Kd.C_alloc ?_ _) | (with_reducible refine Kd.C_drewN ?_ _) | (with_reducible refine Kd.C_drew ?_))) C_n2.out Hr5.out).mono ?_
      rintro e w115 ⟨v, rfl, ho, hb⟩
      obtain ⟨A_r5, c_r5, rfl, hlo, hC⟩ := Kd.R_reads ho
      clear ho
      have Z_ := Aside0.mk (below_step (by repeat (first | exact B_x.out | apply below_alloc | apply pw_below_drewN | apply below_drew1)) hb)
      clear B_x
      have B_x := Z_
      clear Z_
      have Z_ := Aside0.mk (below_step (by repeat (first | exact B_y.out | apply below_alloc | apply pw_below_drewN | apply below_drew1)) hb)
      clear B_y
      have B_y := Z_
      clear Z_
      have Z_ := Aside0.mk (below_step (by repeat (first | exact B_own.out | apply below_alloc | apply pw_below_drewN | apply below_drew1)) hb)
      clear B_own
      have B_own := Z_
      clear Z_
      have Z_ := Aside0.mk (below_step (by repeat (first | exact B_n1.out | apply below_alloc | apply pw_below_drewN | apply below_drew1)) hb)
      clear B_n1
      have B_n1 := Z_
      clear Z_
      have Z_ := Aside0.mk (below_step (by repeat (first | exact B_n2.out | apply below_alloc | apply pw_below_drewN | apply below_drew1)) hb)
      clear B_n2
      have B_n2 := Z_
      clear Z_
      have Z_ := Aside0.mk (below_step (by repeat (first | exact HB.out | apply below_alloc | apply pw_below_drewN | apply below_drew1)) hb)
      clear HB
      have HB := Z_
      clear Z_
      clear hb
      have R_r5 := Aside0.mk hC
      have C_r5 := Aside0.mk hlo
      clear hC hlo
      have B_r5 := Aside0.mk (Below.refl w115.heap.size w115)
      go_wp2_with fail
      with_reducible refine (driftnetlaw09_ranges.calls k _ _ own _ _ (by repeat (first | exact (Kd.C_below R_own.out B_own.out) | (with_reducible refine Kd.C_alloc ?_ _) | (with_reducible refine Kd.C_drewN ?_ _) | (with_reducible refine Kd.C_drew ?_))) C_own.out Hr2.out).mono ?_
      rintro e w116 ⟨v, rfl, ho, hb⟩
      obtain ⟨A_r2, c_r2, rfl, hlo, hC⟩ := Kd.R_reads ho
      clear ho
      have Z_ := Aside0.mk (below_step (by repeat (first | exact B_x.out | apply below_alloc | apply pw_below_drewN | apply below_drew1)) hb)
      clear B_x
      have B_x := Z_
      clear Z_
      have Z_ := Aside0.mk (below_step (by repeat (first | exact B_y.out | apply below_alloc | apply pw_below_drewN | apply below_drew1)) hb)
      clear B_y
      have B_y := Z_
      clear Z_
      have Z_ := Aside0.mk (below_step (by repeat (first | exact B_own.out | apply below_alloc | apply pw_below_drewN | apply below_drew1)) hb)
      clear B_own
      have B_own := Z_
      clear Z_
      have Z_ := Aside0.mk (below_step (by repeat (first | exact B_n1.out | apply below_alloc | apply pw_below_drewN | apply below_drew1)) hb)
      clear B_n1
      have B_n1 := Z_
      clear Z_
      have Z_ := Aside0.mk (below_step (by repeat (first | exact B_n2.out | apply below_alloc | apply pw_below_drewN | apply below_drew1)) hb)
      clear B_n2
      have B_n2 := Z_
      clear Z_
      have Z_ := Aside0.mk (below_step (by repeat (first | exact B_r5.out | apply below_alloc | apply pw_below_drewN | apply below_drew1)) hb)
      clear B_r5
      have B_r5 := Z_
      clear Z_
      have Z_ := Aside0.mk (below_step (by repeat (first | exact HB.out | apply below_alloc | apply pw_below_drewN | apply below_drew1)) hb)
      clear HB
      have HB := Z_
      clear Z_
      clear hb
      have R_r2 := Aside0.mk hC
      have C_r2 := Aside0.mk hlo
      clear hC hlo
      have B_r2 := Aside0.mk (Below.refl w116.heap.size w116)
      go_wp2_with fail
      with_reducible refine (driftnetref09_Equal.calls k _ _ r5 _ _ r2 _ _ (by repeat (first | exact (Kd.C_below R_r5.out B_r5.out) | (with_reducible refine Kd.C_alloc ?_ _) | (with_reducible refine Kd.C_drewN ?_ _) | (with_reducible refine Kd.C_drew ?_))) C_r5.out (by repeat (first | exact (Kd.C_below R_r2.out B_r2.out) | (with_reducible refine Kd.C_alloc ?_ _) | (with_reducible refine Kd.C_drewN ?_ _) | (with_reducible refine Kd.C_drew ?_))) C_r2.out He3.out).mono ?_
      rintro e w117 ⟨rfl, hb0⟩
      have hb := hb0.below
      clear hb0
      have Z_ := Aside0.mk (below_step (by repeat (first | exact B_x.out | apply below_alloc | apply pw_below_drewN | apply below_drew1)) hb)
      clear B_x
      have B_x := Z_
      clear Z_
      have Z_ := Aside0.mk (below_step (by repeat (first | exact B_y.out | apply below_alloc | apply pw_below_drewN | apply below_drew1)) hb)
      clear B_y
      have B_y := Z_
      clear Z_
      have Z_ := Aside0.mk (below_step (by repeat (first | exact B_own.out | apply below_alloc | apply pw_below_drewN | apply below_drew1)) hb)
      clear B_own
      have B_own := Z_
      clear Z_
      have Z_ := Aside0.mk (below_step (by repeat (first | exact B_n1.out | apply below_alloc | apply pw_below_drewN | apply below_drew1)) hb)
      clear B_n1
      have B_n1 := Z_
      clear Z_
      have Z_ := Aside0.mk (below_step (by repeat (first | exact B_n2.out | apply below_alloc | apply pw_below_drewN | apply below_drew1)) hb)
      clear B_n2
      have B_n2 := Z_
      clear Z_
      have Z_ := Aside0.mk (below_step (by repeat (first | exact B_r5.out | apply below_alloc | apply pw_below_drewN | apply below_drew1)) hb)
      clear B_r5
      have B_r5 := Z_
      clear Z_
      have Z_ := Aside0.mk (below_step (by repeat (first | exact B_r2.out | apply below_alloc | apply pw_below_drewN | apply below_drew1)) hb)
      clear B_r2
      have B_r2 := Z_
      clear Z_
      have Z_ := Aside0.mk (below_step (by repeat (first | exact HB.out | apply below_alloc | apply pw_below_drewN | apply below_drew1)) hb)
      clear HB
      have HB := Z_
      clear Z_
      clear hb
      clear R_r5 C_r5 B_r5
      clear R_r2 C_r2 B_r2
      clear R_n2 C_n2 B_n2
      clear R_n1 C_n1 B_n1
      go_wp2_with fail
      with_reducible refine (join2c _ _ _ _ x y _ _ (by repeat (first | exact (Kd.C_below R_x.out B_x.out) | (with_reducible refine Kd.C_alloc ?_ _) | (with_reducible refine Kd.C_drewN ?_ _) | (with_reducible refine Kd.C_drew ?_))) C_x.out (by repeat (first | exact (Kd.C_below R_y.out B_y.out) | (with_reducible refine Kd.C_alloc ?_ _) | (with_reducible refine Kd.C_drewN ?_ _) | (with_reducible refine Kd.C_drew ?_))) C_y.out Hj.out).mono ?_
      rintro e w118 ⟨v, rfl, ho, hb⟩
      obtain ⟨A_j, c_j, rfl, hlo, hC⟩ := Kd.R_reads ho
      clear ho
      have Z_ := Aside0.mk (below_step (by repeat (first | exact B_x.out | apply below_alloc | apply pw_below_drewN | apply below_drew1)) hb)
      clear B_x
      have B_x := Z_
      clear Z_
      have Z_ := Aside0.mk (below_step (by repeat (first | exact B_y.out | apply below_alloc | apply pw_below_drewN | apply below_drew1)) hb)
      clear B_y
      have B_y := Z_
      clear Z_
      have Z_ := Aside0.mk (below_step (by repeat (first | exact B_own.out | apply below_alloc | apply pw_below_drewN | apply below_drew1)) hb)
      clear B_own
      have B_own := Z_
      clear Z_
      have Z_ := Aside0.mk (below_step (by repeat (first | exact HB.out | apply below_alloc | apply pw_below_drewN | apply below_drew1)) hb)
      clear HB
      have HB := Z_
      clear Z_
      clear hb
      have R_j := Aside0.mk hC
      have C_j := Aside0.mk hlo
      clear hC hlo
      have B_j := Aside0.mk (Below.refl w118.heap.size w118)
      go_wp2_with fail
      with_reducible refine (runes_Set_Not.calls k _ _ j _ _ (by repeat (first | exact (Kd.C_below R_j.out B_j.out) | (with_reducible refine Kd.C_alloc ?_ _) | (with_reducible refine Kd.C_drewN ?_ _) | (with_reducible refine Kd.C_drew ?_))) C_j.out Hnj.out).mono ?_
      rintro e w119 ⟨v, rfl, ho, hb⟩
      obtain ⟨A_nj, c_nj, rfl, hlo, hC⟩ := Kd.R_reads ho
      clear ho
      have Z_ := Aside0.mk (below_step (by repeat (first | exact B_x.out | apply below_alloc | apply pw_below_drewN | apply below_drew1)) hb)
      clear B_x
      have B_x := Z_
      clear Z_
      have Z_ := Aside0.mk (below_step (by repeat (first | exact B_y.out | apply below_alloc | apply pw_below_drewN | apply below_drew1)) hb)
      clear B_y
      have B_y := Z_
      clear Z_
      have Z_ := Aside0.mk (below_step (by repeat (first | exact B_own.out | apply below_alloc | apply pw_below_drewN | apply below_drew1)) hb)
      clear B_own
      have B_own := Z_
      clear Z_
      have Z_ := Aside0.mk (below_step (by repeat (first | exact B_j.out | apply below_alloc | apply pw_below_drewN | apply below_drew1)) hb)
      clear B_j
      have B_j := Z_
      clear Z_
      have Z_ := Aside0.mk (below_step (by repeat (first | exact HB.out | apply below_alloc | apply pw_below_drewN | apply below_drew1)) hb)
      clear HB
      have HB := Z_
      clear Z_
      clear hb
      have R_nj := Aside0.mk hC
      have C_nj := Aside0.mk hlo
      clear hC hlo
      have B_nj := Aside0.mk (Below.refl w119.heap.size w119)
      go_wp2_with fail
      with_reducible refine (driftnetlaw09_ranges.calls k _ _ nj _ _ (by repeat (first | exact (Kd.C_below R_nj.out B_nj.out) | (with_reducible refine Kd.C_alloc ?_ _) | (with_reducible refine Kd.C_drewN ?_ _) | (with_reducible refine Kd.C_drew ?_))) C_nj.out Hr7.out).mono ?_
      rintro e w120 ⟨v, rfl, ho, hb⟩
      obtain ⟨A_r7, c_r7, rfl, hlo, hC⟩ := Kd.R_reads ho
      clear ho
      have Z_ := Aside0.mk (below_step (by repeat (first | exact B_x.out | apply below_alloc | apply pw_below_drewN | apply below_drew1)) hb)
      clear B_x
      have B_x := Z_
      clear Z_
      have Z_ := Aside0.mk (below_step (by repeat (first | exact B_y.out | apply below_alloc | apply pw_below_drewN | apply below_drew1)) hb)
      clear B_y
      have B_y := Z_
      clear Z_
      have Z_ := Aside0.mk (below_step (by repeat (first | exact B_own.out | apply below_alloc | apply pw_below_drewN | apply below_drew1)) hb)
      clear B_own
      have B_own := Z_
      clear Z_
      have Z_ := Aside0.mk (below_step (by repeat (first | exact B_j.out | apply below_alloc | apply pw_below_drewN | apply below_drew1)) hb)
      clear B_j
      have B_j := Z_
      clear Z_
      have Z_ := Aside0.mk (below_step (by repeat (first | exact B_nj.out | apply below_alloc | apply pw_below_drewN | apply below_drew1)) hb)
      clear B_nj
      have B_nj := Z_
      clear Z_
      have Z_ := Aside0.mk (below_step (by repeat (first | exact HB.out | apply below_alloc | apply pw_below_drewN | apply below_drew1)) hb)
      clear HB
      have HB := Z_
      clear Z_
      clear hb
      have R_r7 := Aside0.mk hC
      have C_r7 := Aside0.mk hlo
      clear hC hlo
      have B_r7 := Aside0.mk (Below.refl w120.heap.size w120)
      go_wp2_with fail
      with_reducible refine (runes_Set_Not.calls k _ _ x _ _ (by repeat (first | exact (Kd.C_below R_x.out B_x.out) | (with_reducible refine Kd.C_alloc ?_ _) | (with_reducible refine Kd.C_drewN ?_ _) | (with_reducible refine Kd.C_drew ?_))) C_x.out Hn1.out).mono ?_
      rintro e w121 ⟨v, rfl, ho, hb⟩
      obtain ⟨A_n1, c_n1, rfl, hlo, hC⟩ := Kd.R_reads ho
      clear ho
      have Z_ := Aside0.mk (below_step (by repeat (first | exact B_x.out | apply below_alloc | apply pw_below_drewN | apply below_drew1)) hb)
      clear B_x
      have B_x := Z_
      clear Z_
      have Z_ := Aside0.mk (below_step (by repeat (first | exact B_y.out | apply below_alloc | apply pw_below_drewN | apply below_drew1)) hb)
      clear B_y
      have B_y := Z_
      clear Z_
      have Z_ := Aside0.mk (below_step (by repeat (first | exact B_own.out | apply below_alloc | apply pw_below_drewN | apply below_drew1)) hb)
      clear B_own
      have B_own := Z_
      clear Z_
      have Z_ := Aside0.mk (below_step (by repeat (first | exact B_j.out | apply below_alloc | apply pw_below_drewN | apply below_drew1)) hb)
      clear B_j
      have B_j := Z_
      clear Z_
      have Z_ := Aside0.mk (below_step (by repeat (first | exact B_nj.out | apply below_alloc | apply pw_below_drewN | apply below_drew1)) hb)
      clear B_nj
      have B_nj := Z_
      clear Z_
      have Z_ := Aside0.mk (below_step (by repeat (first | exact B_r7.out | apply below_alloc | apply pw_below_drewN | apply below_drew1)) hb)
      clear B_r7
      have B_r7 := Z_
      clear Z_
      have Z_ := Aside0.mk (below_step (by repeat (first | exact HB.out | apply below_alloc | apply pw_below_drewN | apply below_drew1)) hb)
      clear HB
      have HB := Z_
      clear Z_
      clear hb
      have R_n1 := Aside0.mk hC
      have C_n1 := Aside0.mk hlo
      clear hC hlo
      have B_n1 := Aside0.mk (Below.refl w121.heap.size w121)
      go_wp2_with fail
      with_reducible refine (runes_Set_Not.calls k _ _ y _ _ (by repeat (first | exact (Kd.C_below R_y.out B_y.out) | (with_reducible refine Kd.C_alloc ?_ _) | (with_reducible refine Kd.C_drewN ?_ _) | (with_reducible refine Kd.C_drew ?_))) C_y.out Hny.out).mono ?_
      rintro e w122 ⟨v, rfl, ho, hb⟩
      obtain ⟨A_ny, c_ny, rfl, hlo, hC⟩ := Kd.R_reads ho
      clear ho
      have Z_ := Aside0.mk (below_step (by repeat (first | exact B_x.out | apply below_alloc | apply pw_below_drewN | apply below_drew1)) hb)
      clear B_x
      have B_x := Z_
      clear Z_
      have Z_ := Aside0.mk (below_step (by repeat (first | exact B_y.out | apply below_alloc | apply pw_below_drewN | apply below_drew1)) hb)
      clear B_y
      have B_y := Z_
      clear Z_
      have Z_ := Aside0.mk (below_step (by repeat (first | exact B_own.out | apply below_alloc | apply pw_below_drewN | apply below_drew1)) hb)
      clear B_own
      have B_own := Z_
      clear Z_
      have Z_ := Aside0.mk (below_step (by repeat (first | exact B_j.out | apply below_alloc | apply pw_below_drewN | apply below_drew1)) hb)
      clear B_j
      have B_j := Z_
      clear Z_
      have Z_ := Aside0.mk (below_step (by repeat (first | exact B_nj.out | apply below_alloc | apply pw_below_drewN | apply below_drew1)) hb)
      clear B_nj
      have B_nj := Z_
      clear Z_
      have Z_ := Aside0.mk (below_step (by repeat (first | exact B_r7.out | apply below_alloc | apply pw_below_drewN | apply below_drew1)) hb)
      clear B_r7
      have B_r7 := Z_
      clear Z_
      have Z_ := Aside0.mk (below_step (by repeat (first | exact B_n1.out | apply below_alloc | apply pw_below_drewN | apply below_drew1)) hb)
      clear B_n1
      have B_n1 := Z_
      clear Z_
      have Z_ := Aside0.mk (below_step (by repeat (first | exact HB.out | apply below_alloc | apply pw_below_drewN | apply below_drew1)) hb)
      clear HB
      have HB := Z_
      clear Z_
      clear hb
      have R_ny := Aside0.mk hC
      have C_ny := Aside0.mk hlo
      clear hC hlo
      have B_ny := Aside0.mk (Below.refl w122.heap.size w122)
      go_wp2_with fail
      with_reducible refine (runes_Both.calls k _ _ n1 _ _ ny _ _ (by repeat (first | exact (Kd.C_below R_n1.out B_n1.out) | (with_reducible refine Kd.C_alloc ?_ _) | (with_reducible refine Kd.C_drewN ?_ _) | (with_reducible refine Kd.C_drew ?_))) C_n1.out (by repeat (first | exact (Kd.C_below R_ny.out B_ny.out) | (with_reducible refine Kd.C_alloc ?_ _) | (with_reducible refine Kd.C_drewN ?_ _) | (with_reducible refine Kd.C_drew ?_))) C_ny.out Hbo.out).mono ?_
      rintro e w123 ⟨v, rfl, ho, hb⟩
      obtain ⟨A_bo, c_bo, rfl, hlo, hC⟩ := Kd.R_reads ho
      clear ho
      have Z_ := Aside0.mk (below_step (by repeat (first | exact B_x.out | apply below_alloc | apply pw_below_drewN | apply below_drew1)) hb)
      clear B_x
      have B_x := Z_
      clear Z_
      have Z_ := Aside0.mk (below_step (by repeat (first | exact B_y.out | apply below_alloc | apply pw_below_drewN | apply below_drew1)) hb)
      clear B_y
      have B_y := Z_
      clear Z_
      have Z_ := Aside0.mk (below_step (by repeat (first | exact B_own.out | apply below_alloc | apply pw_below_drewN | apply below_drew1)) hb)
      clear B_own
      have B_own := Z_
      clear Z_
      have Z_ := Aside0.mk (below_step (by repeat (first | exact B_j.out | apply below_alloc | apply pw_below_drewN | apply below_drew1)) hb)
      clear B_j
      have B_j := Z_
      clear Z_
      have Z_ := Aside0.mk (below_step (by repeat (first | exact B_nj.out | apply below_alloc | apply pw_below_drewN | apply below_drew1)) hb)
      clear B_nj
      have B_nj := Z_
      clear Z_
      have Z_ := Aside0.mk (below_step (by repeat (first | exact B_r7.out | apply below_alloc | apply pw_below_drewN | apply below_drew1)) hb)
      clear B_r7
      have B_r7 := Z_
      clear Z_
      have Z_ := Aside0.mk (below_step (by repeat (first | exact B_n1.out | apply below_alloc | apply pw_below_drewN | apply below_drew1)) hb)
      clear B_n1
      have B_n1 := Z_
      clear Z_
      have Z_ := Aside0.mk (below_step (by repeat (first | exact B_ny.out | apply below_alloc | apply pw_below_drewN | apply below_drew1)) hb)
      clear B_ny
      have B_ny := Z_
      clear Z_
      have Z_ := Aside0.mk (below_step (by repeat (first | exact HB.out | apply below_alloc | apply pw_below_drewN | apply below_drew1)) hb)
      clear HB
      have HB := Z_
      clear Z_
      clear hb
      have R_bo := Aside0.mk hC
      have C_bo := Aside0.mk hlo
      clear hC hlo
      have B_bo := Aside0.mk (Below.refl w123.heap.size w123)
      go_wp2_with fail
      with_reducible refine (driftnetlaw09_ranges.calls k _ _ bo _ _ (by repeat (first | exact (Kd.C_below R_bo.out B_bo.out) | (with_reducible refine Kd.C_alloc ?_ _) | (with_reducible refine Kd.C_drewN ?_ _) | (with_reducible refine Kd.C_drew ?_))) C_bo.out Hr8.out).mono ?_
      rintro e w124 ⟨v, rfl, ho, hb⟩
      obtain ⟨A_r8, c_r8, rfl, hlo, hC⟩ := Kd.R_reads ho
      clear ho
      have Z_ := Aside0.mk (below_step (by repeat (first | exact B_x.out | apply below_alloc | apply pw_below_drewN | apply below_drew1)) hb)
      clear B_x
      have B_x := Z_
      clear Z_
      have Z_ := Aside0.mk (below_step (by repeat (first | exact B_y.out | apply below_alloc | apply pw_below_drewN | apply below_drew1)) hb)
      clear B_y
      have B_y := Z_
      clear Z_
      have Z_ := Aside0.mk (below_step (by repeat (first | exact B_own.out | apply below_alloc | apply pw_below_drewN | apply below_drew1)) hb)
      clear B_own
      have B_own := Z_
      clear Z_
      have Z_ := Aside0.mk (below_step (by repeat (first | exact B_j.out | apply below_alloc | apply pw_below_drewN | apply below_drew1)) hb)
      clear B_j
      have B_j := Z_
      clear Z_
      have Z_ := Aside0.mk (below_step (by repeat (first | exact B_nj.out | apply below_alloc | apply pw_below_drewN | apply below_drew1)) hb)
      clear B_nj
      have B_nj := Z_
      clear Z_
      have Z_ := Aside0.mk (below_step (by repeat (first | exact B_r7.out | apply below_alloc | apply pw_below_drewN | apply below_drew1)) hb)
      clear B_r7
      have B_r7 := Z_
      clear Z_
      have Z_ := Aside0.mk (below_step (by repeat (first | exact B_n1.out | apply below_alloc | apply pw_below_drewN | apply below_drew1)) hb)
      clear B_n1
      have B_n1 := Z_
      clear Z_
      have Z_ := Aside0.mk (below_step (by repeat (first | exact B_ny.out | apply below_alloc | apply pw_below_drewN | apply below_drew1)) hb)
      clear B_ny
      have B_ny := Z_
      clear Z_
      have Z_ := Aside0.mk (below_step (by repeat (first | exact B_bo.out | apply below_alloc | apply pw_below_drewN | apply below_drew1)) hb)
      clear B_bo
      have B_bo := Z_
      clear Z_
      have Z_ := Aside0.mk (below_step (by repeat (first | exact HB.out | apply below_alloc | apply pw_below_drewN | apply below_drew1)) hb)
      clear HB
      have HB := Z_
      clear Z_
      clear hb
      have R_r8 := Aside0.mk hC
      have C_r8 := Aside0.mk hlo
      clear hC hlo
      have B_r8 := Aside0.mk (Below.refl w124.heap.size w124)
      go_wp2_with fail
      with_reducible refine (driftnetref09_Equal.calls k _ _ r7 _ _ r8 _ _ (by repeat (first | exact (Kd.C_below R_r7.out B_r7.out) | (with_reducible refine Kd.C_alloc ?_ _) | (with_reducible refine Kd.C_drewN ?_ _) | (with_reducible refine Kd.C_drew ?_))) C_r7.out (by repeat (first | exact (Kd.C_below R_r8.out B_r8.out) | (with_reducible refine Kd.C_alloc ?_ _) | (with_reducible refine Kd.C_drewN ?_ _) | (with_reducible refine Kd.C_drew ?_))) C_r8.out He4.out).mono ?_
      rintro e w125 ⟨rfl, hb0⟩
      have hb := hb0.below
      clear hb0
      have Z_ := Aside0.mk (below_step (by repeat (first | exact B_x.out | apply below_alloc | apply pw_below_drewN | apply below_drew1)) hb)
      clear B_x
      have B_x := Z_
      clear Z_
      have Z_ := Aside0.mk (below_step (by repeat (first | exact B_y.out | apply below_alloc | apply pw_below_drewN | apply below_drew1)) hb)
      clear B_y
      have B_y := Z_
      clear Z_
      have Z_ := Aside0.mk (below_step (by repeat (first | exact B_own.out | apply below_alloc | apply pw_below_drewN | apply below_drew1)) hb)
      clear B_own
      have B_own := Z_
      clear Z_
      have Z_ := Aside0.mk (below_step (by repeat (first | exact B_j.out | apply below_alloc | apply pw_below_drewN | apply below_drew1)) hb)
      clear B_j
      have B_j := Z_
      clear Z_
      have Z_ := Aside0.mk (below_step (by repeat (first | exact B_nj.out | apply below_alloc | apply pw_below_drewN | apply below_drew1)) hb)
      clear B_nj
      have B_nj := Z_
      clear Z_
      have Z_ := Aside0.mk (below_step (by repeat (first | exact B_r7.out | apply below_alloc | apply pw_below_drewN | apply below_drew1)) hb)
      clear B_r7
      have B_r7 := Z_
      clear Z_
      have Z_ := Aside0.mk (below_step (by repeat (first | exact B_n1.out | apply below_alloc | apply pw_below_drewN | apply below_drew1)) hb)
      clear B_n1
      have B_n1 := Z_
      clear Z_
      have Z_ := Aside0.mk (below_step (by repeat (first | exact B_ny.out | apply below_alloc | apply pw_below_drewN | apply below_drew1)) hb)
      clear B_ny
      have B_ny := Z_
      clear Z_
      have Z_ := Aside0.mk (below_step (by repeat (first | exact B_bo.out | apply below_alloc | apply pw_below_drewN | apply below_drew1)) hb)
      clear B_bo
      have B_bo := Z_
      clear Z_
      have Z_ := Aside0.mk (below_step (by repeat (first | exact B_r8.out | apply below_alloc | apply pw_below_drewN | apply below_drew1)) hb)
      clear B_r8
      have B_r8 := Z_
      clear Z_
      have Z_ := Aside0.mk (below_step (by repeat (first | exact HB.out | apply below_alloc | apply pw_below_drewN | apply below_drew1)) hb)
      clear HB
      have HB := Z_
      clear Z_
      clear hb
      clear R_r7 C_r7 B_r7
      clear R_r8 C_r8 B_r8
      clear R_j C_j B_j
      clear R_nj C_nj B_nj
      clear R_n1 C_n1 B_n1
      clear R_ny C_ny B_ny
      clear R_bo C_bo B_bo
      go_wp2_with fail
      with_reducible refine (runes_Same.calls k _ _ x _ _ own _ _ (by repeat (first | exact (Kd.C_below R_x.out B_x.out) | (with_reducible refine Kd.C_alloc ?_ _) | (with_reducible refine Kd.C_drewN ?_ _) | (with_reducible refine Kd.C_drew ?_))) C_x.out (by repeat (first | exact (Kd.C_below R_own.out B_own.out) | (with_reducible refine Kd.C_alloc ?_ _) | (with_reducible refine Kd.C_drewN ?_ _) | (with_reducible refine Kd.C_drew ?_))) C_own.out He5.out).mono ?_
      rintro e w126 ⟨rfl, hb⟩
      have Z_ := Aside0.mk (below_step (by repeat (first | exact B_x.out | apply below_alloc | apply pw_below_drewN | apply below_drew1)) hb)
      clear B_x
      have B_x := Z_
      clear Z_
      have Z_ := Aside0.mk (below_step (by repeat (first | exact B_y.out | apply below_alloc | apply pw_below_drewN | apply below_drew1)) hb)
      clear B_y
      have B_y := Z_
      clear Z_
      have Z_ := Aside0.mk (below_step (by repeat (first | exact B_own.out | apply below_alloc | apply pw_below_drewN | apply below_drew1)) hb)
      clear B_own
      have B_own := Z_
      clear Z_
      have Z_ := Aside0.mk (below_step (by repeat (first | exact HB.out | apply below_alloc | apply pw_below_drewN | apply below_drew1)) hb)
      clear HB
      have HB := Z_
      clear Z_
      clear hb
      clear R_own C_own B_own
      go_wp2_with fail
      with_reducible refine (join2c _ _ _ _ x y _ _ (by repeat (first | exact (Kd.C_below R_x.out B_x.out) | (with_reducible refine Kd.C_alloc ?_ _) | (with_reducible refine Kd.C_drewN ?_ _) | (with_reducible refine Kd.C_drew ?_))) C_x.out (by repeat (first | exact (Kd.C_below R_y.out B_y.out) | (with_reducible refine Kd.C_alloc ?_ _) | (with_reducible refine Kd.C_drewN ?_ _) | (with_reducible refine Kd.C_drew ?_))) C_y.out Hj.out).mono ?_
      rintro e w127 ⟨v, rfl, ho, hb⟩
      obtain ⟨A_j, c_j, rfl, hlo, hC⟩ := Kd.R_reads ho
      clear ho
      have Z_ := Aside0.mk (below_step (by repeat (first | exact B_x.out | apply below_alloc | apply pw_below_drewN | apply below_drew1)) hb)
      clear B_x
      have B_x := Z_
      clear Z_
      have Z_ := Aside0.mk (below_step (by repeat (first | exact B_y.out | apply below_alloc | apply pw_below_drewN | apply below_drew1)) hb)
      clear B_y
      have B_y := Z_
      clear Z_
      have Z_ := Aside0.mk (below_step (by repeat (first | exact HB.out | apply below_alloc | apply pw_below_drewN | apply below_drew1)) hb)
      clear HB
      have HB := Z_
      clear Z_
      clear hb
      have R_j := Aside0.mk hC
      have C_j := Aside0.mk hlo
      clear hC hlo
      have B_j := Aside0.mk (Below.refl w127.heap.size w127)
      go_wp2_with fail
      with_reducible refine (join2c _ _ _ _ y x _ _ (by repeat (first | exact (Kd.C_below R_y.out B_y.out) | (with_reducible refine Kd.C_alloc ?_ _) | (with_reducible refine Kd.C_drewN ?_ _) | (with_reducible refine Kd.C_drew ?_))) C_y.out (by repeat (first | exact (Kd.C_below R_x.out B_x.out) | (with_reducible refine Kd.C_alloc ?_ _) | (with_reducible refine Kd.C_drewN ?_ _) | (with_reducible refine Kd.C_drew ?_))) C_x.out Hj2.out).mono ?_
      rintro e w128 ⟨v, rfl, ho, hb⟩
      obtain ⟨A_j2, c_j2, rfl, hlo, hC⟩ := Kd.R_reads ho
      clear ho
      have Z_ := Aside0.mk (below_step (by repeat (first | exact B_x.out | apply below_alloc | apply pw_below_drewN | apply below_drew1)) hb)
      clear B_x
      have B_x := Z_
      clear Z_
      have Z_ := Aside0.mk (below_step (by repeat (first | exact B_y.out | apply below_alloc | apply pw_below_drewN | apply below_drew1)) hb)
      clear B_y
      have B_y := Z_
      clear Z_
      have Z_ := Aside0.mk (below_step (by repeat (first | exact B_j.out | apply below_alloc | apply pw_below_drewN | apply below_drew1)) hb)
      clear B_j
      have B_j := Z_
      clear Z_
      have Z_ := Aside0.mk (below_step (by repeat (first | exact HB.out | apply below_alloc | apply pw_below_drewN | apply below_drew1)) hb)
      clear HB
      have HB := Z_
      clear Z_
      clear hb
      have R_j2 := Aside0.mk hC
      have C_j2 := Aside0.mk hlo
      clear hC hlo
      have B_j2 := Aside0.mk (Below.refl w128.heap.size w128)
      go_wp2_with fail
      with_reducible refine (runes_Same.calls k _ _ j _ _ j2 _ _ (by repeat (first | exact (Kd.C_below R_j.out B_j.out) | (with_reducible refine Kd.C_alloc ?_ _) | (with_reducible refine Kd.C_drewN ?_ _) | (with_reducible refine Kd.C_drew ?_))) C_j.out (by repeat (first | exact (Kd.C_below R_j2.out B_j2.out) | (with_reducible refine Kd.C_alloc ?_ _) | (with_reducible refine Kd.C_drewN ?_ _) | (with_reducible refine Kd.C_drew ?_))) C_j2.out He6.out).mono ?_
      rintro e w129 ⟨rfl, hb⟩
      have Z_ := Aside0.mk (below_step (by repeat (first | exact B_x.out | apply below_alloc | apply pw_below_drewN | apply below_drew1)) hb)
      clear B_x
      have B_x := Z_
      clear Z_
      have Z_ := Aside0.mk (below_step (by repeat (first | exact B_y.out | apply below_alloc | apply pw_below_drewN | apply below_drew1)) hb)
      clear B_y
      have B_y := Z_
      clear Z_
      have Z_ := Aside0.mk (below_step (by repeat (first | exact B_j.out | apply below_alloc | apply pw_below_drewN | apply below_drew1)) hb)
      clear B_j
      have B_j := Z_
      clear Z_
      have Z_ := Aside0.mk (below_step (by repeat (first | exact B_j2.out | apply below_alloc | apply pw_below_drewN | apply below_drew1)) hb)
      clear B_j2
      have B_j2 := Z_
      clear Z_
      have Z_ := Aside0.mk (below_step (by repeat (first | exact HB.out | apply below_alloc | apply pw_below_drewN | apply below_drew1)) hb)
      clear HB
      have HB := Z_
      clear Z_
      clear hb
      clear R_j C_j B_j
      clear R_j2 C_j2 B_j2
      clear R_x C_x B_x
      clear R_y C_y B_y
      go_wp2_with fail
      with_reducible refine (driftnetlaw09_awake.calls k _ _ He7.out).mono ?_
      rintro e w130 ⟨rfl, hb⟩
      have Z_ := Aside0.mk (below_step (by repeat (first | exact HB.out | apply below_alloc | apply pw_below_drewN | apply below_drew1)) hb)
      clear HB
      have HB := Z_
      clear Z_
      clear hb
      go_wp2_with fail
      go_ret
      exact ⟨rfl, by repeat (first | exact HB.out | apply below_alloc | apply pw_below_drewN | apply below_drew1)⟩
/-- THE ONE PURE STATEMENT of driftnetlaw09_RunesOnce. -/
def driftnetlaw09_RunesOnce.Pure : Prop := ∀ (l0 : List (S41)) (l1 : List (S41)), (l0.length * 16 ≤ 140737488351232 ∧ l0.length ≤ maxLen ∧ ∀ y ∈ l0, wf41 y) → (l1.length * 16 ≤ 140737488351232 ∧ l1.length ≤ maxLen ∧ ∀ y ∈ l1, wf41 y) → ∃ k, driftnetlaw09_RunesOnce.f k l0 l1 = some true
theorem driftnetlaw09_RunesOnce.walk (P : driftnetlaw09_RunesOnce.Pure) (A0 : Option Addr) (c0 : Nat) (l0 : List (S41)) (A1 : Option Addr) (c1 : Nat) (l1 : List (S41)) (w : World) (hr0 : Kd.C k41 w A0 l0.length l0) (hc0 : l0.length ≤ c0) (hr1 : Kd.C k41 w A1 l1.length l1) (hc1 : l1.length ≤ c1) (hw0 : l0.length * 16 ≤ 140737488351232 ∧ l0.length ≤ maxLen ∧ ∀ y ∈ l0, wf41 y) (hw1 : l1.length * 16 ≤ 140737488351232 ∧ l1.length ≤ maxLen ∧ ∀ y ∈ l1, wf41 y) :
    Calls Try.prog 5 #[.slice A0 l0.length c0, .slice A1 l1.length c1] w fun e w' => e = .returned (.bool true) ∧ Below w.heap.size w w' := by
  obtain ⟨k, h⟩ := P l0 l1 hw0 hw1
  refine (driftnetlaw09_RunesOnce.calls k _ _ l0 _ _ l1 true w hr0 hc0 hr1 hc1 h).mono ?_
  rintro e w' ⟨rfl, hd⟩
  exact ⟨rfl, hd⟩


end Go.Proofs.Ytoihjhpabccigaa.PR
