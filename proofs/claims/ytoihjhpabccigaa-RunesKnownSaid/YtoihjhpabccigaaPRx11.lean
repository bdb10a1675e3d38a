/- Written by a program of this session (wip/hand.py, over the kit's print): functions of the given program as plain Lean functions, and that the machine's calls come to what these say. -/
import Derived.Test.YtoihjhpabccigaaPN
import Derived.Test.YtoihjhpabccigaaHA
import Derived.Test.YtoihjhpabccigaaHL
import Derived.Test.YtoihjhpabccigaaPRx0
import Derived.Test.YtoihjhpabccigaaPRx3
import Derived.Test.YtoihjhpabccigaaPRx4
import Derived.Test.YtoihjhpabccigaaPRx6
import Derived.Test.YtoihjhpabccigaaPRx10
namespace Go.Proofs.Ytoihjhpabccigaa.PR
open Go.RowKit Go.Proofs.YtoihjhpabccigaaW.PrintWords Go.Proofs.YtoihjhpabccigaaW.PrintLast Go.Proofs.YtoihjhpabccigaaW.PrintMore
attribute [local go_sem] max2_int min2_int max_two min_two max_three min_three max_four min_four   -- for this text's walks alone
set_option linter.unusedVariables false
set_option linter.unusedSimpArgs false

/-! ### driftnetlaw09_RunesHas: function 6 (by hand) -/
def rb (n : Int) : Bool := decide (0 ≤ n) && decide (n ≤ 1114111)
def anyR (l : List S41) (n : Int) : Bool := l.any (fun z => decide (z.f0 ≤ n) && decide (n ≤ z.f1))
def hasAll (x own nt jn bo : List S38) (a b : List S41) (n : Int) : Prop :=
  runes_Set_Has.f x n = some (rb n && anyR a n) ∧ runes_Set_Has.f own n = some (rb n && anyR a n) ∧ runes_Set_Has.f nt n = some (rb n && !(rb n && anyR a n)) ∧ runes_Set_Has.f jn n = some ((rb n && anyR a n) || (rb n && anyR b n)) ∧ runes_Set_Has.f bo n = some ((rb n && anyR a n) && (rb n && anyR b n))
instance (x own nt jn bo : List S38) (a b : List S41) (n : Int) : Decidable (hasAll x own nt jn bo a b n) := by unfold hasAll; infer_instance
theorem rb3 (n : Int) : (0 ≤ n ∧ n ≤ 1114111 ∧ rb n = true) ∨ (0 ≤ n ∧ decide (n ≤ 1114111) = false ∧ rb n = false) ∨ (decide (0 ≤ n) = false ∧ True ∧ rb n = false) := by
  unfold rb
  by_cases h0 : 0 ≤ n
  · by_cases h1 : n ≤ 1114111
    · exact Or.inl ⟨h0, h1, by simp [h0, h1]⟩
    · exact Or.inr (Or.inl ⟨h0, by simpa using h1, by simp [h1]⟩)
  · exact Or.inr (Or.inr ⟨by simpa using h0, trivial, by simp [h0]⟩)
theorem anyR_step (l : List S41) (k : Nat) (h : k < l.length) (n : Int) : anyR (l.take (k + 1)) n = (anyR (l.take k) n || (decide ((rd_T41 l (k : Int)).f0 ≤ n) && decide (n ≤ (rd_T41 l (k : Int)).f1))) := by
  have e : rd_T41 l (k : Int) = l[k] := by
    unfold rd_T41
    rw [List.getD_eq_getElem?_getD, Int.toNat_natCast, List.getElem?_eq_getElem h]
    rfl
  unfold anyR
  rw [e, List.take_succ_eq_append_getElem h, List.any_append]
  simp
def driftnetlaw09_RunesHas.f (k : Nat) (l0 : List (S41)) (l1 : List (S41)) (a2 : Int) : Option Bool := (driftnetlaw09_set.f k (l0.take 15)).bind fun x => ((driftnetlaw09_set.f k (l1.take 15)).bind fun y => ((runes_Of.f x).bind fun own => ((runes_Set_Not.f k x).bind fun nt => ((runes_Join.f [x, y]).bind fun jn => ((runes_Both.f k x y).bind fun bo => ((driftnetlaw09_ends.f k (l0.take 15) a2).bind fun ea => ((driftnetlaw09_ends.f k (l1.take 15) a2).bind fun eb => (if ea.length + eb.length ≤ 1000 then (if ∀ n ∈ ea ++ eb, hasAll x own nt jn bo (l0.take 15) (l1.take 15) n then ((runes_Check.f k own).bind fun e1 => if e1 = true then ((runes_Check.f k nt).bind fun e2 => if e2 = true then ((runes_Check.f k jn).bind fun e3 => if e3 = true then ((runes_Check.f k bo).bind fun e4 => if e4 = true then ((driftnetlaw09_awake.f k).bind fun e5 => if e5 = true then (some true) else none) else none) else none) else none) else none) else none) else none))))))))
theorem driftnetlaw09_RunesHas.mono : ∀ a0 a1 a2 k, LeO (driftnetlaw09_RunesHas.f k a0 a1 a2) (driftnetlaw09_RunesHas.f (k + 1) a0 a1 a2) := by
  intro a0 a1 a2 k
  unfold driftnetlaw09_RunesHas.f
  repeat' first
      | (with_reducible exact driftnetlaw09_set.mono _ _)
      | (with_reducible exact runes_Set_Not.mono _ _)
      | (with_reducible exact runes_Both.mono _ _ _)
      | (with_reducible exact driftnetlaw09_ends.mono _ _ _)
      | (with_reducible exact runes_Check.mono _ _)
      | (with_reducible exact driftnetlaw09_awake.mono _)
      | (with_reducible exact LeO.refl _)
      | (with_reducible exact LeO.none _)
      | (with_reducible refine LeO.ite ?_ ?_)
      | (with_reducible refine LeO.bind ?_ (fun _ => ?_))
      | exact driftnetlaw09_set.mono _ _
      | exact runes_Set_Not.mono _ _
      | exact runes_Both.mono _ _ _
      | exact driftnetlaw09_ends.mono _ _ _
      | exact runes_Check.mono _ _
      | exact driftnetlaw09_awake.mono _
      | exact LeO.refl _
      | exact LeO.none _
      | refine LeO.ite ?_ ?_
      | refine LeO.bind ?_ (fun _ => ?_)
set_option maxHeartbeats 16000000 in
set_option maxRecDepth 100000 in
theorem driftnetlaw09_RunesHas.calls (k : Nat) (A0 : Option Addr) (c0 : Nat) (l0 : List (S41)) (A1 : Option Addr) (c1 : Nat) (l1 : List (S41)) (a2 : Int) (r : Bool) (w : World) (hrl0 : Kd.C k41 w A0 l0.length l0) (hcl0 : l0.length ≤ c0) (hrl1 : Kd.C k41 w A1 l1.length l1) (hcl1 : l1.length ≤ c1) (h : driftnetlaw09_RunesHas.f k l0 l1 a2 = some r) :
    Calls Try.prog 6 #[.slice A0 l0.length c0, .slice A1 l1.length c1, .int .i64 a2] w fun e w' => e = .returned (.bool r) ∧ Below w.heap.size w w' := by
  unfold driftnetlaw09_RunesHas.f at h
  obtain ⟨x, a_, h_⟩ := Option.bind_eq_some_iff.mp h
  clear h
  have h := h_
  clear h_
  have Hx := Aside0.mk a_
  clear a_
  obtain ⟨y, a_, h_⟩ := Option.bind_eq_some_iff.mp h
  clear h
  have h := h_
  clear h_
  have Hy := Aside0.mk a_
  clear a_
  obtain ⟨own, a_, h_⟩ := Option.bind_eq_some_iff.mp h
  clear h
  have h := h_
  clear h_
  have Hown := Aside0.mk a_
  clear a_
  obtain ⟨nt, a_, h_⟩ := Option.bind_eq_some_iff.mp h
  clear h
  have h := h_
  clear h_
  have Hnt := Aside0.mk a_
  clear a_
  obtain ⟨jn, a_, h_⟩ := Option.bind_eq_some_iff.mp h
  clear h
  have h := h_
  clear h_
  have Hjn := Aside0.mk a_
  clear a_
  obtain ⟨bo, a_, h_⟩ := Option.bind_eq_some_iff.mp h
  clear h
  have h := h_
  clear h_
  have Hbo := Aside0.mk a_
  clear a_
  obtain ⟨ea, a_, h_⟩ := Option.bind_eq_some_iff.mp h
  clear h
  have h := h_
  clear h_
  have Hea := Aside0.mk a_
  clear a_
  obtain ⟨eb, a_, h_⟩ := Option.bind_eq_some_iff.mp h
  clear h
  have h := h_
  clear h_
  have Heb := Aside0.mk a_
  clear a_
  by_cases hc_ : ea.length + eb.length ≤ 1000
  rotate_left
  · rw [if_neg hc_] at h; cases h
  rw [if_pos hc_] at h
  have HQ0 := Aside0.mk hc_
  clear hc_
  by_cases hc_ : ∀ n ∈ ea ++ eb, hasAll x own nt jn bo (l0.take 15) (l1.take 15) n
  rotate_left
  · rw [if_neg hc_] at h; cases h
  rw [if_pos hc_] at h
  have HQ1 := Aside0.mk hc_
  clear hc_
  obtain ⟨e1, a_, h_⟩ := Option.bind_eq_some_iff.mp h
  clear h
  have h := h_
  clear h_
  have He1 := Aside0.mk a_
  clear a_
  by_cases hc_ : e1 = true
  rotate_left
  · rw [if_neg hc_] at h; cases h
  rw [if_pos hc_] at h
  rw [hc_] at He1
  clear hc_
  obtain ⟨e2, a_, h_⟩ := Option.bind_eq_some_iff.mp h
  clear h
  have h := h_
  clear h_
  have He2 := Aside0.mk a_
  clear a_
  by_cases hc_ : e2 = true
  rotate_left
  · rw [if_neg hc_] at h; cases h
  rw [if_pos hc_] at h
  rw [hc_] at He2
  clear hc_
  obtain ⟨e3, a_, h_⟩ := Option.bind_eq_some_iff.mp h
  clear h
  have h := h_
  clear h_
  have He3 := Aside0.mk a_
  clear a_
  by_cases hc_ : e3 = true
  rotate_left
  · rw [if_neg hc_] at h; cases h
  rw [if_pos hc_] at h
  rw [hc_] at He3
  clear hc_
  obtain ⟨e4, a_, h_⟩ := Option.bind_eq_some_iff.mp h
  clear h
  have h := h_
  clear h_
  have He4 := Aside0.mk a_
  clear a_
  by_cases hc_ : e4 = true
  rotate_left
  · rw [if_neg hc_] at h; cases h
  rw [if_pos hc_] at h
  rw [hc_] at He4
  clear hc_
  obtain ⟨e5, a_, h_⟩ := Option.bind_eq_some_iff.mp h
  clear h
  have h := h_
  clear h_
  have He5 := Aside0.mk a_
  clear a_
  by_cases hc_ : e5 = true
  rotate_left
  · rw [if_neg hc_] at h; cases h
  rw [if_pos hc_] at h
  rw [hc_] at He5
  clear hc_
  obtain rfl := Option.some.inj h
  clear h
  have R_l0 := Aside0.mk hrl0
  have C_l0 := Aside0.mk hcl0
  clear hrl0 hcl0
  have B_l0 := Aside0.mk (Below.refl w.heap.size w)
  have R_l1 := Aside0.mk hrl1
  have C_l1 := Aside0.mk hcl1
  clear hrl1 hcl1
  have B_l1 := Aside0.mk (Below.refl w.heap.size w)
  have HB := Aside0.mk (Below.refl w.heap.size w)
  obtain ⟨m_l0, hm_l0⟩ : ∃ m_ : Int, (if 15 < (l0.length : Int) then 15 else (l0.length : Int)) = m_ := ⟨_, rfl⟩
  have q0_l0 : 0 ≤ m_l0 := by rw [← hm_l0]; split <;> omega
  have q1_l0 : m_l0 ≤ (l0.length : Int) := by rw [← hm_l0]; split <;> omega
  have q2_l0 : l0.take m_l0.toNat = l0.take 15 := by
    rw [← hm_l0]
    split
    · rfl
    · rw [Int.toNat_natCast, List.take_of_length_le (Nat.le_refl _), List.take_of_length_le (by omega)]
  obtain ⟨i_l0, hi_l0, _, _, _⟩ := info_parts info41
  have hcut_l0 := cut_to (P := Try.prog) 22 41 .i64 Try.underlying22 hi_l0 A0 l0.length c0 m_l0 q0_l0 q1_l0 C_l0.out
  have hr_l0 := Kd.C_take (m := m_l0.toNat) R_l0.out (by omega)
  have hl_l0 : (l0.take m_l0.toNat).length = m_l0.toNat := by rw [List.length_take]; omega
  rw [← hl_l0] at hcut_l0
  rw [q2_l0] at hr_l0 hcut_l0
  have hc_l0 : (l0.take 15).length ≤ c0 := by have := C_l0.out; rw [List.length_take]; omega
  obtain ⟨a, hy_l0⟩ : ∃ y_, y_ = l0.take 15 := ⟨_, rfl⟩
  rw [← hy_l0] at hr_l0 hcut_l0 hc_l0
  have R_a := Aside0.mk hr_l0
  have C_a := Aside0.mk hc_l0
  have Y_a := Aside0.mk hy_l0
  clear hr_l0 hc_l0 hy_l0 q2_l0 hl_l0 hi_l0
  obtain ⟨m_l1, hm_l1⟩ : ∃ m_ : Int, (if 15 < (l1.length : Int) then 15 else (l1.length : Int)) = m_ := ⟨_, rfl⟩
  have q0_l1 : 0 ≤ m_l1 := by rw [← hm_l1]; split <;> omega
  have q1_l1 : m_l1 ≤ (l1.length : Int) := by rw [← hm_l1]; split <;> omega
  have q2_l1 : l1.take m_l1.toNat = l1.take 15 := by
    rw [← hm_l1]
    split
    · rfl
    · rw [Int.toNat_natCast, List.take_of_length_le (Nat.le_refl _), List.take_of_length_le (by omega)]
  obtain ⟨i_l1, hi_l1, _, _, _⟩ := info_parts info41
  have hcut_l1 := cut_to (P := Try.prog) 22 41 .i64 Try.underlying22 hi_l1 A1 l1.length c1 m_l1 q0_l1 q1_l1 C_l1.out
  have hr_l1 := Kd.C_take (m := m_l1.toNat) R_l1.out (by omega)
  have hl_l1 : (l1.take m_l1.toNat).length = m_l1.toNat := by rw [List.length_take]; omega
  rw [← hl_l1] at hcut_l1
  rw [q2_l1] at hr_l1 hcut_l1
  have hc_l1 : (l1.take 15).length ≤ c1 := by have := C_l1.out; rw [List.length_take]; omega
  obtain ⟨b, hy_l1⟩ : ∃ y_, y_ = l1.take 15 := ⟨_, rfl⟩
  rw [← hy_l1] at hr_l1 hcut_l1 hc_l1
  have R_b := Aside0.mk hr_l1
  have C_b := Aside0.mk hc_l1
  have Y_b := Aside0.mk hy_l1
  clear hr_l1 hc_l1 hy_l1 q2_l1 hl_l1 hi_l1
  simp only [← Y_a.out, ← Y_b.out] at Hx Hy Hea Heb HQ1
  go_enter Try.func6, Try.ntmps6
  go_wp2_with fail
  go_quiet (fail)
  obtain ⟨w100, hw100⟩ : ∃ w_, w_ = w.drewN nq := ⟨_, rfl⟩
  rw [← hw100]
  have hb : Below w.heap.size w w100 := by rw [hw100]; exact pw_below_drewN (Below.refl _ _) _
  clear hw100
  have B_a := Aside0.mk (Below.refl w.heap.size w)
  have B_b := Aside0.mk (Below.refl w.heap.size w)
  have Z_ := Aside0.mk (below_step (by repeat (first | exact B_l0.out | apply below_alloc | apply pw_below_drewN | apply below_drew1)) hb)
  clear B_l0
  have B_l0 := Z_
  clear Z_
  have Z_ := Aside0.mk (below_step (by repeat (first | exact B_l1.out | apply below_alloc | apply pw_below_drewN | apply below_drew1)) hb)
  clear B_l1
  have B_l1 := Z_
  clear Z_
  have Z_ := Aside0.mk (below_step (by repeat (first | exact B_a.out | apply below_alloc | apply pw_below_drewN | apply below_drew1)) hb)
  clear B_a
  have B_a := Z_
  clear Z_
  have Z_ := Aside0.mk (below_step (by repeat (first | exact B_b.out | apply below_alloc | apply pw_below_drewN | apply below_drew1)) hb)
  clear B_b
  have B_b := Z_
  clear Z_
  have Z_ := Aside0.mk (below_step (by repeat (first | exact HB.out | apply below_alloc | apply pw_below_drewN | apply below_drew1)) hb)
  clear HB
  have HB := Z_
  clear Z_
  clear hb
  clear R_l0 C_l0 B_l0
  clear R_l1 C_l1 B_l1
  clear hcut_l0 hcut_l1 q0_l0 q1_l0 q0_l1 q1_l1 hm_l0 hm_l1
  have L_a : Aside0 (a.length ≤ 15) := ⟨by rw [Y_a.out, List.length_take]; omega⟩
  have L_b : Aside0 (b.length ≤ 15) := ⟨by rw [Y_b.out, List.length_take]; omega⟩
  go_wp2_with fail
  with_reducible refine (driftnetlaw09_set.calls k _ _ a _ _ (by repeat (first | exact (Kd.C_below R_a.out B_a.out) | (with_reducible refine Kd.C_alloc ?_ _) | (with_reducible refine Kd.C_drewN ?_ _) | (with_reducible refine Kd.C_drew ?_))) C_a.out Hx.out).mono ?_
  rintro e w101 ⟨v, rfl, ho, hb⟩
  obtain ⟨A_x, c_x, rfl, hlo, hC⟩ := Kd.R_reads ho
  clear ho
  have Z_ := Aside0.mk (below_step (by repeat (first | exact B_a.out | apply below_alloc | apply pw_below_drewN | apply below_drew1)) hb)
  clear B_a
  have B_a := Z_
  clear Z_
  have Z_ := Aside0.mk (below_step (by repeat (first | exact B_b.out | apply below_alloc | apply pw_below_drewN | apply below_drew1)) hb)
  clear B_b
  have B_b := Z_
  clear Z_
  have Z_ := Aside0.mk (below_step (by repeat (first | exact HB.out | apply below_alloc | apply pw_below_drewN | apply below_drew1)) hb)
  clear HB
  have HB := Z_
  clear Z_
  clear hb
  have R_x := Aside0.mk hC
  have C_x := Aside0.mk hlo
  clear hC hlo
  have B_x := Aside0.mk (Below.refl w101.heap.size w101)
  go_wp2_with fail
  with_reducible refine (driftnetlaw09_set.calls k _ _ b _ _ (by repeat (first | exact (Kd.C_below R_b.out B_b.out) | (with_reducible refine Kd.C_alloc ?_ _) | (with_reducible refine Kd.C_drewN ?_ _) | (with_reducible refine Kd.C_drew ?_))) C_b.out Hy.out).mono ?_
  rintro e w102 ⟨v, rfl, ho, hb⟩
  obtain ⟨A_y, c_y, rfl, hlo, hC⟩ := Kd.R_reads ho
  clear ho
  have Z_ := Aside0.mk (below_step (by repeat (first | exact B_a.out | apply below_alloc | apply pw_below_drewN | apply below_drew1)) hb)
  clear B_a
  have B_a := Z_
  clear Z_
  have Z_ := Aside0.mk (below_step (by repeat (first | exact B_b.out | apply below_alloc | apply pw_below_drewN | apply below_drew1)) hb)
  clear B_b
  have B_b := Z_
  clear Z_
  have Z_ := Aside0.mk (below_step (by repeat (first | exact B_x.out | apply below_alloc | apply pw_below_drewN | apply below_drew1)) hb)
  clear B_x
  have B_x := Z_
  clear Z_
  have Z_ := Aside0.mk (below_step (by repeat (first | exact HB.out | apply below_alloc | apply pw_below_drewN | apply below_drew1)) hb)
  clear HB
  have HB := Z_
  clear Z_
  clear hb
  have R_y := Aside0.mk hC
  have C_y := Aside0.mk hlo
  clear hC hlo
  have B_y := Aside0.mk (Below.refl w102.heap.size w102)
  go_wp2_with fail
  with_reducible refine (runes_Of.calls _ _ x _ _ (by repeat (first | exact (Kd.C_below R_x.out B_x.out) | (with_reducible refine Kd.C_alloc ?_ _) | (with_reducible refine Kd.C_drewN ?_ _) | (with_reducible refine Kd.C_drew ?_))) C_x.out Hown.out).mono ?_
  rintro e w103 ⟨v, rfl, ho, hb⟩
  obtain ⟨A_own, c_own, rfl, hlo, hC⟩ := Kd.R_reads ho
  clear ho
  have Z_ := Aside0.mk (below_step (by repeat (first | exact B_a.out | apply below_alloc | apply pw_below_drewN | apply below_drew1)) hb)
  clear B_a
  have B_a := Z_
  clear Z_
  have Z_ := Aside0.mk (below_step (by repeat (first | exact B_b.out | apply below_alloc | apply pw_below_drewN | apply below_drew1)) hb)
  clear B_b
  have B_b := Z_
  clear Z_
  have Z_ := Aside0.mk (below_step (by repeat (first | exact B_x.out | apply below_alloc | apply pw_below_drewN | apply below_drew1)) hb)
  clear B_x
  have B_x := Z_
  clear Z_
  have Z_ := Aside0.mk (below_step (by repeat (first | exact B_y.out | apply below_alloc | apply pw_below_drewN | apply below_drew1)) hb)
  clear B_y
  have B_y := Z_
  clear Z_
  have Z_ := Aside0.mk (below_step (by repeat (first | exact HB.out | apply below_alloc | apply pw_below_drewN | apply below_drew1)) hb)
  clear HB
  have HB := Z_
  clear Z_
  clear hb
  have R_own := Aside0.mk hC
  have C_own := Aside0.mk hlo
  clear hC hlo
  have B_own := Aside0.mk (Below.refl w103.heap.size w103)
  go_wp2_with fail
  with_reducible refine (runes_Set_Not.calls k _ _ x _ _ (by repeat (first | exact (Kd.C_below R_x.out B_x.out) | (with_reducible refine Kd.C_alloc ?_ _) | (with_reducible refine Kd.C_drewN ?_ _) | (with_reducible refine Kd.C_drew ?_))) C_x.out Hnt.out).mono ?_
  rintro e w104 ⟨v, rfl, ho, hb⟩
  obtain ⟨A_nt, c_nt, rfl, hlo, hC⟩ := Kd.R_reads ho
  clear ho
  have Z_ := Aside0.mk (below_step (by repeat (first | exact B_a.out | apply below_alloc | apply pw_below_drewN | apply below_drew1)) hb)
  clear B_a
  have B_a := Z_
  clear Z_
  have Z_ := Aside0.mk (below_step (by repeat (first | exact B_b.out | apply below_alloc | apply pw_below_drewN | apply below_drew1)) hb)
  clear B_b
  have B_b := Z_
  clear Z_
  have Z_ := Aside0.mk (below_step (by repeat (first | exact B_x.out | apply below_alloc | apply pw_below_drewN | apply below_drew1)) hb)
  clear B_x
  have B_x := Z_
  clear Z_
  have Z_ := Aside0.mk (below_step (by repeat (first | exact B_y.out | apply below_alloc | apply pw_below_drewN | apply below_drew1)) hb)
  clear B_y
  have B_y := Z_
  clear Z_
  have Z_ := Aside0.mk (below_step (by repeat (first | exact B_own.out | apply below_alloc | apply pw_below_drewN | apply below_drew1)) hb)
  clear B_own
  have B_own := Z_
  clear Z_
  have Z_ := Aside0.mk (below_step (by repeat (first | exact HB.out | apply below_alloc | apply pw_below_drewN | apply below_drew1)) hb)
  clear HB
  have HB := Z_
  clear Z_
  clear hb
  have R_nt := Aside0.mk hC
  have C_nt := Aside0.mk hlo
  clear hC hlo
  have B_nt := Aside0.mk (Below.refl w104.heap.size w104)
  go_wp2_with fail
  with_reducible refine (join2c _ _ _ _ x y _ _ (by repeat (first | exact (Kd.C_below R_x.out B_x.out) | (with_reducible refine Kd.C_alloc ?_ _) | (with_reducible refine Kd.C_drewN ?_ _) | (with_reducible refine Kd.C_drew ?_))) C_x.out (by repeat (first | exact (Kd.C_below R_y.out B_y.out) | (with_reducible refine Kd.C_alloc ?_ _) | (with_reducible refine Kd.C_drewN ?_ _) | (with_reducible refine Kd.C_drew ?_))) C_y.out Hjn.out).mono ?_
  rintro e w105 ⟨v, rfl, ho, hb⟩
  obtain ⟨A_jn, c_jn, rfl, hlo, hC⟩ := Kd.R_reads ho
  clear ho
  have Z_ := Aside0.mk (below_step (by repeat (first | exact B_a.out | apply below_alloc | apply pw_below_drewN | apply below_drew1)) hb)
  clear B_a
  have B_a := Z_
  clear Z_
  have Z_ := Aside0.mk (below_step (by repeat (first | exact B_b.out | apply below_alloc | apply pw_below_drewN | apply below_drew1)) hb)
  clear B_b
  have B_b := Z_
  clear Z_
  have Z_ := Aside0.mk (below_step (by repeat (first | exact B_x.out | apply below_alloc | apply pw_below_drewN | apply below_drew1)) hb)
  clear B_x
  have B_x := Z_
  clear Z_
  have Z_ := Aside0.mk (below_step (by repeat (first | exact B_y.out | apply below_alloc | apply pw_below_drewN | apply below_drew1)) hb)
  clear B_y
  have B_y := Z_
  clear Z_
  have Z_ := Aside0.mk (below_step (by repeat (first | exact B_own.out | apply below_alloc | apply pw_below_drewN | apply below_drew1)) hb)
  clear B_own
  have B_own := Z_
  clear Z_
  have Z_ := Aside0.mk (below_step (by repeat (first | exact B_nt.out | apply below_alloc | apply pw_below_drewN | apply below_drew1)) hb)
  clear B_nt
  have B_nt := Z_
  clear Z_
  have Z_ := Aside0.mk (below_step (by repeat (first | exact HB.out | apply below_alloc | apply pw_below_drewN | apply below_drew1)) hb)
  clear HB
  have HB := Z_
  clear Z_
  clear hb
  have R_jn := Aside0.mk hC
  have C_jn := Aside0.mk hlo
  clear hC hlo
  have B_jn := Aside0.mk (Below.refl w105.heap.size w105)
  go_wp2_with fail
  with_reducible refine (runes_Both.calls k _ _ x _ _ y _ _ (by repeat (first | exact (Kd.C_below R_x.out B_x.out) | (with_reducible refine Kd.C_alloc ?_ _) | (with_reducible refine Kd.C_drewN ?_ _) | (with_reducible refine Kd.C_drew ?_))) C_x.out (by repeat (first | exact (Kd.C_below R_y.out B_y.out) | (with_reducible refine Kd.C_alloc ?_ _) | (with_reducible refine Kd.C_drewN ?_ _) | (with_reducible refine Kd.C_drew ?_))) C_y.out Hbo.out).mono ?_
  rintro e w106 ⟨v, rfl, ho, hb⟩
  obtain ⟨A_bo, c_bo, rfl, hlo, hC⟩ := Kd.R_reads ho
  clear ho
  have Z_ := Aside0.mk (below_step (by repeat (first | exact B_a.out | apply below_alloc | apply pw_below_drewN | apply below_drew1)) hb)
  clear B_a
  have B_a := Z_
  clear Z_
  have Z_ := Aside0.mk (below_step (by repeat (first | exact B_b.out | apply below_alloc | apply pw_below_drewN | apply below_drew1)) hb)
  clear B_b
  have B_b := Z_
  clear Z_
  have Z_ := Aside0.mk (below_step (by repeat (first | exact B_x.out | apply below_alloc | apply pw_below_drewN | apply below_drew1)) hb)
  clear B_x
  have B_x := Z_
  clear Z_
  have Z_ := Aside0.mk (below_step (by repeat (first | exact B_y.out | apply below_alloc | apply pw_below_drewN | apply below_drew1)) hb)
  clear B_y
  have B_y := Z_
  clear Z_
  have Z_ := Aside0.mk (below_step (by repeat (first | exact B_own.out | apply below_alloc | apply pw_below_drewN | apply below_drew1)) hb)
  clear B_own
  have B_own := Z_
  clear Z_
  have Z_ := Aside0.mk (below_step (by repeat (first | exact B_nt.out | apply below_alloc | apply pw_below_drewN | apply below_drew1)) hb)
  clear B_nt
  have B_nt := Z_
  clear Z_
  have Z_ := Aside0.mk (below_step (by repeat (first | exact B_jn.out | apply below_alloc | apply pw_below_drewN | apply below_drew1)) hb)
  clear B_jn
  have B_jn := Z_
  clear Z_
  have Z_ := Aside0.mk (below_step (by repeat (first | exact HB.out | apply below_alloc | apply pw_below_drewN | apply below_drew1)) hb)
  clear HB
  have HB := Z_
  clear Z_
  clear hb
  have R_bo := Aside0.mk hC
  have C_bo := Aside0.mk hlo
  clear hC hlo
  have B_bo := Aside0.mk (Below.refl w106.heap.size w106)
  clear R_y C_y B_y
  go_wp2_with fail
  with_reducible refine (driftnetlaw09_ends.calls k _ _ a a2 _ _ (by repeat (first | exact (Kd.C_below R_a.out B_a.out) | (with_reducible refine Kd.C_alloc ?_ _) | (with_reducible refine Kd.C_drewN ?_ _) | (with_reducible refine Kd.C_drew ?_))) C_a.out Hea.out).mono ?_
  rintro e v1 ⟨v, rfl, ho, hb⟩
  have OE := Aside0.mk ho
  have PE := Aside0.mk hb
  clear ho hb
  go_wp2_with fail
  with_reducible refine (driftnetlaw09_ends.calls k _ _ b a2 _ _ (Kd.C_below (Kd.C_below R_b.out B_b.out) PE.out) C_b.out Heb.out).mono ?_
  rintro e v2 ⟨v', rfl, ho, hb⟩
  obtain ⟨A_eb, c_eb, rfl, hlo, hC⟩ := Kd.R_reads ho
  have OE2 := Aside0.mk (Kd.R_below OE.out hb)
  have PE2 := Aside0.mk (below_step PE.out hb)
  have RE := Aside0.mk hC
  clear ho hb hlo hC OE PE
  go_wp2_with (first | ((with_reducible refine gate_builtin (b := .append) (xs := #[.tmp 48, .tmp 51]) rfl ?_); at_builtin; refine Kd.R_append_rows (Kd.int .i64) (Rr := (Kd.int .i64).K v2) (w0 := w106) w106.heap.size rfl (.tmp 48) (.tmp 51) 39 3 (.int .i64 0) 8 rfl Try.underlying39 info3 rfl (by decide) (by omega) v ea eb A_eb eb.length c_eb (fun _ => True) (fun _ => False) rfl rfl ?aO ?aR ?aK (fun _ h => h.elim) ?aF ?aB ?aS ?aL ?_; (case aO => exact OE2.out); (case aR => exact RE.out); (case aK => exact fun x cs h => h); (case aF => exact fun _ _ => trivial); (case aB => exact PE2.out); (case aS => exact PE2.out.size); (case aL => have := HQ0.out; omega); intro v_l w_l ho hb hg hat; have OE3 := Aside0.mk ho; have PE3 := Aside0.mk hb; clear ho hb hg hat))
  have hb := PE3.out
  have ho := OE3.out
  obtain ⟨l, hl_⟩ : ∃ y_, y_ = ea ++ eb := ⟨_, rfl⟩
  rw [← hl_] at ho HQ1
  have LL : Aside0 (l.length ≤ 1000) := ⟨by rw [hl_, List.length_append]; exact HQ0.out⟩
  clear hl_
  obtain ⟨A_l, c_l, hv_l, hlo, hC⟩ := Kd.R_reads ho
  subst hv_l
  clear ho OE2 PE2 RE OE3 PE3
  have Z_ := Aside0.mk (below_step (by repeat (first | exact B_a.out | apply below_alloc | apply pw_below_drewN | apply below_drew1)) hb)
  clear B_a
  have B_a := Z_
  clear Z_
  have Z_ := Aside0.mk (below_step (by repeat (first | exact B_b.out | apply below_alloc | apply pw_below_drewN | apply below_drew1)) hb)
  clear B_b
  have B_b := Z_
  clear Z_
  have Z_ := Aside0.mk (below_step (by repeat (first | exact B_x.out | apply below_alloc | apply pw_below_drewN | apply below_drew1)) hb)
  clear B_x
  have B_x := Z_
  clear Z_
  have Z_ := Aside0.mk (below_step (by repeat (first | exact B_own.out | apply below_alloc | apply pw_below_drewN | apply below_drew1)) hb)
  clear B_own
  have B_own := Z_
  clear Z_
  have Z_ := Aside0.mk (below_step (by repeat (first | exact B_nt.out | apply below_alloc | apply pw_below_drewN | apply below_drew1)) hb)
  clear B_nt
  have B_nt := Z_
  clear Z_
  have Z_ := Aside0.mk (below_step (by repeat (first | exact B_jn.out | apply below_alloc | apply pw_below_drewN | apply below_drew1)) hb)
  clear B_jn
  have B_jn := Z_
  clear Z_
  have Z_ := Aside0.mk (below_step (by repeat (first | exact B_bo.out | apply below_alloc | apply pw_below_drewN | apply below_drew1)) hb)
  clear B_bo
  have B_bo := Z_
  clear Z_
  have Z_ := Aside0.mk (below_step (by repeat (first | exact HB.out | apply below_alloc | apply pw_below_drewN | apply below_drew1)) hb)
  clear HB
  have HB := Z_
  clear Z_
  clear hb
  have R_l := Aside0.mk hC
  have C_l := Aside0.mk hlo
  clear hC hlo
  have B_l := Aside0.mk (Below.refl w_l.heap.size w_l)
  have hll := LL.out
  have hal := L_a.out
  have hbl := L_b.out
  go_wp2_with fail
  go_loopw [14] (fun i wr => ∃ j : Nat, j ≤ l.length ∧ i = .int .i64 j ∧ Aside0 (Below w_l.heap.size w_l wr)) (fun i _ => l.length - (intOf i).toNat)
  case atStart => exact ⟨0, Nat.zero_le _, rfl, ⟨Below.refl _ _⟩⟩
  case round =>
    obtain ⟨j, hj, rfl, HBL⟩ := hrel
    have hjb : (j : Int) ≤ 1000 := by omega
    have hb := HBL.out
    have Z_ := Aside0.mk (below_step (by repeat (first | exact B_a.out | apply below_alloc | apply pw_below_drewN | apply below_drew1)) hb)
    clear B_a
    have B_a := Z_
    clear Z_
    have Z_ := Aside0.mk (below_step (by repeat (first | exact B_b.out | apply below_alloc | apply pw_below_drewN | apply below_drew1)) hb)
    clear B_b
    have B_b := Z_
    clear Z_
    have Z_ := Aside0.mk (below_step (by repeat (first | exact B_x.out | apply below_alloc | apply pw_below_drewN | apply below_drew1)) hb)
    clear B_x
    have B_x := Z_
    clear Z_
    have Z_ := Aside0.mk (below_step (by repeat (first | exact B_own.out | apply below_alloc | apply pw_below_drewN | apply below_drew1)) hb)
    clear B_own
    have B_own := Z_
    clear Z_
    have Z_ := Aside0.mk (below_step (by repeat (first | exact B_nt.out | apply below_alloc | apply pw_below_drewN | apply below_drew1)) hb)
    clear B_nt
    have B_nt := Z_
    clear Z_
    have Z_ := Aside0.mk (below_step (by repeat (first | exact B_jn.out | apply below_alloc | apply pw_below_drewN | apply below_drew1)) hb)
    clear B_jn
    have B_jn := Z_
    clear Z_
    have Z_ := Aside0.mk (below_step (by repeat (first | exact B_bo.out | apply below_alloc | apply pw_below_drewN | apply below_drew1)) hb)
    clear B_bo
    have B_bo := Z_
    clear Z_
    have Z_ := Aside0.mk (below_step (by repeat (first | exact B_l.out | apply below_alloc | apply pw_below_drewN | apply below_drew1)) hb)
    clear B_l
    have B_l := Z_
    clear Z_
    have Z_ := Aside0.mk (below_step (by repeat (first | exact HB.out | apply below_alloc | apply pw_below_drewN | apply below_drew1)) hb)
    clear HB
    have HB := Z_
    clear Z_
    clear hb
    by_cases hjl : j < l.length
    rotate_left
    · have hki : ¬ ((j : Int) < (l.length : Int)) := by omega
      clear hjl hjb hj
      go_wp2_with fail
      with_reducible refine (runes_Check.calls k _ _ own _ _ (by repeat (first | exact (Kd.C_below R_own.out B_own.out) | (with_reducible refine Kd.C_alloc ?_ _) | (with_reducible refine Kd.C_drewN ?_ _) | (with_reducible refine Kd.C_drew ?_))) C_own.out He1.out).mono ?_
      rintro e w108 ⟨rfl, hb⟩
      have Z_ := Aside0.mk (below_step (by repeat (first | exact B_a.out | apply below_alloc | apply pw_below_drewN | apply below_drew1)) hb)
      clear B_a
      have B_a := Z_
      clear Z_
      have Z_ := Aside0.mk (below_step (by repeat (first | exact B_b.out | apply below_alloc | apply pw_below_drewN | apply below_drew1)) hb)
      clear B_b
      have B_b := Z_
      clear Z_
      have Z_ := Aside0.mk (below_step (by repeat (first | exact B_x.out | apply below_alloc | apply pw_below_drewN | apply below_drew1)) hb)
      clear B_x
      have B_x := Z_
      clear Z_
      have Z_ := Aside0.mk (below_step (by repeat (first | exact B_own.out | apply below_alloc | apply pw_below_drewN | apply below_drew1)) hb)
      clear B_own
      have B_own := Z_
      clear Z_
      have Z_ := Aside0.mk (below_step (by repeat (first | exact B_nt.out | apply below_alloc | apply pw_below_drewN | apply below_drew1)) hb)
      clear B_nt
      have B_nt := Z_
      clear Z_
      have Z_ := Aside0.mk (below_step (by repeat (first | exact B_jn.out | apply below_alloc | apply pw_below_drewN | apply below_drew1)) hb)
      clear B_jn
      have B_jn := Z_
      clear Z_
      have Z_ := Aside0.mk (below_step (by repeat (first | exact B_bo.out | apply below_alloc | apply pw_below_drewN | apply below_drew1)) hb)
      clear B_bo
      have B_bo := Z_
      clear Z_
      have Z_ := Aside0.mk (below_step (by repeat (first | exact B_l.out | apply below_alloc | apply pw_below_drewN | apply below_drew1)) hb)
      clear B_l
      have B_l := Z_
      clear Z_
      have Z_ := Aside0.mk (below_step (by repeat (first | exact HB.out | apply below_alloc | apply pw_below_drewN | apply below_drew1)) hb)
      clear HB
      have HB := Z_
      clear Z_
      have Z_ := Aside0.mk (below_step (by repeat (first | exact HBL.out | apply below_alloc | apply pw_below_drewN | apply below_drew1)) hb)
      clear HBL
      have HBL := Z_
      clear Z_
      clear hb
      go_wp2_with fail
      with_reducible refine (runes_Check.calls k _ _ nt _ _ (by repeat (first | exact (Kd.C_below R_nt.out B_nt.out) | (with_reducible refine Kd.C_alloc ?_ _) | (with_reducible refine Kd.C_drewN ?_ _) | (with_reducible refine Kd.C_drew ?_))) C_nt.out He2.out).mono ?_
      rintro e w109 ⟨rfl, hb⟩
      have Z_ := Aside0.mk (below_step (by repeat (first | exact B_a.out | apply below_alloc | apply pw_below_drewN | apply below_drew1)) hb)
      clear B_a
      have B_a := Z_
      clear Z_
      have Z_ := Aside0.mk (below_step (by repeat (first | exact B_b.out | apply below_alloc | apply pw_below_drewN | apply below_drew1)) hb)
      clear B_b
      have B_b := Z_
      clear Z_
      have Z_ := Aside0.mk (below_step (by repeat (first | exact B_x.out | apply below_alloc | apply pw_below_drewN | apply below_drew1)) hb)
      clear B_x
      have B_x := Z_
      clear Z_
      have Z_ := Aside0.mk (below_step (by repeat (first | exact B_own.out | apply below_alloc | apply pw_below_drewN | apply below_drew1)) hb)
      clear B_own
      have B_own := Z_
      clear Z_
      have Z_ := Aside0.mk (below_step (by repeat (first | exact B_nt.out | apply below_alloc | apply pw_below_drewN | apply below_drew1)) hb)
      clear B_nt
      have B_nt := Z_
      clear Z_
      have Z_ := Aside0.mk (below_step (by repeat (first | exact B_jn.out | apply below_alloc | apply pw_below_drewN | apply below_drew1)) hb)
      clear B_jn
      have B_jn := Z_
      clear Z_
      have Z_ := Aside0.mk (below_step (by repeat (first | exact B_bo.out | apply below_alloc | apply pw_below_drewN | apply below_drew1)) hb)
      clear B_bo
      have B_bo := Z_
      clear Z_
      have Z_ := Aside0.mk (below_step (by repeat (first | exact B_l.out | apply below_alloc | apply pw_below_drewN | apply below_drew1)) hb)
      clear B_l
      have B_l := Z_
      clear Z_
      have Z_ := Aside0.mk (below_step (by repeat (first | exact HB.out | apply below_alloc | apply pw_below_drewN | apply below_drew1)) hb)
      clear HB
      have HB := Z_
      clear Z_
      have Z_ := Aside0.mk (below_step (by repeat (first | exact HBL.out | apply below_alloc | apply pw_below_drewN | apply below_drew1)) hb)
      clear HBL
      have HBL := Z_
      clear Z_
      clear hb
      go_wp2_with fail
      with_reducible refine (runes_Check.calls k _ _ jn _ _ (by repeat (first | exact (Kd.C_below R_jn.out B_jn.out) | (with_reducible refine Kd.C_alloc ?_ _) | (with_reducible refine Kd.C_drewN ?_ _) | (with_reducible refine Kd.C_drew ?_))) C_jn.out He3.out).mono ?_
      rintro e w110 ⟨rfl, hb⟩
      have Z_ := Aside0.mk (below_step (by repeat (first | exact B_a.out | apply below_alloc | apply pw_below_drewN | apply below_drew1)) hb)
      clear B_a
      have B_a := Z_
      clear Z_
      have Z_ := Aside0.mk (below_step (by repeat (first | exact B_b.out | apply below_alloc | apply pw_below_drewN | apply below_drew1)) hb)
      clear B_b
      have B_b := Z_
      clear Z_
      have Z_ := Aside0.mk (below_step (by repeat (first | exact B_x.out | apply below_alloc | apply pw_below_drewN | apply below_drew1)) hb)
      clear B_x
      have B_x := Z_
      clear Z_
      have Z_ := Aside0.mk (below_step (by repeat (first | exact B_own.out | apply below_alloc | apply pw_below_drewN | apply below_drew1)) hb)
      clear B_own
      have B_own := Z_
      clear Z_
      have Z_ := Aside0.mk (below_step (by repeat (first | exact B_nt.out | apply below_alloc | apply pw_below_drewN | apply below_drew1)) hb)
      clear B_nt
      have B_nt := Z_
      clear Z_
      have Z_ := Aside0.mk (below_step (by repeat (first | exact B_jn.out | apply below_alloc | apply pw_below_drewN | apply below_drew1)) hb)
      clear B_jn
      have B_jn := Z_
      clear Z_
      have Z_ := Aside0.mk (below_step (by repeat (first | exact B_bo.out | apply below_alloc | apply pw_below_drewN | apply below_drew1)) hb)
      clear B_bo
      have B_bo := Z_
      clear Z_
      have Z_ := Aside0.mk (below_step (by repeat (first | exact B_l.out | apply below_alloc | apply pw_below_drewN | apply below_drew1)) hb)
      clear B_l
      have B_l := Z_
      clear Z_
      have Z_ := Aside0.mk (below_step (by repeat (first | exact HB.out | apply below_alloc | apply pw_below_drewN | apply below_drew1)) hb)
      clear HB
      have HB := Z_
      clear Z_
      have Z_ := Aside0.mk (below_step (by repeat (first | exact HBL.out | apply below_alloc | apply pw_below_drewN | apply below_drew1)) hb)
      clear HBL
      have HBL := Z_
      clear Z_
      clear hb
      go_wp2_with fail
      with_reducible refine (runes_Check.calls k _ _ bo _ _ (by repeat (first | exact (Kd.C_below R_bo.out B_bo.out) | (with_reducible refine Kd.C_alloc ?_ _) | (with_reducible refine Kd.C_drewN ?_ _) | (with_reducible refine Kd.C_drew ?_))) C_bo.out He4.out).mono ?_
      rintro e w111 ⟨rfl, hb⟩
      have Z_ := Aside0.mk (below_step (by repeat (first | exact B_a.out | apply below_alloc | apply pw_below_drewN | apply below_drew1)) hb)
      clear B_a
      have B_a := Z_
      clear Z_
      have Z_ := Aside0.mk (below_step (by repeat (first | exact B_b.out | apply below_alloc | apply pw_below_drewN | apply below_drew1)) hb)
      clear B_b
      have B_b := Z_
      clear Z_
      have Z_ := Aside0.mk (below_step (by repeat (first | exact B_x.out | apply below_alloc | apply pw_below_drewN | apply below_drew1)) hb)
      clear B_x
      have B_x := Z_
      clear Z_
      have Z_ := Aside0.mk (below_step (by repeat (first | exact B_own.out | apply below_alloc | apply pw_below_drewN | apply below_drew1)) hb)
      clear B_own
      have B_own := Z_
      clear Z_
      have Z_ := Aside0.mk (below_step (by repeat (first | exact B_nt.out | apply below_alloc | apply pw_below_drewN | apply below_drew1)) hb)
      clear B_nt
      have B_nt := Z_
      clear Z_
      have Z_ := Aside0.mk (below_step (by repeat (first | exact B_jn.out | apply below_alloc | apply pw_below_drewN | apply below_drew1)) hb)
      clear B_jn
      have B_jn := Z_
      clear Z_
      have Z_ := Aside0.mk (below_step (by repeat (first | exact B_bo.out | apply below_alloc | apply pw_below_drewN | apply below_drew1)) hb)
      clear B_bo
      have B_bo := Z_
      clear Z_
      have Z_ := Aside0.mk (below_step (by repeat (first | exact B_l.out | apply below_alloc | apply pw_below_drewN | apply below_drew1)) hb)
      clear B_l
      have B_l := Z_
      clear Z_
      have Z_ := Aside0.mk (below_step (by repeat (first | exact HB.out | apply below_alloc | apply pw_below_drewN | apply below_drew1)) hb)
      clear HB
      have HB := Z_
      clear Z_
      have Z_ := Aside0.mk (below_step (by repeat (first | exact HBL.out | apply below_alloc | apply pw_below_drewN | apply below_drew1)) hb)
      clear HBL
      have HBL := Z_
      clear Z_
      clear hb
      go_wp2_with fail
      with_reducible refine (driftnetlaw09_awake.calls k _ _ He5.out).mono ?_
      rintro e w112 ⟨rfl, hb⟩
      have Z_ := Aside0.mk (below_step (by repeat (first | exact B_a.out | apply below_alloc | apply pw_below_drewN | apply below_drew1)) hb)
      clear B_a
      have B_a := Z_
      clear Z_
      have Z_ := Aside0.mk (below_step (by repeat (first | exact B_b.out | apply below_alloc | apply pw_below_drewN | apply below_drew1)) hb)
      clear B_b
      have B_b := Z_
      clear Z_
      have Z_ := Aside0.mk (below_step (by repeat (first | exact B_x.out | apply below_alloc | apply pw_below_drewN | apply below_drew1)) hb)
      clear B_x
      have B_x := Z_
      clear Z_
      have Z_ := Aside0.mk (below_step (by repeat (first | exact B_own.out | apply below_alloc | apply pw_below_drewN | apply below_drew1)) hb)
      clear B_own
      have B_own := Z_
      clear Z_
      have Z_ := Aside0.mk (below_step (by repeat (first | exact B_nt.out | apply below_alloc | apply pw_below_drewN | apply below_drew1)) hb)
      clear B_nt
      have B_nt := Z_
      clear Z_
      have Z_ := Aside0.mk (below_step (by repeat (first | exact B_jn.out | apply below_alloc | apply pw_below_drewN | apply below_drew1)) hb)
      clear B_jn
      have B_jn := Z_
      clear Z_
      have Z_ := Aside0.mk (below_step (by repeat (first | exact B_bo.out | apply below_alloc | apply pw_below_drewN | apply below_drew1)) hb)
      clear B_bo
      have B_bo := Z_
      clear Z_
      have Z_ := Aside0.mk (below_step (by repeat (first | exact B_l.out | apply below_alloc | apply pw_below_drewN | apply below_drew1)) hb)
      clear B_l
      have B_l := Z_
      clear Z_
      have Z_ := Aside0.mk (below_step (by repeat (first | exact HB.out | apply below_alloc | apply pw_below_drewN | apply below_drew1)) hb)
      clear HB
      have HB := Z_
      clear Z_
      have Z_ := Aside0.mk (below_step (by repeat (first | exact HBL.out | apply below_alloc | apply pw_below_drewN | apply below_drew1)) hb)
      clear HBL
      have HBL := Z_
      clear Z_
      clear hb
      go_wp2_with fail
      go_ret
      exact ⟨rfl, by repeat (first | exact HB.out | apply below_alloc | apply pw_below_drewN | apply below_drew1)⟩
    have hq0 : (0 : Int) ≤ (j : Int) := by omega
    have hq1 : (j : Int) < (l.length : Int) := by omega
    obtain ⟨ad, ca, hax, _, hK, hcell⟩ := Kd.C_get (Kd.C_below R_l.out B_l.out) (0 : Int) (j : Int) hq0 hq1
    obtain rfl := (show ca = [.int .i64 (l.getD (j : Int).toNat 0)] from hK)
    have hx := hcell 0 _ rfl
    rw [show ((j : Int)).toNat = j from rfl, show j * (Kd.int .i64).sz + 0 = j by show j * 1 + 0 = j; omega] at hx
    obtain ⟨n, hn⟩ : ∃ n, n = l.getD j 0 := ⟨_, rfl⟩
    rw [← hn] at hx
    have hall : hasAll x own nt jn bo a b n := HQ1.out n (by rw [hn, List.getD_eq_getElem?_getD, List.getElem?_eq_getElem hjl]; exact List.getElem_mem _)
    have HA := Aside0.mk hall
    have HAX := Aside0.mk hax
    clear hall hn hcell hK hax
    have HAXE := HAX.out
    clear HAX
    subst HAXE
    have JL := Aside0.mk hjl
    clear hjl
    rcases rb3 n with ⟨g0, g1, erb⟩ | ⟨g0, g1, erb⟩ | ⟨g0, g1, erb⟩
    all_goals
      as_aux_lemma =>
        go_wp2_with fail
        go_loop [17, 19] (fun v i => ∃ (k : Nat) (bb : Bool), k ≤ a.length ∧ i = .int .i64 k ∧ v = .bool bb ∧ Aside0 (bb = (rb n && anyR (a.take k) n))) (fun _ i => a.length - (intOf i).toNat)
        case atStart => exact ⟨0, false, Nat.zero_le _, rfl, rfl, ⟨by simp [anyR]⟩⟩
        case round =>
          obtain ⟨k, hi, hk, rfl, rfl, hbv⟩ := hrel
          have hkb : (k : Int) ≤ 15 := by omega
          by_cases hlt : k < a.length
          · have hq0 : (0 : Int) ≤ (k : Int) := by omega
            have hq1 : (k : Int) < (a.length : Int) := by omega
            obtain ⟨ad, hax, hx0, hx1⟩ := at_T41 (Kd.C_below R_a.out B_a.out) (k : Int) hq0 hq1
            rw [show ((k : Int)).toNat = k from rfl] at hx0 hx1
            have HS := Aside0.mk (anyR_step a k hlt n)
            obtain ⟨z, hz⟩ : ∃ z, z = rd_T41 a (k : Int) := ⟨_, rfl⟩
            rw [← hz] at hx0 hx1 HS
            have HAX := Aside0.mk hax
            clear hz hax
            have HAXE := HAX.out
            clear HAX
            subst HAXE
            have HBV := Aside0.mk hbv.out
            clear hbv
            have fin : ∀ c : Bool, (c = (hi || (rb n && (decide (z.f0 ≤ n) && decide (n ≤ z.f1))))) → c = (rb n && anyR (a.take (k + 1)) n) := by
              intro c hc
              rw [hc, HS.out, HBV.out]
              cases rb n <;> simp
            have FIN := Aside0.mk fin
            clear fin
            rcases Int.lt_or_le n z.f0 with hz0 | hz0
            · have hz0n : decide (z.f0 ≤ n) = false := by simp; omega
              have CM : Aside0 (hi = (hi || (rb n && (decide (z.f0 ≤ n) && decide (n ≤ z.f1))))) := ⟨by rw [hz0n]; simp⟩
              clear hz0
              cases hi <;> go_wp2_with fail
              all_goals
                go_round
                case rel => exact ⟨k + 1, _, by omega, by go_num, rfl, ⟨FIN.out _ CM.out⟩⟩
                case measure => simp [intOf]; omega
            · rcases Int.lt_or_le z.f1 n with hz1 | hz1
              · have hz1n : decide (n ≤ z.f1) = false := by simp; omega
                have CM : Aside0 (hi = (hi || (rb n && (decide (z.f0 ≤ n) && decide (n ≤ z.f1))))) := ⟨by rw [hz1n]; simp⟩
                clear hz1
                cases hi <;> go_wp2_with fail
                all_goals
                  go_round
                  case rel => exact ⟨k + 1, _, by omega, by go_num, rfl, ⟨FIN.out _ CM.out⟩⟩
                  case measure => simp [intOf]; omega
              · have CM : Aside0 ((hi || rb n) = (hi || (rb n && (decide (z.f0 ≤ n) && decide (n ≤ z.f1))))) := ⟨by rw [decide_eq_true hz0, decide_eq_true hz1]; simp⟩
                have ERB := Aside0.mk erb
                rw [ERB.out] at CM
                cases hi <;> go_wp2_with fail
                all_goals
                  go_round
                  case rel => exact ⟨k + 1, _, by omega, by go_num, rfl, ⟨FIN.out _ (by rw [ERB.out]; exact CM.out)⟩⟩
                  case measure => simp [intOf]; omega
          · have hki : ¬ ((k : Int) < (a.length : Int)) := by omega
            obtain rfl : k = a.length := by omega
            rw [List.take_length] at hbv
            have HI := Aside0.mk hbv.out
            clear hbv hk hlt hkb
            go_wp2_with fail
            go_loop [18, 20] (fun v i => ∃ (k : Nat) (bb : Bool), k ≤ b.length ∧ i = .int .i64 k ∧ v = .bool bb ∧ Aside0 (bb = (rb n && anyR (b.take k) n))) (fun _ i => b.length - (intOf i).toNat)
            case atStart => exact ⟨0, false, Nat.zero_le _, rfl, rfl, ⟨by simp [anyR]⟩⟩
            case round =>
              obtain ⟨k, ht, hk, rfl, rfl, hbv⟩ := hrel
              have hkb : (k : Int) ≤ 15 := by omega
              by_cases hlt : k < b.length
              · have hq0 : (0 : Int) ≤ (k : Int) := by omega
                have hq1 : (k : Int) < (b.length : Int) := by omega
                obtain ⟨ad, hax, hx0, hx1⟩ := at_T41 (Kd.C_below R_b.out B_b.out) (k : Int) hq0 hq1
                rw [show ((k : Int)).toNat = k from rfl] at hx0 hx1
                have HS := Aside0.mk (anyR_step b k hlt n)
                obtain ⟨z, hz⟩ : ∃ z, z = rd_T41 b (k : Int) := ⟨_, rfl⟩
                rw [← hz] at hx0 hx1 HS
                have HAX := Aside0.mk hax
                clear hz hax
                have HAXE := HAX.out
                clear HAX
                subst HAXE
                have HBV := Aside0.mk hbv.out
                clear hbv
                have fin : ∀ c : Bool, (c = (ht || (rb n && (decide (z.f0 ≤ n) && decide (n ≤ z.f1))))) → c = (rb n && anyR (b.take (k + 1)) n) := by
                  intro c hc
                  rw [hc, HS.out, HBV.out]
                  cases rb n <;> simp
                have FIN := Aside0.mk fin
                clear fin
                rcases Int.lt_or_le n z.f0 with hz0 | hz0
                · have hz0n : decide (z.f0 ≤ n) = false := by simp; omega
                  have CM : Aside0 (ht = (ht || (rb n && (decide (z.f0 ≤ n) && decide (n ≤ z.f1))))) := ⟨by rw [hz0n]; simp⟩
                  clear hz0
                  cases ht <;> go_wp2_with fail
                  all_goals
                    go_round
                    case rel => exact ⟨k + 1, _, by omega, by go_num, rfl, ⟨FIN.out _ CM.out⟩⟩
                    case measure => simp [intOf]; omega
                · rcases Int.lt_or_le z.f1 n with hz1 | hz1
                  · have hz1n : decide (n ≤ z.f1) = false := by simp; omega
                    have CM : Aside0 (ht = (ht || (rb n && (decide (z.f0 ≤ n) && decide (n ≤ z.f1))))) := ⟨by rw [hz1n]; simp⟩
                    clear hz1
                    cases ht <;> go_wp2_with fail
                    all_goals
                      go_round
                      case rel => exact ⟨k + 1, _, by omega, by go_num, rfl, ⟨FIN.out _ CM.out⟩⟩
                      case measure => simp [intOf]; omega
                  · have CM : Aside0 ((ht || rb n) = (ht || (rb n && (decide (z.f0 ≤ n) && decide (n ≤ z.f1))))) := ⟨by rw [decide_eq_true hz0, decide_eq_true hz1]; simp⟩
                    have ERB := Aside0.mk erb
                    rw [ERB.out] at CM
                    cases ht <;> go_wp2_with fail
                    all_goals
                      go_round
                      case rel => exact ⟨k + 1, _, by omega, by go_num, rfl, ⟨FIN.out _ (by rw [ERB.out]; exact CM.out)⟩⟩
                      case measure => simp [intOf]; omega
              · have hki : ¬ ((k : Int) < (b.length : Int)) := by omega
                obtain rfl : k = b.length := by omega
                rw [List.take_length] at hbv
                have HT := Aside0.mk hbv.out
                clear hbv hk hlt hkb
                obtain ⟨h1, h2, h3, h4, h5⟩ := HA.out
                rw [← HI.out] at h1 h2 h3 h4 h5
                rw [← HT.out] at h4 h5
                rw [erb] at h3
                have K1 := Aside0.mk h1
                have K2 := Aside0.mk h2
                have K3 := Aside0.mk h3
                have K4 := Aside0.mk h4
                have K5 := Aside0.mk h5
                clear h1 h2 h3 h4 h5 HI HT HA hx erb
                cases hi <;> cases ht
                all_goals
                  as_aux_lemma =>
                    simp only [Bool.not_true, Bool.not_false, Bool.and_true, Bool.and_false, Bool.or_true, Bool.or_false, Bool.true_or, Bool.false_or, Bool.true_and, Bool.false_and] at K3 K4 K5
                    go_wp2_with fail
                    with_reducible refine (runes_Set_Has.calls _ _ x n _ _ (by repeat (first | exact (Kd.C_below R_x.out B_x.out) | (with_reducible refine Kd.C_alloc ?_ _) | (with_reducible refine Kd.C_drewN ?_ _) | (with_reducible refine Kd.C_drew ?_))) C_x.out K1.out).mono ?_
                    rintro e w113 ⟨rfl, hb⟩
                    have Z_ := Aside0.mk (below_step (by repeat (first | exact B_a.out | apply below_alloc | apply pw_below_drewN | apply below_drew1)) hb)
                    clear B_a
                    have B_a := Z_
                    clear Z_
                    have Z_ := Aside0.mk (below_step (by repeat (first | exact B_b.out | apply below_alloc | apply pw_below_drewN | apply below_drew1)) hb)
                    clear B_b
                    have B_b := Z_
                    clear Z_
                    have Z_ := Aside0.mk (below_step (by repeat (first | exact B_x.out | apply below_alloc | apply pw_below_drewN | apply below_drew1)) hb)
                    clear B_x
                    have B_x := Z_
                    clear Z_
                    have Z_ := Aside0.mk (below_step (by repeat (first | exact B_own.out | apply below_alloc | apply pw_below_drewN | apply below_drew1)) hb)
                    clear B_own
                    have B_own := Z_
                    clear Z_
                    have Z_ := Aside0.mk (below_step (by repeat (first | exact B_nt.out | apply below_alloc | apply pw_below_drewN | apply below_drew1)) hb)
                    clear B_nt
                    have B_nt := Z_
                    clear Z_
                    have Z_ := Aside0.mk (below_step (by repeat (first | exact B_jn.out | apply below_alloc | apply pw_below_drewN | apply below_drew1)) hb)
                    clear B_jn
                    have B_jn := Z_
                    clear Z_
                    have Z_ := Aside0.mk (below_step (by repeat (first | exact B_bo.out | apply below_alloc | apply pw_below_drewN | apply below_drew1)) hb)
                    clear B_bo
                    have B_bo := Z_
                    clear Z_
                    have Z_ := Aside0.mk (below_step (by repeat (first | exact B_l.out | apply below_alloc | apply pw_below_drewN | apply below_drew1)) hb)
                    clear B_l
                    have B_l := Z_
                    clear Z_
                    have Z_ := Aside0.mk (below_step (by repeat (first | exact HB.out | apply below_alloc | apply pw_below_drewN | apply below_drew1)) hb)
                    clear HB
                    have HB := Z_
                    clear Z_
                    have Z_ := Aside0.mk (below_step (by repeat (first | exact HBL.out | apply below_alloc | apply pw_below_drewN | apply below_drew1)) hb)
                    clear HBL
                    have HBL := Z_
                    clear Z_
                    clear hb
                    go_wp2_with fail
                    with_reducible refine (runes_Set_Has.calls _ _ own n _ _ (by repeat (first | exact (Kd.C_below R_own.out B_own.out) | (with_reducible refine Kd.C_alloc ?_ _) | (with_reducible refine Kd.C_drewN ?_ _) | (with_reducible refine Kd.C_drew ?_))) C_own.out K2.out).mono ?_
                    rintro e w114 ⟨rfl, hb⟩
                    have Z_ := Aside0.mk (below_step (by repeat (first | exact B_a.out | apply below_alloc | apply pw_below_drewN | apply below_drew1)) hb)
                    clear B_a
                    have B_a := Z_
                    clear Z_
                    have Z_ := Aside0.mk (below_step (by repeat (first | exact B_b.out | apply below_alloc | apply pw_below_drewN | apply below_drew1)) hb)
                    clear B_b
                    have B_b := Z_
                    clear Z_
                    have Z_ := Aside0.mk (below_step (by repeat (first | exact B_x.out | apply below_alloc | apply pw_below_drewN | apply below_drew1)) hb)
                    clear B_x
                    have B_x := Z_
                    clear Z_
                    have Z_ := Aside0.mk (below_step (by repeat (first | exact B_own.out | apply below_alloc | apply pw_below_drewN | apply below_drew1)) hb)
                    clear B_own
                    have B_own := Z_
                    clear Z_
                    have Z_ := Aside0.mk (below_step (by repeat (first | exact B_nt.out | apply below_alloc | apply pw_below_drewN | apply below_drew1)) hb)
                    clear B_nt
                    have B_nt := Z_
                    clear Z_
                    have Z_ := Aside0.mk (below_step (by repeat (first | exact B_jn.out | apply below_alloc | apply pw_below_drewN | apply below_drew1)) hb)
                    clear B_jn
                    have B_jn := Z_
                    clear Z_
                    have Z_ := Aside0.mk (below_step (by repeat (first | exact B_bo.out | apply below_alloc | apply pw_below_drewN | apply below_drew1)) hb)
                    clear B_bo
                    have B_bo := Z_
                    clear Z_
                    have Z_ := Aside0.mk (below_step (by repeat (first | exact B_l.out | apply below_alloc | apply pw_below_drewN | apply below_drew1)) hb)
                    clear B_l
                    have B_l := Z_
                    clear Z_
                    have Z_ := Aside0.mk (below_step (by repeat (first | exact HB.out | apply below_alloc | apply pw_below_drewN | apply below_drew1)) hb)
                    clear HB
                    have HB := Z_
                    clear Z_
                    have Z_ := Aside0.mk (below_step (by repeat (first | exact HBL.out | apply below_alloc | apply pw_below_drewN | apply below_drew1)) hb)
                    clear HBL
                    have HBL := Z_
                    clear Z_
                    clear hb
                    go_wp2_with fail
                    with_reducible refine (runes_Set_Has.calls _ _ nt n _ _ (by repeat (first | exact (Kd.C_below R_nt.out B_nt.out) | (with_reducible refine Kd.C_alloc ?_ _) | (with_reducible refine Kd.C_drewN ?_ _) | (with_reducible refine Kd.C_drew ?_))) C_nt.out K3.out).mono ?_
                    rintro e w115 ⟨rfl, hb⟩
                    have Z_ := Aside0.mk (below_step (by repeat (first | exact B_a.out | apply below_alloc | apply pw_below_drewN | apply below_drew1)) hb)
                    clear B_a
                    have B_a := Z_
                    clear Z_
                    have Z_ := Aside0.mk (below_step (by repeat (first | exact B_b.out | apply below_alloc | apply pw_below_drewN | apply below_drew1)) hb)
                    clear B_b
                    have B_b := Z_
                    clear Z_
                    have Z_ := Aside0.mk (below_step (by repeat (first | exact B_x.out | apply below_alloc | apply pw_below_drewN | apply below_drew1)) hb)
                    clear B_x
                    have B_x := Z_
                    clear Z_
                    have Z_ := Aside0.mk (below_step (by repeat (first | exact B_own.out | apply below_alloc | apply pw_below_drewN | apply below_drew1)) hb)
                    clear B_own
                    have B_own := Z_
                    clear Z_
                    have Z_ := Aside0.mk (below_step (by repeat (first | exact B_nt.out | apply below_alloc | apply pw_below_drewN | apply below_drew1)) hb)
                    clear B_nt
                    have B_nt := Z_
                    clear Z_
                    have Z_ := Aside0.mk (below_step (by repeat (first | exact B_jn.out | apply below_alloc | apply pw_below_drewN | apply below_drew1)) hb)
                    clear B_jn
                    have B_jn := Z_
                    clear Z_
                    have Z_ := Aside0.mk (below_step (by repeat (first | exact B_bo.out | apply below_alloc | apply pw_below_drewN | apply below_drew1)) hb)
                    clear B_bo
                    have B_bo := Z_
                    clear Z_
                    have Z_ := Aside0.mk (below_step (by repeat (first | exact B_l.out | apply below_alloc | apply pw_below_drewN | apply below_drew1)) hb)
                    clear B_l
                    have B_l := Z_
                    clear Z_
                    have Z_ := Aside0.mk (below_step (by repeat (first | exact HB.out | apply below_alloc | apply pw_below_drewN | apply below_drew1)) hb)
                    clear HB
                    have HB := Z_
                    clear Z_
                    have Z_ := Aside0.mk (below_step (by repeat (first | exact HBL.out | apply below_alloc | apply pw_below_drewN | apply below_drew1)) hb)
                    clear HBL
                    have HBL := Z_
                    clear Z_
                    clear hb
                    go_wp2_with fail
                    with_reducible refine (runes_Set_Has.calls _ _ jn n _ _ (by repeat (first | exact (Kd.C_below R_jn.out B_jn.out) | (with_reducible refine Kd.C_alloc ?_ _) | (with_reducible refine Kd.C_drewN ?_ _) | (with_reducible refine Kd.C_drew ?_))) C_jn.out K4.out).mono ?_
                    rintro e w116 ⟨rfl, hb⟩
                    have Z_ := Aside0.mk (below_step (by repeat (first | exact B_a.out | apply below_alloc | apply pw_below_drewN | apply below_drew1)) hb)
                    clear B_a
                    have B_a := Z_
                    clear Z_
                    have Z_ := Aside0.mk (below_step (by repeat (first | exact B_b.out | apply below_alloc | apply pw_below_drewN | apply below_drew1)) hb)
                    clear B_b
                    have B_b := Z_
                    clear Z_
                    have Z_ := Aside0.mk (below_step (by repeat (first | exact B_x.out | apply below_alloc | apply pw_below_drewN | apply below_drew1)) hb)
                    clear B_x
                    have B_x := Z_
                    clear Z_
                    have Z_ := Aside0.mk (below_step (by repeat (first | exact B_own.out | apply below_alloc | apply pw_below_drewN | apply below_drew1)) hb)
                    clear B_own
                    have B_own := Z_
                    clear Z_
                    have Z_ := Aside0.mk (below_step (by repeat (first | exact B_nt.out | apply below_alloc | apply pw_below_drewN | apply below_drew1)) hb)
                    clear B_nt
                    have B_nt := Z_
                    clear Z_
                    have Z_ := Aside0.mk (below_step (by repeat (first | exact B_jn.out | apply below_alloc | apply pw_below_drewN | apply below_drew1)) hb)
                    clear B_jn
                    have B_jn := Z_
                    clear Z_
                    have Z_ := Aside0.mk (below_step (by repeat (first | exact B_bo.out | apply below_alloc | apply pw_below_drewN | apply below_drew1)) hb)
                    clear B_bo
                    have B_bo := Z_
                    clear Z_
                    have Z_ := Aside0.mk (below_step (by repeat (first | exact B_l.out | apply below_alloc | apply pw_below_drewN | apply below_drew1)) hb)
                    clear B_l
                    have B_l := Z_
                    clear Z_
                    have Z_ := Aside0.mk (below_step (by repeat (first | exact HB.out | apply below_alloc | apply pw_below_drewN | apply below_drew1)) hb)
                    clear HB
                    have HB := Z_
                    clear Z_
                    have Z_ := Aside0.mk (below_step (by repeat (first | exact HBL.out | apply below_alloc | apply pw_below_drewN | apply below_drew1)) hb)
                    clear HBL
                    have HBL := Z_
                    clear Z_
                    clear hb
                    go_wp2_with fail
                    with_reducible refine (runes_Set_Has.calls _ _ bo n _ _ (by repeat (first | exact (Kd.C_below R_bo.out B_bo.out) | (with_reducible refine Kd.C_alloc ?_ _) | (with_reducible refine Kd.C_drewN ?_ _) | (with_reducible refine Kd.C_drew ?_))) C_bo.out K5.out).mono ?_
                    rintro e w117 ⟨rfl, hb⟩
                    have Z_ := Aside0.mk (below_step (by repeat (first | exact B_a.out | apply below_alloc | apply pw_below_drewN | apply below_drew1)) hb)
                    clear B_a
                    have B_a := Z_
                    clear Z_
                    have Z_ := Aside0.mk (below_step (by repeat (first | exact B_b.out | apply below_alloc | apply pw_below_drewN | apply below_drew1)) hb)
                    clear B_b
                    have B_b := Z_
                    clear Z_
                    have Z_ := Aside0.mk (below_step (by repeat (first | exact B_x.out | apply below_alloc | apply pw_below_drewN | apply below_drew1)) hb)
                    clear B_x
                    have B_x := Z_
                    clear Z_
                    have Z_ := Aside0.mk (below_step (by repeat (first | exact B_own.out | apply below_alloc | apply pw_below_drewN | apply below_drew1)) hb)
                    clear B_own
                    have B_own := Z_
                    clear Z_
                    have Z_ := Aside0.mk (below_step (by repeat (first | exact B_nt.out | apply below_alloc | apply pw_below_drewN | apply below_drew1)) hb)
                    clear B_nt
                    have B_nt := Z_
                    clear Z_
                    have Z_ := Aside0.mk (below_step (by repeat (first | exact B_jn.out | apply below_alloc | apply pw_below_drewN | apply below_drew1)) hb)
                    clear B_jn
                    have B_jn := Z_
                    clear Z_
                    have Z_ := Aside0.mk (below_step (by repeat (first | exact B_bo.out | apply below_alloc | apply pw_below_drewN | apply below_drew1)) hb)
                    clear B_bo
                    have B_bo := Z_
                    clear Z_
                    have Z_ := Aside0.mk (below_step (by repeat (first | exact B_l.out | apply below_alloc | apply pw_below_drewN | apply below_drew1)) hb)
                    clear B_l
                    have B_l := Z_
                    clear Z_
                    have Z_ := Aside0.mk (below_step (by repeat (first | exact HB.out | apply below_alloc | apply pw_below_drewN | apply below_drew1)) hb)
                    clear HB
                    have HB := Z_
                    clear Z_
                    have Z_ := Aside0.mk (below_step (by repeat (first | exact HBL.out | apply below_alloc | apply pw_below_drewN | apply below_drew1)) hb)
                    clear HBL
                    have HBL := Z_
                    clear Z_
                    clear hb
                    go_wp2_with fail
                    have JLO := JL.out
                    go_roundw
                    case rel => exact ⟨j + 1, by omega, by go_num, HBL⟩
                    case measure => simp [intOf]; omega
/-- THE ONE PURE STATEMENT of driftnetlaw09_RunesHas. -/
def driftnetlaw09_RunesHas.Pure : Prop := ∀ (l0 : List (S41)) (l1 : List (S41)) (a2 : Int), (l0.length * 16 ≤ 140737488351232 ∧ l0.length ≤ maxLen ∧ ∀ y ∈ l0, wf41 y) → (l1.length * 16 ≤ 140737488351232 ∧ l1.length ≤ maxLen ∧ ∀ y ∈ l1, wf41 y) → ((Lit.int .i64 a2).wf = true) → ∃ k, driftnetlaw09_RunesHas.f k l0 l1 a2 = some true
theorem driftnetlaw09_RunesHas.walk (P : driftnetlaw09_RunesHas.Pure) (A0 : Option Addr) (c0 : Nat) (l0 : List (S41)) (A1 : Option Addr) (c1 : Nat) (l1 : List (S41)) (a2 : Int) (w : World) (hr0 : Kd.C k41 w A0 l0.length l0) (hc0 : l0.length ≤ c0) (hr1 : Kd.C k41 w A1 l1.length l1) (hc1 : l1.length ≤ c1) (hw0 : l0.length * 16 ≤ 140737488351232 ∧ l0.length ≤ maxLen ∧ ∀ y ∈ l0, wf41 y) (hw1 : l1.length * 16 ≤ 140737488351232 ∧ l1.length ≤ maxLen ∧ ∀ y ∈ l1, wf41 y) (hw2 : (Lit.int .i64 a2).wf = true) :
    Calls Try.prog 6 #[.slice A0 l0.length c0, .slice A1 l1.length c1, .int .i64 a2] w fun e w' => e = .returned (.bool true) ∧ Below w.heap.size w w' := by
  obtain ⟨k, h⟩ := P l0 l1 a2 hw0 hw1 hw2
  refine (driftnetlaw09_RunesHas.calls k _ _ l0 _ _ l1 a2 true w hr0 hc0 hr1 hc1 h).mono ?_
  rintro e w' ⟨rfl, hd⟩
  exact ⟨rfl, hd⟩


end Go.Proofs.Ytoihjhpabccigaa.PR
