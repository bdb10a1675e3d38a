/- Written by a program of this session (wip/hand.py, over the kit's print): functions of the given program as plain Lean functions, and that the machine's calls come to what these say. -/
import Derived.Test.YtoihjhpabccigaaPN
import Derived.Test.YtoihjhpabccigaaHA
import Derived.Test.YtoihjhpabccigaaHL
import Derived.Test.YtoihjhpabccigaaPRx0
import Derived.Test.YtoihjhpabccigaaPRx3
import Derived.Test.YtoihjhpabccigaaPRx4
import Derived.Test.YtoihjhpabccigaaPRx5
import Derived.Test.YtoihjhpabccigaaPRx6
import Derived.Test.YtoihjhpabccigaaPRx7
import Derived.Test.YtoihjhpabccigaaPRx10
namespace Go.Proofs.Ytoihjhpabccigaa.PR
open Go.RowKit Go.Proofs.YtoihjhpabccigaaW.PrintWords Go.Proofs.YtoihjhpabccigaaW.PrintLast Go.Proofs.YtoihjhpabccigaaW.PrintMore
attribute [local go_sem] max2_int min2_int max_two min_two max_three min_three max_four min_four   -- for this text's walks alone
set_option linter.unusedVariables false
set_option linter.unusedSimpArgs false

/-! ### driftnetref09_Check: function 25 -/
def driftnetref09_Check.f (k : Nat) (l0 : List (S41)) : Option (Bool) := (driftnetref09_Of.f k l0).bind fun t218 => ((driftnetref09_Equal.f k l0 t218).bind fun t221 => (some t221))
theorem driftnetref09_Check.mono : ∀ a0 k, LeO (driftnetref09_Check.f k a0) (driftnetref09_Check.f (k + 1) a0) := by
  intro a0 k
  unfold driftnetref09_Check.f
  repeat' first
      | (with_reducible exact driftnetref09_Equal.mono _ _ _)
      | (with_reducible exact driftnetref09_Of.mono _ _)
      | (with_reducible exact LeO.refl _)
      | (with_reducible exact LeO.none _)
      | (with_reducible refine LeO.ite ?_ ?_)
      | (with_reducible refine LeO.bind ?_ (fun _ => ?_))
      | exact driftnetref09_Equal.mono _ _ _
      | exact driftnetref09_Of.mono _ _
      | exact LeO.none _
      | refine LeO.ite ?_ ?_
      | refine LeO.bind ?_ (fun _ => ?_)
set_option maxHeartbeats 8000000 in
set_option maxRecDepth 100000 in
theorem driftnetref09_Check.calls (k : Nat) (A0 : Option Addr) (c0 : Nat) (l0 : List (S41)) (r : Bool) (w : World) (hr0 : Kd.C k41 w A0 l0.length l0) (hc0 : l0.length ≤ c0) (h : driftnetref09_Check.f k l0 = some r) :
    Calls Try.prog 25 #[.slice A0 l0.length c0] w fun e w' => e = .returned (.bool r) ∧ Below w.heap.size w w' := by
  have HR0 := Aside0.mk hr0
  have HC0 := Aside0.mk hc0
  clear hr0 hc0
  have HB := Aside0.mk (Below.refl w.heap.size w)
  have H : ((driftnetref09_Of.f k l0).bind fun t218 => ((driftnetref09_Equal.f k l0 t218).bind fun t221 => (some t221))) = some r := h
  clear h
  replace H := Option.bind_eq_some_iff.mp H
  obtain ⟨t218, A20, H⟩ := H
  replace H : ((driftnetref09_Equal.f k l0 t218).bind fun t221 => (some t221)) = some r := H
  have A2 := Aside0.mk A20
  clear A20
  replace H := Option.bind_eq_some_iff.mp H
  obtain ⟨t221, A30, H⟩ := H
  replace H : (some t221) = some r := H
  have A3 := Aside0.mk A30
  clear A30
  obtain rfl := Option.some.inj H
  go_enter Try.func25, Try.ntmps25
  go_wp2_with (first | ((with_reducible refine gate_callee (f := 16) rfl ?_); refine goesL_ (some 5) rfl rfl Try.func16 (by kernel_rfl) rfl #[.slice A0 l0.length c0] rfl (by (try simp only [List.map_toArray, List.map_cons, List.map_nil]); first | done | rfl | (simp only [List.length_drop, List.length_take]; rfl)) ?_; (with_reducible refine (driftnetref09_Of.calls k _ _ l0 t218 _ ?side1 ?side2 A2.out).mono ?_); (case side1 => repeat (first | exact HR0.out | (with_reducible refine Kd.C_alloc ?_ _) | (with_reducible refine Kd.C_drewN ?_ _) | (with_reducible refine Kd.C_drew ?_))); (case side2 => exact HC0.out); rintro e w4 ⟨v219, rfl, ho0, hb⟩; refine ⟨_, rfl, ?_⟩; have n0_ := Aside0.mk (Kd.R_lower ho0 (below_size (by repeat (first | (with_reducible first | exact HB.out | apply below_alloc | apply pw_below_drewN | apply below_drew1) | exact HB.out)))); have n1_ := Aside0.mk (below_step (by repeat (first | (with_reducible first | exact HB.out | apply below_alloc | apply pw_below_drewN | apply below_drew1) | exact HB.out)) hb); clear HB; have HO220 := n0_; have HB := n1_; clear n0_ n1_; (try clear hb); (try clear hb2); (try clear hk); (try clear hi); (try clear ho0); obtain ⟨Ao5, co5, eo5⟩ := Kd.R_slice HO220.out; subst eo5) | ((with_reducible refine gate_callee (f := 15) rfl ?_); refine goesL_ (some 6) rfl rfl Try.func15 (by kernel_rfl) rfl #[.slice A0 l0.length c0, .slice Ao5 t218.length co5] rfl (by (try simp only [List.map_toArray, List.map_cons, List.map_nil]); first | done | rfl | (simp only [List.length_drop, List.length_take]; rfl)) ?_; (with_reducible refine (driftnetref09_Equal.calls k _ _ l0 _ _ t218 t221 _ ?side1 ?side2 ?side3 ?side4 A3.out).mono ?_); (case side1 => repeat (first | exact (Kd.C_below HR0.out HB.out) | (with_reducible refine Kd.C_alloc ?_ _) | (with_reducible refine Kd.C_drewN ?_ _) | (with_reducible refine Kd.C_drew ?_))); (case side2 => exact HC0.out); (case side3 => repeat (first | exact (Kd.R_reads' HO220.out).2.2 | (with_reducible refine Kd.C_alloc ?_ _) | (with_reducible refine Kd.C_drewN ?_ _) | (with_reducible refine Kd.C_drew ?_))); (case side4 => exact (Kd.R_reads' HO220.out).2.1); rintro e w' ⟨rfl, ⟨nd, rfl⟩⟩; refine ⟨_, rfl, ?_⟩))
  go_ret
  exact ⟨by first | rfl | (simp [errW_none, errW_some] <;> rfl) | (simp [*, errW_none, errW_some] <;> rfl), by repeat (first | (with_reducible first | exact HB.out | apply below_alloc | apply pw_below_drewN | apply below_drew1) | exact HB.out)⟩

/-! ### driftnetref09_Size: function 26 -/
def driftnetref09_Size.l0 : Nat → Int → List (S41) → Int → Option (Int)
  | 0, _, _, _ => none
  | k + 1, x3, x4, x5 => if x5 < (x4.length : Int) then (if 0 ≤ x5 then (driftnetref09_Size.l0 k (wrap64 ((wrap64 ((wrap64 (x3 + ((rd_T41 x4 x5).f1))) - ((rd_T41 x4 x5).f0))) + 1)) x4 (wrap64 (x5 + 1))) else (none)) else (some x3)
def driftnetref09_Size.f (k : Nat) (l0 : List (S41)) : Option (Int) := (driftnetref09_Of.f k l0).bind fun t222 => (driftnetref09_Size.l0 k 0 t222 0)
theorem driftnetref09_Size.mono_l : ∀ k, (∀ y0 y1 y2, LeO (driftnetref09_Size.l0 k y0 y1 y2) (driftnetref09_Size.l0 (k + 1) y0 y1 y2))
  | 0 => fun _ _ _ r h => by simp [driftnetref09_Size.l0] at h
  | k + 1 => by
    have ih0 := driftnetref09_Size.mono_l k
    · intro y0 y1 y2
      unfold driftnetref09_Size.l0
      repeat' first
      | (with_reducible exact ih0 _ _ _)
      | (with_reducible exact driftnetref09_Of.mono _ _)
      | (with_reducible exact LeO.refl _)
      | (with_reducible exact LeO.none _)
      | (with_reducible refine LeO.ite ?_ ?_)
      | (with_reducible refine LeO.bind ?_ (fun _ => ?_))
      | exact ih0 _ _ _
      | exact driftnetref09_Of.mono _ _
      | exact LeO.none _
      | refine LeO.ite ?_ ?_
      | refine LeO.bind ?_ (fun _ => ?_)
theorem driftnetref09_Size.mono : ∀ a0 k, LeO (driftnetref09_Size.f k a0) (driftnetref09_Size.f (k + 1) a0) := by
  intro a0 k
  have ih0 := driftnetref09_Size.mono_l k
  unfold driftnetref09_Size.f
  repeat' first
      | (with_reducible exact ih0 _ _ _)
      | (with_reducible exact driftnetref09_Of.mono _ _)
      | (with_reducible exact LeO.refl _)
      | (with_reducible exact LeO.none _)
      | (with_reducible refine LeO.ite ?_ ?_)
      | (with_reducible refine LeO.bind ?_ (fun _ => ?_))
      | exact ih0 _ _ _
      | exact driftnetref09_Of.mono _ _
      | exact LeO.none _
      | refine LeO.ite ?_ ?_
      | refine LeO.bind ?_ (fun _ => ?_)
set_option maxHeartbeats 8000000 in
set_option maxRecDepth 100000 in
theorem driftnetref09_Size.calls (k : Nat) (A0 : Option Addr) (c0 : Nat) (l0 : List (S41)) (r : Int) (w : World) (hr0 : Kd.C k41 w A0 l0.length l0) (hc0 : l0.length ≤ c0) (h : driftnetref09_Size.f k l0 = some r) :
    Calls Try.prog 26 #[.slice A0 l0.length c0] w fun e w' => e = .returned (.int .i64 r) ∧ Below w.heap.size w w' := by
  have HR0 := Aside0.mk hr0
  have HC0 := Aside0.mk hc0
  clear hr0 hc0
  have HB := Aside0.mk (Below.refl w.heap.size w)
  have H : ((driftnetref09_Of.f k l0).bind fun t222 => (driftnetref09_Size.l0 k 0 t222 0)) = some r := h
  clear h
  replace H := Option.bind_eq_some_iff.mp H
  obtain ⟨t222, A20, H⟩ := H
  replace H : (driftnetref09_Size.l0 k 0 t222 0) = some r := H
  have A2 := Aside0.mk A20
  clear A20
  have H' := Aside0.mk H
  clear H
  go_enter Try.func26, Try.ntmps26
  go_wp2_with (first | (go_at_call 16; (with_reducible refine (driftnetref09_Of.calls k _ _ l0 t222 _ ?side1 ?side2 A2.out).mono ?_); (case side1 => repeat (first | exact HR0.out | (with_reducible refine Kd.C_alloc ?_ _) | (with_reducible refine Kd.C_drewN ?_ _) | (with_reducible refine Kd.C_drew ?_))); (case side2 => exact HC0.out); rintro e w3 ⟨v223, rfl, ho0, hb⟩; have n0_ := Aside0.mk (Kd.R_lower ho0 (below_size (by repeat (first | (with_reducible first | exact HB.out | apply below_alloc | apply pw_below_drewN | apply below_drew1) | exact HB.out)))); have n1_ := Aside0.mk (below_step (by repeat (first | (with_reducible first | exact HB.out | apply below_alloc | apply pw_below_drewN | apply below_drew1) | exact HB.out)) hb); clear HB; have HO224 := n0_; have HB := n1_; clear n0_ n1_; (try clear hb); (try clear hb2); (try clear hk); (try clear hi); (try clear ho0)))
  repeat (go_quiet (first | (go_at_call 16; (with_reducible refine (driftnetref09_Of.calls k _ _ l0 t222 _ ?side1 ?side2 A2.out).mono ?_); (case side1 => repeat (first | exact HR0.out | (with_reducible refine Kd.C_alloc ?_ _) | (with_reducible refine Kd.C_drewN ?_ _) | (with_reducible refine Kd.C_drew ?_))); (case side2 => exact HC0.out); rintro e w3 ⟨v223, rfl, ho0, hb⟩; have n0_ := Aside0.mk (Kd.R_lower ho0 (below_size (by repeat (first | (with_reducible first | exact HB.out | apply below_alloc | apply pw_below_drewN | apply below_drew1) | exact HB.out)))); have n1_ := Aside0.mk (below_step (by repeat (first | (with_reducible first | exact HB.out | apply below_alloc | apply pw_below_drewN | apply below_drew1) | exact HB.out)) hb); clear HB; have HO224 := n0_; have HB := n1_; clear n0_ n1_; (try clear hb); (try clear hb2); (try clear hk); (try clear hi); (try clear ho0))); try go_wp2_with (first | (go_at_call 16; (with_reducible refine (driftnetref09_Of.calls k _ _ l0 t222 _ ?side1 ?side2 A2.out).mono ?_); (case side1 => repeat (first | exact HR0.out | (with_reducible refine Kd.C_alloc ?_ _) | (with_reducible refine Kd.C_drewN ?_ _) | (with_reducible refine Kd.C_drew ?_))); (case side2 => exact HC0.out); rintro e w3 ⟨v223, rfl, ho0, hb⟩; have n0_ := Aside0.mk (Kd.R_lower ho0 (below_size (by repeat (first | (with_reducible first | exact HB.out | apply below_alloc | apply pw_below_drewN | apply below_drew1) | exact HB.out)))); have n1_ := Aside0.mk (below_step (by repeat (first | (with_reducible first | exact HB.out | apply below_alloc | apply pw_below_drewN | apply below_drew1) | exact HB.out)) hb); clear HB; have HO224 := n0_; have HB := n1_; clear n0_ n1_; (try clear hb); (try clear hb2); (try clear hk); (try clear hi); (try clear ho0))))
  go_loopg [3, 5] k (fun kq v3 v5 w' => ∃ (x3_1 : Int) (x5_1 : Int), v3 = .int .i64 x3_1 ∧ v5 = .int .i64 x5_1 ∧ Aside0 (driftnetref09_Size.l0 kq x3_1 t222 x5_1 = some r) ∧ Aside0 (kq ≤ k) ∧ Aside0 (Kd.R k41 41 w' w.heap.size (fun _ => True) v223 t222) ∧ Aside0 (Below w.heap.size w w'))
  case atStart => exact ⟨(0), (0), (by first | rfl | (simp; done) | (simp [*]; done)), (by first | rfl | (simp; done) | (simp [*]; done)), H', ⟨Nat.le_refl _⟩, ⟨by (with_reducible repeat (first | apply Kd.R_alloc | apply Kd.R_drewN | apply Kd.R_drew)); exact HO224.out⟩, ⟨by repeat (first | (with_reducible first | exact HB.out | apply below_alloc | apply pw_below_drewN | apply below_drew1) | exact HB.out)⟩⟩
  case round =>
    clear H'
    try clear c2
    try clear p2
    obtain ⟨x3_1, x5_1, rfl, rfl, HA, HK1, HO_4, HB⟩ := hrel
    cases gk with
    | zero => exact absurd HA.out (by simp [driftnetref09_Size.l0])
    | succ k1 =>
      have H := HA.out
      clear HA
      simp only [driftnetref09_Size.l0] at H
      by_cases c4 : x5_1 < (t222.length : Int)
      · rw [if_pos c4] at H
        have c4b0 : decide (x5_1 < (t222.length : Int)) = true := decide_eq_true c4
        clear c4
        by_cases c5 : 0 ≤ x5_1
        · rw [if_pos c5] at H
          have c5b0 : decide (0 ≤ x5_1) = true := decide_eq_true c5
          clear c5
          have H' := Aside0.mk H
          clear H
          obtain ⟨Ao6, co6, eo6⟩ := Kd.R_slice HO_4.out
          subst eo6
          have p225 : 0 ≤ (x5_1 : Int) := of_decide_eq_true (by first | (with_reducible assumption) | assumption)
          have q225 : x5_1 < (t222.length : Int) := of_decide_eq_true (by first | (with_reducible assumption) | assumption)
          obtain ⟨ad225, e225, hx225_0, hx225_1⟩ := at_T41 (Kd.R_reads' HO_4.out).2.2 x5_1 p225 q225
          cases e225
          replace p225 := eq_true p225
          replace q225 := eq_true q225
          have p226 : 0 ≤ (x5_1 : Int) := of_decide_eq_true (by first | (with_reducible assumption) | assumption)
          have q226 : x5_1 < (t222.length : Int) := of_decide_eq_true (by first | (with_reducible assumption) | assumption)
          obtain ⟨ad226, e226, hx226_0, hx226_1⟩ := at_T41 (Kd.R_reads' HO_4.out).2.2 x5_1 p226 q226
          obtain rfl : ad225 = ad226 := (by injection e226)
          replace p226 := eq_true p226
          replace q226 := eq_true q226
          go_wp2
          repeat (go_quiet (fail); try go_wp2)
          go_roundg k1
          case measure => have := HK1.out; omega
          case rel => exact ⟨(wrap64 ((wrap64 ((wrap64 (x3_1 + ((rd_T41 t222 x5_1).f1))) - ((rd_T41 t222 x5_1).f0))) + 1)), (wrap64 (x5_1 + 1)), (by first | rfl | (simp; done) | (simp [*]; done)), (by first | rfl | (simp; done) | (simp [*]; done)), H', ⟨by have := HK1.out; omega⟩, ⟨by (with_reducible repeat (first | apply Kd.R_alloc | apply Kd.R_drewN | apply Kd.R_drew)); exact HO_4.out⟩, ⟨by repeat (first | (with_reducible first | exact HB.out | apply below_alloc | apply pw_below_drewN | apply below_drew1) | exact HB.out)⟩⟩
        · rw [if_neg c5] at H
          exact absurd H (by simp)
      · rw [if_neg c4] at H
        have c4b0 : decide (x5_1 < (t222.length : Int)) = false := decide_eq_false c4
        clear c4
        obtain rfl := Option.some.inj H
        obtain ⟨Ao7, co7, eo7⟩ := Kd.R_slice HO_4.out
        subst eo7
        go_wp2
        repeat (go_quiet (fail); try go_wp2)
        go_ret
        exact ⟨by first | rfl | (simp [errW_none, errW_some] <;> rfl) | (simp [*, errW_none, errW_some] <;> rfl), by repeat (first | (with_reducible first | exact HB.out | apply below_alloc | apply pw_below_drewN | apply below_drew1) | exact HB.out)⟩

/-! ### driftnetlaw09_RunesSets: function 7 (by hand) -/
def driftnetlaw09_RunesSets.f (k : Nat) (l0 : List (S41)) (a1 : Int) : Option Bool := (driftnetlaw09_set.f k (l0.take 20)).bind fun s => ((runes_Of.f s).bind fun o => ((driftnetlaw09_ranges.f k o).bind fun r1 => ((driftnetref09_Of.f k (l0.take 20)).bind fun q1 => ((driftnetref09_Equal.f k r1 q1).bind fun e1 => if e1 = true then ((runes_Set_Not.f k s).bind fun nt => ((driftnetlaw09_ranges.f k nt).bind fun r2 => ((driftnetref09_Not.f k (l0.take 20)).bind fun q2 => ((driftnetref09_Equal.f k r2 q2).bind fun e2 => if e2 = true then ((runes_Check.f k s).bind fun c1 => ((driftnetref09_Check.f k (l0.take 20)).bind fun c2 => (if c2 = c1 then ((runes_Set_Size.f k s).bind fun z1 => ((driftnetref09_Size.f k (l0.take 20)).bind fun z2 => (if z2 = z1 then ((runes_Set_Has.f s a1).bind fun h1 => ((driftnetref09_Has.f k (l0.take 20) a1).bind fun h2 => (if h2 = h1 then ((driftnetlaw09_ranges.f k s).bind fun r3 => ((driftnetref09_Equal.f k r3 (l0.take 20)).bind fun e3 => if e3 = true then ((driftnetlaw09_awake.f k).bind fun e4 => if e4 = true then (some true) else none) else none)) else none))) else none))) else none))) else none)))) else none))))
theorem driftnetlaw09_RunesSets.mono : ∀ a0 a1 k, LeO (driftnetlaw09_RunesSets.f k a0 a1) (driftnetlaw09_RunesSets.f (k + 1) a0 a1) := by
  intro a0 a1 k
  unfold driftnetlaw09_RunesSets.f
  repeat' first
      | (with_reducible exact driftnetlaw09_set.mono _ _)
      | (with_reducible exact driftnetlaw09_ranges.mono _ _)
      | (with_reducible exact driftnetref09_Of.mono _ _)
      | (with_reducible exact driftnetref09_Equal.mono _ _ _)
      | (with_reducible exact runes_Set_Not.mono _ _)
      | (with_reducible exact driftnetref09_Not.mono _ _)
      | (with_reducible exact runes_Check.mono _ _)
      | (with_reducible exact driftnetref09_Check.mono _ _)
      | (with_reducible exact runes_Set_Size.mono _ _)
      | (with_reducible exact driftnetref09_Size.mono _ _)
      | (with_reducible exact driftnetref09_Has.mono _ _ _)
      | (with_reducible exact driftnetlaw09_awake.mono _)
      | (with_reducible exact LeO.refl _)
      | (with_reducible exact LeO.none _)
      | (with_reducible refine LeO.ite ?_ ?_)
      | (with_reducible refine LeO.bind ?_ (fun _ => ?_))
      | exact driftnetlaw09_set.mono _ _
      | exact driftnetlaw09_ranges.mono _ _
      | exact driftnetref09_Of.mono _ _
      | exact driftnetref09_Equal.mono _ _ _
      | exact runes_Set_Not.mono _ _
      | exact driftnetref09_Not.mono _ _
      | exact runes_Check.mono _ _
      | exact driftnetref09_Check.mono _ _
      | exact runes_Set_Size.mono _ _
      | exact driftnetref09_Size.mono _ _
      | exact driftnetref09_Has.mono _ _ _
      | exact driftnetlaw09_awake.mono _
      | exact LeO.refl _
      | exact LeO.none _
      | refine LeO.ite ?_ ?_
      | refine LeO.bind ?_ (fun _ => ?_)
set_option maxHeartbeats 6000000 in
set_option maxRecDepth 100000 in
theorem driftnetlaw09_RunesSets.calls (k : Nat) (A0 : Option Addr) (c0 : Nat) (l0 : List (S41)) (a1 : Int) (r : Bool) (w : World) (hrl0 : Kd.C k41 w A0 l0.length l0) (hcl0 : l0.length ≤ c0) (h : driftnetlaw09_RunesSets.f k l0 a1 = some r) :
    Calls Try.prog 7 #[.slice A0 l0.length c0, .int .i64 a1] w fun e w' => e = .returned (.bool r) ∧ Below w.heap.size w w' := by
  unfold driftnetlaw09_RunesSets.f at h
  obtain ⟨s, a_, h_⟩ := Option.bind_eq_some_iff.mp h
  clear h
  have h := h_
  clear h_
  have Hs := Aside0.mk a_
  clear a_
  obtain ⟨o, a_, h_⟩ := Option.bind_eq_some_iff.mp h
  clear h
  have h := h_
  clear h_
  have Ho := Aside0.mk a_
  clear a_
  obtain ⟨r1, a_, h_⟩ := Option.bind_eq_some_iff.mp h
  clear h
  have h := h_
  clear h_
  have Hr1 := Aside0.mk a_
  clear a_
  obtain ⟨q1, a_, h_⟩ := Option.bind_eq_some_iff.mp h
  clear h
  have h := h_
  clear h_
  have Hq1 := Aside0.mk a_
  clear a_
  obtain ⟨e1, a_, h_⟩ := Option.bind_eq_some_iff.mp h
  clear h
  have h := h_
  clear h_
  have He1 := Aside0.mk a_
  clear a_
  by_cases hc_ : e1 = true
  rotate_left
  · rw [if_neg hc_] at h; cases h
  rw [if_pos hc_] at h
  rw [hc_] at He1
  clear hc_
  obtain ⟨nt, a_, h_⟩ := Option.bind_eq_some_iff.mp h
  clear h
  have h := h_
  clear h_
  have Hnt := Aside0.mk a_
  clear a_
  obtain ⟨r2, a_, h_⟩ := Option.bind_eq_some_iff.mp h
  clear h
  have h := h_
  clear h_
  have Hr2 := Aside0.mk a_
  clear a_
  obtain ⟨q2, a_, h_⟩ := Option.bind_eq_some_iff.mp h
  clear h
  have h := h_
  clear h_
  have Hq2 := Aside0.mk a_
  clear a_
  obtain ⟨e2, a_, h_⟩ := Option.bind_eq_some_iff.mp h
  clear h
  have h := h_
  clear h_
  have He2 := Aside0.mk a_
  clear a_
  by_cases hc_ : e2 = true
  rotate_left
  · rw [if_neg hc_] at h; cases h
  rw [if_pos hc_] at h
  rw [hc_] at He2
  clear hc_
  obtain ⟨c1, a_, h_⟩ := Option.bind_eq_some_iff.mp h
  clear h
  have h := h_
  clear h_
  have Hc1 := Aside0.mk a_
  clear a_
  obtain ⟨c2, a_, h_⟩ := Option.bind_eq_some_iff.mp h
  clear h
  have h := h_
  clear h_
  have Hc2 := Aside0.mk a_
  clear a_
  by_cases hc_ : c2 = c1
  rotate_left
  · rw [if_neg hc_] at h; cases h
  rw [if_pos hc_] at h
  have HQ0 := Aside0.mk hc_
  clear hc_
  obtain ⟨z1, a_, h_⟩ := Option.bind_eq_some_iff.mp h
  clear h
  have h := h_
  clear h_
  have Hz1 := Aside0.mk a_
  clear a_
  obtain ⟨z2, a_, h_⟩ := Option.bind_eq_some_iff.mp h
  clear h
  have h := h_
  clear h_
  have Hz2 := Aside0.mk a_
  clear a_
  by_cases hc_ : z2 = z1
  rotate_left
  · rw [if_neg hc_] at h; cases h
  rw [if_pos hc_] at h
  have HQ1 := Aside0.mk hc_
  clear hc_
  obtain ⟨h1, a_, h_⟩ := Option.bind_eq_some_iff.mp h
  clear h
  have h := h_
  clear h_
  have Hh1 := Aside0.mk a_
  clear a_
  obtain ⟨h2, a_, h_⟩ := Option.bind_eq_some_iff.mp h
  clear h
  have h := h_
  clear h_
  have Hh2 := Aside0.mk a_
  clear a_
  by_cases hc_ : h2 = h1
  rotate_left
  · rw [if_neg hc_] at h; cases h
  rw [if_pos hc_] at h
  have HQ2 := Aside0.mk hc_
  clear hc_
  obtain ⟨r3, a_, h_⟩ := Option.bind_eq_some_iff.mp h
  clear h
  have h := h_
  clear h_
  have Hr3 := Aside0.mk a_
  clear a_
  obtain ⟨e3, a_, h_⟩ := Option.bind_eq_some_iff.mp h
  clear h
  have h := h_
  clear h_
  have He3 := Aside0.mk a_
  clear a_
  by_cases hc_ : e3 = true
  rotate_left
  · rw [if_neg hc_] at h; cases h
  rw [if_pos hc_] at h
  rw [hc_] at He3
  clear hc_
  obtain ⟨e4, a_, h_⟩ := Option.bind_eq_some_iff.mp h
  clear h
  have h := h_
  clear h_
  have He4 := Aside0.mk a_
  clear a_
  by_cases hc_ : e4 = true
  rotate_left
  · rw [if_neg hc_] at h; cases h
  rw [if_pos hc_] at h
  rw [hc_] at He4
  clear hc_
  obtain rfl := Option.some.inj h
  clear h
  have R_l0 := Aside0.mk hrl0
  have C_l0 := Aside0.mk hcl0
  clear hrl0 hcl0
  have B_l0 := Aside0.mk (Below.refl w.heap.size w)
  have HB := Aside0.mk (Below.refl w.heap.size w)
  obtain ⟨m_l0, hm_l0⟩ : ∃ m_ : Int, (if 20 < (l0.length : Int) then 20 else (l0.length : Int)) = m_ := ⟨_, rfl⟩
  have q0_l0 : 0 ≤ m_l0 := by rw [← hm_l0]; split <;> omega
  have q1_l0 : m_l0 ≤ (l0.length : Int) := by rw [← hm_l0]; split <;> omega
  have q2_l0 : l0.take m_l0.toNat = l0.take 20 := by
    rw [← hm_l0]
    split
    · rfl
    · rw [Int.toNat_natCast, List.take_of_length_le (Nat.le_refl _), List.take_of_length_le (by omega)]
  obtain ⟨i_l0, hi_l0, _, _, _⟩ := info_parts info41
  have hcut_l0 := cut_to (P := Try.prog) 22 41 .i64 Try.underlying22 hi_l0 A0 l0.length c0 m_l0 q0_l0 q1_l0 C_l0.out
  have hr_l0 := Kd.C_take (m := m_l0.toNat) R_l0.out (by omega)
  have hl_l0 : (l0.take m_l0.toNat).length = m_l0.toNat := by rw [List.length_take]; omega
  rw [← hl_l0] at hcut_l0
  rw [q2_l0] at hr_l0 hcut_l0
  have hc_l0 : (l0.take 20).length ≤ c0 := by have := C_l0.out; rw [List.length_take]; omega
  obtain ⟨a, hy_l0⟩ : ∃ y_, y_ = l0.take 20 := ⟨_, rfl⟩
  rw [← hy_l0] at hr_l0 hcut_l0 hc_l0
  have R_a := Aside0.mk hr_l0
  have C_a := Aside0.mk hc_l0
  have Y_a := Aside0.mk hy_l0
  clear hr_l0 hc_l0 hy_l0 q2_l0 hl_l0 hi_l0
  simp only [← Y_a.out] at Hs Hq1 Hq2 Hc2 Hz2 Hh2 He3
  have B_a := Aside0.mk (Below.refl w.heap.size w)
  go_enter Try.func7, Try.ntmps7
  clear R_l0 C_l0 B_l0
  go_wp2_with fail
  with_reducible refine (driftnetlaw09_set.calls k _ _ a _ _ (by repeat (first | exact (Kd.C_below R_a.out B_a.out) | (with_reducible refine Kd.C_alloc ?_ _) | (with_reducible refine Kd.C_drewN ?_ _) | (with_reducible refine Kd.C_drew ?_))) C_a.out Hs.out).mono ?_
  rintro e w101 ⟨v, rfl, ho, hb⟩
  obtain ⟨A_s, c_s, rfl, hlo, hC⟩ := Kd.R_reads ho
  clear ho
  have Z_ := Aside0.mk (below_step (by repeat (first | exact B_a.out | apply below_alloc | apply pw_below_drewN | apply below_drew1)) hb)
  clear B_a
  have B_a := Z_
  clear Z_
  have Z_ := Aside0.mk (below_step (by repeat (first | exact HB.out | apply below_alloc | apply pw_below_drewN | apply below_drew1)) hb)
  clear HB
  have HB := Z_
  clear Z_
  clear hb
  have R_s := Aside0.mk hC
  have C_s := Aside0.mk hlo
  clear hC hlo
  have B_s := Aside0.mk (Below.refl w101.heap.size w101)
  go_wp2_with fail
  with_reducible refine (runes_Of.calls _ _ s _ _ (by repeat (first | exact (Kd.C_below R_s.out B_s.out) | (with_reducible refine Kd.C_alloc ?_ _) | (with_reducible refine Kd.C_drewN ?_ _) | (with_reducible refine Kd.C_drew ?_))) C_s.out Ho.out).mono ?_
  rintro e w102 ⟨v, rfl, ho, hb⟩
  obtain ⟨A_o, c_o, rfl, hlo, hC⟩ := Kd.R_reads ho
  clear ho
  have Z_ := Aside0.mk (below_step (by repeat (first | exact B_a.out | apply below_alloc | apply pw_below_drewN | apply below_drew1)) hb)
  clear B_a
  have B_a := Z_
  clear Z_
  have Z_ := Aside0.mk (below_step (by repeat (first | exact B_s.out | apply below_alloc | apply pw_below_drewN | apply below_drew1)) hb)
  clear B_s
  have B_s := Z_
  clear Z_
  have Z_ := Aside0.mk (below_step (by repeat (first | exact HB.out | apply below_alloc | apply pw_below_drewN | apply below_drew1)) hb)
  clear HB
  have HB := Z_
  clear Z_
  clear hb
  have R_o := Aside0.mk hC
  have C_o := Aside0.mk hlo
  clear hC hlo
  have B_o := Aside0.mk (Below.refl w102.heap.size w102)
  go_wp2_with fail
  with_reducible refine (driftnetlaw09_ranges.calls k _ _ o _ _ (by repeat (first | exact (Kd.C_below R_o.out B_o.out) | (with_reducible refine Kd.C_alloc ?_ _) | (with_reducible refine Kd.C_drewN ?_ _) | (with_reducible refine Kd.C_drew ?_))) C_o.out Hr1.out).mono ?_
  rintro e w103 ⟨v, rfl, ho, hb⟩
  obtain ⟨A_r1, c_r1, rfl, hlo, hC⟩ := Kd.R_reads ho
  clear ho
  have Z_ := Aside0.mk (below_step (by repeat (first | exact B_a.out | apply below_alloc | apply pw_below_drewN | apply below_drew1)) hb)
  clear B_a
  have B_a := Z_
  clear Z_
  have Z_ := Aside0.mk (below_step (by repeat (first | exact B_s.out | apply below_alloc | apply pw_below_drewN | apply below_drew1)) hb)
  clear B_s
  have B_s := Z_
  clear Z_
  have Z_ := Aside0.mk (below_step (by repeat (first | exact B_o.out | apply below_alloc | apply pw_below_drewN | apply below_drew1)) hb)
  clear B_o
  have B_o := Z_
  clear Z_
  have Z_ := Aside0.mk (below_step (by repeat (first | exact HB.out | apply below_alloc | apply pw_below_drewN | apply below_drew1)) hb)
  clear HB
  have HB := Z_
  clear Z_
  clear hb
  have R_r1 := Aside0.mk hC
  have C_r1 := Aside0.mk hlo
  clear hC hlo
  have B_r1 := Aside0.mk (Below.refl w103.heap.size w103)
  go_wp2_with fail
  with_reducible refine (driftnetref09_Of.calls k _ _ a _ _ (by repeat (first | exact (Kd.C_below R_a.out B_a.out) | (with_reducible refine Kd.C_alloc ?_ _) | (with_reducible refine Kd.C_drewN ?_ _) | (with_reducible refine Kd.C_drew ?_))) C_a.out Hq1.out).mono ?_
  rintro e w104 ⟨v, rfl, ho, hb⟩
  obtain ⟨A_q1, c_q1, rfl, hlo, hC⟩ := Kd.R_reads ho
  clear ho
  have Z_ := Aside0.mk (below_step (by repeat (first | exact B_a.out | apply below_alloc | apply pw_below_drewN | apply below_drew1)) hb)
  clear B_a
  have B_a := Z_
  clear Z_
  have Z_ := Aside0.mk (below_step (by repeat (first | exact B_s.out | apply below_alloc | apply pw_below_drewN | apply below_drew1)) hb)
  clear B_s
  have B_s := Z_
  clear Z_
  have Z_ := Aside0.mk (below_step (by repeat (first | exact B_o.out | apply below_alloc | apply pw_below_drewN | apply below_drew1)) hb)
  clear B_o
  have B_o := Z_
  clear Z_
  have Z_ := Aside0.mk (below_step (by repeat (first | exact B_r1.out | apply below_alloc | apply pw_below_drewN | apply below_drew1)) hb)
  clear B_r1
  have B_r1 := Z_
  clear Z_
  have Z_ := Aside0.mk (below_step (by repeat (first | exact HB.out | apply below_alloc | apply pw_below_drewN | apply below_drew1)) hb)
  clear HB
  have HB := Z_
  clear Z_
  clear hb
  have R_q1 := Aside0.mk hC
  have C_q1 := Aside0.mk hlo
  clear hC hlo
  have B_q1 := Aside0.mk (Below.refl w104.heap.size w104)
  go_wp2_with fail
  with_reducible refine (driftnetref09_Equal.calls k _ _ r1 _ _ q1 _ _ (by repeat (first | exact (Kd.C_below R_r1.out B_r1.out) | (with_reducible refine Kd.C_alloc ?_ _) | (with_reducible refine Kd.C_drewN ?_ _) | (with_reducible refine Kd.C_drew ?_))) C_r1.out (by repeat (first | exact (Kd.C_below R_q1.out B_q1.out) | (with_reducible refine Kd.C_alloc ?_ _) | (with_reducible refine Kd.C_drewN ?_ _) | (with_reducible refine Kd.C_drew ?_))) C_q1.out He1.out).mono ?_
  rintro e w105 ⟨rfl, hb0⟩
  have hb := hb0.below
  clear hb0
  have Z_ := Aside0.mk (below_step (by repeat (first | exact B_a.out | apply below_alloc | apply pw_below_drewN | apply below_drew1)) hb)
  clear B_a
  have B_a := Z_
  clear Z_
  have Z_ := Aside0.mk (below_step (by repeat (first | exact B_s.out | apply below_alloc | apply pw_below_drewN | apply below_drew1)) hb)
  clear B_s
  have B_s := Z_
  clear Z_
  have Z_ := Aside0.mk (below_step (by repeat (first | exact B_o.out | apply below_alloc | apply pw_below_drewN | apply below_drew1)) hb)
  clear B_o
  have B_o := Z_
  clear Z_
  have Z_ := Aside0.mk (below_step (by repeat (first | exact B_r1.out | apply below_alloc | apply pw_below_drewN | apply below_drew1)) hb)
  clear B_r1
  have B_r1 := Z_
  clear Z_
  have Z_ := Aside0.mk (below_step (by repeat (first | exact B_q1.out | apply below_alloc | apply pw_below_drewN | apply below_drew1)) hb)
  clear B_q1
  have B_q1 := Z_
  clear Z_
  have Z_ := Aside0.mk (below_step (by repeat (first | exact HB.out | apply below_alloc | apply pw_below_drewN | apply below_drew1)) hb)
  clear HB
  have HB := Z_
  clear Z_
  clear hb
  clear R_o C_o B_o
  clear R_r1 C_r1 B_r1
  clear R_q1 C_q1 B_q1
  go_wp2_with fail
  with_reducible refine (runes_Set_Not.calls k _ _ s _ _ (by repeat (first | exact (Kd.C_below R_s.out B_s.out) | (with_reducible refine Kd.C_alloc ?_ _) | (with_reducible refine Kd.C_drewN ?_ _) | (with_reducible refine Kd.C_drew ?_))) C_s.out Hnt.out).mono ?_
  rintro e w106 ⟨v, rfl, ho, hb⟩
  obtain ⟨A_nt, c_nt, rfl, hlo, hC⟩ := Kd.R_reads ho
  clear ho
  have Z_ := Aside0.mk (below_step (by repeat (first | exact B_a.out | apply below_alloc | apply pw_below_drewN | apply below_drew1)) hb)
  clear B_a
  have B_a := Z_
  clear Z_
  have Z_ := Aside0.mk (below_step (by repeat (first | exact B_s.out | apply below_alloc | apply pw_below_drewN | apply below_drew1)) hb)
  clear B_s
  have B_s := Z_
  clear Z_
  have Z_ := Aside0.mk (below_step (by repeat (first | exact HB.out | apply below_alloc | apply pw_below_drewN | apply below_drew1)) hb)
  clear HB
  have HB := Z_
  clear Z_
  clear hb
  have R_nt := Aside0.mk hC
  have C_nt := Aside0.mk hlo
  clear hC hlo
  have B_nt := Aside0.mk (Below.refl w106.heap.size w106)
  go_wp2_with fail
  with_reducible refine (driftnetlaw09_ranges.calls k _ _ nt _ _ (by repeat (first | exact (Kd.C_below R_nt.out B_nt.out) | (with_reducible refine Kd.C_alloc ?_ _) | (with_reducible refine Kd.C_drewN ?_ _) | (with_reducible refine Kd.C_drew ?_))) C_nt.out Hr2.out).mono ?_
  rintro e w107 ⟨v, rfl, ho, hb⟩
  obtain ⟨A_r2, c_r2, rfl, hlo, hC⟩ := Kd.R_reads ho
  clear ho
  have Z_ := Aside0.mk (below_step (by repeat (first | exact B_a.out | apply below_alloc | apply pw_below_drewN | apply below_drew1)) hb)
  clear B_a
  have B_a := Z_
  clear Z_
  have Z_ := Aside0.mk (below_step (by repeat (first | exact B_s.out | apply below_alloc | apply pw_below_drewN | apply below_drew1)) hb)
  clear B_s
  have B_s := Z_
  clear Z_
  have Z_ := Aside0.mk (below_step (by repeat (first | exact B_nt.out | apply below_alloc | apply pw_below_drewN | apply below_drew1)) hb)
  clear B_nt
  have B_nt := Z_
  clear Z_
  have Z_ := Aside0.mk (below_step (by repeat (first | exact HB.out | apply below_alloc | apply pw_below_drewN | apply below_drew1)) hb)
  clear HB
  have HB := Z_
  clear Z_
  clear hb
  have R_r2 := Aside0.mk hC
  have C_r2 := Aside0.mk hlo
  clear hC hlo
  have B_r2 := Aside0.mk (Below.refl w107.heap.size w107)
  go_wp2_with fail
  with_reducible refine (driftnetref09_Not.calls k _ _ a _ _ (by repeat (first | exact (Kd.C_below R_a.out B_a.out) | (with_reducible refine Kd.C_alloc ?_ _) | (with_reducible refine Kd.C_drewN ?_ _) | (with_reducible refine Kd.C_drew ?_))) C_a.out Hq2.out).mono ?_
  rintro e w108 ⟨v, rfl, ho, hb⟩
  obtain ⟨A_q2, c_q2, rfl, hlo, hC⟩ := Kd.R_reads ho
  clear ho
  have Z_ := Aside0.mk (below_step (by repeat (first | exact B_a.out | apply below_alloc | apply pw_below_drewN | apply below_drew1)) hb)
  clear B_a
  have B_a := Z_
  clear Z_
  have Z_ := Aside0.mk (below_step (by repeat (first | exact B_s.out | apply below_alloc | apply pw_below_drewN | apply below_drew1)) hb)
  clear B_s
  have B_s := Z_
  clear Z_
  have Z_ := Aside0.mk (below_step (by repeat (first | exact B_nt.out | apply below_alloc | apply pw_below_drewN | apply below_drew1)) hb)
  clear B_nt
  have B_nt := Z_
  clear Z_
  have Z_ := Aside0.mk (below_step (by repeat (first | exact B_r2.out | apply below_alloc | apply pw_below_drewN | apply below_drew1)) hb)
  clear B_r2
  have B_r2 := Z_
  clear Z_
  have Z_ := Aside0.mk (below_step (by repeat (first | exact HB.out | apply below_alloc | apply pw_below_drewN | apply below_drew1)) hb)
  clear HB
  have HB := Z_
  clear Z_
  clear hb
  have R_q2 := Aside0.mk hC
  have C_q2 := Aside0.mk hlo
  clear hC hlo
  have B_q2 := Aside0.mk (Below.refl w108.heap.size w108)
  go_wp2_with fail
  with_reducible refine (driftnetref09_Equal.calls k _ _ r2 _ _ q2 _ _ (by repeat (first | exact (Kd.C_below R_r2.out B_r2.out) | (with_reducible refine Kd.C_alloc ?_ _) | (with_reducible refine Kd.C_drewN ?_ _) | (with_reducible refine Kd.C_drew ?_))) C_r2.out (by repeat (first | exact (Kd.C_below R_q2.out B_q2.out) | (with_reducible refine Kd.C_alloc ?_ _) | (with_reducible refine Kd.C_drewN ?_ _) | (with_reducible refine Kd.C_drew ?_))) C_q2.out He2.out).mono ?_
  rintro e w109 ⟨rfl, hb0⟩
  have hb := hb0.below
  clear hb0
  have Z_ := Aside0.mk (below_step (by repeat (first | exact B_a.out | apply below_alloc | apply pw_below_drewN | apply below_drew1)) hb)
  clear B_a
  have B_a := Z_
  clear Z_
  have Z_ := Aside0.mk (below_step (by repeat (first | exact B_s.out | apply below_alloc | apply pw_below_drewN | apply below_drew1)) hb)
  clear B_s
  have B_s := Z_
  clear Z_
  have Z_ := Aside0.mk (below_step (by repeat (first | exact B_nt.out | apply below_alloc | apply pw_below_drewN | apply below_drew1)) hb)
  clear B_nt
  have B_nt := Z_
  clear Z_
  have Z_ := Aside0.mk (below_step (by repeat (first | exact B_r2.out | apply below_alloc | apply pw_below_drewN | apply below_drew1)) hb)
  clear B_r2
  have B_r2 := Z_
  clear Z_
  have Z_ := Aside0.mk (below_step (by repeat (first | exact B_q2.out | apply below_alloc | apply pw_below_drewN | apply below_drew1)) hb)
  clear B_q2
  have B_q2 := Z_
  clear Z_
  have Z_ := Aside0.mk (below_step (by repeat (first | exact HB.out | apply below_alloc | apply pw_below_drewN | apply below_drew1)) hb)
  clear HB
  have HB := Z_
  clear Z_
  clear hb
  clear R_nt C_nt B_nt
  clear R_r2 C_r2 B_r2
  clear R_q2 C_q2 B_q2
  have HE0 := HQ0.out
  subst HE0
  have HE1 := HQ1.out
  subst HE1
  have HE2 := HQ2.out
  subst HE2
  go_wp2_with fail
  with_reducible refine (runes_Check.calls k _ _ s _ _ (by repeat (first | exact (Kd.C_below R_s.out B_s.out) | (with_reducible refine Kd.C_alloc ?_ _) | (with_reducible refine Kd.C_drewN ?_ _) | (with_reducible refine Kd.C_drew ?_))) C_s.out Hc1.out).mono ?_
  rintro e w110 ⟨rfl, hb⟩
  have Z_ := Aside0.mk (below_step (by repeat (first | exact B_a.out | apply below_alloc | apply pw_below_drewN | apply below_drew1)) hb)
  clear B_a
  have B_a := Z_
  clear Z_
  have Z_ := Aside0.mk (below_step (by repeat (first | exact B_s.out | apply below_alloc | apply pw_below_drewN | apply below_drew1)) hb)
  clear B_s
  have B_s := Z_
  clear Z_
  have Z_ := Aside0.mk (below_step (by repeat (first | exact HB.out | apply below_alloc | apply pw_below_drewN | apply below_drew1)) hb)
  clear HB
  have HB := Z_
  clear Z_
  clear hb
  go_wp2_with fail
  with_reducible refine (driftnetref09_Check.calls k _ _ a _ _ (by repeat (first | exact (Kd.C_below R_a.out B_a.out) | (with_reducible refine Kd.C_alloc ?_ _) | (with_reducible refine Kd.C_drewN ?_ _) | (with_reducible refine Kd.C_drew ?_))) C_a.out Hc2.out).mono ?_
  rintro e w111 ⟨rfl, hb⟩
  have Z_ := Aside0.mk (below_step (by repeat (first | exact B_a.out | apply below_alloc | apply pw_below_drewN | apply below_drew1)) hb)
  clear B_a
  have B_a := Z_
  clear Z_
  have Z_ := Aside0.mk (below_step (by repeat (first | exact B_s.out | apply below_alloc | apply pw_below_drewN | apply below_drew1)) hb)
  clear B_s
  have B_s := Z_
  clear Z_
  have Z_ := Aside0.mk (below_step (by repeat (first | exact HB.out | apply below_alloc | apply pw_below_drewN | apply below_drew1)) hb)
  clear HB
  have HB := Z_
  clear Z_
  clear hb
  go_wp2_with fail
  with_reducible refine (runes_Set_Size.calls k _ _ s _ _ (by repeat (first | exact (Kd.C_below R_s.out B_s.out) | (with_reducible refine Kd.C_alloc ?_ _) | (with_reducible refine Kd.C_drewN ?_ _) | (with_reducible refine Kd.C_drew ?_))) C_s.out Hz1.out).mono ?_
  rintro e w112 ⟨rfl, hb⟩
  have Z_ := Aside0.mk (below_step (by repeat (first | exact B_a.out | apply below_alloc | apply pw_below_drewN | apply below_drew1)) hb)
  clear B_a
  have B_a := Z_
  clear Z_
  have Z_ := Aside0.mk (below_step (by repeat (first | exact B_s.out | apply below_alloc | apply pw_below_drewN | apply below_drew1)) hb)
  clear B_s
  have B_s := Z_
  clear Z_
  have Z_ := Aside0.mk (below_step (by repeat (first | exact HB.out | apply below_alloc | apply pw_below_drewN | apply below_drew1)) hb)
  clear HB
  have HB := Z_
  clear Z_
  clear hb
  go_wp2_with fail
  with_reducible refine (driftnetref09_Size.calls k _ _ a _ _ (by repeat (first | exact (Kd.C_below R_a.out B_a.out) | (with_reducible refine Kd.C_alloc ?_ _) | (with_reducible refine Kd.C_drewN ?_ _) | (with_reducible refine Kd.C_drew ?_))) C_a.out Hz2.out).mono ?_
  rintro e w113 ⟨rfl, hb⟩
  have Z_ := Aside0.mk (below_step (by repeat (first | exact B_a.out | apply below_alloc | apply pw_below_drewN | apply below_drew1)) hb)
  clear B_a
  have B_a := Z_
  clear Z_
  have Z_ := Aside0.mk (below_step (by repeat (first | exact B_s.out | apply below_alloc | apply pw_below_drewN | apply below_drew1)) hb)
  clear B_s
  have B_s := Z_
  clear Z_
  have Z_ := Aside0.mk (below_step (by repeat (first | exact HB.out | apply below_alloc | apply pw_below_drewN | apply below_drew1)) hb)
  clear HB
  have HB := Z_
  clear Z_
  clear hb
  go_wp2_with fail
  with_reducible refine (runes_Set_Has.calls _ _ s a1 _ _ (by repeat (first | exact (Kd.C_below R_s.out B_s.out) | (with_reducible refine Kd.C_alloc ?_ _) | (with_reducible refine Kd.C_drewN ?_ _) | (with_reducible refine Kd.C_drew ?_))) C_s.out Hh1.out).mono ?_
  rintro e w114 ⟨rfl, hb⟩
  have Z_ := Aside0.mk (below_step (by repeat (first | exact B_a.out | apply below_alloc | apply pw_below_drewN | apply below_drew1)) hb)
  clear B_a
  have B_a := Z_
  clear Z_
  have Z_ := Aside0.mk (below_step (by repeat (first | exact B_s.out | apply below_alloc | apply pw_below_drewN | apply below_drew1)) hb)
  clear B_s
  have B_s := Z_
  clear Z_
  have Z_ := Aside0.mk (below_step (by repeat (first | exact HB.out | apply below_alloc | apply pw_below_drewN | apply below_drew1)) hb)
  clear HB
  have HB := Z_
  clear Z_
  clear hb
  go_wp2_with fail
  with_reducible refine (driftnetref09_Has.calls k _ _ a a1 _ _ (by repeat (first | exact (Kd.C_below R_a.out B_a.out) | (with_reducible refine Kd.C_alloc ?_ _) | (with_reducible refine Kd.C_drewN ?_ _) | (with_reducible refine Kd.C_drew ?_))) C_a.out Hh2.out).mono ?_
  rintro e w115 ⟨rfl, hb0⟩
  have hb := hb0.below
  clear hb0
  have Z_ := Aside0.mk (below_step (by repeat (first | exact B_a.out | apply below_alloc | apply pw_below_drewN | apply below_drew1)) hb)
  clear B_a
  have B_a := Z_
  clear Z_
  have Z_ := Aside0.mk (below_step (by repeat (first | exact B_s.out | apply below_alloc | apply pw_below_drewN | apply below_drew1)) hb)
  clear B_s
  have B_s := Z_
  clear Z_
  have Z_ := Aside0.mk (below_step (by repeat (first | exact HB.out | apply below_alloc | apply pw_below_drewN | apply below_drew1)) hb)
  clear HB
  have HB := Z_
  clear Z_
  clear hb
  go_wp2_with fail
  with_reducible refine (driftnetlaw09_ranges.calls k _ _ s _ _ (by repeat (first | exact (Kd.C_below R_s.out B_s.out) | (with_reducible refine Kd.C_alloc ?_ _) | (with_reducible refine Kd.C_drewN ?_ _) | (with_reducible refine Kd.C_drew ?_))) C_s.out Hr3.out).mono ?_
  rintro e w116 ⟨v, rfl, ho, hb⟩
  obtain ⟨A_r3, c_r3, rfl, hlo, hC⟩ := Kd.R_reads ho
  clear ho
  have Z_ := Aside0.mk (below_step (by repeat (first | exact B_a.out | apply below_alloc | apply pw_below_drewN | apply below_drew1)) hb)
  clear B_a
  have B_a := Z_
  clear Z_
  have Z_ := Aside0.mk (below_step (by repeat (first | exact B_s.out | apply below_alloc | apply pw_below_drewN | apply below_drew1)) hb)
  clear B_s
  have B_s := Z_
  clear Z_
  have Z_ := Aside0.mk (below_step (by repeat (first | exact HB.out | apply below_alloc | apply pw_below_drewN | apply below_drew1)) hb)
  clear HB
  have HB := Z_
  clear Z_
  clear hb
  have R_r3 := Aside0.mk hC
  have C_r3 := Aside0.mk hlo
  clear hC hlo
  have B_r3 := Aside0.mk (Below.refl w116.heap.size w116)
  go_wp2_with fail
  with_reducible refine (driftnetref09_Equal.calls k _ _ r3 _ _ a _ _ (by repeat (first | exact (Kd.C_below R_r3.out B_r3.out) | (with_reducible refine Kd.C_alloc ?_ _) | (with_reducible refine Kd.C_drewN ?_ _) | (with_reducible refine Kd.C_drew ?_))) C_r3.out (by repeat (first | exact (Kd.C_below R_a.out B_a.out) | (with_reducible refine Kd.C_alloc ?_ _) | (with_reducible refine Kd.C_drewN ?_ _) | (with_reducible refine Kd.C_drew ?_))) C_a.out He3.out).mono ?_
  rintro e w117 ⟨rfl, hb0⟩
  have hb := hb0.below
  clear hb0
  have Z_ := Aside0.mk (below_step (by repeat (first | exact B_a.out | apply below_alloc | apply pw_below_drewN | apply below_drew1)) hb)
  clear B_a
  have B_a := Z_
  clear Z_
  have Z_ := Aside0.mk (below_step (by repeat (first | exact B_s.out | apply below_alloc | apply pw_below_drewN | apply below_drew1)) hb)
  clear B_s
  have B_s := Z_
  clear Z_
  have Z_ := Aside0.mk (below_step (by repeat (first | exact B_r3.out | apply below_alloc | apply pw_below_drewN | apply below_drew1)) hb)
  clear B_r3
  have B_r3 := Z_
  clear Z_
  have Z_ := Aside0.mk (below_step (by repeat (first | exact HB.out | apply below_alloc | apply pw_below_drewN | apply below_drew1)) hb)
  clear HB
  have HB := Z_
  clear Z_
  clear hb
  clear R_s C_s B_s
  clear R_r3 C_r3 B_r3
  clear R_a C_a B_a
  go_wp2_with fail
  with_reducible refine (driftnetlaw09_awake.calls k _ _ He4.out).mono ?_
  rintro e w118 ⟨rfl, hb⟩
  have Z_ := Aside0.mk (below_step (by repeat (first | exact HB.out | apply below_alloc | apply pw_below_drewN | apply below_drew1)) hb)
  clear HB
  have HB := Z_
  clear Z_
  clear hb
  go_wp2_with fail
  go_ret
  exact ⟨rfl, by repeat (first | exact HB.out | apply below_alloc | apply pw_below_drewN | apply below_drew1)⟩
/-- THE ONE PURE STATEMENT of driftnetlaw09_RunesSets. -/
def driftnetlaw09_RunesSets.Pure : Prop := ∀ (l0 : List (S41)) (a1 : Int), (l0.length * 16 ≤ 140737488351232 ∧ l0.length ≤ maxLen ∧ ∀ y ∈ l0, wf41 y) → ((Lit.int .i64 a1).wf = true) → ∃ k, driftnetlaw09_RunesSets.f k l0 a1 = some true
theorem driftnetlaw09_RunesSets.walk (P : driftnetlaw09_RunesSets.Pure) (A0 : Option Addr) (c0 : Nat) (l0 : List (S41)) (a1 : Int) (w : World) (hr0 : Kd.C k41 w A0 l0.length l0) (hc0 : l0.length ≤ c0) (hw0 : l0.length * 16 ≤ 140737488351232 ∧ l0.length ≤ maxLen ∧ ∀ y ∈ l0, wf41 y) (hw1 : (Lit.int .i64 a1).wf = true) :
    Calls Try.prog 7 #[.slice A0 l0.length c0, .int .i64 a1] w fun e w' => e = .returned (.bool true) ∧ Below w.heap.size w w' := by
  obtain ⟨k, h⟩ := P l0 a1 hw0 hw1
  refine (driftnetlaw09_RunesSets.calls k _ _ l0 a1 true w hr0 hc0 h).mono ?_
  rintro e w' ⟨rfl, hd⟩
  exact ⟨rfl, hd⟩


end Go.Proofs.Ytoihjhpabccigaa.PR
