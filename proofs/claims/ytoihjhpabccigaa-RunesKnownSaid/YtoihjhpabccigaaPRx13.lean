/- Written by a program of this session (wip/hand.py, over the kit's print): functions of the given program as plain Lean functions, and that the machine's calls come to what these say. -/
import Derived.Test.YtoihjhpabccigaaPN
import Derived.Test.YtoihjhpabccigaaHA
import Derived.Test.YtoihjhpabccigaaHL
import Derived.Test.YtoihjhpabccigaaPRx0
import Derived.Test.YtoihjhpabccigaaPRx4
import Derived.Test.YtoihjhpabccigaaPRx6
import Derived.Test.YtoihjhpabccigaaPRx8
import Derived.Test.YtoihjhpabccigaaPRx9
import Derived.Test.YtoihjhpabccigaaPRx11
import Derived.Test.YtoihjhpabccigaaPRx12
namespace Go.Proofs.Ytoihjhpabccigaa.PR
open Go.RowKit Go.Proofs.YtoihjhpabccigaaW.PrintWords Go.Proofs.YtoihjhpabccigaaW.PrintLast Go.Proofs.YtoihjhpabccigaaW.PrintMore
attribute [local go_sem] max2_int min2_int max_two min_two max_three min_three max_four min_four   -- for this text's walks alone
set_option linter.unusedVariables false
set_option linter.unusedSimpArgs false

/-! ### driftnetlaw09_RunesKnown: function 8 -/
mutual
def driftnetlaw09_RunesKnown.l0 : Nat → List Int → Int → Option (Bool)
  | 0, _, _ => none
  | k + 1, x1, x2 => if x2 < (x1.length : Int) then (driftnetlaw09_RunesKnown.l1 k x1 x2 0) else ((driftnetlaw09_awake.f k).bind fun t230 => (if t230 = true then ((driftnetlaw09_RunesSets.f k ([] : List (S41)) 0).bind fun t231 => (if t231 = true then ((driftnetlaw09_RunesTwo.f k ([] : List (S41)) ([] : List (S41))).bind fun t232 => (some t232)) else (none))) else (none)))
def driftnetlaw09_RunesKnown.l1 : Nat → List Int → Int → Int → Option (Bool)
  | 0, _, _, _ => none
  | k + 1, x1, x2, x3 => if x3 < (x1.length : Int) then (if 0 ≤ x2 then (if x2 < (x1.length : Int) then (if 0 ≤ x3 then ((some (([(⟨rd x1 x2, rd x1 x3⟩ : S41), (⟨5, 9⟩ : S41)] : List (S41)) : List (S41))).bind fun y235 => ((some (([(⟨rd x1 x3, rd x1 x2⟩ : S41), (⟨10, 10⟩ : S41), (⟨3, 3⟩ : S41)] : List (S41)) : List (S41))).bind fun y240 => ((driftnetlaw09_RunesSets.f k y235 (rd x1 x2)).bind fun t244 => (if t244 = true then ((driftnetlaw09_RunesSets.f k y240 (rd x1 x3)).bind fun t246 => (if t246 = true then ((driftnetlaw09_RunesTwo.f k y235 y240).bind fun t247 => (if t247 = true then ((driftnetlaw09_RunesHas.f k y235 y240 (rd x1 x3)).bind fun t249 => (if t249 = true then ((driftnetlaw09_RunesOnce.f k y235 y240).bind fun t250 => (if t250 = true then ((driftnetlaw09_RunesCount.f k y235 y240).bind fun t251 => (if t251 = true then (driftnetlaw09_RunesKnown.l1 k x1 x2 (wrap64 (x3 + 1))) else (none))) else (none))) else (none))) else (none))) else (none))) else (none))))) else (none)) else (none)) else (none)) else (driftnetlaw09_RunesKnown.l0 k x1 (wrap64 (x2 + 1)))
end
def driftnetlaw09_RunesKnown.f (k : Nat)  : Option (Bool) := driftnetlaw09_RunesKnown.l0 k (([(-9223372036854775808), (-1), 0, 1, 2, 55296, 1114110, 1114111, 1114112, 9223372036854775807] : List Int)) 0
theorem driftnetlaw09_RunesKnown.mono_l : ∀ k, (∀ y0 y1, LeO (driftnetlaw09_RunesKnown.l0 k y0 y1) (driftnetlaw09_RunesKnown.l0 (k + 1) y0 y1)) ∧ (∀ y0 y1 y2, LeO (driftnetlaw09_RunesKnown.l1 k y0 y1 y2) (driftnetlaw09_RunesKnown.l1 (k + 1) y0 y1 y2))
  | 0 => ⟨fun _ _ r h => by simp [driftnetlaw09_RunesKnown.l0] at h, fun _ _ _ r h => by simp [driftnetlaw09_RunesKnown.l1] at h⟩
  | k + 1 => by
    obtain ⟨ih0, ih1⟩ := driftnetlaw09_RunesKnown.mono_l k
    refine ⟨?_, ?_⟩
    · intro y0 y1
      unfold driftnetlaw09_RunesKnown.l0
      repeat' first
      | (with_reducible exact ih0 _ _)
      | (with_reducible exact ih1 _ _ _)
      | (with_reducible exact driftnetlaw09_RunesCount.mono _ _ _)
      | (with_reducible exact driftnetlaw09_RunesHas.mono _ _ _ _)
      | (with_reducible exact driftnetlaw09_RunesOnce.mono _ _ _)
      | (with_reducible exact driftnetlaw09_RunesSets.mono _ _ _)
      | (with_reducible exact driftnetlaw09_RunesTwo.mono _ _ _)
      | (with_reducible exact driftnetlaw09_awake.mono _)
      | (with_reducible exact LeO.refl _)
      | (with_reducible exact LeO.none _)
      | (with_reducible refine LeO.ite ?_ ?_)
      | (with_reducible refine LeO.bind ?_ (fun _ => ?_))
      | exact ih0 _ _
      | exact ih1 _ _ _
      | exact driftnetlaw09_RunesCount.mono _ _ _
      | exact driftnetlaw09_RunesHas.mono _ _ _ _
      | exact driftnetlaw09_RunesOnce.mono _ _ _
      | exact driftnetlaw09_RunesSets.mono _ _ _
      | exact driftnetlaw09_RunesTwo.mono _ _ _
      | exact driftnetlaw09_awake.mono _
      | exact LeO.none _
      | refine LeO.ite ?_ ?_
      | refine LeO.bind ?_ (fun _ => ?_)
    · intro y0 y1 y2
      unfold driftnetlaw09_RunesKnown.l1
      repeat' first
      | (with_reducible exact ih0 _ _)
      | (with_reducible exact ih1 _ _ _)
      | (with_reducible exact driftnetlaw09_RunesCount.mono _ _ _)
      | (with_reducible exact driftnetlaw09_RunesHas.mono _ _ _ _)
      | (with_reducible exact driftnetlaw09_RunesOnce.mono _ _ _)
      | (with_reducible exact driftnetlaw09_RunesSets.mono _ _ _)
      | (with_reducible exact driftnetlaw09_RunesTwo.mono _ _ _)
      | (with_reducible exact driftnetlaw09_awake.mono _)
      | (with_reducible exact LeO.refl _)
      | (with_reducible exact LeO.none _)
      | (with_reducible refine LeO.ite ?_ ?_)
      | (with_reducible refine LeO.bind ?_ (fun _ => ?_))
      | exact ih0 _ _
      | exact ih1 _ _ _
      | exact driftnetlaw09_RunesCount.mono _ _ _
      | exact driftnetlaw09_RunesHas.mono _ _ _ _
      | exact driftnetlaw09_RunesOnce.mono _ _ _
      | exact driftnetlaw09_RunesSets.mono _ _ _
      | exact driftnetlaw09_RunesTwo.mono _ _ _
      | exact driftnetlaw09_awake.mono _
      | exact LeO.none _
      | refine LeO.ite ?_ ?_
      | refine LeO.bind ?_ (fun _ => ?_)
theorem driftnetlaw09_RunesKnown.mono : ∀ k, LeO (driftnetlaw09_RunesKnown.f k ) (driftnetlaw09_RunesKnown.f (k + 1) ) := by
  intro  k
  obtain ⟨ih0, ih1⟩ := driftnetlaw09_RunesKnown.mono_l k
  unfold driftnetlaw09_RunesKnown.f
  repeat' first
      | (with_reducible exact ih0 _ _)
      | (with_reducible exact ih1 _ _ _)
      | (with_reducible exact driftnetlaw09_RunesCount.mono _ _ _)
      | (with_reducible exact driftnetlaw09_RunesHas.mono _ _ _ _)
      | (with_reducible exact driftnetlaw09_RunesOnce.mono _ _ _)
      | (with_reducible exact driftnetlaw09_RunesSets.mono _ _ _)
      | (with_reducible exact driftnetlaw09_RunesTwo.mono _ _ _)
      | (with_reducible exact driftnetlaw09_awake.mono _)
      | (with_reducible exact LeO.refl _)
      | (with_reducible exact LeO.none _)
      | (with_reducible refine LeO.ite ?_ ?_)
      | (with_reducible refine LeO.bind ?_ (fun _ => ?_))
      | exact ih0 _ _
      | exact ih1 _ _ _
      | exact driftnetlaw09_RunesCount.mono _ _ _
      | exact driftnetlaw09_RunesHas.mono _ _ _ _
      | exact driftnetlaw09_RunesOnce.mono _ _ _
      | exact driftnetlaw09_RunesSets.mono _ _ _
      | exact driftnetlaw09_RunesTwo.mono _ _ _
      | exact driftnetlaw09_awake.mono _
      | exact LeO.none _
      | refine LeO.ite ?_ ?_
      | refine LeO.bind ?_ (fun _ => ?_)
def driftnetlaw09_RunesKnown.T8 : Bool × List (List Nat × List Nat) := (true, [([], []), ([], []), ([0, 1], [0, 1]), ([2], [2]), ([], []), ([], []), ([4, 5], [4, 5]), ([6], [6]), ([3, 7], [3, 7]), ([], []), ([8, 9], [8, 9]), ([10, 0, 1, 2, 3, 4, 5, 6, 7, 8, 9, 10], [10])])
def driftnetlaw09_RunesKnown.B8 : List Nat := [0, 0, 3, 7, 0, 0, 48, 112, 255, 0, 1023, 2047]
theorem driftnetlaw09_RunesKnown.tab8 : rtab .any (opsOf Try.f8 8) = driftnetlaw09_RunesKnown.T8 := by kernel_rfl
theorem driftnetlaw09_RunesKnown.bits8 : waitsOk driftnetlaw09_RunesKnown.T8.2 driftnetlaw09_RunesKnown.B8 = true := by kernel_rfl
def driftnetlaw09_RunesKnown.T9 : Bool × List (List Nat × List Nat) := (true, [([], []), ([], []), ([0, 1], [0, 1]), ([2], [2]), ([], []), ([], []), ([4, 5], [4, 5]), ([6], [6]), ([3, 7], [3, 7]), ([], []), ([], []), ([8, 9, 10], [8, 9, 10]), ([11, 0, 1, 2, 3, 4, 5, 6, 7, 8, 9, 10, 11], [11])])
def driftnetlaw09_RunesKnown.B9 : List Nat := [0, 0, 3, 7, 0, 0, 48, 112, 255, 0, 0, 2047, 4095]
theorem driftnetlaw09_RunesKnown.tab9 : rtab .any (opsOf Try.f8 9) = driftnetlaw09_RunesKnown.T9 := by kernel_rfl
theorem driftnetlaw09_RunesKnown.bits9 : waitsOk driftnetlaw09_RunesKnown.T9.2 driftnetlaw09_RunesKnown.B9 = true := by kernel_rfl
set_option maxHeartbeats 8000000 in
set_option maxRecDepth 100000 in
theorem driftnetlaw09_RunesKnown.calls (k : Nat)  (r : Bool) (w : World) (h : driftnetlaw09_RunesKnown.f k  = some r) :
    Calls Try.prog 8 #[] w fun e w' => e = .returned (.bool r) ∧ Below w.heap.size w w' := by
  have hu41 := Try.underlying41
  have HB := Aside0.mk (Below.refl w.heap.size w)
  have H : (driftnetlaw09_RunesKnown.l0 k (([(-9223372036854775808), (-1), 0, 1, 2, 55296, 1114110, 1114111, 1114112, 9223372036854775807] : List Int)) 0) = some r := h
  clear h
  obtain ⟨y227, hy227⟩ : ∃ y_ : List Int, y_ = (([(-9223372036854775808), (-1), 0, 1, 2, 55296, 1114110, 1114111, 1114112, 9223372036854775807] : List Int)) := ⟨_, rfl⟩
  replace H : (driftnetlaw09_RunesKnown.l0 k y227 0) = some r := by first | (rw [hy227]; with_reducible exact H) | (have H2_ := (Option.bind_some _ _).symm.trans H; rw [hy227]; with_reducible exact H2_) | (have H2_ := (Option.bind_some _ _).symm.trans H; with_reducible exact H2_) | with_reducible exact H | (rw [hy227]; exact H) | exact H
  have Ny227 := Aside0.mk hy227
  clear hy227
  have H' := Aside0.mk H
  clear H
  go_enter Try.func8, Try.ntmps8
  go_wp2_with (first | ((with_reducible refine gate_dst (N := 6) rfl ?_); refine Kd.R_lit (Kd.int .i64) _ 3 ?hg (N := 6) ?hd (xs := ([(-9223372036854775808), (-1), 0, 1, 2, 55296, 1114110, 1114111, 1114112, 9223372036854775807] : List Int)) (inner := [.int .i64 (-9223372036854775808), .int .i64 (-1), .int .i64 0, .int .i64 1, .int .i64 2, .int .i64 55296, .int .i64 1114110, .int .i64 1114111, .int .i64 1114112, .int .i64 9223372036854775807]) (ok := fun _ => True) (okp := fun _ => True) ?hr ?hp (fun _ hk => hk) trivial (Below.refl _ _) (Nat.le_refl _) (by simp) ?_; (case hd => rfl); (case hg => rfl); (case hr => first | (go_simp; done) | (go_simp; rfl)); (case hp => exact (Reps.one (show Kd.M (Kd.int .i64) _ _ _ (-9223372036854775808) [.int .i64 (-9223372036854775808)] from rfl) (Reps.one (show Kd.M (Kd.int .i64) _ _ _ (-1) [.int .i64 (-1)] from rfl) (Reps.one (show Kd.M (Kd.int .i64) _ _ _ 0 [.int .i64 0] from rfl) (Reps.one (show Kd.M (Kd.int .i64) _ _ _ 1 [.int .i64 1] from rfl) (Reps.one (show Kd.M (Kd.int .i64) _ _ _ 2 [.int .i64 2] from rfl) (Reps.one (show Kd.M (Kd.int .i64) _ _ _ 55296 [.int .i64 55296] from rfl) (Reps.one (show Kd.M (Kd.int .i64) _ _ _ 1114110 [.int .i64 1114110] from rfl) (Reps.one (show Kd.M (Kd.int .i64) _ _ _ 1114111 [.int .i64 1114111] from rfl) (Reps.one (show Kd.M (Kd.int .i64) _ _ _ 1114112 [.int .i64 1114112] from rfl) (Reps.one (show Kd.M (Kd.int .i64) _ _ _ 9223372036854775807 [.int .i64 9223372036854775807] from rfl) (Reps.none _ _)))))))))))); intro v228 w1 ho2 hb hg_ hnew_; clear hg_ hnew_; (first | rw [← Ny227.out] at ho2 | (simp only [Int.reduceToNat] at ho2; rw [← Ny227.out] at ho2)); have n0_ := Aside0.mk (Kd.R_lower ho2 (below_size (by repeat (first | (with_reducible first | exact HB.out | apply below_alloc | apply pw_below_drewN | apply below_drew1) | exact HB.out)))); have n1_ := Aside0.mk (below_step (by repeat (first | (with_reducible first | exact HB.out | apply below_alloc | apply pw_below_drewN | apply below_drew1) | exact HB.out)) hb); clear HB; have HO229 := n0_; have HB := n1_; clear n0_ n1_; clear hb ho2))
  go_loopg [2] k (fun kq v2 w' => ∃ (x2_1 : Int), v2 = .int .i64 x2_1 ∧ Aside0 (driftnetlaw09_RunesKnown.l0 kq y227 x2_1 = some r) ∧ Aside0 (kq ≤ k) ∧ Aside0 (Kd.R (Kd.int .i64) 3 w' w.heap.size (fun _ => True) v228 y227) ∧ Aside0 (Below w.heap.size w w'))
  case atStart => exact ⟨(0), (by first | rfl | (simp; done) | (simp [*]; done)), H', ⟨Nat.le_refl _⟩, ⟨by (with_reducible repeat (first | apply Kd.R_alloc | apply Kd.R_drewN | apply Kd.R_drew)); exact HO229.out⟩, ⟨by repeat (first | (with_reducible first | exact HB.out | apply below_alloc | apply pw_below_drewN | apply below_drew1) | exact HB.out)⟩⟩
  case round =>
    clear H'
    try clear p2
    obtain ⟨x2_1, rfl, HA, HK1, HO_1, HB⟩ := hrel
    cases gk with
    | zero => exact absurd HA.out (by simp [driftnetlaw09_RunesKnown.l0])
    | succ k1 =>
      have H := HA.out
      clear HA
      simp only [driftnetlaw09_RunesKnown.l0] at H
      by_cases c3 : x2_1 < (y227.length : Int)
      · rw [if_pos c3] at H
        have c3b0 : decide (x2_1 < (y227.length : Int)) = true := decide_eq_true c3
        clear c3
        have H' := Aside0.mk H
        clear H
        obtain ⟨Ao4, co4, eo4⟩ := Kd.R_slice HO_1.out
        subst eo4
        go_wp2
        go_loopg [3] k1 (fun kq v3 w' => ∃ (x3_2 : Int), v3 = .int .i64 x3_2 ∧ Aside0 (driftnetlaw09_RunesKnown.l1 kq y227 x2_1 x3_2 = some r) ∧ Aside0 (kq ≤ k1) ∧ Aside0 (Kd.R (Kd.int .i64) 3 w' w.heap.size (fun _ => True) (.slice Ao4 y227.length co4) y227) ∧ Aside0 (Below w.heap.size w w'))
        case atStart => exact ⟨(0), (by first | rfl | (simp; done) | (simp [*]; done)), H', ⟨Nat.le_refl _⟩, ⟨by (with_reducible repeat (first | apply Kd.R_alloc | apply Kd.R_drewN | apply Kd.R_drew)); exact HO_1.out⟩, ⟨by repeat (first | (with_reducible first | exact HB.out | apply below_alloc | apply pw_below_drewN | apply below_drew1) | exact HB.out)⟩⟩
        case round =>
          clear H'
          try clear p2
          try clear c3
          try clear c3b0
          try clear p2
          obtain ⟨x3_2, rfl, HA, HK2, HO_1, HB⟩ := hrel
          cases gk with
          | zero => exact absurd HA.out (by simp [driftnetlaw09_RunesKnown.l1])
          | succ k2 =>
            have H := HA.out
            clear HA
            simp only [driftnetlaw09_RunesKnown.l1] at H
            by_cases c5 : x3_2 < (y227.length : Int)
            · rw [if_pos c5] at H
              have c5b0 : decide (x3_2 < (y227.length : Int)) = true := decide_eq_true c5
              clear c5
              by_cases c6 : 0 ≤ x2_1
              · rw [if_pos c6] at H
                have c6b0 : decide (0 ≤ x2_1) = true := decide_eq_true c6
                clear c6
                by_cases c7 : x2_1 < (y227.length : Int)
                · rw [if_pos c7] at H
                  have c7b0 : decide (x2_1 < (y227.length : Int)) = true := decide_eq_true c7
                  clear c7
                  by_cases c8 : 0 ≤ x3_2
                  · rw [if_pos c8] at H
                    have c8b0 : decide (0 ≤ x3_2) = true := decide_eq_true c8
                    clear c8
                    obtain ⟨y235, hy235⟩ : ∃ y_ : List (S41), y_ = (([(⟨rd y227 x2_1, rd y227 x3_2⟩ : S41), (⟨5, 9⟩ : S41)] : List (S41))) := ⟨_, rfl⟩
                    replace H : ((some (([(⟨rd y227 x3_2, rd y227 x2_1⟩ : S41), (⟨10, 10⟩ : S41), (⟨3, 3⟩ : S41)] : List (S41)) : List (S41))).bind fun y240 => ((driftnetlaw09_RunesSets.f k2 y235 (rd y227 x2_1)).bind fun t244 => (if t244 = true then ((driftnetlaw09_RunesSets.f k2 y240 (rd y227 x3_2)).bind fun t246 => (if t246 = true then ((driftnetlaw09_RunesTwo.f k2 y235 y240).bind fun t247 => (if t247 = true then ((driftnetlaw09_RunesHas.f k2 y235 y240 (rd y227 x3_2)).bind fun t249 => (if t249 = true then ((driftnetlaw09_RunesOnce.f k2 y235 y240).bind fun t250 => (if t250 = true then ((driftnetlaw09_RunesCount.f k2 y235 y240).bind fun t251 => (if t251 = true then (driftnetlaw09_RunesKnown.l1 k2 y227 x2_1 (wrap64 (x3_2 + 1))) else (none))) else (none))) else (none))) else (none))) else (none))) else (none)))) = some r := by first | (rw [hy235]; with_reducible exact H) | (have H2_ := (Option.bind_some _ _).symm.trans H; rw [hy235]; with_reducible exact H2_) | (have H2_ := (Option.bind_some _ _).symm.trans H; with_reducible exact H2_) | with_reducible exact H | (rw [hy235]; exact H) | exact H
                    have Ny235 := Aside0.mk hy235
                    clear hy235
                    obtain ⟨y240, hy240⟩ : ∃ y_ : List (S41), y_ = (([(⟨rd y227 x3_2, rd y227 x2_1⟩ : S41), (⟨10, 10⟩ : S41), (⟨3, 3⟩ : S41)] : List (S41))) := ⟨_, rfl⟩
                    replace H : ((driftnetlaw09_RunesSets.f k2 y235 (rd y227 x2_1)).bind fun t244 => (if t244 = true then ((driftnetlaw09_RunesSets.f k2 y240 (rd y227 x3_2)).bind fun t246 => (if t246 = true then ((driftnetlaw09_RunesTwo.f k2 y235 y240).bind fun t247 => (if t247 = true then ((driftnetlaw09_RunesHas.f k2 y235 y240 (rd y227 x3_2)).bind fun t249 => (if t249 = true then ((driftnetlaw09_RunesOnce.f k2 y235 y240).bind fun t250 => (if t250 = true then ((driftnetlaw09_RunesCount.f k2 y235 y240).bind fun t251 => (if t251 = true then (driftnetlaw09_RunesKnown.l1 k2 y227 x2_1 (wrap64 (x3_2 + 1))) else (none))) else (none))) else (none))) else (none))) else (none))) else (none))) = some r := by first | (rw [hy240]; with_reducible exact H) | (have H2_ := (Option.bind_some _ _).symm.trans H; rw [hy240]; with_reducible exact H2_) | (have H2_ := (Option.bind_some _ _).symm.trans H; with_reducible exact H2_) | with_reducible exact H | (rw [hy240]; exact H) | exact H
                    have Ny240 := Aside0.mk hy240
                    clear hy240
                    replace H := Option.bind_eq_some_iff.mp H
                    obtain ⟨t244, A90, H⟩ := H
                    replace H : (if t244 = true then ((driftnetlaw09_RunesSets.f k2 y240 (rd y227 x3_2)).bind fun t246 => (if t246 = true then ((driftnetlaw09_RunesTwo.f k2 y235 y240).bind fun t247 => (if t247 = true then ((driftnetlaw09_RunesHas.f k2 y235 y240 (rd y227 x3_2)).bind fun t249 => (if t249 = true then ((driftnetlaw09_RunesOnce.f k2 y235 y240).bind fun t250 => (if t250 = true then ((driftnetlaw09_RunesCount.f k2 y235 y240).bind fun t251 => (if t251 = true then (driftnetlaw09_RunesKnown.l1 k2 y227 x2_1 (wrap64 (x3_2 + 1))) else (none))) else (none))) else (none))) else (none))) else (none))) else (none)) = some r := H
                    have A9 := Aside0.mk A90
                    clear A90
                    by_cases c10 : t244 = true
                    · subst c10
                      have H1 : ((driftnetlaw09_RunesSets.f k2 y240 (rd y227 x3_2)).bind fun t246 => (if t246 = true then ((driftnetlaw09_RunesTwo.f k2 y235 y240).bind fun t247 => (if t247 = true then ((driftnetlaw09_RunesHas.f k2 y235 y240 (rd y227 x3_2)).bind fun t249 => (if t249 = true then ((driftnetlaw09_RunesOnce.f k2 y235 y240).bind fun t250 => (if t250 = true then ((driftnetlaw09_RunesCount.f k2 y235 y240).bind fun t251 => (if t251 = true then (driftnetlaw09_RunesKnown.l1 k2 y227 x2_1 (wrap64 (x3_2 + 1))) else (none))) else (none))) else (none))) else (none))) else (none))) = some r := by rw [if_pos rfl] at H; exact H
                      clear H
                      have H := H1
                      clear H1
                      replace H := Option.bind_eq_some_iff.mp H
                      obtain ⟨t246, A110, H⟩ := H
                      replace H : (if t246 = true then ((driftnetlaw09_RunesTwo.f k2 y235 y240).bind fun t247 => (if t247 = true then ((driftnetlaw09_RunesHas.f k2 y235 y240 (rd y227 x3_2)).bind fun t249 => (if t249 = true then ((driftnetlaw09_RunesOnce.f k2 y235 y240).bind fun t250 => (if t250 = true then ((driftnetlaw09_RunesCount.f k2 y235 y240).bind fun t251 => (if t251 = true then (driftnetlaw09_RunesKnown.l1 k2 y227 x2_1 (wrap64 (x3_2 + 1))) else (none))) else (none))) else (none))) else (none))) else (none)) = some r := H
                      have A11 := Aside0.mk A110
                      clear A110
                      by_cases c12 : t246 = true
                      · subst c12
                        have H1 : ((driftnetlaw09_RunesTwo.f k2 y235 y240).bind fun t247 => (if t247 = true then ((driftnetlaw09_RunesHas.f k2 y235 y240 (rd y227 x3_2)).bind fun t249 => (if t249 = true then ((driftnetlaw09_RunesOnce.f k2 y235 y240).bind fun t250 => (if t250 = true then ((driftnetlaw09_RunesCount.f k2 y235 y240).bind fun t251 => (if t251 = true then (driftnetlaw09_RunesKnown.l1 k2 y227 x2_1 (wrap64 (x3_2 + 1))) else (none))) else (none))) else (none))) else (none))) = some r := by rw [if_pos rfl] at H; exact H
                        clear H
                        have H := H1
                        clear H1
                        replace H := Option.bind_eq_some_iff.mp H
                        obtain ⟨t247, A130, H⟩ := H
                        replace H : (if t247 = true then ((driftnetlaw09_RunesHas.f k2 y235 y240 (rd y227 x3_2)).bind fun t249 => (if t249 = true then ((driftnetlaw09_RunesOnce.f k2 y235 y240).bind fun t250 => (if t250 = true then ((driftnetlaw09_RunesCount.f k2 y235 y240).bind fun t251 => (if t251 = true then (driftnetlaw09_RunesKnown.l1 k2 y227 x2_1 (wrap64 (x3_2 + 1))) else (none))) else (none))) else (none))) else (none)) = some r := H
                        have A13 := Aside0.mk A130
                        clear A130
                        by_cases c14 : t247 = true
                        · subst c14
                          have H1 : ((driftnetlaw09_RunesHas.f k2 y235 y240 (rd y227 x3_2)).bind fun t249 => (if t249 = true then ((driftnetlaw09_RunesOnce.f k2 y235 y240).bind fun t250 => (if t250 = true then ((driftnetlaw09_RunesCount.f k2 y235 y240).bind fun t251 => (if t251 = true then (driftnetlaw09_RunesKnown.l1 k2 y227 x2_1 (wrap64 (x3_2 + 1))) else (none))) else (none))) else (none))) = some r := by rw [if_pos rfl] at H; exact H
                          clear H
                          have H := H1
                          clear H1
                          replace H := Option.bind_eq_some_iff.mp H
                          obtain ⟨t249, A150, H⟩ := H
                          replace H : (if t249 = true then ((driftnetlaw09_RunesOnce.f k2 y235 y240).bind fun t250 => (if t250 = true then ((driftnetlaw09_RunesCount.f k2 y235 y240).bind fun t251 => (if t251 = true then (driftnetlaw09_RunesKnown.l1 k2 y227 x2_1 (wrap64 (x3_2 + 1))) else (none))) else (none))) else (none)) = some r := H
                          have A15 := Aside0.mk A150
                          clear A150
                          by_cases c16 : t249 = true
                          · subst c16
                            have H1 : ((driftnetlaw09_RunesOnce.f k2 y235 y240).bind fun t250 => (if t250 = true then ((driftnetlaw09_RunesCount.f k2 y235 y240).bind fun t251 => (if t251 = true then (driftnetlaw09_RunesKnown.l1 k2 y227 x2_1 (wrap64 (x3_2 + 1))) else (none))) else (none))) = some r := by rw [if_pos rfl] at H; exact H
                            clear H
                            have H := H1
                            clear H1
                            replace H := Option.bind_eq_some_iff.mp H
                            obtain ⟨t250, A170, H⟩ := H
                            replace H : (if t250 = true then ((driftnetlaw09_RunesCount.f k2 y235 y240).bind fun t251 => (if t251 = true then (driftnetlaw09_RunesKnown.l1 k2 y227 x2_1 (wrap64 (x3_2 + 1))) else (none))) else (none)) = some r := H
                            have A17 := Aside0.mk A170
                            clear A170
                            by_cases c18 : t250 = true
                            · subst c18
                              have H1 : ((driftnetlaw09_RunesCount.f k2 y235 y240).bind fun t251 => (if t251 = true then (driftnetlaw09_RunesKnown.l1 k2 y227 x2_1 (wrap64 (x3_2 + 1))) else (none))) = some r := by rw [if_pos rfl] at H; exact H
                              clear H
                              have H := H1
                              clear H1
                              replace H := Option.bind_eq_some_iff.mp H
                              obtain ⟨t251, A190, H⟩ := H
                              replace H : (if t251 = true then (driftnetlaw09_RunesKnown.l1 k2 y227 x2_1 (wrap64 (x3_2 + 1))) else (none)) = some r := H
                              have A19 := Aside0.mk A190
                              clear A190
                              by_cases c20 : t251 = true
                              · subst c20
                                have H1 : (driftnetlaw09_RunesKnown.l1 k2 y227 x2_1 (wrap64 (x3_2 + 1))) = some r := by rw [if_pos rfl] at H; exact H
                                clear H
                                have H := H1
                                clear H1
                                have H' := Aside0.mk H
                                clear H
                                try go_wp2
                                have n0_ := Aside0.mk (Kd.R_drew HO_1.out)
                                have n1_ := Aside0.mk (below_drew1 HB.out)
                                clear HO_1
                                clear HB
                                have HO_1 := n0_
                                have HB := n1_
                                clear n0_ n1_
                                have p233 : 0 ≤ (x2_1 : Int) := of_decide_eq_true (by first | (with_reducible assumption) | assumption)
                                have q233 : x2_1 < (y227.length : Int) := of_decide_eq_true (by first | (with_reducible assumption) | assumption)
                                obtain ⟨ad233, e233, hx233_0⟩ := Kd.at_int (Kd.R_reads' HO_1.out).2.2 x2_1 p233 q233
                                cases e233
                                replace p233 := eq_true p233
                                replace q233 := eq_true q233
                                have p234 : 0 ≤ (x3_2 : Int) := of_decide_eq_true (by first | (with_reducible assumption) | assumption)
                                have q234 : x3_2 < (y227.length : Int) := of_decide_eq_true (by first | (with_reducible assumption) | assumption)
                                obtain ⟨ad234, e234, hx234_0⟩ := Kd.at_int (Kd.R_reads' HO_1.out).2.2 x3_2 p234 q234
                                obtain rfl : ad233 = ad234 := (by injection e234)
                                replace p234 := eq_true p234
                                replace q234 := eq_true q234
                                refine start_ (n := 12) (S := fun w' => w'.cell? (ad233.add (x2_1).toNat) = some (.int .i64 (rd y227 x2_1)) ∧ w'.cell? (ad233.add (x3_2).toNat) = some (.int .i64 (rd y227 x3_2))) (ds := []) #[false, false, false, false, false, false, false, false, false, false, false, false] (by kernel_rfl) rfl rfl ⟨hx233_0, hx234_0⟩ (fun hHeld => ?_); refine with_tabW driftnetlaw09_RunesKnown.tab8 driftnetlaw09_RunesKnown.bits8 (fun HT_ HW_ => ?_)
                                generalize wr.drew = w21 at HO_1 HB hx233_0 hx234_0 hHeld ⊢
                                refine pure_ (i := 0) (N := some 19) (v := ?_) (a' := ?_) #[true, false, false, false, false, false, false, false, false, false, false, false] rfl rfl (any_of HT_.out (by kernel_rfl)) (fun _ _ _ h => h) (Or.inl ⟨by rfl, ?_⟩) ?_ ?_
                                rotate_left
                                · intro w'
                                  go_simp
                                  with_reducible rfl
                                rotate_left
                                · simp only [Act.put, List.setIfInBounds_toArray, List.set_cons_zero, List.set_cons_succ, i64_w, i32_w]
                                  rfl
                                refine pure_ (i := 1) (N := some 20) (v := ?_) (a' := ?_) #[true, true, false, false, false, false, false, false, false, false, false, false] rfl rfl (any_of HT_.out (by kernel_rfl)) (fun _ _ _ h => h) (Or.inl ⟨by rfl, ?_⟩) ?_ ?_
                                rotate_left
                                · intro w'
                                  go_simp
                                  with_reducible rfl
                                rotate_left
                                · simp only [Act.put, List.setIfInBounds_toArray, List.set_cons_zero, List.set_cons_succ, i64_w, i32_w]
                                  rfl
                                refine pure_ (i := 2) (N := some 21) (v := ?_) (a' := ?_) #[true, true, true, false, false, false, false, false, false, false, false, false] rfl rfl (any_of HT_.out (by kernel_rfl)) (fun _ _ _ h => h) (Or.inl ⟨by rfl, ?_⟩) ?_ ?_
                                rotate_left
                                · intro w'
                                  go_simp
                                  with_reducible rfl
                                rotate_left
                                · simp only [Act.put, List.setIfInBounds_toArray, List.set_cons_zero, List.set_cons_succ, i64_w, i32_w]
                                  rfl
                                refine pure_ (i := 4) (N := some 23) (v := ?_) (a' := ?_) #[true, true, true, false, true, false, false, false, false, false, false, false] rfl rfl (any_of HT_.out (by kernel_rfl)) (fun _ _ _ h => h) (Or.inl ⟨by rfl, ?_⟩) ?_ ?_
                                rotate_left
                                · intro w'
                                  go_simp
                                  with_reducible rfl
                                rotate_left
                                · simp only [Act.put, List.setIfInBounds_toArray, List.set_cons_zero, List.set_cons_succ, i64_w, i32_w]
                                  rfl
                                refine pure_ (i := 5) (N := some 24) (v := ?_) (a' := ?_) #[true, true, true, false, true, true, false, false, false, false, false, false] rfl rfl (any_of HT_.out (by kernel_rfl)) (fun _ _ _ h => h) (Or.inl ⟨by rfl, ?_⟩) ?_ ?_
                                rotate_left
                                · intro w'
                                  go_simp
                                  with_reducible rfl
                                rotate_left
                                · simp only [Act.put, List.setIfInBounds_toArray, List.set_cons_zero, List.set_cons_succ, i64_w, i32_w]
                                  rfl
                                refine pure_ (i := 6) (N := some 25) (v := ?_) (a' := ?_) #[true, true, true, false, true, true, true, false, false, false, false, false] rfl rfl (any_of HT_.out (by kernel_rfl)) (fun _ _ _ h => h) (Or.inl ⟨by rfl, ?_⟩) ?_ ?_
                                rotate_left
                                · intro w'
                                  go_simp
                                  with_reducible rfl
                                rotate_left
                                · simp only [Act.put, List.setIfInBounds_toArray, List.set_cons_zero, List.set_cons_succ, i64_w, i32_w]
                                  rfl
                                refine pure_ (i := 9) (N := some 28) (v := ?_) (a' := ?_) #[true, true, true, false, true, true, true, false, false, true, false, false] rfl rfl (any_of HT_.out (by kernel_rfl)) (fun _ _ _ h => h) (Or.inl ⟨by rfl, ?_⟩) ?_ ?_
                                rotate_left
                                · intro w'
                                  go_simp
                                  with_reducible rfl
                                rotate_left
                                · simp only [Act.put, List.setIfInBounds_toArray, List.set_cons_zero, List.set_cons_succ, i64_w, i32_w]
                                  rfl
                                refine take_ (i := 3) (N := some 22) (v := ?_) (a' := ?_) #[true, true, true, true, true, true, true, false, false, true, false, false] rfl rfl (take_ofW HT_.out HW_.out (by kernel_rfl)) (fun _ _ _ h => h) (Or.inl ⟨by rfl, ?_⟩) hHeld ?_ ?_
                                rotate_left
                                · rintro w' ⟨s0, s1⟩
                                  go_simp
                                  with_reducible rfl
                                rotate_left
                                · simp only [Act.put, List.setIfInBounds_toArray, List.set_cons_zero, List.set_cons_succ, i64_w, i32_w]
                                  rfl
                                refine take_ (i := 7) (N := some 26) (v := ?_) (a' := ?_) #[true, true, true, true, true, true, true, true, false, true, false, false] rfl rfl (take_ofW HT_.out HW_.out (by kernel_rfl)) (fun _ _ _ h => h) (Or.inl ⟨by rfl, ?_⟩) hHeld ?_ ?_
                                rotate_left
                                · rintro w' ⟨s0, s1⟩
                                  go_simp
                                  with_reducible rfl
                                rotate_left
                                · simp only [Act.put, List.setIfInBounds_toArray, List.set_cons_zero, List.set_cons_succ, i64_w, i32_w]
                                  rfl
                                refine pure_ (i := 8) (N := some 27) (v := ?_) (a' := ?_) #[true, true, true, true, true, true, true, true, true, true, false, false] rfl rfl (any_of HT_.out (by kernel_rfl)) (fun _ _ _ h => h) (Or.inl ⟨by rfl, ?_⟩) ?_ ?_
                                rotate_left
                                · intro w'
                                  go_simp
                                  with_reducible rfl
                                rotate_left
                                · simp only [Act.put, List.setIfInBounds_toArray, List.set_cons_zero, List.set_cons_succ, i64_w, i32_w]
                                  rfl
                                refine one_ (i := 10) (N := some 29) #[true, true, true, true, true, true, true, true, true, true, true, false] rfl rfl (one_of HT_.out (by kernel_rfl)) (by decide) (fun K hK => ?_)
                                refine Kd.R_lit_step k41 _ 41 ?hg (N := 29) ?hd (xs := ([(⟨rd y227 x2_1, rd y227 x3_2⟩ : S41), (⟨5, 9⟩ : S41)] : List (S41))) (inner := [.int .i64 (rd y227 x2_1), .int .i64 (rd y227 x3_2), .int .i64 5, .int .i64 9]) (ok := fun _ => True) (okp := fun _ => True) ?hr ?hp (fun _ hk => hk) trivial (Below.refl _ _) (Nat.le_refl _) (by simp) ?_; (case hd => rfl); (case hg => rfl); (case hr => first | (go_simp; done) | (go_simp; rfl)); (case hp => exact (Reps.c2 (show Kd.M k41 _ _ _ (⟨rd y227 x2_1, rd y227 x3_2⟩ : S41) [.int .i64 (rd y227 x2_1), .int .i64 (rd y227 x3_2)] from (k41_mkM _ _ _ (⟨rd y227 x2_1, rd y227 x3_2⟩ : S41) )) (Reps.c2 (show Kd.M k41 _ _ _ (⟨5, 9⟩ : S41) [.int .i64 5, .int .i64 9] from (k41_mkM _ _ _ (⟨5, 9⟩ : S41) )) (Reps.none _ _))))
                                intro v236 w22 ho23 hb hg_ hnew_
                                have HS0_ := (hb.cell (World.block_lt_of_cell? _ _ (hHeld.1))).trans (hHeld.1)
                                have HS1_ := (hb.cell (World.block_lt_of_cell? _ _ (hHeld.2))).trans (hHeld.2)
                                clear hg_ hnew_
                                (first | rw [← Ny235.out] at ho23 | (simp only [Int.reduceToNat] at ho23; rw [← Ny235.out] at ho23))
                                have n0_ := Aside0.mk (Kd.R_below (by (with_reducible repeat (first | apply Kd.R_alloc | apply Kd.R_drewN | apply Kd.R_drew)); exact HO_1.out) hb)
                                have n1_ := Aside0.mk (Kd.R_lower ho23 (below_size (by repeat (first | (with_reducible first | exact HB.out | apply below_alloc | apply pw_below_drewN | apply below_drew1) | exact HB.out))))
                                have n2_ := Aside0.mk (below_step (by repeat (first | (with_reducible first | exact HB.out | apply below_alloc | apply pw_below_drewN | apply below_drew1) | exact HB.out)) hb)
                                clear HO_1
                                clear HB
                                have HO_1 := n0_
                                have HO237 := n1_
                                have HB := n2_
                                clear n0_ n1_ n2_
                                clear hb ho23
                                refine hK.out _ _ ⟨HS0_, HS1_⟩ (fun hHeld => ?_)
                                clear hK K
                                refine norm_ (a' := ?_) ?_ ?_
                                rotate_left
                                · show Act.put _ (some 29) _ = _
                                  simp only [Act.put, List.setIfInBounds_toArray, List.set_cons_zero, List.set_cons_succ, i64_w, i32_w]
                                  rfl
                                refine pure_ (i := 11) (N := some 4) (v := ?_) (a' := ?_) #[true, true, true, true, true, true, true, true, true, true, true, true] rfl rfl (any_of HT_.out (by kernel_rfl)) (fun _ _ _ h => h) (Or.inl ⟨by rfl, ?_⟩) ?_ ?_
                                rotate_left
                                · intro w'
                                  go_simp
                                  with_reducible rfl
                                rotate_left
                                · simp only [Act.put, List.setIfInBounds_toArray, List.set_cons_zero, List.set_cons_succ, i64_w, i32_w]
                                  rfl
                                refine done_ (done_of HT_.out (by kernel_rfl)) ?_
                                try go_wp2
                                have n0_ := Aside0.mk (Kd.R_drew HO_1.out)
                                have n1_ := Aside0.mk (Kd.R_drew HO237.out)
                                have n2_ := Aside0.mk (below_drew1 HB.out)
                                clear HO_1
                                clear HO237
                                clear HB
                                have HO_1 := n0_
                                have HO237 := n1_
                                have HB := n2_
                                clear n0_ n1_ n2_
                                have p238 : 0 ≤ (x3_2 : Int) := of_decide_eq_true (by first | (with_reducible assumption) | assumption)
                                have q238 : x3_2 < (y227.length : Int) := of_decide_eq_true (by first | (with_reducible assumption) | assumption)
                                obtain ⟨ad238, e238, hx238_0⟩ := Kd.at_int (Kd.R_reads' HO_1.out).2.2 x3_2 p238 q238
                                obtain rfl : ad233 = ad238 := (by injection e238)
                                replace p238 := eq_true p238
                                replace q238 := eq_true q238
                                have p239 : 0 ≤ (x2_1 : Int) := of_decide_eq_true (by first | (with_reducible assumption) | assumption)
                                have q239 : x2_1 < (y227.length : Int) := of_decide_eq_true (by first | (with_reducible assumption) | assumption)
                                obtain ⟨ad239, e239, hx239_0⟩ := Kd.at_int (Kd.R_reads' HO_1.out).2.2 x2_1 p239 q239
                                obtain rfl : ad233 = ad239 := (by injection e239)
                                replace p239 := eq_true p239
                                replace q239 := eq_true q239
                                refine start_ (n := 13) (S := fun w' => w'.cell? (ad233.add (x3_2).toNat) = some (.int .i64 (rd y227 x3_2)) ∧ w'.cell? (ad233.add (x2_1).toNat) = some (.int .i64 (rd y227 x2_1))) (ds := []) #[false, false, false, false, false, false, false, false, false, false, false, false, false] (by kernel_rfl) rfl rfl ⟨hx238_0, hx239_0⟩ (fun hHeld => ?_); refine with_tabW driftnetlaw09_RunesKnown.tab9 driftnetlaw09_RunesKnown.bits9 (fun HT_ HW_ => ?_)
                                generalize w22.drew = w24 at HO_1 HO237 HB hx238_0 hx239_0 hHeld ⊢
                                refine pure_ (i := 0) (N := some 30) (v := ?_) (a' := ?_) #[true, false, false, false, false, false, false, false, false, false, false, false, false] rfl rfl (any_of HT_.out (by kernel_rfl)) (fun _ _ _ h => h) (Or.inl ⟨by rfl, ?_⟩) ?_ ?_
                                rotate_left
                                · intro w'
                                  go_simp
                                  with_reducible rfl
                                rotate_left
                                · simp only [Act.put, List.setIfInBounds_toArray, List.set_cons_zero, List.set_cons_succ, i64_w, i32_w]
                                  rfl
                                refine pure_ (i := 1) (N := some 31) (v := ?_) (a' := ?_) #[true, true, false, false, false, false, false, false, false, false, false, false, false] rfl rfl (any_of HT_.out (by kernel_rfl)) (fun _ _ _ h => h) (Or.inl ⟨by rfl, ?_⟩) ?_ ?_
                                rotate_left
                                · intro w'
                                  go_simp
                                  with_reducible rfl
                                rotate_left
                                · simp only [Act.put, List.setIfInBounds_toArray, List.set_cons_zero, List.set_cons_succ, i64_w, i32_w]
                                  rfl
                                refine pure_ (i := 2) (N := some 32) (v := ?_) (a' := ?_) #[true, true, true, false, false, false, false, false, false, false, false, false, false] rfl rfl (any_of HT_.out (by kernel_rfl)) (fun _ _ _ h => h) (Or.inl ⟨by rfl, ?_⟩) ?_ ?_
                                rotate_left
                                · intro w'
                                  go_simp
                                  with_reducible rfl
                                rotate_left
                                · simp only [Act.put, List.setIfInBounds_toArray, List.set_cons_zero, List.set_cons_succ, i64_w, i32_w]
                                  rfl
                                refine pure_ (i := 4) (N := some 34) (v := ?_) (a' := ?_) #[true, true, true, false, true, false, false, false, false, false, false, false, false] rfl rfl (any_of HT_.out (by kernel_rfl)) (fun _ _ _ h => h) (Or.inl ⟨by rfl, ?_⟩) ?_ ?_
                                rotate_left
                                · intro w'
                                  go_simp
                                  with_reducible rfl
                                rotate_left
                                · simp only [Act.put, List.setIfInBounds_toArray, List.set_cons_zero, List.set_cons_succ, i64_w, i32_w]
                                  rfl
                                refine pure_ (i := 5) (N := some 35) (v := ?_) (a' := ?_) #[true, true, true, false, true, true, false, false, false, false, false, false, false] rfl rfl (any_of HT_.out (by kernel_rfl)) (fun _ _ _ h => h) (Or.inl ⟨by rfl, ?_⟩) ?_ ?_
                                rotate_left
                                · intro w'
                                  go_simp
                                  with_reducible rfl
                                rotate_left
                                · simp only [Act.put, List.setIfInBounds_toArray, List.set_cons_zero, List.set_cons_succ, i64_w, i32_w]
                                  rfl
                                refine pure_ (i := 6) (N := some 36) (v := ?_) (a' := ?_) #[true, true, true, false, true, true, true, false, false, false, false, false, false] rfl rfl (any_of HT_.out (by kernel_rfl)) (fun _ _ _ h => h) (Or.inl ⟨by rfl, ?_⟩) ?_ ?_
                                rotate_left
                                · intro w'
                                  go_simp
                                  with_reducible rfl
                                rotate_left
                                · simp only [Act.put, List.setIfInBounds_toArray, List.set_cons_zero, List.set_cons_succ, i64_w, i32_w]
                                  rfl
                                refine pure_ (i := 9) (N := some 39) (v := ?_) (a' := ?_) #[true, true, true, false, true, true, true, false, false, true, false, false, false] rfl rfl (any_of HT_.out (by kernel_rfl)) (fun _ _ _ h => h) (Or.inl ⟨by rfl, ?_⟩) ?_ ?_
                                rotate_left
                                · intro w'
                                  go_simp
                                  with_reducible rfl
                                rotate_left
                                · simp only [Act.put, List.setIfInBounds_toArray, List.set_cons_zero, List.set_cons_succ, i64_w, i32_w]
                                  rfl
                                refine pure_ (i := 10) (N := some 40) (v := ?_) (a' := ?_) #[true, true, true, false, true, true, true, false, false, true, true, false, false] rfl rfl (any_of HT_.out (by kernel_rfl)) (fun _ _ _ h => h) (Or.inl ⟨by rfl, ?_⟩) ?_ ?_
                                rotate_left
                                · intro w'
                                  go_simp
                                  with_reducible rfl
                                rotate_left
                                · simp only [Act.put, List.setIfInBounds_toArray, List.set_cons_zero, List.set_cons_succ, i64_w, i32_w]
                                  rfl
                                refine take_ (i := 3) (N := some 33) (v := ?_) (a' := ?_) #[true, true, true, true, true, true, true, false, false, true, true, false, false] rfl rfl (take_ofW HT_.out HW_.out (by kernel_rfl)) (fun _ _ _ h => h) (Or.inl ⟨by rfl, ?_⟩) hHeld ?_ ?_
                                rotate_left
                                · rintro w' ⟨s0, s1⟩
                                  go_simp
                                  with_reducible rfl
                                rotate_left
                                · simp only [Act.put, List.setIfInBounds_toArray, List.set_cons_zero, List.set_cons_succ, i64_w, i32_w]
                                  rfl
                                refine take_ (i := 7) (N := some 37) (v := ?_) (a' := ?_) #[true, true, true, true, true, true, true, true, false, true, true, false, false] rfl rfl (take_ofW HT_.out HW_.out (by kernel_rfl)) (fun _ _ _ h => h) (Or.inl ⟨by rfl, ?_⟩) hHeld ?_ ?_
                                rotate_left
                                · rintro w' ⟨s0, s1⟩
                                  go_simp
                                  with_reducible rfl
                                rotate_left
                                · simp only [Act.put, List.setIfInBounds_toArray, List.set_cons_zero, List.set_cons_succ, i64_w, i32_w]
                                  rfl
                                refine pure_ (i := 8) (N := some 38) (v := ?_) (a' := ?_) #[true, true, true, true, true, true, true, true, true, true, true, false, false] rfl rfl (any_of HT_.out (by kernel_rfl)) (fun _ _ _ h => h) (Or.inl ⟨by rfl, ?_⟩) ?_ ?_
                                rotate_left
                                · intro w'
                                  go_simp
                                  with_reducible rfl
                                rotate_left
                                · simp only [Act.put, List.setIfInBounds_toArray, List.set_cons_zero, List.set_cons_succ, i64_w, i32_w]
                                  rfl
                                refine one_ (i := 11) (N := some 41) #[true, true, true, true, true, true, true, true, true, true, true, true, false] rfl rfl (one_of HT_.out (by kernel_rfl)) (by decide) (fun K hK => ?_)
                                refine Kd.R_lit_step k41 _ 41 ?hg (N := 41) ?hd (xs := ([(⟨rd y227 x3_2, rd y227 x2_1⟩ : S41), (⟨10, 10⟩ : S41), (⟨3, 3⟩ : S41)] : List (S41))) (inner := [.int .i64 (rd y227 x3_2), .int .i64 (rd y227 x2_1), .int .i64 10, .int .i64 10, .int .i64 3, .int .i64 3]) (ok := fun _ => True) (okp := fun _ => True) ?hr ?hp (fun _ hk => hk) trivial (Below.refl _ _) (Nat.le_refl _) (by simp) ?_; (case hd => rfl); (case hg => rfl); (case hr => first | (go_simp; done) | (go_simp; rfl)); (case hp => exact (Reps.c2 (show Kd.M k41 _ _ _ (⟨rd y227 x3_2, rd y227 x2_1⟩ : S41) [.int .i64 (rd y227 x3_2), .int .i64 (rd y227 x2_1)] from (k41_mkM _ _ _ (⟨rd y227 x3_2, rd y227 x2_1⟩ : S41) )) (Reps.c2 (show Kd.M k41 _ _ _ (⟨10, 10⟩ : S41) [.int .i64 10, .int .i64 10] from (k41_mkM _ _ _ (⟨10, 10⟩ : S41) )) (Reps.c2 (show Kd.M k41 _ _ _ (⟨3, 3⟩ : S41) [.int .i64 3, .int .i64 3] from (k41_mkM _ _ _ (⟨3, 3⟩ : S41) )) (Reps.none _ _)))))
                                intro v241 w25 ho26 hb hg_ hnew_
                                have HS0_ := (hb.cell (World.block_lt_of_cell? _ _ (hHeld.1))).trans (hHeld.1)
                                have HS1_ := (hb.cell (World.block_lt_of_cell? _ _ (hHeld.2))).trans (hHeld.2)
                                clear hg_ hnew_
                                (first | rw [← Ny240.out] at ho26 | (simp only [Int.reduceToNat] at ho26; rw [← Ny240.out] at ho26))
                                have n0_ := Aside0.mk (Kd.R_below (by (with_reducible repeat (first | apply Kd.R_alloc | apply Kd.R_drewN | apply Kd.R_drew)); exact HO_1.out) hb)
                                have n1_ := Aside0.mk (Kd.R_elder' (by (with_reducible repeat (first | apply Kd.R_alloc | apply Kd.R_drewN | apply Kd.R_drew)); exact HO237.out) (Kd.R_base ho26) hb)
                                have n2_ := Aside0.mk (Kd.R_lower (Kd.R_new' ho26 (Kd.R_lt (by (with_reducible repeat (first | apply Kd.R_alloc | apply Kd.R_drewN | apply Kd.R_drew)); exact HO237.out))) (below_size (by repeat (first | (with_reducible first | exact HB.out | apply below_alloc | apply pw_below_drewN | apply below_drew1) | exact HB.out))))
                                have n3_ := Aside0.mk (below_step (by repeat (first | (with_reducible first | exact HB.out | apply below_alloc | apply pw_below_drewN | apply below_drew1) | exact HB.out)) hb)
                                clear HO_1
                                clear HO237
                                clear HB
                                have HO_1 := n0_
                                have HO237 := n1_
                                have HO242 := n2_
                                have HB := n3_
                                clear n0_ n1_ n2_ n3_
                                clear hb ho26
                                refine hK.out _ _ ⟨HS0_, HS1_⟩ (fun hHeld => ?_)
                                clear hK K
                                refine norm_ (a' := ?_) ?_ ?_
                                rotate_left
                                · show Act.put _ (some 41) _ = _
                                  simp only [Act.put, List.setIfInBounds_toArray, List.set_cons_zero, List.set_cons_succ, i64_w, i32_w]
                                  rfl
                                refine pure_ (i := 12) (N := some 5) (v := ?_) (a' := ?_) #[true, true, true, true, true, true, true, true, true, true, true, true, true] rfl rfl (any_of HT_.out (by kernel_rfl)) (fun _ _ _ h => h) (Or.inl ⟨by rfl, ?_⟩) ?_ ?_
                                rotate_left
                                · intro w'
                                  go_simp
                                  with_reducible rfl
                                rotate_left
                                · simp only [Act.put, List.setIfInBounds_toArray, List.set_cons_zero, List.set_cons_succ, i64_w, i32_w]
                                  rfl
                                refine done_ (done_of HT_.out (by kernel_rfl)) ?_
                                have p243 : 0 ≤ (x2_1 : Int) := of_decide_eq_true (by first | (with_reducible assumption) | assumption)
                                have q243 : x2_1 < (y227.length : Int) := of_decide_eq_true (by first | (with_reducible assumption) | assumption)
                                obtain ⟨ad243, e243, hx243_0⟩ := Kd.at_int (Kd.R_reads' HO_1.out).2.2 x2_1 p243 q243
                                obtain rfl : ad233 = ad243 := (by injection e243)
                                replace p243 := eq_true p243
                                replace q243 := eq_true q243
                                obtain ⟨Ao27, co27, eo27⟩ := Kd.R_slice HO237.out
                                subst eo27
                                try go_wp2_with (first | ((with_reducible refine gate_callee (f := 7) rfl ?_); refine goesL_ (some 47) rfl rfl Try.func7 (by kernel_rfl) rfl #[.slice Ao27 y235.length co27, .int .i64 (rd y227 x2_1)] rfl (by (try simp only [List.map_toArray, List.map_cons, List.map_nil]); first | done | rfl | (simp only [List.length_drop, List.length_take]; rfl)) ?_; (with_reducible refine (driftnetlaw09_RunesSets.calls k2 _ _ y235 (rd y227 x2_1) true _ ?side1 ?side2 A9.out).mono ?_); (case side1 => repeat (first | exact (Kd.R_reads' HO237.out).2.2 | (with_reducible refine Kd.C_alloc ?_ _) | (with_reducible refine Kd.C_drewN ?_ _) | (with_reducible refine Kd.C_drew ?_))); (case side2 => exact (Kd.R_reads' HO237.out).2.1); rintro e w28 ⟨rfl, hb⟩; refine ⟨_, rfl, ?_⟩; have n0_ := Aside0.mk (Kd.R_below (by (with_reducible repeat (first | apply Kd.R_alloc | apply Kd.R_drewN | apply Kd.R_drew)); exact HO_1.out) hb); have n1_ := Aside0.mk (Kd.R_below (by (with_reducible repeat (first | apply Kd.R_alloc | apply Kd.R_drewN | apply Kd.R_drew)); exact HO237.out) hb); have n2_ := Aside0.mk (Kd.R_below (by (with_reducible repeat (first | apply Kd.R_alloc | apply Kd.R_drewN | apply Kd.R_drew)); exact HO242.out) hb); have n3_ := Aside0.mk (below_step (by repeat (first | (with_reducible first | exact HB.out | apply below_alloc | apply pw_below_drewN | apply below_drew1) | exact HB.out)) hb); clear HO_1; clear HO237; clear HO242; clear HB; have HO_1 := n0_; have HO237 := n1_; have HO242 := n2_; have HB := n3_; clear n0_ n1_ n2_ n3_; (try clear hb); (try clear hb2); (try clear hk); (try clear hi); have p245 : 0 ≤ (x3_2 : Int) := of_decide_eq_true (by first | (with_reducible assumption) | assumption); have q245 : x3_2 < (y227.length : Int) := of_decide_eq_true (by first | (with_reducible assumption) | assumption); obtain ⟨ad245, e245, hx245_0⟩ := Kd.at_int (Kd.R_reads' HO_1.out).2.2 x3_2 p245 q245; obtain rfl : ad233 = ad245 := (by injection e245); replace p245 := eq_true p245; replace q245 := eq_true q245; obtain ⟨Ao29, co29, eo29⟩ := Kd.R_slice HO242.out; subst eo29) | (go_at_call 7; (with_reducible refine (driftnetlaw09_RunesSets.calls k2 _ _ y240 (rd y227 x3_2) true _ ?side1 ?side2 A11.out).mono ?_); (case side1 => repeat (first | exact (Kd.R_reads' HO242.out).2.2 | (with_reducible refine Kd.C_alloc ?_ _) | (with_reducible refine Kd.C_drewN ?_ _) | (with_reducible refine Kd.C_drew ?_))); (case side2 => exact (Kd.R_reads' HO242.out).2.1); rintro e w30 ⟨rfl, hb⟩; have n0_ := Aside0.mk (Kd.R_below (by (with_reducible repeat (first | apply Kd.R_alloc | apply Kd.R_drewN | apply Kd.R_drew)); exact HO_1.out) hb); have n1_ := Aside0.mk (Kd.R_below (by (with_reducible repeat (first | apply Kd.R_alloc | apply Kd.R_drewN | apply Kd.R_drew)); exact HO237.out) hb); have n2_ := Aside0.mk (Kd.R_below (by (with_reducible repeat (first | apply Kd.R_alloc | apply Kd.R_drewN | apply Kd.R_drew)); exact HO242.out) hb); have n3_ := Aside0.mk (below_step (by repeat (first | (with_reducible first | exact HB.out | apply below_alloc | apply pw_below_drewN | apply below_drew1) | exact HB.out)) hb); clear HO_1; clear HO237; clear HO242; clear HB; have HO_1 := n0_; have HO237 := n1_; have HO242 := n2_; have HB := n3_; clear n0_ n1_ n2_ n3_; (try clear hb); (try clear hb2); (try clear hk); (try clear hi)) | (go_at_call 4; (with_reducible refine (driftnetlaw09_RunesTwo.calls k2 _ _ y235 _ _ y240 true _ ?side1 ?side2 ?side3 ?side4 A13.out).mono ?_); (case side1 => repeat (first | exact (Kd.R_reads' HO237.out).2.2 | (with_reducible refine Kd.C_alloc ?_ _) | (with_reducible refine Kd.C_drewN ?_ _) | (with_reducible refine Kd.C_drew ?_))); (case side2 => exact (Kd.R_reads' HO237.out).2.1); (case side3 => repeat (first | exact (Kd.R_reads' HO242.out).2.2 | (with_reducible refine Kd.C_alloc ?_ _) | (with_reducible refine Kd.C_drewN ?_ _) | (with_reducible refine Kd.C_drew ?_))); (case side4 => exact (Kd.R_reads' HO242.out).2.1); rintro e w31 ⟨rfl, hb⟩; have n0_ := Aside0.mk (Kd.R_below (by (with_reducible repeat (first | apply Kd.R_alloc | apply Kd.R_drewN | apply Kd.R_drew)); exact HO_1.out) hb); have n1_ := Aside0.mk (Kd.R_below (by (with_reducible repeat (first | apply Kd.R_alloc | apply Kd.R_drewN | apply Kd.R_drew)); exact HO237.out) hb); have n2_ := Aside0.mk (Kd.R_below (by (with_reducible repeat (first | apply Kd.R_alloc | apply Kd.R_drewN | apply Kd.R_drew)); exact HO242.out) hb); have n3_ := Aside0.mk (below_step (by repeat (first | (with_reducible first | exact HB.out | apply below_alloc | apply pw_below_drewN | apply below_drew1) | exact HB.out)) hb); clear HO_1; clear HO237; clear HO242; clear HB; have HO_1 := n0_; have HO237 := n1_; have HO242 := n2_; have HB := n3_; clear n0_ n1_ n2_ n3_; (try clear hb); (try clear hb2); (try clear hk); (try clear hi); have p248 : 0 ≤ (x3_2 : Int) := of_decide_eq_true (by first | (with_reducible assumption) | assumption); have q248 : x3_2 < (y227.length : Int) := of_decide_eq_true (by first | (with_reducible assumption) | assumption); obtain ⟨ad248, e248, hx248_0⟩ := Kd.at_int (Kd.R_reads' HO_1.out).2.2 x3_2 p248 q248; obtain rfl : ad233 = ad248 := (by injection e248); replace p248 := eq_true p248; replace q248 := eq_true q248) | (go_at_call 6; (with_reducible refine (driftnetlaw09_RunesHas.calls k2 _ _ y235 _ _ y240 (rd y227 x3_2) true _ ?side1 ?side2 ?side3 ?side4 A15.out).mono ?_); (case side1 => repeat (first | exact (Kd.R_reads' HO237.out).2.2 | (with_reducible refine Kd.C_alloc ?_ _) | (with_reducible refine Kd.C_drewN ?_ _) | (with_reducible refine Kd.C_drew ?_))); (case side2 => exact (Kd.R_reads' HO237.out).2.1); (case side3 => repeat (first | exact (Kd.R_reads' HO242.out).2.2 | (with_reducible refine Kd.C_alloc ?_ _) | (with_reducible refine Kd.C_drewN ?_ _) | (with_reducible refine Kd.C_drew ?_))); (case side4 => exact (Kd.R_reads' HO242.out).2.1); rintro e w32 ⟨rfl, hb⟩; have n0_ := Aside0.mk (Kd.R_below (by (with_reducible repeat (first | apply Kd.R_alloc | apply Kd.R_drewN | apply Kd.R_drew)); exact HO_1.out) hb); have n1_ := Aside0.mk (Kd.R_below (by (with_reducible repeat (first | apply Kd.R_alloc | apply Kd.R_drewN | apply Kd.R_drew)); exact HO237.out) hb); have n2_ := Aside0.mk (Kd.R_below (by (with_reducible repeat (first | apply Kd.R_alloc | apply Kd.R_drewN | apply Kd.R_drew)); exact HO242.out) hb); have n3_ := Aside0.mk (below_step (by repeat (first | (with_reducible first | exact HB.out | apply below_alloc | apply pw_below_drewN | apply below_drew1) | exact HB.out)) hb); clear HO_1; clear HO237; clear HO242; clear HB; have HO_1 := n0_; have HO237 := n1_; have HO242 := n2_; have HB := n3_; clear n0_ n1_ n2_ n3_; (try clear hb); (try clear hb2); (try clear hk); (try clear hi)) | (go_at_call 5; (with_reducible refine (driftnetlaw09_RunesOnce.calls k2 _ _ y235 _ _ y240 true _ ?side1 ?side2 ?side3 ?side4 A17.out).mono ?_); (case side1 => repeat (first | exact (Kd.R_reads' HO237.out).2.2 | (with_reducible refine Kd.C_alloc ?_ _) | (with_reducible refine Kd.C_drewN ?_ _) | (with_reducible refine Kd.C_drew ?_))); (case side2 => exact (Kd.R_reads' HO237.out).2.1); (case side3 => repeat (first | exact (Kd.R_reads' HO242.out).2.2 | (with_reducible refine Kd.C_alloc ?_ _) | (with_reducible refine Kd.C_drewN ?_ _) | (with_reducible refine Kd.C_drew ?_))); (case side4 => exact (Kd.R_reads' HO242.out).2.1); rintro e w33 ⟨rfl, hb⟩; have n0_ := Aside0.mk (Kd.R_below (by (with_reducible repeat (first | apply Kd.R_alloc | apply Kd.R_drewN | apply Kd.R_drew)); exact HO_1.out) hb); have n1_ := Aside0.mk (Kd.R_below (by (with_reducible repeat (first | apply Kd.R_alloc | apply Kd.R_drewN | apply Kd.R_drew)); exact HO237.out) hb); have n2_ := Aside0.mk (Kd.R_below (by (with_reducible repeat (first | apply Kd.R_alloc | apply Kd.R_drewN | apply Kd.R_drew)); exact HO242.out) hb); have n3_ := Aside0.mk (below_step (by repeat (first | (with_reducible first | exact HB.out | apply below_alloc | apply pw_below_drewN | apply below_drew1) | exact HB.out)) hb); clear HO_1; clear HO237; clear HO242; clear HB; have HO_1 := n0_; have HO237 := n1_; have HO242 := n2_; have HB := n3_; clear n0_ n1_ n2_ n3_; (try clear hb); (try clear hb2); (try clear hk); (try clear hi)) | (go_at_call 3; (with_reducible refine (driftnetlaw09_RunesCount.calls k2 _ _ y235 _ _ y240 true _ ?side1 ?side2 ?side3 ?side4 A19.out).mono ?_); (case side1 => repeat (first | exact (Kd.R_reads' HO237.out).2.2 | (with_reducible refine Kd.C_alloc ?_ _) | (with_reducible refine Kd.C_drewN ?_ _) | (with_reducible refine Kd.C_drew ?_))); (case side2 => exact (Kd.R_reads' HO237.out).2.1); (case side3 => repeat (first | exact (Kd.R_reads' HO242.out).2.2 | (with_reducible refine Kd.C_alloc ?_ _) | (with_reducible refine Kd.C_drewN ?_ _) | (with_reducible refine Kd.C_drew ?_))); (case side4 => exact (Kd.R_reads' HO242.out).2.1); rintro e w34 ⟨rfl, hb⟩; have n0_ := Aside0.mk (Kd.R_below (by (with_reducible repeat (first | apply Kd.R_alloc | apply Kd.R_drewN | apply Kd.R_drew)); exact HO_1.out) hb); have n1_ := Aside0.mk (Kd.R_below (by (with_reducible repeat (first | apply Kd.R_alloc | apply Kd.R_drewN | apply Kd.R_drew)); exact HO237.out) hb); have n2_ := Aside0.mk (Kd.R_below (by (with_reducible repeat (first | apply Kd.R_alloc | apply Kd.R_drewN | apply Kd.R_drew)); exact HO242.out) hb); have n3_ := Aside0.mk (below_step (by repeat (first | (with_reducible first | exact HB.out | apply below_alloc | apply pw_below_drewN | apply below_drew1) | exact HB.out)) hb); clear HO_1; clear HO237; clear HO242; clear HB; have HO_1 := n0_; have HO237 := n1_; have HO242 := n2_; have HB := n3_; clear n0_ n1_ n2_ n3_; (try clear hb); (try clear hb2); (try clear hk); (try clear hi)))
                                go_roundg k2
                                case measure => have := HK1.out; have := HK2.out; omega
                                case rel => exact ⟨(wrap64 (x3_2 + 1)), (by first | rfl | (simp; done) | (simp [*]; done)), H', ⟨by have := HK1.out; have := HK2.out; omega⟩, ⟨by (with_reducible repeat (first | apply Kd.R_alloc | apply Kd.R_drewN | apply Kd.R_drew)); exact HO_1.out⟩, ⟨by repeat (first | (with_reducible first | exact HB.out | apply below_alloc | apply pw_below_drewN | apply below_drew1) | exact HB.out)⟩⟩
                              · replace c20 := Bool.eq_false_iff.mpr c20
                                subst c20
                                have H1 : (none) = some r := by rw [if_neg (show ¬ (false = true) by decide)] at H; exact H
                                clear H
                                have H := H1
                                clear H1
                                exact absurd H (by simp)
                            · replace c18 := Bool.eq_false_iff.mpr c18
                              subst c18
                              have H1 : (none) = some r := by rw [if_neg (show ¬ (false = true) by decide)] at H; exact H
                              clear H
                              have H := H1
                              clear H1
                              exact absurd H (by simp)
                          · replace c16 := Bool.eq_false_iff.mpr c16
                            subst c16
                            have H1 : (none) = some r := by rw [if_neg (show ¬ (false = true) by decide)] at H; exact H
                            clear H
                            have H := H1
                            clear H1
                            exact absurd H (by simp)
                        · replace c14 := Bool.eq_false_iff.mpr c14
                          subst c14
                          have H1 : (none) = some r := by rw [if_neg (show ¬ (false = true) by decide)] at H; exact H
                          clear H
                          have H := H1
                          clear H1
                          exact absurd H (by simp)
                      · replace c12 := Bool.eq_false_iff.mpr c12
                        subst c12
                        have H1 : (none) = some r := by rw [if_neg (show ¬ (false = true) by decide)] at H; exact H
                        clear H
                        have H := H1
                        clear H1
                        exact absurd H (by simp)
                    · replace c10 := Bool.eq_false_iff.mpr c10
                      subst c10
                      have H1 : (none) = some r := by rw [if_neg (show ¬ (false = true) by decide)] at H; exact H
                      clear H
                      have H := H1
                      clear H1
                      exact absurd H (by simp)
                  · rw [if_neg c8] at H
                    exact absurd H (by simp)
                · rw [if_neg c7] at H
                  exact absurd H (by simp)
              · rw [if_neg c6] at H
                exact absurd H (by simp)
            · rw [if_neg c5] at H
              have c5b0 : decide (x3_2 < (y227.length : Int)) = false := decide_eq_false c5
              clear c5
              have H' := Aside0.mk H
              clear H
              go_wp2
              go_roundg k2
              case measure => have := HK1.out; have := HK2.out; omega
              case rel => exact ⟨(wrap64 (x2_1 + 1)), (by first | rfl | (simp; done) | (simp [*]; done)), H', ⟨by have := HK1.out; have := HK2.out; omega⟩, ⟨by (with_reducible repeat (first | apply Kd.R_alloc | apply Kd.R_drewN | apply Kd.R_drew)); exact HO_1.out⟩, ⟨by repeat (first | (with_reducible first | exact HB.out | apply below_alloc | apply pw_below_drewN | apply below_drew1) | exact HB.out)⟩⟩
      · rw [if_neg c3] at H
        have c3b0 : decide (x2_1 < (y227.length : Int)) = false := decide_eq_false c3
        clear c3
        replace H := Option.bind_eq_some_iff.mp H
        obtain ⟨t230, A350, H⟩ := H
        replace H : (if t230 = true then ((driftnetlaw09_RunesSets.f k1 ([] : List (S41)) 0).bind fun t231 => (if t231 = true then ((driftnetlaw09_RunesTwo.f k1 ([] : List (S41)) ([] : List (S41))).bind fun t232 => (some t232)) else (none))) else (none)) = some r := H
        have A35 := Aside0.mk A350
        clear A350
        by_cases c36 : t230 = true
        · subst c36
          have H1 : ((driftnetlaw09_RunesSets.f k1 ([] : List (S41)) 0).bind fun t231 => (if t231 = true then ((driftnetlaw09_RunesTwo.f k1 ([] : List (S41)) ([] : List (S41))).bind fun t232 => (some t232)) else (none))) = some r := by rw [if_pos rfl] at H; exact H
          clear H
          have H := H1
          clear H1
          replace H := Option.bind_eq_some_iff.mp H
          obtain ⟨t231, A370, H⟩ := H
          replace H : (if t231 = true then ((driftnetlaw09_RunesTwo.f k1 ([] : List (S41)) ([] : List (S41))).bind fun t232 => (some t232)) else (none)) = some r := H
          have A37 := Aside0.mk A370
          clear A370
          by_cases c38 : t231 = true
          · subst c38
            have H1 : ((driftnetlaw09_RunesTwo.f k1 ([] : List (S41)) ([] : List (S41))).bind fun t232 => (some t232)) = some r := by rw [if_pos rfl] at H; exact H
            clear H
            have H := H1
            clear H1
            replace H := Option.bind_eq_some_iff.mp H
            obtain ⟨t232, A390, H⟩ := H
            replace H : (some t232) = some r := H
            have A39 := Aside0.mk A390
            clear A390
            obtain rfl := Option.some.inj H
            obtain ⟨Ao40, co40, eo40⟩ := Kd.R_slice HO_1.out
            subst eo40
            go_wp2_with (first | (go_at_call 14; (with_reducible refine (driftnetlaw09_awake.calls k1  true _ A35.out).mono ?_); rintro e w41 ⟨rfl, hb⟩; have n0_ := Aside0.mk (Kd.R_below (by (with_reducible repeat (first | apply Kd.R_alloc | apply Kd.R_drewN | apply Kd.R_drew)); exact HO_1.out) hb); have n1_ := Aside0.mk (below_step (by repeat (first | (with_reducible first | exact HB.out | apply below_alloc | apply pw_below_drewN | apply below_drew1) | exact HB.out)) hb); clear HO_1; clear HB; have HO_1 := n0_; have HB := n1_; clear n0_ n1_; (try clear hb); (try clear hb2); (try clear hk); (try clear hi)) | (go_at_call 7; (refine (driftnetlaw09_RunesSets.calls k1 _ _ ([] : List (S41)) 0 true _ ?side1 ?side2 A37.out).mono ?_); (case side1 => exact Kd.C_nil _ _); (case side2 => exact Nat.le_refl _); rintro e w42 ⟨rfl, hb⟩; have n0_ := Aside0.mk (Kd.R_below (by (with_reducible repeat (first | apply Kd.R_alloc | apply Kd.R_drewN | apply Kd.R_drew)); exact HO_1.out) hb); have n1_ := Aside0.mk (below_step (by repeat (first | (with_reducible first | exact HB.out | apply below_alloc | apply pw_below_drewN | apply below_drew1) | exact HB.out)) hb); clear HO_1; clear HB; have HO_1 := n0_; have HB := n1_; clear n0_ n1_; (try clear hb); (try clear hb2); (try clear hk); (try clear hi)) | (go_at_call 4; (refine (driftnetlaw09_RunesTwo.calls k1 _ _ ([] : List (S41)) _ _ ([] : List (S41)) t232 _ ?side1 ?side2 ?side3 ?side4 A39.out).mono ?_); (case side1 => exact Kd.C_nil _ _); (case side2 => exact Nat.le_refl _); (case side3 => exact Kd.C_nil _ _); (case side4 => exact Nat.le_refl _); rintro e w43 ⟨rfl, hb⟩; have n0_ := Aside0.mk (Kd.R_below (by (with_reducible repeat (first | apply Kd.R_alloc | apply Kd.R_drewN | apply Kd.R_drew)); exact HO_1.out) hb); have n1_ := Aside0.mk (below_step (by repeat (first | (with_reducible first | exact HB.out | apply below_alloc | apply pw_below_drewN | apply below_drew1) | exact HB.out)) hb); clear HO_1; clear HB; have HO_1 := n0_; have HB := n1_; clear n0_ n1_; (try clear hb); (try clear hb2); (try clear hk); (try clear hi)))
            go_ret
            exact ⟨by first | rfl | (simp [errW_none, errW_some] <;> rfl) | (simp [*, errW_none, errW_some] <;> rfl), by repeat (first | (with_reducible first | exact HB.out | apply below_alloc | apply pw_below_drewN | apply below_drew1) | exact HB.out)⟩
          · replace c38 := Bool.eq_false_iff.mpr c38
            subst c38
            have H1 : (none) = some r := by rw [if_neg (show ¬ (false = true) by decide)] at H; exact H
            clear H
            have H := H1
            clear H1
            exact absurd H (by simp)
        · replace c36 := Bool.eq_false_iff.mpr c36
          subst c36
          have H1 : (none) = some r := by rw [if_neg (show ¬ (false = true) by decide)] at H; exact H
          clear H
          have H := H1
          clear H1
          exact absurd H (by simp)

/-- THE ONE PURE STATEMENT of driftnetlaw09_RunesKnown: yours. -/
def driftnetlaw09_RunesKnown.Pure : Prop := ∃ k, driftnetlaw09_RunesKnown.f k  = some true
theorem driftnetlaw09_RunesKnown.walk (P : driftnetlaw09_RunesKnown.Pure)  (w : World)  :
    Calls Try.prog 8 #[] w fun e w' => e = .returned (.bool true) ∧ Below w.heap.size w w' := by
  obtain ⟨k, h⟩ := P  
  refine (driftnetlaw09_RunesKnown.calls k  true w h).mono ?_
  rintro e w' ⟨rfl, hd⟩
  exact ⟨rfl, hd⟩

end Go.Proofs.Ytoihjhpabccigaa.PR
