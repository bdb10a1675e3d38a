/- Written by a program of this session (wip/hand.py, over the kit's print): functions of the given program as plain Lean functions, and that the machine's calls come to what these say. -/
import Derived.Test.YtoihjhpabccigaaPN
import Derived.Test.YtoihjhpabccigaaHA
import Derived.Test.YtoihjhpabccigaaHL
import Derived.Test.YtoihjhpabccigaaPRx0
import Derived.Test.YtoihjhpabccigaaPRx2
import Derived.Test.YtoihjhpabccigaaPRx3
namespace Go.Proofs.Ytoihjhpabccigaa.PR
open Go.RowKit Go.Proofs.YtoihjhpabccigaaW.PrintWords Go.Proofs.YtoihjhpabccigaaW.PrintLast Go.Proofs.YtoihjhpabccigaaW.PrintMore
attribute [local go_sem] max2_int min2_int max_two min_two max_three min_three max_four min_four   -- for this text's walks alone
set_option linter.unusedVariables false
set_option linter.unusedSimpArgs false

attribute [local go_sem high] eqA41
/-! ### driftnetlaw09_awake: function 14 (by hand) -/
def RowP (W : World) (r : List S38) : Ending → World → Prop := fun e w' => ∃ v0_ : Value, e = .returned (v0_) ∧ Kd.R k38 38 w' W.heap.size (fun _ => True) v0_ r ∧ Below W.heap.size W w'
def BoolP (W : World) (b : Bool) : Ending → World → Prop := fun e w' => e = .returned (.bool b) ∧ Below W.heap.size W w'
theorem of4c (a b c d e f g h : Int) (r : List S38) (W : World) (H : runes_Of.f [⟨a, b⟩, ⟨c, d⟩, ⟨e, f⟩, ⟨g, h⟩] = some r) :
    Calls Try.prog 20 #[.slice (some ⟨W.heap.size, 0, none⟩) 4 4] (W.alloc (.cells #[.int .i64 a, .int .i64 b, .int .i64 c, .int .i64 d, .int .i64 e, .int .i64 f, .int .i64 g, .int .i64 h] 38)) (RowP (W.alloc (.cells #[.int .i64 a, .int .i64 b, .int .i64 c, .int .i64 d, .int .i64 e, .int .i64 f, .int .i64 g, .int .i64 h] 38)) r) := by
  have hs := OF.C_s4 a b c d e f g h W
  obtain ⟨w2, hw2⟩ : ∃ w2, w2 = (W.alloc (.cells #[.int .i64 a, .int .i64 b, .int .i64 c, .int .i64 d, .int .i64 e, .int .i64 f, .int .i64 g, .int .i64 h] 38)) := ⟨_, rfl⟩
  rw [← hw2] at hs ⊢
  exact runes_Of.calls (some ⟨W.heap.size, 0, none⟩) 4 [⟨a, b⟩, ⟨c, d⟩, ⟨e, f⟩, ⟨g, h⟩] r w2 hs (by simp) H
theorem not1c (k : Nat) (a b : Int) (r : List S38) (W : World) (H : runes_Set_Not.f k [⟨a, b⟩] = some r) :
    Calls Try.prog 13 #[.slice (some ⟨W.heap.size, 0, none⟩) 1 1] (W.alloc (.cells #[.int .i64 a, .int .i64 b] 38)) (RowP (W.alloc (.cells #[.int .i64 a, .int .i64 b] 38)) r) := by
  have hs := OF.C_s1 a b W
  obtain ⟨w2, hw2⟩ : ∃ w2, w2 = (W.alloc (.cells #[.int .i64 a, .int .i64 b] 38)) := ⟨_, rfl⟩
  rw [← hw2] at hs ⊢
  exact runes_Set_Not.calls k (some ⟨W.heap.size, 0, none⟩) 1 [⟨a, b⟩] r w2 hs (by simp) H
theorem bothc (k : Nat) (a b c d e f : Int) (r : List S38) (W : World) (H : runes_Both.f k [⟨a, b⟩, ⟨c, d⟩] [⟨e, f⟩] = some r) :
    Calls Try.prog 12 #[.slice (some ⟨W.heap.size, 0, none⟩) 2 2, .slice (some ⟨W.heap.size + 1, 0, none⟩) 1 1] ((W.alloc (.cells #[.int .i64 a, .int .i64 b, .int .i64 c, .int .i64 d] 38)).alloc (.cells #[.int .i64 e, .int .i64 f] 38)) (RowP ((W.alloc (.cells #[.int .i64 a, .int .i64 b, .int .i64 c, .int .i64 d] 38)).alloc (.cells #[.int .i64 e, .int .i64 f] 38)) r) := by
  have hs := Kd.C_alloc (OF.C_s2 a b c d W) (.cells #[.int .i64 e, .int .i64 f] 38)
  have ht := OF.C_s1 e f (W.alloc (.cells #[.int .i64 a, .int .i64 b, .int .i64 c, .int .i64 d] 38))
  rw [World.size_alloc] at ht
  obtain ⟨w2, hw2⟩ : ∃ w2, w2 = ((W.alloc (.cells #[.int .i64 a, .int .i64 b, .int .i64 c, .int .i64 d] 38)).alloc (.cells #[.int .i64 e, .int .i64 f] 38)) := ⟨_, rfl⟩
  rw [← hw2] at hs ht ⊢
  exact runes_Both.calls k _ 2 [⟨a, b⟩, ⟨c, d⟩] _ 1 [⟨e, f⟩] r w2 hs (by simp) ht (by simp) H
theorem is2c (k : Nat) (a b : Int) (A : Option Addr) (c : Nat) (x : List S38) (W : World) (hx : Kd.C k38 W A x.length x) (hc : x.length ≤ c) (H : driftnetlaw09_is.f k x [a, b] = some true) :
    Calls Try.prog 29 #[.slice A x.length c, .slice (some ⟨W.heap.size, 0, none⟩) 2 2] (W.alloc (.cells #[.int .i64 a, .int .i64 b] 3)) (BoolP (W.alloc (.cells #[.int .i64 a, .int .i64 b] 3)) true) := by
  have hs := OF.C_i2 a b W
  have ht := Kd.C_alloc hx (.cells #[.int .i64 a, .int .i64 b] 3)
  obtain ⟨w2, hw2⟩ : ∃ w2, w2 = W.alloc (.cells #[.int .i64 a, .int .i64 b] 3) := ⟨_, rfl⟩
  rw [← hw2] at hs ht ⊢
  exact (driftnetlaw09_is.calls k A c x _ 2 [a, b] true w2 ht hc hs (by simp) H).mono (fun e w' h => ⟨h.1, h.2.below⟩)
theorem is4c (k : Nat) (a b d e : Int) (A : Option Addr) (c : Nat) (x : List S38) (W : World) (hx : Kd.C k38 W A x.length x) (hc : x.length ≤ c) (H : driftnetlaw09_is.f k x [a, b, d, e] = some true) :
    Calls Try.prog 29 #[.slice A x.length c, .slice (some ⟨W.heap.size, 0, none⟩) 4 4] (W.alloc (.cells #[.int .i64 a, .int .i64 b, .int .i64 d, .int .i64 e] 3)) (BoolP (W.alloc (.cells #[.int .i64 a, .int .i64 b, .int .i64 d, .int .i64 e] 3)) true) := by
  have hs := OF.C_i4 a b d e W
  have ht := Kd.C_alloc hx (.cells #[.int .i64 a, .int .i64 b, .int .i64 d, .int .i64 e] 3)
  obtain ⟨w2, hw2⟩ : ∃ w2, w2 = W.alloc (.cells #[.int .i64 a, .int .i64 b, .int .i64 d, .int .i64 e] 3) := ⟨_, rfl⟩
  rw [← hw2] at hs ht ⊢
  exact (driftnetlaw09_is.calls k A c x _ 4 [a, b, d, e] true w2 ht hc hs (by simp) H).mono (fun e w' h => ⟨h.1, h.2.below⟩)
theorem join2c (A0 A1 : Option Addr) (c0 c1 : Nat) (l0 l1 : List S38) (r : List S38) (W : World) (h0 : Kd.C k38 W A0 l0.length l0) (g0 : l0.length ≤ c0) (h1 : Kd.C k38 W A1 l1.length l1) (g1 : l1.length ≤ c1) (H : runes_Join.f [l0, l1] = some r) :
    Calls Try.prog 10 #[.slice (some ⟨W.heap.size, 0, none⟩) 2 2] (W.alloc (.cells #[.slice A0 l0.length c0, .slice A1 l1.length c1] 24)) (RowP (W.alloc (.cells #[.slice A0 l0.length c0, .slice A1 l1.length c1] 24)) r) := by
  have hs := OF.C_l2 h0 g0 h1 g1
  obtain ⟨w2, hw2⟩ : ∃ w2, w2 = W.alloc (.cells #[.slice A0 l0.length c0, .slice A1 l1.length c1] 24) := ⟨_, rfl⟩
  rw [← hw2] at hs ⊢
  exact runes_Join.calls _ 2 [l0, l1] r w2 hs (by simp) H
theorem join3c (a b c d e f : Int) (r : List S38) (W : World) (H : runes_Join.f [[⟨a, b⟩], [⟨c, d⟩], [⟨e, f⟩]] = some r) :
    Calls Try.prog 10 #[.slice (some ⟨W.heap.size + 1 + 1 + 1, 0, none⟩) 3 3] ((((W.alloc (.cells #[.int .i64 a, .int .i64 b] 38)).alloc (.cells #[.int .i64 c, .int .i64 d] 38)).alloc (.cells #[.int .i64 e, .int .i64 f] 38)).alloc (.cells #[.slice (some ⟨W.heap.size, 0, none⟩) 1 1, .slice (some ⟨W.heap.size + 1, 0, none⟩) 1 1, .slice (some ⟨W.heap.size + 1 + 1, 0, none⟩) 1 1] 24)) (RowP ((((W.alloc (.cells #[.int .i64 a, .int .i64 b] 38)).alloc (.cells #[.int .i64 c, .int .i64 d] 38)).alloc (.cells #[.int .i64 e, .int .i64 f] 38)).alloc (.cells #[.slice (some ⟨W.heap.size, 0, none⟩) 1 1, .slice (some ⟨W.heap.size + 1, 0, none⟩) 1 1, .slice (some ⟨W.heap.size + 1 + 1, 0, none⟩) 1 1] 24)) r) := by
  have p1 := OF.C_s1 a b W
  have p2 := OF.C_s1 c d (W.alloc (.cells #[.int .i64 a, .int .i64 b] 38))
  have p3 := OF.C_s1 e f ((W.alloc (.cells #[.int .i64 a, .int .i64 b] 38)).alloc (.cells #[.int .i64 c, .int .i64 d] 38))
  have q1 := Kd.C_alloc (Kd.C_alloc p1 (.cells #[.int .i64 c, .int .i64 d] 38)) (.cells #[.int .i64 e, .int .i64 f] 38)
  have q2 := Kd.C_alloc p2 (.cells #[.int .i64 e, .int .i64 f] 38)
  have z : (((W.alloc (.cells #[.int .i64 a, .int .i64 b] 38)).alloc (.cells #[.int .i64 c, .int .i64 d] 38)).alloc (.cells #[.int .i64 e, .int .i64 f] 38)).heap.size = W.heap.size + 1 + 1 + 1 := by rw [World.size_alloc, World.size_alloc, World.size_alloc]
  rw [World.size_alloc, World.size_alloc] at p3
  rw [World.size_alloc] at q2
  obtain ⟨w3, hw3⟩ : ∃ w3, w3 = (((W.alloc (.cells #[.int .i64 a, .int .i64 b] 38)).alloc (.cells #[.int .i64 c, .int .i64 d] 38)).alloc (.cells #[.int .i64 e, .int .i64 f] 38)) := ⟨_, rfl⟩
  rw [← hw3] at q1 q2 p3 z ⊢
  have hs := OF.C_l3 (l0 := [⟨a, b⟩]) (l1 := [⟨c, d⟩]) (l2 := [⟨e, f⟩]) (c0 := 1) (c1 := 1) (c2 := 1) q1 (by simp) q2 (by simp) p3 (by simp)
  simp only [List.length_cons, List.length_nil, Nat.zero_add] at hs
  rw [z] at hs
  obtain ⟨w4, hw4⟩ : ∃ w4, w4 = ((w3).alloc (.cells #[.slice (some ⟨W.heap.size, 0, none⟩) 1 1, .slice (some ⟨W.heap.size + 1, 0, none⟩) 1 1, .slice (some ⟨W.heap.size + 1 + 1, 0, none⟩) 1 1] 24)) := ⟨_, rfl⟩
  rw [← hw4] at hs ⊢
  exact runes_Join.calls _ 3 [[⟨a, b⟩], [⟨c, d⟩], [⟨e, f⟩]] r w4 hs (by simp) H
theorem not0c (k : Nat) (r : List S38) (W : World) (H : runes_Set_Not.f k [] = some r) : Calls Try.prog 13 #[.slice none 0 0] W (RowP W r) := runes_Set_Not.calls k none 0 [] r W (Kd.C_nil _ _) (by simp) H
def driftnetlaw09_awake.f (k : Nat)  : Option Bool := (runes_Of.f [⟨5, 7⟩, ⟨1, 2⟩, ⟨3, 4⟩, ⟨9, 8⟩]).bind fun t1 => ((driftnetlaw09_is.f k t1 [1, 7]).bind fun e1 => if e1 = true then ((runes_Set_Not.f k [⟨0, 9⟩]).bind fun t2 => ((driftnetlaw09_is.f k t2 [10, 1114111]).bind fun e2 => if e2 = true then ((runes_Set_Not.f k []).bind fun t3 => ((driftnetlaw09_is.f k t3 [0, 1114111]).bind fun e3 => if e3 = true then ((runes_Set_Not.f k [⟨5, 1114111⟩]).bind fun t4 => ((driftnetlaw09_is.f k t4 [0, 4]).bind fun e4 => if e4 = true then ((runes_Both.f k [⟨1, 5⟩, ⟨7, 9⟩] [⟨4, 8⟩]).bind fun t5 => ((driftnetlaw09_is.f k t5 [4, 5, 7, 8]).bind fun e5 => if e5 = true then ((runes_Join.f [[⟨1, 2⟩], [⟨4, 4⟩], [⟨3, 3⟩]]).bind fun t6 => ((driftnetlaw09_is.f k t6 [1, 4]).bind fun e6 => if e6 = true then (some true) else none)) else none)) else none)) else none)) else none)) else none)
theorem driftnetlaw09_awake.mono : ∀ k, LeO (driftnetlaw09_awake.f k ) (driftnetlaw09_awake.f (k + 1) ) := by
  intro k
  unfold driftnetlaw09_awake.f
  repeat' first
      | (with_reducible exact driftnetlaw09_is.mono _ _ _)
      | (with_reducible exact runes_Set_Not.mono _ _)
      | (with_reducible exact runes_Both.mono _ _ _)
      | (with_reducible exact LeO.refl _)
      | (with_reducible exact LeO.none _)
      | (with_reducible refine LeO.ite ?_ ?_)
      | (with_reducible refine LeO.bind ?_ (fun _ => ?_))
      | exact driftnetlaw09_is.mono _ _ _
      | exact runes_Set_Not.mono _ _
      | exact runes_Both.mono _ _ _
      | exact LeO.refl _
      | exact LeO.none _
      | refine LeO.ite ?_ ?_
      | refine LeO.bind ?_ (fun _ => ?_)
set_option maxHeartbeats 4000000 in
set_option maxRecDepth 100000 in
theorem driftnetlaw09_awake.calls (k : Nat) (r : Bool) (w : World) (h : driftnetlaw09_awake.f k = some r) :
    Calls Try.prog 14 #[] w fun e w' => e = .returned (.bool r) ∧ Below w.heap.size w w' := by
  unfold driftnetlaw09_awake.f at h
  obtain ⟨t1, a_, h_⟩ := Option.bind_eq_some_iff.mp h
  clear h
  have h := h_
  clear h_
  have Ht1 := Aside0.mk a_
  clear a_
  obtain ⟨e1, a_, h_⟩ := Option.bind_eq_some_iff.mp h
  clear h
  have h := h_
  clear h_
  have He1 := Aside0.mk a_
  clear a_
  by_cases hc_ : e1 = true
  rotate_left
  · rw [if_neg hc_] at h; cases h
  rw [if_pos hc_] at h
  rw [hc_] at He1
  clear hc_
  obtain ⟨t2, a_, h_⟩ := Option.bind_eq_some_iff.mp h
  clear h
  have h := h_
  clear h_
  have Ht2 := Aside0.mk a_
  clear a_
  obtain ⟨e2, a_, h_⟩ := Option.bind_eq_some_iff.mp h
  clear h
  have h := h_
  clear h_
  have He2 := Aside0.mk a_
  clear a_
  by_cases hc_ : e2 = true
  rotate_left
  · rw [if_neg hc_] at h; cases h
  rw [if_pos hc_] at h
  rw [hc_] at He2
  clear hc_
  obtain ⟨t3, a_, h_⟩ := Option.bind_eq_some_iff.mp h
  clear h
  have h := h_
  clear h_
  have Ht3 := Aside0.mk a_
  clear a_
  obtain ⟨e3, a_, h_⟩ := Option.bind_eq_some_iff.mp h
  clear h
  have h := h_
  clear h_
  have He3 := Aside0.mk a_
  clear a_
  by_cases hc_ : e3 = true
  rotate_left
  · rw [if_neg hc_] at h; cases h
  rw [if_pos hc_] at h
  rw [hc_] at He3
  clear hc_
  obtain ⟨t4, a_, h_⟩ := Option.bind_eq_some_iff.mp h
  clear h
  have h := h_
  clear h_
  have Ht4 := Aside0.mk a_
  clear a_
  obtain ⟨e4, a_, h_⟩ := Option.bind_eq_some_iff.mp h
  clear h
  have h := h_
  clear h_
  have He4 := Aside0.mk a_
  clear a_
  by_cases hc_ : e4 = true
  rotate_left
  · rw [if_neg hc_] at h; cases h
  rw [if_pos hc_] at h
  rw [hc_] at He4
  clear hc_
  obtain ⟨t5, a_, h_⟩ := Option.bind_eq_some_iff.mp h
  clear h
  have h := h_
  clear h_
  have Ht5 := Aside0.mk a_
  clear a_
  obtain ⟨e5, a_, h_⟩ := Option.bind_eq_some_iff.mp h
  clear h
  have h := h_
  clear h_
  have He5 := Aside0.mk a_
  clear a_
  by_cases hc_ : e5 = true
  rotate_left
  · rw [if_neg hc_] at h; cases h
  rw [if_pos hc_] at h
  rw [hc_] at He5
  clear hc_
  obtain ⟨t6, a_, h_⟩ := Option.bind_eq_some_iff.mp h
  clear h
  have h := h_
  clear h_
  have Ht6 := Aside0.mk a_
  clear a_
  obtain ⟨e6, a_, h_⟩ := Option.bind_eq_some_iff.mp h
  clear h
  have h := h_
  clear h_
  have He6 := Aside0.mk a_
  clear a_
  by_cases hc_ : e6 = true
  rotate_left
  · rw [if_neg hc_] at h; cases h
  rw [if_pos hc_] at h
  rw [hc_] at He6
  clear hc_
  obtain rfl := Option.some.inj h
  clear h
  have HB := Aside0.mk (Below.refl w.heap.size w)
  go_enter Try.func14, Try.ntmps14
  go_wp2_with fail
  with_reducible refine (of4c _ _ _ _ _ _ _ _ _ _ Ht1.out).mono ?_
  rintro e w101 ⟨v, rfl, ho, hb⟩
  obtain ⟨A_t1, c_t1, rfl, hlo, hC⟩ := Kd.R_reads ho
  clear ho
  have Z_ := Aside0.mk (below_step (by repeat (first | exact HB.out | apply below_alloc | apply pw_below_drewN | apply below_drew1)) hb)
  clear HB
  have HB := Z_
  clear Z_
  clear hb
  have R_t1 := Aside0.mk hC
  have C_t1 := Aside0.mk hlo
  clear hC hlo
  have B_t1 := Aside0.mk (Below.refl w101.heap.size w101)
  go_wp2_with fail
  with_reducible refine (is2c k _ _ _ _ t1 _ (by repeat (first | exact (Kd.C_below R_t1.out B_t1.out) | (with_reducible refine Kd.C_alloc ?_ _) | (with_reducible refine Kd.C_drewN ?_ _) | (with_reducible refine Kd.C_drew ?_))) C_t1.out He1.out).mono ?_
  rintro e w102 ⟨rfl, hb⟩
  have Z_ := Aside0.mk (below_step (by repeat (first | exact B_t1.out | apply below_alloc | apply pw_below_drewN | apply below_drew1)) hb)
  clear B_t1
  have B_t1 := Z_
  clear Z_
  have Z_ := Aside0.mk (below_step (by repeat (first | exact HB.out | apply below_alloc | apply pw_below_drewN | apply below_drew1)) hb)
  clear HB
  have HB := Z_
  clear Z_
  clear hb
  clear R_t1 C_t1 B_t1
  go_wp2_with fail
  with_reducible refine (not1c k _ _ _ _ Ht2.out).mono ?_
  rintro e w103 ⟨v, rfl, ho, hb⟩
  obtain ⟨A_t2, c_t2, rfl, hlo, hC⟩ := Kd.R_reads ho
  clear ho
  have Z_ := Aside0.mk (below_step (by repeat (first | exact HB.out | apply below_alloc | apply pw_below_drewN | apply below_drew1)) hb)
  clear HB
  have HB := Z_
  clear Z_
  clear hb
  have R_t2 := Aside0.mk hC
  have C_t2 := Aside0.mk hlo
  clear hC hlo
  have B_t2 := Aside0.mk (Below.refl w103.heap.size w103)
  go_wp2_with fail
  with_reducible refine (is2c k _ _ _ _ t2 _ (by repeat (first | exact (Kd.C_below R_t2.out B_t2.out) | (with_reducible refine Kd.C_alloc ?_ _) | (with_reducible refine Kd.C_drewN ?_ _) | (with_reducible refine Kd.C_drew ?_))) C_t2.out He2.out).mono ?_
  rintro e w104 ⟨rfl, hb⟩
  have Z_ := Aside0.mk (below_step (by repeat (first | exact B_t2.out | apply below_alloc | apply pw_below_drewN | apply below_drew1)) hb)
  clear B_t2
  have B_t2 := Z_
  clear Z_
  have Z_ := Aside0.mk (below_step (by repeat (first | exact HB.out | apply below_alloc | apply pw_below_drewN | apply below_drew1)) hb)
  clear HB
  have HB := Z_
  clear Z_
  clear hb
  clear R_t2 C_t2 B_t2
  go_wp2_with fail
  with_reducible refine (not0c k _ _ Ht3.out).mono ?_
  rintro e w105 ⟨v, rfl, ho, hb⟩
  obtain ⟨A_t3, c_t3, rfl, hlo, hC⟩ := Kd.R_reads ho
  clear ho
  have Z_ := Aside0.mk (below_step (by repeat (first | exact HB.out | apply below_alloc | apply pw_below_drewN | apply below_drew1)) hb)
  clear HB
  have HB := Z_
  clear Z_
  clear hb
  have R_t3 := Aside0.mk hC
  have C_t3 := Aside0.mk hlo
  clear hC hlo
  have B_t3 := Aside0.mk (Below.refl w105.heap.size w105)
  go_wp2_with fail
  with_reducible refine (is2c k _ _ _ _ t3 _ (by repeat (first | exact (Kd.C_below R_t3.out B_t3.out) | (with_reducible refine Kd.C_alloc ?_ _) | (with_reducible refine Kd.C_drewN ?_ _) | (with_reducible refine Kd.C_drew ?_))) C_t3.out He3.out).mono ?_
  rintro e w106 ⟨rfl, hb⟩
  have Z_ := Aside0.mk (below_step (by repeat (first | exact B_t3.out | apply below_alloc | apply pw_below_drewN | apply below_drew1)) hb)
  clear B_t3
  have B_t3 := Z_
  clear Z_
  have Z_ := Aside0.mk (below_step (by repeat (first | exact HB.out | apply below_alloc | apply pw_below_drewN | apply below_drew1)) hb)
  clear HB
  have HB := Z_
  clear Z_
  clear hb
  clear R_t3 C_t3 B_t3
  go_wp2_with fail
  with_reducible refine (not1c k _ _ _ _ Ht4.out).mono ?_
  rintro e w107 ⟨v, rfl, ho, hb⟩
  obtain ⟨A_t4, c_t4, rfl, hlo, hC⟩ := Kd.R_reads ho
  clear ho
  have Z_ := Aside0.mk (below_step (by repeat (first | exact HB.out | apply below_alloc | apply pw_below_drewN | apply below_drew1)) hb)
  clear HB
  have HB := Z_
  clear Z_
  clear hb
  have R_t4 := Aside0.mk hC
  have C_t4 := Aside0.mk hlo
  clear hC hlo
  have B_t4 := Aside0.mk (Below.refl w107.heap.size w107)
  go_wp2_with fail
  with_reducible refine (is2c k _ _ _ _ t4 _ (by repeat (first | exact (Kd.C_below R_t4.out B_t4.out) | (with_reducible refine Kd.C_alloc ?_ _) | (with_reducible refine Kd.C_drewN ?_ _) | (with_reducible refine Kd.C_drew ?_))) C_t4.out He4.out).mono ?_
  rintro e w108 ⟨rfl, hb⟩
  have Z_ := Aside0.mk (below_step (by repeat (first | exact B_t4.out | apply below_alloc | apply pw_below_drewN | apply below_drew1)) hb)
  clear B_t4
  have B_t4 := Z_
  clear Z_
  have Z_ := Aside0.mk (below_step (by repeat (first | exact HB.out | apply below_alloc | apply pw_below_drewN | apply below_drew1)) hb)
  clear HB
  have HB := Z_
  clear Z_
  clear hb
  clear R_t4 C_t4 B_t4
  go_wp2_with fail
  with_reducible refine (bothc k _ _ _ _ _ _ _ _ Ht5.out).mono ?_
  rintro e w109 ⟨v, rfl, ho, hb⟩
  obtain ⟨A_t5, c_t5, rfl, hlo, hC⟩ := Kd.R_reads ho
  clear ho
  have Z_ := Aside0.mk (below_step (by repeat (first | exact HB.out | apply below_alloc | apply pw_below_drewN | apply below_drew1)) hb)
  clear HB
  have HB := Z_
  clear Z_
  clear hb
  have R_t5 := Aside0.mk hC
  have C_t5 := Aside0.mk hlo
  clear hC hlo
  have B_t5 := Aside0.mk (Below.refl w109.heap.size w109)
  go_wp2_with fail
  with_reducible refine (is4c k _ _ _ _ _ _ t5 _ (by repeat (first | exact (Kd.C_below R_t5.out B_t5.out) | (with_reducible refine Kd.C_alloc ?_ _) | (with_reducible refine Kd.C_drewN ?_ _) | (with_reducible refine Kd.C_drew ?_))) C_t5.out He5.out).mono ?_
  rintro e w110 ⟨rfl, hb⟩
  have Z_ := Aside0.mk (below_step (by repeat (first | exact B_t5.out | apply below_alloc | apply pw_below_drewN | apply below_drew1)) hb)
  clear B_t5
  have B_t5 := Z_
  clear Z_
  have Z_ := Aside0.mk (below_step (by repeat (first | exact HB.out | apply below_alloc | apply pw_below_drewN | apply below_drew1)) hb)
  clear HB
  have HB := Z_
  clear Z_
  clear hb
  clear R_t5 C_t5 B_t5
  go_wp2_with fail
  with_reducible refine (join3c _ _ _ _ _ _ _ _ Ht6.out).mono ?_
  rintro e w111 ⟨v, rfl, ho, hb⟩
  obtain ⟨A_t6, c_t6, rfl, hlo, hC⟩ := Kd.R_reads ho
  clear ho
  have Z_ := Aside0.mk (below_step (by repeat (first | exact HB.out | apply below_alloc | apply pw_below_drewN | apply below_drew1)) hb)
  clear HB
  have HB := Z_
  clear Z_
  clear hb
  have R_t6 := Aside0.mk hC
  have C_t6 := Aside0.mk hlo
  clear hC hlo
  have B_t6 := Aside0.mk (Below.refl w111.heap.size w111)
  go_wp2_with fail
  with_reducible refine (is2c k _ _ _ _ t6 _ (by repeat (first | exact (Kd.C_below R_t6.out B_t6.out) | (with_reducible refine Kd.C_alloc ?_ _) | (with_reducible refine Kd.C_drewN ?_ _) | (with_reducible refine Kd.C_drew ?_))) C_t6.out He6.out).mono ?_
  rintro e w112 ⟨rfl, hb⟩
  have Z_ := Aside0.mk (below_step (by repeat (first | exact B_t6.out | apply below_alloc | apply pw_below_drewN | apply below_drew1)) hb)
  clear B_t6
  have B_t6 := Z_
  clear Z_
  have Z_ := Aside0.mk (below_step (by repeat (first | exact HB.out | apply below_alloc | apply pw_below_drewN | apply below_drew1)) hb)
  clear HB
  have HB := Z_
  clear Z_
  clear hb
  clear R_t6 C_t6 B_t6
  go_wp2_with fail
  go_ret
  exact ⟨rfl, by repeat (first | exact HB.out | apply below_alloc | apply pw_below_drewN | apply below_drew1)⟩


/-! ### driftnetref09_Equal: function 15 -/
def driftnetref09_Equal.l0 : Nat → List (S41) → List (S41) → Int → Option (Bool)
  | 0, _, _, _ => none
  | k + 1, x0, x1, x5 => if x5 < (x0.length : Int) then (if 0 ≤ x5 then (if x5 < (x1.length : Int) then (if (!(((rd_T41 x0 x5).f0) == ((rd_T41 x1 x5).f0)) || (!(((rd_T41 x0 x5).f1) == ((rd_T41 x1 x5).f1)))) = true then (some false) else (driftnetref09_Equal.l0 k x0 x1 (wrap64 (x5 + 1)))) else (none)) else (none)) else (some true)
def driftnetref09_Equal.f (k : Nat) (l0 : List (S41)) (l1 : List (S41)) : Option (Bool) := if (l0.length : Int) = (l1.length : Int) then (driftnetref09_Equal.l0 k l0 l1 0) else (some false)
theorem driftnetref09_Equal.mono_l : ∀ k, (∀ y0 y1 y2, LeO (driftnetref09_Equal.l0 k y0 y1 y2) (driftnetref09_Equal.l0 (k + 1) y0 y1 y2))
  | 0 => fun _ _ _ r h => by simp [driftnetref09_Equal.l0] at h
  | k + 1 => by
    have ih0 := driftnetref09_Equal.mono_l k
    · intro y0 y1 y2
      unfold driftnetref09_Equal.l0
      repeat' first
      | (with_reducible exact ih0 _ _ _)
      | (with_reducible exact LeO.refl _)
      | (with_reducible exact LeO.none _)
      | (with_reducible refine LeO.ite ?_ ?_)
      | (with_reducible refine LeO.bind ?_ (fun _ => ?_))
      | exact ih0 _ _ _
      | exact LeO.none _
      | refine LeO.ite ?_ ?_
      | refine LeO.bind ?_ (fun _ => ?_)
theorem driftnetref09_Equal.mono : ∀ a0 a1 k, LeO (driftnetref09_Equal.f k a0 a1) (driftnetref09_Equal.f (k + 1) a0 a1) := by
  intro a0 a1 k
  have ih0 := driftnetref09_Equal.mono_l k
  unfold driftnetref09_Equal.f
  repeat' first
      | (with_reducible exact ih0 _ _ _)
      | (with_reducible exact LeO.refl _)
      | (with_reducible exact LeO.none _)
      | (with_reducible refine LeO.ite ?_ ?_)
      | (with_reducible refine LeO.bind ?_ (fun _ => ?_))
      | exact ih0 _ _ _
      | exact LeO.none _
      | refine LeO.ite ?_ ?_
      | refine LeO.bind ?_ (fun _ => ?_)
set_option maxHeartbeats 8000000 in
set_option maxRecDepth 100000 in
theorem driftnetref09_Equal.calls (k : Nat) (A0 : Option Addr) (c0 : Nat) (l0 : List (S41)) (A1 : Option Addr) (c1 : Nat) (l1 : List (S41)) (r : Bool) (w : World) (hr0 : Kd.C k41 w A0 l0.length l0) (hc0 : l0.length ≤ c0) (hr1 : Kd.C k41 w A1 l1.length l1) (hc1 : l1.length ≤ c1) (h : driftnetref09_Equal.f k l0 l1 = some r) :
    Calls Try.prog 15 #[.slice A0 l0.length c0, .slice A1 l1.length c1] w fun e w' => e = .returned (.bool r) ∧ Drawn0 w w' := by
  have hu41 := Try.underlying41
  have HR0 := Aside0.mk hr0
  have HC0 := Aside0.mk hc0
  clear hr0 hc0
  have HR1 := Aside0.mk hr1
  have HC1 := Aside0.mk hc1
  clear hr1 hc1
  have H : (if (l0.length : Int) = (l1.length : Int) then (driftnetref09_Equal.l0 k l0 l1 0) else (some false)) = some r := h
  clear h
  by_cases c3 : (l0.length : Int) = (l1.length : Int)
  · rw [if_pos c3] at H
    have c3b0 : ((l0.length : Int) == (l1.length : Int)) = true := beq_iff_eq.mpr c3
    have c3b1 : ((l0.length : Int) != (l1.length : Int)) = false := bne_eq_false_iff_eq.mpr c3
    have c3b2 : (l0.length == l1.length) = true := by first | simpa using c3 | (simp at c3 ⊢; omega)
    clear c3
    have H' := Aside0.mk H
    clear H
    go_enter Try.func15, Try.ntmps15
    go_wp2
    repeat (go_quiet (fail); try go_wp2)
    go_loopg [5] k (fun kq v5 w' => ∃ (x5_1 : Int), v5 = .int .i64 x5_1 ∧ Aside0 (driftnetref09_Equal.l0 kq l0 l1 x5_1 = some r) ∧ Aside0 (kq ≤ k) ∧ Drawn0 w w')
    case atStart => exact ⟨(0), (by first | rfl | (simp; done) | (simp [*]; done)), H', ⟨Nat.le_refl _⟩, by repeat (first | exact Drawn0.refl _ | apply Drawn0.step)⟩
    case round =>
      clear H'
      try clear c1
      try clear p2
      try clear c3
      try clear c3b0
      try clear c3b1
      try clear c3b2
      obtain ⟨x5_1, rfl, HA, HK1, ⟨m1, rfl⟩⟩ := hrel
      cases gk with
      | zero => exact absurd HA.out (by simp [driftnetref09_Equal.l0])
      | succ k1 =>
        have H := HA.out
        clear HA
        simp only [driftnetref09_Equal.l0] at H
        by_cases c4 : x5_1 < (l0.length : Int)
        · rw [if_pos c4] at H
          have c4b0 : decide (x5_1 < (l0.length : Int)) = true := decide_eq_true c4
          clear c4
          by_cases c5 : 0 ≤ x5_1
          · rw [if_pos c5] at H
            have c5b0 : decide (0 ≤ x5_1) = true := decide_eq_true c5
            clear c5
            by_cases c6 : x5_1 < (l1.length : Int)
            · rw [if_pos c6] at H
              have c6b0 : decide (x5_1 < (l1.length : Int)) = true := decide_eq_true c6
              clear c6
              by_cases c7 : (!(((rd_T41 l0 x5_1).f0) == ((rd_T41 l1 x5_1).f0)) || (!(((rd_T41 l0 x5_1).f1) == ((rd_T41 l1 x5_1).f1)))) = true
              · rw [if_pos c7] at H
                have c7b0 : (!(((rd_T41 l0 x5_1).f0) == ((rd_T41 l1 x5_1).f0)) || (!(((rd_T41 l0 x5_1).f1) == ((rd_T41 l1 x5_1).f1)))) = true := c7
                clear c7
                obtain rfl := Option.some.inj H
                have p141 : 0 ≤ (x5_1 : Int) := of_decide_eq_true (by first | (with_reducible assumption) | assumption)
                have q141 : x5_1 < (l0.length : Int) := of_decide_eq_true (by first | (with_reducible assumption) | assumption)
                obtain ⟨ad141, e141, hx141_0, hx141_1⟩ := at_T41 HR0.out x5_1 p141 q141
                cases e141
                replace p141 := eq_true p141
                replace q141 := eq_true q141
                have p142 : 0 ≤ (x5_1 : Int) := of_decide_eq_true (by first | (with_reducible assumption) | assumption)
                have q142 : x5_1 < (l1.length : Int) := of_decide_eq_true (by first | (with_reducible assumption) | assumption)
                obtain ⟨ad142, e142, hx142_0, hx142_1⟩ := at_T41 HR1.out x5_1 p142 q142
                cases e142
                replace p142 := eq_true p142
                replace q142 := eq_true q142
                go_wp2
                repeat (go_quiet (fail); try go_wp2)
                go_ret
                exact ⟨by first | rfl | (simp; done) | (simp [*]; done), by repeat (first | exact Drawn0.refl _ | apply Drawn0.step)⟩
              · rw [if_neg c7] at H
                have c7b0 : (!(((rd_T41 l0 x5_1).f0) == ((rd_T41 l1 x5_1).f0)) || (!(((rd_T41 l0 x5_1).f1) == ((rd_T41 l1 x5_1).f1)))) = false := by simpa using c7
                clear c7
                have H' := Aside0.mk H
                clear H
                have p141 : 0 ≤ (x5_1 : Int) := of_decide_eq_true (by first | (with_reducible assumption) | assumption)
                have q141 : x5_1 < (l0.length : Int) := of_decide_eq_true (by first | (with_reducible assumption) | assumption)
                obtain ⟨ad141, e141, hx141_0, hx141_1⟩ := at_T41 HR0.out x5_1 p141 q141
                cases e141
                replace p141 := eq_true p141
                replace q141 := eq_true q141
                have p142 : 0 ≤ (x5_1 : Int) := of_decide_eq_true (by first | (with_reducible assumption) | assumption)
                have q142 : x5_1 < (l1.length : Int) := of_decide_eq_true (by first | (with_reducible assumption) | assumption)
                obtain ⟨ad142, e142, hx142_0, hx142_1⟩ := at_T41 HR1.out x5_1 p142 q142
                cases e142
                replace p142 := eq_true p142
                replace q142 := eq_true q142
                go_wp2
                repeat (go_quiet (fail); try go_wp2)
                go_roundg k1
                case measure => have := HK1.out; omega
                case rel => exact ⟨(wrap64 (x5_1 + 1)), (by first | rfl | (simp; done) | (simp [*]; done)), H', ⟨by have := HK1.out; omega⟩, by repeat (first | exact Drawn0.refl _ | apply Drawn0.step)⟩
            · rw [if_neg c6] at H
              exact absurd H (by simp)
          · rw [if_neg c5] at H
            exact absurd H (by simp)
        · rw [if_neg c4] at H
          have c4b0 : decide (x5_1 < (l0.length : Int)) = false := decide_eq_false c4
          clear c4
          obtain rfl := Option.some.inj H
          go_wp2
          repeat (go_quiet (fail); try go_wp2)
          go_ret
          exact ⟨by first | rfl | (simp; done) | (simp [*]; done), by repeat (first | exact Drawn0.refl _ | apply Drawn0.step)⟩
  · rw [if_neg c3] at H
    have c3b0 : ((l0.length : Int) == (l1.length : Int)) = false := beq_eq_false_iff_ne.mpr c3
    have c3b1 : ((l0.length : Int) != (l1.length : Int)) = true := bne_iff_ne.mpr c3
    have c3b2 : (l0.length == l1.length) = false := by first | simpa using c3 | (simp at c3 ⊢; omega)
    obtain rfl := Option.some.inj H
    go_enter Try.func15, Try.ntmps15
    go_wp2
    repeat (go_quiet (fail); try go_wp2)
    go_ret
    exact ⟨by first | rfl | (simp; done) | (simp [*]; done), by repeat (first | exact Drawn0.refl _ | apply Drawn0.step)⟩

/-! ### driftnetref09_Has: function 27 -/
def driftnetref09_Has.l0 : Nat → List (S41) → Int → Int → Option (Bool)
  | 0, _, _, _ => none
  | k + 1, x0, x1, x5 => if x5 < (x0.length : Int) then (if x1 ≥ 0 then (if x1 ≤ 1114111 then (if 0 ≤ x5 then (if ((rd_T41 x0 x5).f0) ≤ x1 then (if x1 ≤ ((rd_T41 x0 x5).f1) then (some true) else (driftnetref09_Has.l0 k x0 x1 (wrap64 (x5 + 1)))) else (driftnetref09_Has.l0 k x0 x1 (wrap64 (x5 + 1)))) else (none)) else (driftnetref09_Has.l0 k x0 x1 (wrap64 (x5 + 1)))) else (driftnetref09_Has.l0 k x0 x1 (wrap64 (x5 + 1)))) else (some false)
def driftnetref09_Has.f (k : Nat) (l0 : List (S41)) (a1 : Int) : Option (Bool) := driftnetref09_Has.l0 k l0 a1 0
theorem driftnetref09_Has.mono_l : ∀ k, (∀ y0 y1 y2, LeO (driftnetref09_Has.l0 k y0 y1 y2) (driftnetref09_Has.l0 (k + 1) y0 y1 y2))
  | 0 => fun _ _ _ r h => by simp [driftnetref09_Has.l0] at h
  | k + 1 => by
    have ih0 := driftnetref09_Has.mono_l k
    · intro y0 y1 y2
      unfold driftnetref09_Has.l0
      repeat' first
      | (with_reducible exact ih0 _ _ _)
      | (with_reducible exact LeO.refl _)
      | (with_reducible exact LeO.none _)
      | (with_reducible refine LeO.ite ?_ ?_)
      | (with_reducible refine LeO.bind ?_ (fun _ => ?_))
      | exact ih0 _ _ _
      | exact LeO.none _
      | refine LeO.ite ?_ ?_
      | refine LeO.bind ?_ (fun _ => ?_)
theorem driftnetref09_Has.mono : ∀ a0 a1 k, LeO (driftnetref09_Has.f k a0 a1) (driftnetref09_Has.f (k + 1) a0 a1) := by
  intro a0 a1 k
  have ih0 := driftnetref09_Has.mono_l k
  unfold driftnetref09_Has.f
  repeat' first
      | (with_reducible exact ih0 _ _ _)
      | (with_reducible exact LeO.refl _)
      | (with_reducible exact LeO.none _)
      | (with_reducible refine LeO.ite ?_ ?_)
      | (with_reducible refine LeO.bind ?_ (fun _ => ?_))
      | exact ih0 _ _ _
      | exact LeO.none _
      | refine LeO.ite ?_ ?_
      | refine LeO.bind ?_ (fun _ => ?_)
set_option maxHeartbeats 8000000 in
set_option maxRecDepth 100000 in
theorem driftnetref09_Has.calls (k : Nat) (A0 : Option Addr) (c0 : Nat) (l0 : List (S41)) (a1 : Int) (r : Bool) (w : World) (hr0 : Kd.C k41 w A0 l0.length l0) (hc0 : l0.length ≤ c0) (h : driftnetref09_Has.f k l0 a1 = some r) :
    Calls Try.prog 27 #[.slice A0 l0.length c0, .int .i64 a1] w fun e w' => e = .returned (.bool r) ∧ Drawn0 w w' := by
  have HR0 := Aside0.mk hr0
  have HC0 := Aside0.mk hc0
  clear hr0 hc0
  have H : (driftnetref09_Has.l0 k l0 a1 0) = some r := h
  clear h
  have H' := Aside0.mk H
  clear H
  go_enter Try.func27, Try.ntmps27
  go_wp2
  go_loopg [5] k (fun kq v5 w' => ∃ (x5_1 : Int), v5 = .int .i64 x5_1 ∧ Aside0 (driftnetref09_Has.l0 kq l0 a1 x5_1 = some r) ∧ Aside0 (kq ≤ k) ∧ Drawn0 w w')
  case atStart => exact ⟨(0), (by first | rfl | (simp; done) | (simp [*]; done)), H', ⟨Nat.le_refl _⟩, by repeat (first | exact Drawn0.refl _ | apply Drawn0.step)⟩
  case round =>
    clear H'
    try clear c2
    try clear p2
    obtain ⟨x5_1, rfl, HA, HK1, ⟨m1, rfl⟩⟩ := hrel
    cases gk with
    | zero => exact absurd HA.out (by simp [driftnetref09_Has.l0])
    | succ k1 =>
      have H := HA.out
      clear HA
      simp only [driftnetref09_Has.l0] at H
      by_cases c3 : x5_1 < (l0.length : Int)
      · rw [if_pos c3] at H
        have c3b0 : decide (x5_1 < (l0.length : Int)) = true := decide_eq_true c3
        clear c3
        by_cases c4 : a1 ≥ 0
        · rw [if_pos c4] at H
          have c4b0 : decide (0 ≤ a1) = true := decide_eq_true c4
          clear c4
          by_cases c5 : a1 ≤ 1114111
          · rw [if_pos c5] at H
            have c5b0 : decide (a1 ≤ 1114111) = true := decide_eq_true c5
            clear c5
            by_cases c6 : 0 ≤ x5_1
            · rw [if_pos c6] at H
              have c6b0 : decide (0 ≤ x5_1) = true := decide_eq_true c6
              clear c6
              by_cases c7 : ((rd_T41 l0 x5_1).f0) ≤ a1
              · rw [if_pos c7] at H
                have c7b0 : decide (((rd_T41 l0 x5_1).f0) ≤ a1) = true := decide_eq_true c7
                clear c7
                by_cases c8 : a1 ≤ ((rd_T41 l0 x5_1).f1)
                · rw [if_pos c8] at H
                  have c8b0 : decide (a1 ≤ ((rd_T41 l0 x5_1).f1)) = true := decide_eq_true c8
                  clear c8
                  obtain rfl := Option.some.inj H
                  have p143 : 0 ≤ (x5_1 : Int) := of_decide_eq_true (by first | (with_reducible assumption) | assumption)
                  have q143 : x5_1 < (l0.length : Int) := of_decide_eq_true (by first | (with_reducible assumption) | assumption)
                  obtain ⟨ad143, e143, hx143_0, hx143_1⟩ := at_T41 HR0.out x5_1 p143 q143
                  cases e143
                  replace p143 := eq_true p143
                  replace q143 := eq_true q143
                  have p144 : 0 ≤ (x5_1 : Int) := of_decide_eq_true (by first | (with_reducible assumption) | assumption)
                  have q144 : x5_1 < (l0.length : Int) := of_decide_eq_true (by first | (with_reducible assumption) | assumption)
                  obtain ⟨ad144, e144, hx144_0, hx144_1⟩ := at_T41 HR0.out x5_1 p144 q144
                  obtain rfl : ad143 = ad144 := (by injection e144)
                  replace p144 := eq_true p144
                  replace q144 := eq_true q144
                  go_wp2
                  go_ret
                  exact ⟨by first | rfl | (simp; done) | (simp [*]; done), by repeat (first | exact Drawn0.refl _ | apply Drawn0.step)⟩
                · rw [if_neg c8] at H
                  have c8b0 : decide (a1 ≤ ((rd_T41 l0 x5_1).f1)) = false := decide_eq_false c8
                  clear c8
                  have H' := Aside0.mk H
                  clear H
                  have p143 : 0 ≤ (x5_1 : Int) := of_decide_eq_true (by first | (with_reducible assumption) | assumption)
                  have q143 : x5_1 < (l0.length : Int) := of_decide_eq_true (by first | (with_reducible assumption) | assumption)
                  obtain ⟨ad143, e143, hx143_0, hx143_1⟩ := at_T41 HR0.out x5_1 p143 q143
                  cases e143
                  replace p143 := eq_true p143
                  replace q143 := eq_true q143
                  have p144 : 0 ≤ (x5_1 : Int) := of_decide_eq_true (by first | (with_reducible assumption) | assumption)
                  have q144 : x5_1 < (l0.length : Int) := of_decide_eq_true (by first | (with_reducible assumption) | assumption)
                  obtain ⟨ad144, e144, hx144_0, hx144_1⟩ := at_T41 HR0.out x5_1 p144 q144
                  obtain rfl : ad143 = ad144 := (by injection e144)
                  replace p144 := eq_true p144
                  replace q144 := eq_true q144
                  go_wp2
                  go_roundg k1
                  case measure => have := HK1.out; omega
                  case rel => exact ⟨(wrap64 (x5_1 + 1)), (by first | rfl | (simp; done) | (simp [*]; done)), H', ⟨by have := HK1.out; omega⟩, by repeat (first | exact Drawn0.refl _ | apply Drawn0.step)⟩
              · rw [if_neg c7] at H
                have c7b0 : decide (((rd_T41 l0 x5_1).f0) ≤ a1) = false := decide_eq_false c7
                clear c7
                have H' := Aside0.mk H
                clear H
                have p143 : 0 ≤ (x5_1 : Int) := of_decide_eq_true (by first | (with_reducible assumption) | assumption)
                have q143 : x5_1 < (l0.length : Int) := of_decide_eq_true (by first | (with_reducible assumption) | assumption)
                obtain ⟨ad143, e143, hx143_0, hx143_1⟩ := at_T41 HR0.out x5_1 p143 q143
                cases e143
                replace p143 := eq_true p143
                replace q143 := eq_true q143
                go_wp2
                go_roundg k1
                case measure => have := HK1.out; omega
                case rel => exact ⟨(wrap64 (x5_1 + 1)), (by first | rfl | (simp; done) | (simp [*]; done)), H', ⟨by have := HK1.out; omega⟩, by repeat (first | exact Drawn0.refl _ | apply Drawn0.step)⟩
            · rw [if_neg c6] at H
              exact absurd H (by simp)
          · rw [if_neg c5] at H
            have c5b0 : decide (a1 ≤ 1114111) = false := decide_eq_false c5
            clear c5
            have H' := Aside0.mk H
            clear H
            go_wp2
            go_roundg k1
            case measure => have := HK1.out; omega
            case rel => exact ⟨(wrap64 (x5_1 + 1)), (by first | rfl | (simp; done) | (simp [*]; done)), H', ⟨by have := HK1.out; omega⟩, by repeat (first | exact Drawn0.refl _ | apply Drawn0.step)⟩
        · rw [if_neg c4] at H
          have c4b0 : decide (0 ≤ a1) = false := decide_eq_false c4
          clear c4
          have H' := Aside0.mk H
          clear H
          go_wp2
          go_roundg k1
          case measure => have := HK1.out; omega
          case rel => exact ⟨(wrap64 (x5_1 + 1)), (by first | rfl | (simp; done) | (simp [*]; done)), H', ⟨by have := HK1.out; omega⟩, by repeat (first | exact Drawn0.refl _ | apply Drawn0.step)⟩
      · rw [if_neg c3] at H
        have c3b0 : decide (x5_1 < (l0.length : Int)) = false := decide_eq_false c3
        clear c3
        obtain rfl := Option.some.inj H
        go_wp2
        go_ret
        exact ⟨by first | rfl | (simp; done) | (simp [*]; done), by repeat (first | exact Drawn0.refl _ | apply Drawn0.step)⟩

end Go.Proofs.Ytoihjhpabccigaa.PR
