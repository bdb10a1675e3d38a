/- The chapter's examples, and the laws on how many and on sets, plainly. -/
import Derived.Test.YtoihjhpabccigaaPQ2
namespace Go.Proofs.Ytoihjhpabccigaa.PQ
open Go.RowKit Go.Proofs.Ytoihjhpabccigaa.PR Go.Proofs.Ytoihjhpabccigaa.OF Go.Proofs.YtoihjhpabccigaaW.PrintWords
set_option linter.unusedVariables false
theorem is1 (a b : Int) (h0 : 0 ≤ a) (h1 : b ≤ 1114111) : Ev (fun k => driftnetlaw09_is.f k [⟨a, b⟩] [a, b]) true := by
  unfold driftnetlaw09_is.f
  refine Ev.pos (by simp [wrap64]) (Ev.succ ?_)
  simp [driftnetlaw09_is.l0, rd_T38, rd, wrap64]
  refine Ev.succ ?_
  simp [driftnetlaw09_is.l0]
  exact Ev.now _
theorem is2 (a b c d : Int) : Ev (fun k => driftnetlaw09_is.f k [⟨a, b⟩, ⟨c, d⟩] [a, b, c, d]) true := by
  unfold driftnetlaw09_is.f
  refine Ev.pos (by simp [wrap64]) (Ev.succ ?_)
  simp [driftnetlaw09_is.l0, rd_T38, rd, wrap64]
  refine Ev.succ ?_
  simp [driftnetlaw09_is.l0, rd_T38, rd, wrap64]
  refine Ev.succ ?_
  simp [driftnetlaw09_is.l0]
  exact Ev.now _
theorem canon1 (a b : Int) (h0 : 0 ≤ a) (h1 : a ≤ b) (h2 : b ≤ 1114111) : Canon [⟨a, b⟩] :=
  ⟨fun x hx => by rw [List.mem_singleton] at hx; subst hx; exact ⟨h0, h1, h2⟩, List.pairwise_singleton _ _⟩
theorem ex1 : norm [⟨5, 7⟩, ⟨1, 2⟩, ⟨3, 4⟩, ⟨9, 8⟩] = [⟨1, 7⟩] :=
  norm_eq (canon1 _ _ (by omega) (by omega) (by omega)) (fun n => by simp only [hasL_iff, mem_cons, mem_nil, or_false]; omega)
theorem ex2 : neg [⟨0, 9⟩] = [⟨10, 1114111⟩] :=
  Canon.unique (neg_canon _).1 (canon1 _ _ (by omega) (by omega) (by omega)) (fun n => by rw [(neg_canon _).2.1, ← Bool.not_eq_true]; simp only [hasL_iff, mem_cons, mem_nil, or_false]; omega)
theorem ex3 : neg [] = [⟨0, 1114111⟩] :=
  Canon.unique (neg_canon _).1 (canon1 _ _ (by omega) (by omega) (by omega)) (fun n => by rw [(neg_canon _).2.1, ← Bool.not_eq_true]; simp [hasL_iff, mem_cons, mem_nil])
theorem ex4 : neg [⟨5, 1114111⟩] = [⟨0, 4⟩] :=
  Canon.unique (neg_canon _).1 (canon1 _ _ (by omega) (by omega) (by omega)) (fun n => by rw [(neg_canon _).2.1, ← Bool.not_eq_true]; simp only [hasL_iff, mem_cons, mem_nil, or_false]; omega)
theorem ex5 : both [⟨1, 5⟩, ⟨7, 9⟩] [⟨4, 8⟩] = [⟨4, 5⟩, ⟨7, 8⟩] :=
  canon_eq (both_canon _ _) ⟨fun x hx => by
    rcases List.mem_cons.1 hx with rfl | hx
    · exact ⟨by decide, by decide, by decide⟩
    · rw [List.mem_singleton] at hx; subst hx; exact ⟨by decide, by decide, by decide⟩, by simp⟩ (fun n => by
    rw [hasL_both, Bool.eq_iff_iff, Bool.and_eq_true, hasL_iff, hasL_iff, hasL_iff]
    simp only [mem_cons, mem_nil, or_false]
    omega)
theorem ex6 : norm ([[⟨1, 2⟩], [⟨4, 4⟩], [⟨3, 3⟩]] : List (List S38)).flatten = [⟨1, 4⟩] :=
  norm_eq (canon1 _ _ (by omega) (by omega) (by omega)) (fun n => by simp only [List.flatten_cons, List.flatten_nil, List.append_nil, hasL_iff, mem_append, mem_cons, mem_nil, or_false]; omega)
theorem awake_ev : Ev (fun k => driftnetlaw09_awake.f k) true := by
  unfold driftnetlaw09_awake.f
  refine Ev.one (Of_ev _ (by simp)) ?_
  rw [ex1]
  have n2 := Not_ev [⟨0, 9⟩] (by simp)
  have n3 := Not_ev [] (by simp)
  have n4 := Not_ev [⟨5, 1114111⟩] (by simp)
  have n5 := Both_ev [⟨1, 5⟩, ⟨7, 9⟩] [⟨4, 8⟩] (by simp) (by simp)
  rw [ex2] at n2
  rw [ex3] at n3
  rw [ex4] at n4
  rw [ex5] at n5
  refine Ev.bind (is1 1 7 (by omega) (by omega)) (Ev.pos rfl (Ev.bind n2 (Ev.bind (is1 10 1114111 (by omega) (by omega)) (Ev.pos rfl (Ev.bind n3 (Ev.bind (is1 0 1114111 (by omega) (by omega)) (Ev.pos rfl ?_)))))))
  refine Ev.bind n4 (Ev.bind (is1 0 4 (by omega) (by omega)) (Ev.pos rfl (Ev.bind n5 (Ev.bind (is2 4 5 7 8) (Ev.pos rfl (Ev.one (Join_ev _ (by simp) (by simp)) ?_))))))
  rw [ex6]
  exact Ev.bind (is1 1 4 (by omega) (by omega)) (Ev.pos rfl (Ev.now _))
theorem count_ev (L M : List S41) : Ev (fun k => driftnetlaw09_RunesCount.f k L M) true := by
  unfold driftnetlaw09_RunesCount.f
  have a4 : (L.take 15).length ≤ 15 := by rw [List.length_take]; omega
  have b4 : (M.take 15).length ≤ 15 := by rw [List.length_take]; omega
  generalize L.take 15 = L at a4
  generalize M.take 15 = M at b4
  refine Ev.bind (set_ev L (by omega)) (Ev.bind (set_ev M (by omega)) ?_)
  have la : (L.map t38).length ≤ 15 := by rw [List.length_map]; exact a4
  have lb : (M.map t38).length ≤ 15 := by rw [List.length_map]; exact b4
  generalize L.map t38 = x at la ⊢
  generalize M.map t38 = y at lb ⊢
  have hf : ([x, y] : List (List S38)).flatten = x ++ y := by simp
  have hfl : ([x, y] : List (List S38)).flatten.length ≤ 1000000 := by rw [hf, List.length_append]; omega
  have s1 := Size_ev (norm ([x, y] : List (List S38)).flatten) (Nat.le_trans (norm_len _) hfl)
  rw [norm_self (norm_canon _).1, hf] at s1
  have hb : (both x y).length ≤ 1000000 := by
    have h1 := (neg_canon (neg x ++ neg y)).2.2
    have h2 := (neg_canon x).2.2
    have h3 := (neg_canon y).2.2
    rw [List.length_append] at h1
    have : (both x y).length = (neg (neg x ++ neg y)).length := rfl
    omega
  have s2 := Size_ev (both x y) hb
  rw [norm_self (both_canon _ _)] at s2
  have e1 := size_two x y
  have e2 := size_neg x
  have d1 := size_bd0 (norm_canon (x ++ y)).1
  have d2 := size_bd0 (both_canon x y)
  have d3 := size_bd0 (norm_canon x).1
  have d4 := size_bd0 (norm_canon y).1
  have d5 := size_bd0 (norm_canon (neg x)).1
  refine Ev.one (Join_ev _ (by simp) hfl) ?_
  rw [hf] at *
  refine Ev.bind s1 (Ev.bind (Both_ev x y (by omega) (by omega)) (Ev.bind s2 (Ev.bind (Size_ev x (by omega)) (Ev.bind (Size_ev y (by omega)) (Ev.pos (by omega) (Ev.pos e1 ?_))))))
  exact Ev.bind (Not_ev x (by omega)) (Ev.bind (Size_ev (neg x) (by have := (neg_canon x).2.2; omega)) (Ev.pos (by omega) (Ev.pos e2 (Ev.bind awake_ev (Ev.pos rfl (Ev.now _))))))
theorem sets_ev (L : List S41) (r : Int) : Ev (fun k => driftnetlaw09_RunesSets.f k L r) true := by
  unfold driftnetlaw09_RunesSets.f
  have a4 : (L.take 20).length ≤ 20 := by rw [List.length_take]; omega
  generalize L.take 20 = L at a4
  have la : (L.map t38).length ≤ 20 := by rw [List.length_map]; exact a4
  have ln := norm_len (L.map t38)
  have lg := (neg_canon (L.map t38)).2.2
  have q1 := Equal_ev ((norm (L.map t38)).map t41) ((norm (L.map t38)).map t41) (by rw [List.length_map]; omega)
  have q2 := Equal_ev ((neg (L.map t38)).map t41) ((neg (L.map t38)).map t41) (by rw [List.length_map]; omega)
  rw [decide_eq_true rfl] at q1 q2
  refine Ev.bind (set_ev L (by omega)) (Ev.one (Of_ev _ (by omega)) (Ev.bind (ranges_ev _ (by omega)) (Ev.bind (refOf_ev L (by omega)) (Ev.bind q1 (Ev.pos rfl ?_)))))
  refine Ev.bind (Not_ev _ (by omega)) (Ev.bind (ranges_ev _ (by omega)) (Ev.bind (refNot_ev L (by omega)) (Ev.bind q2 (Ev.pos rfl ?_))))
  refine Ev.bind (Check_ev _ (by omega)) (Ev.bind (refCheck_ev L (by omega)) (Ev.pos rfl ?_))
  refine Ev.bind (Size_ev _ (by omega)) (Ev.bind (refSize_ev L (by omega)) (Ev.pos rfl ?_))
  have hh : runes_Set_Has.f (L.map t38) r = some (hasL (L.map t38) r) := by unfold runes_Set_Has.f; rw [if_pos (by omega)]
  refine Ev.one hh (Ev.bind (refHas_ev L r (by omega)) (Ev.pos rfl ?_))
  have h1 := ranges_ev (L.map t38) (by omega)
  rw [map_41_38] at h1
  have h2 := Equal_ev L L (by omega)
  rw [decide_eq_true rfl] at h2
  exact Ev.bind h1 (Ev.bind h2 (Ev.pos rfl (Ev.bind awake_ev (Ev.pos rfl (Ev.now _)))))
end Go.Proofs.Ytoihjhpabccigaa.PQ
