/- The laws on two sets, plainly. -/
import Derived.Test.YtoihjhpabccigaaPQ3
namespace Go.Proofs.Ytoihjhpabccigaa.PQ
open Go.RowKit Go.Proofs.Ytoihjhpabccigaa.PR Go.Proofs.Ytoihjhpabccigaa.OF Go.Proofs.YtoihjhpabccigaaW.PrintWords
set_option linter.unusedVariables false
theorem EqT (L : List S41) (hL : L.length ≤ 1000000) : Ev (fun k => driftnetref09_Equal.f k L L) true := by
  have h := Equal_ev L L hL
  rwa [decide_eq_true rfl] at h
theorem both_len (a b : List S38) : (both a b).length ≤ a.length + b.length + 3 := by
  have h1 := (neg_canon (neg a ++ neg b)).2.2
  have h2 := (neg_canon a).2.2
  have h3 := (neg_canon b).2.2
  rw [List.length_append] at h1
  have : (both a b).length = (neg (neg a ++ neg b)).length := rfl
  omega
theorem flat2 (a b : List S38) : ([a, b] : List (List S38)).flatten = a ++ b := by simp
theorem Join2 (a b : List S38) (h : a.length + b.length ≤ 1000000) : runes_Join.f [a, b] = some (norm (a ++ b)) := by
  rw [← flat2]
  exact Join_ev _ (by simp) (by rw [flat2, List.length_append]; exact h)
theorem two_ev (L M : List S41) : Ev (fun k => driftnetlaw09_RunesTwo.f k L M) true := by
  unfold driftnetlaw09_RunesTwo.f
  have la : (L.take 15).length ≤ 15 := by rw [List.length_take]; omega
  have lb : (M.take 15).length ≤ 15 := by rw [List.length_take]; omega
  generalize L.take 15 = a at la
  generalize M.take 15 = b at lb
  have lx : (a.map t38).length ≤ 15 := by rw [List.length_map]; exact la
  have ly : (b.map t38).length ≤ 15 := by rw [List.length_map]; exact lb
  have hn := norm_len (a.map t38 ++ b.map t38)
  have hb := both_len (a.map t38) (b.map t38)
  have hna := norm_len (a.map t38)
  rw [List.length_append] at hn
  refine Ev.bind (set_ev a (by omega)) (Ev.bind (set_ev b (by omega)) (Ev.bind (refOf_ev a (by omega)) (Ev.bind (refOf_ev b (by omega)) (Ev.bind (Equal_ev _ _ (by rw [List.length_map]; omega)) ?_))))
  have h1 := refOf_ev (a ++ b) (by rw [List.length_append]; omega)
  rw [List.map_append] at h1
  refine Ev.one (Join2 _ _ (by omega)) (Ev.bind (ranges_ev _ (by omega)) (Ev.bind h1 (Ev.bind (EqT _ (by rw [List.length_map]; omega)) (Ev.pos rfl ?_))))
  refine Ev.bind (Both_ev _ _ (by omega) (by omega)) (Ev.bind (ranges_ev _ (by omega)) (Ev.bind (refBoth_ev a b (by omega) (by omega)) (Ev.bind (EqT _ (by rw [List.length_map]; omega)) (Ev.pos rfl ?_))))
  refine Ev.bind (Same_ev _ _ (by omega) (by omega)) (Ev.pos (decide_eq_decide.2 inj41.symm) ?_)
  have h2 := ranges_ev (a.map t38) (by omega)
  rw [map_41_38] at h2
  exact Ev.bind h2 (Ev.bind (EqT _ (by omega)) (Ev.pos rfl (Ev.bind awake_ev (Ev.pos rfl (Ev.now _)))))
theorem hasL_flat (x : List S38) (n : Int) : hasL (backL x) n = hasL x n := by
  rw [Bool.eq_iff_iff, hasL_iff, hasL_iff]
  have h : mem (backL x) n ↔ mem x n := by
    unfold mem backL
    simp only [List.mem_flatten, List.mem_map, List.mem_reverse]
    constructor
    · rintro ⟨y, ⟨l, ⟨z, hz, rfl⟩, hy⟩, h⟩
      simp at hy
      subst hy
      exact ⟨y, hz, h⟩
    · rintro ⟨y, hy, h⟩
      exact ⟨y, ⟨[y, y], ⟨y, hy, rfl⟩, by simp⟩, h⟩
  rw [h]
theorem norm_congr {a b : List S38} (h : ∀ n, hasL a n = hasL b n) : norm a = norm b := canon_eq (norm_canon _).1 (norm_canon _).1 (fun n => by rw [hasL_norm, hasL_norm, h])
theorem neg_neg_ (a : List S38) : neg (neg a) = norm a := canon_eq (neg_canon _).1 (norm_canon _).1 (fun n => by
  rw [hasL_neg, hasL_neg, hasL_norm]
  have h : hasL a n = true → 0 ≤ n ∧ n ≤ 1114111 := fun h => ⟨((hasL_iff _ _).1 h).1, ((hasL_iff _ _).1 h).2.1⟩
  by_cases h0 : 0 ≤ n <;> by_cases h1 : n ≤ 1114111 <;> cases ha : hasL a n <;> simp_all)
theorem neg_join (a b : List S38) : neg (norm (a ++ b)) = both (neg a) (neg b) := canon_eq (neg_canon _).1 (both_canon _ _) (fun n => by
  rw [hasL_neg, hasL_norm, hasL_append, hasL_both, hasL_neg, hasL_neg]
  by_cases h0 : 0 ≤ n <;> by_cases h1 : n ≤ 1114111 <;> cases ha : hasL a n <;> cases hb : hasL b n <;> simp_all)
theorem backL_len_ (x : List S38) : (backL x).length = 2 * x.length := by
  unfold backL
  induction x with
  | nil => rfl
  | cons a r ih => rw [List.reverse_cons, List.map_append, List.flatten_append, List.length_append, ih]; simp; omega
theorem once_ev (L M : List S41) : Ev (fun k => driftnetlaw09_RunesOnce.f k L M) true := by
  unfold driftnetlaw09_RunesOnce.f
  have la : (L.take 15).length ≤ 15 := by rw [List.length_take]; omega
  have lb : (M.take 15).length ≤ 15 := by rw [List.length_take]; omega
  generalize L.take 15 = a at la
  generalize M.take 15 = b at lb
  refine Ev.bind (set_ev a (by omega)) (Ev.bind (set_ev b (by omega)) ?_)
  have lx : (a.map t38).length ≤ 15 := by rw [List.length_map]; exact la
  have ly : (b.map t38).length ≤ 15 := by rw [List.length_map]; exact lb
  generalize a.map t38 = x at lx ⊢
  generalize b.map t38 = y at ly ⊢
  have hnx := norm_len x
  have hbk := backL_len_ x
  have hgx := (neg_canon x).2.2
  have hgy := (neg_canon y).2.2
  have hggx := (neg_canon (neg x)).2.2
  have hj := norm_len (x ++ y)
  have hbo := both_len (neg x) (neg y)
  rw [List.length_append] at hj
  have hob : runes_Of.f (backL x) = some (norm x) := by rw [Of_ev _ (by omega), norm_congr (hasL_flat x)]
  have hoo : runes_Of.f (norm x) = some (norm x) := by rw [Of_ev _ (by omega), norm_self (norm_canon x).1]
  refine Ev.pos (by omega) (Ev.one (Of_ev x (by omega)) (Ev.one hob (Ev.bind (ranges_ev _ (by omega)) (Ev.bind (ranges_ev _ (by omega)) (Ev.bind (EqT _ (by rw [List.length_map]; omega)) (Ev.pos rfl ?_))))))
  refine Ev.one hoo (Ev.bind (ranges_ev _ (by omega)) (Ev.bind (EqT _ (by rw [List.length_map]; omega)) (Ev.pos rfl ?_)))
  have n2 := Not_ev (neg x) (by omega)
  rw [neg_neg_] at n2
  refine Ev.bind (Not_ev x (by omega)) (Ev.bind n2 (Ev.bind (ranges_ev _ (by omega)) (Ev.bind (EqT _ (by rw [List.length_map]; omega)) (Ev.pos rfl ?_))))
  have nj := Not_ev (norm (x ++ y)) (by omega)
  have ln := (neg_canon (norm (x ++ y))).2.2
  rw [neg_join] at nj
  refine Ev.one (Join2 x y (by omega)) (Ev.bind nj (Ev.bind (ranges_ev _ (by omega)) (Ev.bind (Not_ev y (by omega)) (Ev.bind (Both_ev _ _ (by omega) (by omega)) (Ev.bind (ranges_ev _ (by omega)) (Ev.bind (EqT _ (by rw [List.length_map]; omega)) (Ev.pos rfl ?_)))))))
  have s1 := Same_ev x (norm x) (by omega) (by omega)
  rw [norm_self (norm_canon x).1, decide_eq_true rfl] at s1
  have hj2 := norm_len (y ++ x)
  rw [List.length_append] at hj2
  have s2 := Same_ev (norm (x ++ y)) (norm (y ++ x)) (by omega) (by omega)
  rw [norm_self (norm_canon _).1, norm_self (norm_canon _).1, norm_congr (a := x ++ y) (b := y ++ x) (fun n => by rw [hasL_append, hasL_append, Bool.or_comm]), decide_eq_true rfl] at s2
  refine Ev.bind s1 (Ev.pos rfl (Ev.one (Join2 y x (by omega)) (Ev.bind ?_ (Ev.pos rfl (Ev.bind awake_ev (Ev.pos rfl (Ev.now _)))))))
  rw [norm_congr (a := x ++ y) (b := y ++ x) (fun n => by rw [hasL_append, hasL_append, Bool.or_comm])]
  exact s2
theorem clip_some (a : Int) : ∃ r, driftnetref00_Clip.f a (-2) 1114113 = some r ∧ -2 ≤ r ∧ r ≤ 1114113 := by
  unfold driftnetref00_Clip.f
  by_cases h1 : a < -2
  · exact ⟨-2, by rw [if_pos h1], by omega, by omega⟩
  · by_cases h2 : a > 1114113
    · exact ⟨1114113, by rw [if_neg h1, if_pos h2], by omega, by omega⟩
    · exact ⟨a, by rw [if_neg h1, if_neg h2], by omega, by omega⟩
theorem ends_ev (L : List S41) (hL : L.length ≤ 15) (r : Int) : ∃ l : List Int, l.length = 7 + 4 * L.length ∧ Ev (fun k => driftnetlaw09_ends.f k L r) l := by
  unfold driftnetlaw09_ends.f
  have key : ∀ d i : Nat, i + d = L.length → ∀ o : List Int, o.length = 7 + 4 * i → ∃ l : List Int, l.length = 7 + 4 * L.length ∧ Ev (fun k => driftnetlaw09_ends.l0 k L o (i : Int)) l := by
    intro d
    induction d with
    | zero =>
      intro i hi o ho
      refine ⟨o, by omega, Ev.succ ?_⟩
      simp only [driftnetlaw09_ends.l0]
      exact Ev.neg (by omega) (Ev.now _)
    | succ d ih =>
      intro i hi o ho
      obtain ⟨c0, h0, _, _⟩ := clip_some L[i].f0
      obtain ⟨c1, h1, _, _⟩ := clip_some L[i].f1
      obtain ⟨l, hl, he⟩ := ih (i + 1) (by omega) (o ++ [wrap64 (c0 - 1), c0, c1, wrap64 (c1 + 1)]) (by simp; omega)
      refine ⟨l, hl, Ev.succ ?_⟩
      simp only [driftnetlaw09_ends.l0]
      rw [rd41 L i (by omega), w64 (x := (i : Int) + 1) (by omega) (by omega)]
      refine Ev.pos (by omega) (Ev.pos (by omega) (Ev.one h0 (Ev.one h0 (Ev.one h1 (Ev.one h1 (Ev.bindS (Ev.pos (by simp; omega) ?_)))))))
      exact he
  exact key L.length 0 (by omega) _ rfl
theorem rb_and_anyR (a : List S41) (n : Int) : (rb n && anyR a n) = hasL (a.map t38) n := by
  unfold rb anyR hasL inR
  rw [List.any_map]
  rfl
theorem Has_some (l : List S38) (n : Int) (hl : l.length ≤ 1000000) (b : Bool) (h : hasL l n = b) : runes_Set_Has.f l n = some b := by
  unfold runes_Set_Has.f
  rw [if_pos hl, h]
theorem has_ev (L M : List S41) (r : Int) : Ev (fun k => driftnetlaw09_RunesHas.f k L M r) true := by
  unfold driftnetlaw09_RunesHas.f
  have la : (L.take 15).length ≤ 15 := by rw [List.length_take]; omega
  have lb : (M.take 15).length ≤ 15 := by rw [List.length_take]; omega
  generalize L.take 15 = a at la
  generalize M.take 15 = b at lb
  obtain ⟨ea, hea, eva⟩ := ends_ev a la r
  obtain ⟨eb, heb, evb⟩ := ends_ev b lb r
  have lx : (a.map t38).length ≤ 15 := by rw [List.length_map]; exact la
  have ly : (b.map t38).length ≤ 15 := by rw [List.length_map]; exact lb
  have hnx := norm_len (a.map t38)
  have hgx := (neg_canon (a.map t38)).2.2
  have hj := norm_len (a.map t38 ++ b.map t38)
  have hbo := both_len (a.map t38) (b.map t38)
  rw [List.length_append] at hj
  refine Ev.bind (set_ev a (by omega)) (Ev.bind (set_ev b (by omega)) (Ev.one (Of_ev _ (by omega)) (Ev.bind (Not_ev _ (by omega)) (Ev.one (Join2 _ _ (by omega)) (Ev.bind (Both_ev _ _ (by omega) (by omega)) (Ev.bind eva (Ev.bind evb (Ev.pos (by omega) (Ev.pos ?_ ?_)))))))))
  · intro n _
    unfold hasAll
    rw [rb_and_anyR, rb_and_anyR]
    refine ⟨Has_some _ _ (by omega) _ rfl, Has_some _ _ (by omega) _ (hasL_norm _ _), Has_some _ _ (by omega) _ ?_, Has_some _ _ (by omega) _ ?_, Has_some _ _ (by omega) _ (hasL_both _ _ _)⟩
    · rw [hasL_neg]; rfl
    · rw [hasL_norm, hasL_append]
  · have c1 := Check_ev (norm (a.map t38)) (by omega)
    have c2 := Check_ev (neg (a.map t38)) (by omega)
    have c3 := Check_ev (norm (a.map t38 ++ b.map t38)) (by omega)
    have c4 := Check_ev (both (a.map t38) (b.map t38)) (by omega)
    rw [norm_self (norm_canon _).1, decide_eq_true rfl] at c1 c3
    rw [norm_self (neg_canon _).1, decide_eq_true rfl] at c2
    rw [norm_self (both_canon _ _), decide_eq_true rfl] at c4
    exact Ev.bind c1 (Ev.pos rfl (Ev.bind c2 (Ev.pos rfl (Ev.bind c3 (Ev.pos rfl (Ev.bind c4 (Ev.pos rfl (Ev.bind awake_ev (Ev.pos rfl (Ev.now _))))))))))
theorem known_ev : Ev (fun k => driftnetlaw09_RunesKnown.f k) true := by
  unfold driftnetlaw09_RunesKnown.f
  generalize hl : ([(-9223372036854775808), (-1), 0, 1, 2, 55296, 1114110, 1114111, 1114112, 9223372036854775807] : List Int) = l
  have hn : l.length = 10 := by rw [← hl]; rfl
  clear hl
  have row : ∀ (d j : Nat), j + d = 10 → ∀ i : Nat, i < 10 → Ev (fun k => driftnetlaw09_RunesKnown.l0 k l ((i + 1 : Nat) : Int)) true → Ev (fun k => driftnetlaw09_RunesKnown.l1 k l (i : Int) (j : Int)) true := by
    intro d
    induction d with
    | zero =>
      intro j hj i hi h
      refine Ev.succ ?_
      simp only [driftnetlaw09_RunesKnown.l1]
      refine Ev.neg (by omega) ?_
      rw [w64 (by omega) (by omega)]
      exact h
    | succ d ih =>
      intro j hj i hi h
      refine Ev.succ ?_
      simp only [driftnetlaw09_RunesKnown.l1]
      refine Ev.pos (by omega) (Ev.pos (by omega) (Ev.pos (by omega) (Ev.pos (by omega) (Ev.bindS (Ev.bindS ?_)))))
      refine Ev.bind (sets_ev _ _) (Ev.pos rfl (Ev.bind (sets_ev _ _) (Ev.pos rfl (Ev.bind (two_ev _ _) (Ev.pos rfl (Ev.bind (has_ev _ _ _) (Ev.pos rfl (Ev.bind (once_ev _ _) (Ev.pos rfl (Ev.bind (count_ev _ _) (Ev.pos rfl ?_)))))))))))
      rw [w64 (by omega) (by omega)]
      exact ih (j + 1) (by omega) i hi h
  have outer : ∀ (d i : Nat), i + d = 10 → Ev (fun k => driftnetlaw09_RunesKnown.l0 k l (i : Int)) true := by
    intro d
    induction d with
    | zero =>
      intro i hi
      refine Ev.succ ?_
      simp only [driftnetlaw09_RunesKnown.l0]
      exact Ev.neg (by omega) (Ev.bind awake_ev (Ev.pos rfl (Ev.bind (sets_ev _ _) (Ev.pos rfl (Ev.bind (two_ev _ _) (Ev.now _))))))
    | succ d ih =>
      intro i hi
      refine Ev.succ ?_
      simp only [driftnetlaw09_RunesKnown.l0]
      exact Ev.pos (by omega) (row 10 0 (by omega) i (by omega) (ih (i + 1) (by omega)))
  exact outer 10 0 (by omega)
end Go.Proofs.Ytoihjhpabccigaa.PQ
