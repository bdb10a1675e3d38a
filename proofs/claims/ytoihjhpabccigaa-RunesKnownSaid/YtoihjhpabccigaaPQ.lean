/- What the functions of chapter 9 come to, plainly. -/
import Derived.Test.YtoihjhpabccigaaPRx3
import Derived.Test.YtoihjhpabccigaaPRx4
import Derived.Test.YtoihjhpabccigaaPRx5
import Derived.Test.YtoihjhpabccigaaPRx6
import Derived.Test.YtoihjhpabccigaaPRx7
import Derived.Test.YtoihjhpabccigaaPRx8
import Derived.Test.YtoihjhpabccigaaPRx9
import Derived.Test.YtoihjhpabccigaaPRx10
import Derived.Test.YtoihjhpabccigaaPRx11
import Derived.Test.YtoihjhpabccigaaPRx12
import Derived.Test.YtoihjhpabccigaaPRx13
namespace Go.Proofs.Ytoihjhpabccigaa.PQ
open Go.RowKit Go.Proofs.Ytoihjhpabccigaa.PR Go.Proofs.Ytoihjhpabccigaa.OF Go.Proofs.YtoihjhpabccigaaW.PrintWords
set_option linter.unusedVariables false
section
variable {α : Type}
theorem Ev.pos {c : Prop} [Decidable c] {A B : Nat → Option α} {r : α} (h : c) (k : Ev A r) : Ev (fun n => if c then A n else B n) r := Ev.congr (fun _ => if_pos h) k
theorem Ev.neg {c : Prop} [Decidable c] {A B : Nat → Option α} {r : α} (h : ¬ c) (k : Ev B r) : Ev (fun n => if c then A n else B n) r := Ev.congr (fun _ => if_neg h) k
theorem Ev.succ {g : Nat → Option α} {r : α} (k : Ev (fun n => g (n + 1)) r) : Ev g r := Ev.step (fun _ => rfl) k
theorem Ev.some_ (r : α) {s : α} (h : r = s) : Ev (fun _ => some r) s := h ▸ Ev.now r
theorem Ev.bindS {β : Type} {a : α} {f : Nat → α → Option β} {r : β} (k : Ev (fun n => f n a) r) : Ev (fun n => (some a).bind (f n)) r := Ev.bind (Ev.now a) k
theorem Ev.one {β : Type} {g : Option α} {a : α} {f : Nat → α → Option β} {r : β} (h : g = some a) (k : Ev (fun n => f n a) r) : Ev (fun n => g.bind (f n)) r := Ev.bind (h ▸ Ev.now a) k
end
theorem w64 {x : Int} (h0 : -9223372036854775808 ≤ x) (h1 : x ≤ 9223372036854775807) : wrap64 x = x := by unfold wrap64; omega
def t38 (x : S41) : S38 := ⟨x.f0, x.f1⟩
def t41 (x : S38) : S41 := ⟨x.f0, x.f1⟩
theorem t38_41 (x : S38) : t38 (t41 x) = x := rfl
theorem t41_38 (x : S41) : t41 (t38 x) = x := rfl
theorem map_38_41 (l : List S38) : (l.map t41).map t38 = l := by
  rw [List.map_map]
  exact List.map_id'' (fun _ => rfl) l
theorem map_41_38 (l : List S41) : (l.map t38).map t41 = l := by
  rw [List.map_map]
  exact List.map_id'' (fun _ => rfl) l
theorem rd41 (L : List S41) (i : Nat) (h : i < L.length) : rd_T41 L (i : Int) = L[i] := by
  unfold rd_T41
  rw [List.getD_eq_getElem?_getD, Int.toNat_natCast, List.getElem?_eq_getElem h]
  rfl
theorem rd38 (L : List S38) (i : Nat) (h : i < L.length) : rd_T38 L (i : Int) = L[i] := by
  unfold rd_T38
  rw [List.getD_eq_getElem?_getD, Int.toNat_natCast, List.getElem?_eq_getElem h]
  rfl
theorem set_ev (L : List S41) (hL : L.length ≤ 1000000) : Ev (fun k => driftnetlaw09_set.f k L) (L.map t38) := by
  have key : ∀ d i : Nat, i + d = L.length → Ev (fun k => driftnetlaw09_set.l0 k L ((L.take i).map t38) (i : Int)) (L.map t38) := by
    intro d
    induction d with
    | zero =>
      intro i hi
      refine Ev.succ ?_
      simp only [driftnetlaw09_set.l0]
      refine Ev.neg (by omega) ?_
      rw [List.take_of_length_le (by omega)]
      exact Ev.now _
    | succ d ih =>
      intro i hi
      refine Ev.succ ?_
      simp only [driftnetlaw09_set.l0]
      refine Ev.pos (by omega) (Ev.pos (by omega) (Ev.pos (by rw [List.length_map, List.length_take]; omega) ?_))
      have h := ih (i + 1) (by omega)
      rw [List.take_succ_eq_append_getElem (by omega), List.map_append] at h
      rw [w64 (by omega) (by omega), rd41 L i (by omega)]
      exact h
  exact key L.length 0 (by omega)
theorem ranges_ev (L : List S38) (hL : L.length ≤ 1000000) : Ev (fun k => driftnetlaw09_ranges.f k L) (L.map t41) := by
  have key : ∀ d i : Nat, i + d = L.length → Ev (fun k => driftnetlaw09_ranges.l0 k L ((L.take i).map t41) (i : Int)) (L.map t41) := by
    intro d
    induction d with
    | zero =>
      intro i hi
      refine Ev.succ ?_
      simp only [driftnetlaw09_ranges.l0]
      refine Ev.neg (by omega) ?_
      rw [List.take_of_length_le (by omega)]
      exact Ev.now _
    | succ d ih =>
      intro i hi
      refine Ev.succ ?_
      simp only [driftnetlaw09_ranges.l0]
      refine Ev.pos (by omega) (Ev.pos (by omega) (Ev.pos (by rw [List.length_map, List.length_take]; omega) ?_))
      have h := ih (i + 1) (by omega)
      rw [List.take_succ_eq_append_getElem (by omega), List.map_append] at h
      rw [w64 (by omega) (by omega), rd38 L i (by omega)]
      exact h
  exact key L.length 0 (by omega)
def eq38 (a b : S38) : Bool := a.f0 == b.f0 && a.f1 == b.f1
theorem eq38_iff (a b : S38) : eq38 a b = true ↔ a = b := by
  cases a; cases b
  simp [eq38]
instance : DecidableEq S38 := fun a b => decidable_of_iff _ (eq38_iff a b)
def eq41 (a b : S41) : Bool := a.f0 == b.f0 && a.f1 == b.f1
theorem eq41_iff (a b : S41) : eq41 a b = true ↔ a = b := by
  cases a; cases b
  simp [eq41]
instance : DecidableEq S41 := fun a b => decidable_of_iff _ (eq41_iff a b)
theorem Equal_ev (L M : List S41) (hL : L.length ≤ 1000000) : Ev (fun k => driftnetref09_Equal.f k L M) (decide (L = M)) := by
  unfold driftnetref09_Equal.f
  by_cases hl : L.length = M.length
  · refine Ev.pos (by omega) ?_
    have key : ∀ d i : Nat, i + d = L.length → L.take i = M.take i → Ev (fun k => driftnetref09_Equal.l0 k L M (i : Int)) (decide (L = M)) := by
      intro d
      induction d with
      | zero =>
        intro i hi ht
        refine Ev.succ ?_
        simp only [driftnetref09_Equal.l0]
        refine Ev.neg (by omega) ?_
        rw [List.take_of_length_le (by omega), List.take_of_length_le (by omega)] at ht
        exact Ev.some_ _ (by simp [ht])
      | succ d ih =>
        intro i hi ht
        refine Ev.succ ?_
        simp only [driftnetref09_Equal.l0]
        refine Ev.pos (by omega) (Ev.pos (by omega) (Ev.pos (by omega) ?_))
        rw [rd41 L i (by omega), rd41 M i (by omega)]
        by_cases he : L[i] = M[i]
        · refine Ev.neg (by rw [he]; simp) ?_
          rw [w64 (by omega) (by omega)]
          exact ih (i + 1) (by omega) (by rw [List.take_succ_eq_append_getElem (by omega), List.take_succ_eq_append_getElem (by omega), ht, he])
        · refine Ev.pos ?_ (Ev.some_ _ ?_)
          · have h : ¬ eq41 L[i] M[i] = true := fun h => he ((eq41_iff _ _).1 h)
            simp [eq41] at h
            simp
            omega
          · rw [eq_comm, decide_eq_false_iff_not]
            rintro rfl
            exact he rfl
    exact key L.length 0 (by omega) rfl
  · refine Ev.neg (by omega) (Ev.some_ _ ?_)
    rw [eq_comm, decide_eq_false_iff_not]
    rintro rfl
    exact hl rfl
theorem Range_ev (L M : List S38) (hL : L.length ≤ 1000000) : Ev (fun k => runes_Range.f k L M) (decide (L = M)) := by
  unfold runes_Range.f
  by_cases hl : L.length = M.length
  · refine Ev.pos (by omega) ?_
    have key : ∀ d i : Nat, i + d = L.length → L.take i = M.take i → Ev (fun k => runes_Range.l0 k L M (L.length : Int) (i : Int)) (decide (L = M)) := by
      intro d
      induction d with
      | zero =>
        intro i hi ht
        refine Ev.succ ?_
        simp only [runes_Range.l0]
        refine Ev.neg (by omega) ?_
        rw [List.take_of_length_le (by omega), List.take_of_length_le (by omega)] at ht
        exact Ev.some_ _ (by simp [ht])
      | succ d ih =>
        intro i hi ht
        refine Ev.succ ?_
        simp only [runes_Range.l0]
        refine Ev.pos (by omega) (Ev.pos (by omega) (Ev.pos (by omega) (Ev.pos (by omega) ?_)))
        rw [rd38 L i (by omega), rd38 M i (by omega)]
        by_cases he : L[i] = M[i]
        · refine Ev.neg (by rw [he]; simp) ?_
          rw [w64 (by omega) (by omega)]
          exact ih (i + 1) (by omega) (by rw [List.take_succ_eq_append_getElem (by omega), List.take_succ_eq_append_getElem (by omega), ht, he])
        · refine Ev.pos ?_ (Ev.some_ _ ?_)
          · have h : ¬ eq38 L[i] M[i] = true := fun h => he ((eq38_iff _ _).1 h)
            simp [eq38] at h
            simp
            omega
          · rw [eq_comm, decide_eq_false_iff_not]
            rintro rfl
            exact he rfl
    exact key L.length 0 (by omega) rfl
  · refine Ev.neg (by omega) (Ev.some_ _ ?_)
    rw [eq_comm, decide_eq_false_iff_not]
    rintro rfl
    exact hl rfl
theorem hasL_cons (x : S41) (M : List S41) (r : Int) : hasL ((x :: M).map t38) r = ((decide (0 ≤ r) && decide (r ≤ 1114111) && (decide (x.f0 ≤ r) && decide (r ≤ x.f1))) || hasL (M.map t38) r) := by
  unfold hasL
  rw [List.map_cons, List.any_cons]
  have e : inR r (t38 x) = (decide (x.f0 ≤ r) && decide (r ≤ x.f1)) := rfl
  rw [e]
  cases decide (0 ≤ r) <;> cases decide (r ≤ 1114111) <;> simp
theorem refHas_ev (L : List S41) (r : Int) (hL : L.length ≤ 1000000) : Ev (fun k => driftnetref09_Has.f k L r) (hasL (L.map t38) r) := by
  unfold driftnetref09_Has.f
  have key : ∀ d i : Nat, i + d = L.length → Ev (fun k => driftnetref09_Has.l0 k L r (i : Int)) (hasL ((L.drop i).map t38) r) := by
    intro d
    induction d with
    | zero =>
      intro i hi
      refine Ev.succ ?_
      simp only [driftnetref09_Has.l0]
      refine Ev.neg (by omega) (Ev.some_ _ ?_)
      rw [List.drop_of_length_le (by omega)]
      simp [hasL]
    | succ d ih =>
      intro i hi
      refine Ev.succ ?_
      simp only [driftnetref09_Has.l0]
      refine Ev.pos (by omega) ?_
      have h := ih (i + 1) (by omega)
      rw [w64 (by omega) (by omega), rd41 L i (by omega), List.drop_eq_getElem_cons (by omega), hasL_cons]
      by_cases h0 : r ≥ 0
      · refine Ev.pos h0 ?_
        rw [decide_eq_true (show 0 ≤ r from h0), Bool.true_and]
        by_cases h1 : r ≤ 1114111
        · refine Ev.pos h1 (Ev.pos (by omega) ?_)
          rw [decide_eq_true h1, Bool.true_and]
          by_cases h2 : L[i].f0 ≤ r
          · refine Ev.pos h2 ?_
            rw [decide_eq_true h2, Bool.true_and]
            by_cases h3 : r ≤ L[i].f1
            · refine Ev.pos h3 (Ev.some_ _ ?_)
              rw [decide_eq_true h3, Bool.true_or]
            · refine Ev.neg h3 ?_
              rw [decide_eq_false h3, Bool.false_or]
              exact h
          · refine Ev.neg h2 ?_
            rw [decide_eq_false h2, Bool.false_and, Bool.false_or]
            exact h
        · refine Ev.neg h1 ?_
          rw [decide_eq_false h1, Bool.false_and, Bool.false_or]
          exact h
      · refine Ev.neg h0 ?_
        rw [decide_eq_false (show ¬ 0 ≤ r from h0), Bool.false_and, Bool.false_and, Bool.false_or]
        exact h
  exact key L.length 0 (by omega)
theorem hasL_iff (l : List S38) (r : Int) : hasL l r = true ↔ 0 ≤ r ∧ r ≤ 1114111 ∧ mem l r := by
  unfold hasL mem
  simp only [Bool.and_eq_true, decide_eq_true_eq, List.any_eq_true, inR, and_assoc]
theorem mem_own (l : List S38) (n : Int) : mem (own l) n ↔ hasL l n = true := by
  rw [hasL_iff]
  unfold mem own
  constructor
  · rintro ⟨x, hx, h⟩
    obtain ⟨h1, h2⟩ := List.mem_filter.1 hx
    obtain ⟨y, hy, rfl⟩ := List.mem_map.1 h1
    simp only [clip1] at h
    obtain ⟨ha, hb⟩ := h
    refine ⟨?_, ?_, y, hy, ?_, ?_⟩
    · split at ha <;> omega
    · split at hb <;> omega
    · split at ha <;> omega
    · split at hb <;> omega
  · rintro ⟨h0, h1, y, hy, ha, hb⟩
    refine ⟨clip1 y, List.mem_filter.2 ⟨List.mem_map.2 ⟨y, hy, rfl⟩, ?_⟩, ?_, ?_⟩
    · unfold ok1 clip1
      simp only [decide_eq_true_eq]
      split <;> split <;> omega
    · unfold clip1; simp only; split <;> omega
    · unfold clip1; simp only; split <;> omega
theorem mem_norm (l : List S38) (n : Int) : mem (norm l) n ↔ hasL l n = true := ((norm_canon l).2 n).trans (mem_own l n)
theorem norm_eq {l c : List S38} (hc : Canon c) (h : ∀ n, mem c n ↔ hasL l n = true) : norm l = c :=
  Canon.unique (norm_canon l).1 hc (fun n => (mem_norm l n).trans (h n).symm)
theorem norm_len (l : List S38) : (norm l).length ≤ l.length := by
  unfold norm
  have h1 := (merge_InB ((own l).mergeSort (fun x y => decide (x.f0 ≤ y.f0))) (fun x hx => own_InB l x ((List.mergeSort_perm (own l) _).mem_iff.1 hx))).2
  have h2 : ((own l).mergeSort (fun x y => decide (x.f0 ≤ y.f0))).length = (own l).length := List.length_mergeSort _
  have h3 : (own l).length ≤ (l.map clip1).length := List.length_filter_le _ _
  rw [List.length_map] at h3
  omega
theorem Of_ev (l : List S38) (hl : l.length ≤ 1000000) : runes_Of.f l = some (norm l) := by unfold runes_Of.f; rw [if_pos hl]
/-! ### sizes -/
def size : List S38 → Int
  | [] => 0
  | x :: r => (x.f1 - x.f0 + 1) + size r
theorem size_append (a b : List S38) : size (a ++ b) = size a + size b := by
  induction a with
  | nil => simp [size]
  | cons x r ih => simp only [List.cons_append, size, ih]; omega
theorem size_bd : ∀ (c : List S38), Canon c → ∀ f : Int, 0 ≤ f → f ≤ 1114112 → (∀ x ∈ c, f ≤ x.f0) → 0 ≤ size c ∧ size c ≤ 1114112 - f
  | [], _, f, h0, h1, _ => by simp [size]; omega
  | x :: r, hc, f, h0, h1, hf => by
    have hx := hc.1 x (List.mem_cons_self ..)
    obtain ⟨a, b, c⟩ := hx
    have := hf x (List.mem_cons_self ..)
    have ih := size_bd r hc.tail (x.f1 + 1) (by omega) (by omega) (fun y hy => by have := (List.pairwise_cons.1 hc.2).1 y hy; omega)
    simp only [size]
    omega
theorem take_canon {c : List S38} (h : Canon c) (i : Nat) : Canon (c.take i) := ⟨fun x hx => h.1 x (List.mem_of_mem_take hx), h.2.sublist (List.take_sublist _ _)⟩
theorem size_bd0 {c : List S38} (hc : Canon c) : 0 ≤ size c ∧ size c ≤ 1114112 := by
  have := size_bd c hc 0 (by omega) (by omega) (fun x hx => (hc.1 x hx).1)
  omega
theorem Size_ev (l : List S38) (hl : l.length ≤ 1000000) : Ev (fun k => runes_Set_Size.f k l) (size (norm l)) := by
  unfold runes_Set_Size.f
  refine Ev.one (Of_ev l hl) ?_
  have hn := norm_len l
  have hc := (norm_canon l).1
  generalize norm l = c at hn hc ⊢
  have key : ∀ d i : Nat, i + d = c.length → Ev (fun k => runes_Set_Size.l0 k (size (c.take i)) c (c.length : Int) (i : Int)) (size c) := by
    intro d
    induction d with
    | zero =>
      intro i hi
      refine Ev.succ ?_
      simp only [runes_Set_Size.l0]
      refine Ev.neg (by omega) ?_
      rw [List.take_of_length_le (by omega)]
      exact Ev.now _
    | succ d ih =>
      intro i hi
      refine Ev.succ ?_
      simp only [runes_Set_Size.l0]
      refine Ev.pos (by omega) (Ev.pos (by omega) (Ev.pos (by omega) ?_))
      have h := ih (i + 1) (by omega)
      have hb := size_bd0 (take_canon hc i)
      have hx := hc.1 c[i] (List.getElem_mem _)
      obtain ⟨a, b, e⟩ := hx
      rw [List.take_succ_eq_append_getElem (by omega), size_append] at h
      simp only [size] at h
      rw [rd38 c i (by omega), w64 (x := (i : Int) + 1) (by omega) (by omega), w64 (x := c[i].f1 - c[i].f0) (by omega) (by omega), w64 (x := c[i].f1 - c[i].f0 + 1) (by omega) (by omega), w64 (by omega) (by omega)]
      rw [show size (c.take i) + (c[i].f1 - c[i].f0 + 1 + 0) = size (c.take i) + (c[i].f1 - c[i].f0 + 1) by omega] at h
      exact h
  have h := key c.length 0 (by omega)
  exact h
/-! ### all others -/
def negF : Int → List S38 → List S38
  | from_, [] => if from_ ≤ 1114111 then [⟨from_, 1114111⟩] else []
  | from_, x :: r => if from_ < x.f0 then ⟨from_, x.f0 - 1⟩ :: negF (x.f1 + 1) r else negF (x.f1 + 1) r
def neg (l : List S38) : List S38 := negF 0 (norm l)
theorem negF_canon : ∀ (c : List S38) (f : Int), Canon c → 0 ≤ f → f ≤ 1114112 → (∀ x ∈ c, f ≤ x.f0) → Canon (negF f c) ∧ (∀ x ∈ negF f c, f ≤ x.f0) ∧ (∀ n, mem (negF f c) n ↔ f ≤ n ∧ n ≤ 1114111 ∧ ¬ mem c n) ∧ (negF f c).length ≤ c.length + 1
  | [], f, _, h0, h1, _ => by
    unfold negF
    by_cases h : f ≤ 1114111
    · rw [if_pos h]
      refine ⟨⟨fun x hx => ?_, List.pairwise_singleton _ _⟩, fun x hx => ?_, fun n => ?_, by simp⟩
      · rw [List.mem_singleton] at hx; subst hx; exact ⟨h0, h, Int.le_refl _⟩
      · rw [List.mem_singleton] at hx; subst hx; exact Int.le_refl _
      · rw [mem_cons]; simp [mem_nil]
    · rw [if_neg h]
      refine ⟨⟨by simp, List.Pairwise.nil⟩, by simp, fun n => ?_, by simp⟩
      simp only [mem_nil, false_iff]; omega
  | x :: r, f, hc, h0, h1, hf => by
    have hx := hc.1 x (List.mem_cons_self ..)
    obtain ⟨a, b, e⟩ := hx
    have hfx := hf x (List.mem_cons_self ..)
    have hp := (List.pairwise_cons.1 hc.2).1
    obtain ⟨i1, i2, i3, i4⟩ := negF_canon r (x.f1 + 1) hc.tail (by omega) (by omega) (fun y hy => by have := hp y hy; omega)
    have low : ∀ n, mem r n → x.f1 + 1 < n := fun n hn => hc.beyond hn
    unfold negF
    by_cases h : f < x.f0
    · rw [if_pos h]
      refine ⟨⟨fun y hy => ?_, List.pairwise_cons.2 ⟨fun y hy => ?_, i1.2⟩⟩, fun y hy => ?_, fun n => ?_, by simp only [List.length_cons]; omega⟩
      · rcases List.mem_cons.1 hy with rfl | hy
        · exact ⟨h0, by show f ≤ x.f0 - 1; omega, by show x.f0 - 1 ≤ _; omega⟩
        · exact i1.1 y hy
      · have := i2 y hy
        show x.f0 - 1 + 1 < y.f0
        omega
      · rcases List.mem_cons.1 hy with rfl | hy
        · exact Int.le_refl _
        · have := i2 y hy; omega
      · rw [mem_cons, mem_cons, i3]
        constructor
        · rintro (⟨p, q⟩ | ⟨p, q, hm⟩)
          · have q' : n ≤ x.f0 - 1 := q
            refine ⟨p, by omega, ?_⟩
            rintro (⟨u, v⟩ | hm)
            · omega
            · have := low n hm; omega
          · refine ⟨by omega, q, ?_⟩
            rintro (⟨u, v⟩ | h5)
            · omega
            · exact hm h5
        · rintro ⟨p, q, hn⟩
          by_cases c : n < x.f0
          · exact Or.inl ⟨p, by show n ≤ x.f0 - 1; omega⟩
          · refine Or.inr ⟨?_, q, fun h => hn (Or.inr h)⟩
            by_cases c2 : n ≤ x.f1
            · exact absurd (Or.inl ⟨by omega, c2⟩) hn
            · omega
    · rw [if_neg h]
      refine ⟨i1, fun y hy => by have := i2 y hy; omega, fun n => ?_, by simp only [List.length_cons]; omega⟩
      rw [mem_cons, i3]
      by_cases hm : mem r n
      · simp only [hm, not_true, and_false, or_true]
      · simp only [hm, not_false_eq_true, and_true, or_false]; omega
theorem neg_canon (l : List S38) : Canon (neg l) ∧ (∀ n, mem (neg l) n ↔ 0 ≤ n ∧ n ≤ 1114111 ∧ hasL l n = false) ∧ (neg l).length ≤ l.length + 1 := by
  have hc := (norm_canon l).1
  obtain ⟨h1, h2, h3, h4⟩ := negF_canon (norm l) 0 hc (by omega) (by omega) (fun x hx => (hc.1 x hx).1)
  refine ⟨h1, fun n => (h3 n).trans ?_, Nat.le_trans h4 (by have := norm_len l; omega)⟩
  rw [mem_norm, Bool.not_eq_true]
theorem Not_ev (l : List S38) (hl : l.length ≤ 1000000) : Ev (fun k => runes_Set_Not.f k l) (neg l) := by
  unfold runes_Set_Not.f neg
  refine Ev.one (Of_ev l hl) ?_
  have hn := norm_len l
  have hc := (norm_canon l).1
  generalize norm l = c at hn hc ⊢
  have key : ∀ d i : Nat, i + d = c.length → ∀ (out : List S38) (f : Int), out.length ≤ i → 0 ≤ f → f ≤ 1114112 → Ev (fun k => runes_Set_Not.l0 k out f c (c.length : Int) (i : Int)) (out ++ negF f (c.drop i)) := by
    intro d
    induction d with
    | zero =>
      intro i hi out f ho h0 h1
      refine Ev.succ ?_
      simp only [runes_Set_Not.l0]
      refine Ev.neg (by omega) ?_
      rw [List.drop_of_length_le (by omega), negF]
      by_cases h : f ≤ 1114111
      · exact Ev.pos h (Ev.pos (by omega) (Ev.some_ _ (by rw [if_pos h])))
      · exact Ev.neg h (Ev.some_ _ (by rw [if_neg h, List.append_nil]))
    | succ d ih =>
      intro i hi out f ho h0 h1
      refine Ev.succ ?_
      simp only [runes_Set_Not.l0]
      refine Ev.pos (by omega) (Ev.pos (by omega) (Ev.pos (by omega) ?_))
      obtain ⟨a, b, e⟩ := hc.1 c[i] (List.getElem_mem _)
      rw [rd38 c i (by omega), w64 (x := (i : Int) + 1) (by omega) (by omega), w64 (x := c[i].f1 + 1) (by omega) (by omega), w64 (x := c[i].f0 - 1) (by omega) (by omega), List.drop_eq_getElem_cons (by omega), negF]
      by_cases h : f < c[i].f0
      · rw [if_pos h]
        refine Ev.pos h (Ev.pos (by omega) ?_)
        have h2 := ih (i + 1) (by omega) (out ++ [⟨f, c[i].f0 - 1⟩]) (c[i].f1 + 1) (by simp; omega) (by omega) (by omega)
        rw [List.append_assoc] at h2
        exact h2
      · rw [if_neg h]
        exact Ev.neg h (ih (i + 1) (by omega) out (c[i].f1 + 1) (by omega) (by omega) (by omega))
  exact key c.length 0 (by omega) [] 0 (by simp) (by omega) (by omega)
theorem Join_ev (ls : List (List S38)) (h1 : ls.length ≤ 1000000) (h2 : ls.flatten.length ≤ 1000000) : runes_Join.f ls = some (norm ls.flatten) := by unfold runes_Join.f; rw [if_pos ⟨h1, h2⟩]
def both (a b : List S38) : List S38 := neg (neg a ++ neg b)
theorem Both_ev (a b : List S38) (ha : a.length ≤ 100000) (hb : b.length ≤ 100000) : Ev (fun k => runes_Both.f k a b) (both a b) := by
  have h1 := (neg_canon a).2.2
  have h2 := (neg_canon b).2.2
  unfold runes_Both.f
  refine Ev.bind (Not_ev a (by omega)) (Ev.bind (Not_ev b (by omega)) ?_)
  have e : neg (norm ([neg a, neg b] : List (List S38)).flatten) = both a b := by
    unfold both neg
    have e2 : norm (norm ([neg a, neg b] : List (List S38)).flatten) = norm (neg a ++ neg b) := by
      refine norm_eq (norm_canon _).1 (fun n => ?_)
      rw [mem_norm, hasL_iff, hasL_iff, mem_norm]
      simp only [List.flatten_cons, List.flatten_nil, List.append_nil]
      rw [hasL_iff]
      constructor
      · rintro ⟨a, b, c⟩; exact ⟨a, b, a, b, c⟩
      · rintro ⟨a, b, _, _, c⟩; exact ⟨a, b, c⟩
    exact congrArg (negF 0) e2
  have hl : ([neg a, neg b] : List (List S38)).flatten.length ≤ 1000000 := by simp; omega
  refine Ev.one (Join_ev _ (by simp) hl) ?_
  refine Ev.bind (Not_ev _ (Nat.le_trans (norm_len _) hl)) ?_
  rw [e]
  exact Ev.now _
theorem hasL_append (a b : List S38) (n : Int) : hasL (a ++ b) n = (hasL a n || hasL b n) := by
  unfold hasL
  rw [List.any_append]
  cases decide (0 ≤ n) <;> cases decide (n ≤ 1114111) <;> simp
theorem hasL_canon {c : List S38} (h : Canon c) (n : Int) : hasL c n = true ↔ mem c n := by
  rw [hasL_iff]
  refine ⟨fun h => h.2.2, fun hm => ?_⟩
  obtain ⟨x, hx, ha, hb⟩ := hm
  obtain ⟨a, b, e⟩ := h.1 x hx
  exact ⟨by omega, by omega, x, hx, ha, hb⟩
theorem hasL_norm (l : List S38) (n : Int) : hasL (norm l) n = hasL l n := by
  rw [Bool.eq_iff_iff, hasL_canon (norm_canon l).1, mem_norm]
theorem hasL_neg (l : List S38) (n : Int) : hasL (neg l) n = (decide (0 ≤ n) && decide (n ≤ 1114111) && !hasL l n) := by
  rw [Bool.eq_iff_iff, hasL_canon (neg_canon l).1, (neg_canon l).2.1]
  simp only [Bool.and_eq_true, decide_eq_true_eq, Bool.not_eq_true', and_assoc]
theorem hasL_both (a b : List S38) (n : Int) : hasL (both a b) n = (hasL a n && hasL b n) := by
  unfold both
  rw [hasL_neg, hasL_append, hasL_neg, hasL_neg]
  have h : hasL a n = true → 0 ≤ n ∧ n ≤ 1114111 := fun h => ⟨((hasL_iff _ _).1 h).1, ((hasL_iff _ _).1 h).2.1⟩
  by_cases h0 : 0 ≤ n <;> by_cases h1 : n ≤ 1114111 <;> cases ha : hasL a n <;> cases hb : hasL b n <;> simp_all
theorem both_canon (a b : List S38) : Canon (both a b) := (neg_canon _).1
theorem neg_eq {l c : List S38} (hc : Canon c) (h : ∀ n, hasL c n = (decide (0 ≤ n) && decide (n ≤ 1114111) && !hasL l n)) : neg l = c :=
  Canon.unique (neg_canon l).1 hc (fun n => by rw [← hasL_canon (neg_canon l).1, ← hasL_canon hc, hasL_neg, h])
theorem canon_eq {c d : List S38} (hc : Canon c) (hd : Canon d) (h : ∀ n, hasL c n = hasL d n) : c = d :=
  Canon.unique hc hd (fun n => by rw [← hasL_canon hc, ← hasL_canon hd, h])
theorem norm_self {c : List S38} (hc : Canon c) : norm c = c := canon_eq (norm_canon c).1 hc (fun n => hasL_norm c n)
/-! ### how many -/
def full : Nat := 1114112
def cnt (p : Int → Bool) : Nat → Int
  | 0 => 0
  | n + 1 => cnt p n + if p (n : Int) then 1 else 0
theorem cnt_congr {p q : Int → Bool} (h : ∀ n, p n = q n) (N : Nat) : cnt p N = cnt q N := by rw [funext h]
theorem cnt_add (p q : Int → Bool) (N : Nat) : cnt (fun n => p n || q n) N + cnt (fun n => p n && q n) N = cnt p N + cnt q N := by
  induction N with
  | zero => rfl
  | succ n ih => simp only [cnt]; by_cases hp : p (n : Int) = true <;> by_cases hq : q (n : Int) = true <;> simp [hp, hq] <;> omega
theorem cnt_not (p : Int → Bool) (N : Nat) : cnt p N + cnt (fun n => !p n) N = N := by
  induction N with
  | zero => rfl
  | succ n ih => simp only [cnt]; by_cases hp : p (n : Int) = true <;> simp [hp] <;> omega
theorem cnt_false (N : Nat) : cnt (fun _ => false) N = 0 := by
  induction N with
  | zero => rfl
  | succ n ih => simp only [cnt, ih]; simp
theorem cnt_range (a b : Int) (h0 : 0 ≤ a) (h1 : a ≤ b) (N : Nat) : cnt (fun n => decide (a ≤ n) && decide (n ≤ b)) N = if (N : Int) ≤ a then 0 else if (N : Int) ≤ b then (N : Int) - a else b - a + 1 := by
  induction N with
  | zero => simp only [cnt]; rw [if_pos (by omega)]
  | succ n ih =>
    simp only [cnt, ih]
    by_cases c1 : a ≤ (n : Int) <;> by_cases c2 : (n : Int) ≤ b <;> simp only [c1, c2, decide_true, decide_false, Bool.and_true, Bool.and_false, Bool.false_eq_true, if_true, if_false] <;> (repeat' split) <;> omega
theorem size_cnt : ∀ {c : List S38}, Canon c → size c = cnt (hasL c) full
  | [], _ => by
    rw [cnt_congr (q := fun _ => false) (fun n => by simp [hasL]), cnt_false]
    rfl
  | x :: r, hc => by
    have ih := size_cnt hc.tail
    obtain ⟨a, b, e⟩ := hc.1 x (List.mem_cons_self ..)
    have h1 := cnt_add (fun n => decide (x.f0 ≤ n) && decide (n ≤ x.f1)) (hasL r) full
    rw [cnt_congr (p := fun n => (decide (x.f0 ≤ n) && decide (n ≤ x.f1)) && hasL r n) (q := fun _ => false) (fun n => by
      cases hr : hasL r n
      · simp
      · have := hc.beyond ((hasL_canon hc.tail n).1 hr)
        simp; omega), cnt_false] at h1
    rw [cnt_congr (p := fun n => (decide (x.f0 ≤ n) && decide (n ≤ x.f1)) || hasL r n) (q := hasL (x :: r)) (fun n => by
      rw [Bool.eq_iff_iff, hasL_canon hc, mem_cons, Bool.or_eq_true, hasL_canon hc.tail]
      simp), cnt_range _ _ a b] at h1
    rw [if_neg (by unfold full; omega), if_neg (by unfold full; omega)] at h1
    simp only [size]
    omega
theorem size_two (a b : List S38) : size (norm (a ++ b)) + size (both a b) = size (norm a) + size (norm b) := by
  rw [size_cnt (norm_canon _).1, size_cnt (both_canon _ _), size_cnt (norm_canon _).1, size_cnt (norm_canon _).1]
  have h := cnt_add (hasL (norm a)) (hasL (norm b)) full
  have e1 : cnt (hasL (norm (a ++ b))) full = cnt (fun n => hasL (norm a) n || hasL (norm b) n) full := cnt_congr (fun n => by rw [hasL_norm, hasL_norm, hasL_norm, hasL_append]) _
  have e2 : cnt (hasL (both a b)) full = cnt (fun n => hasL (norm a) n && hasL (norm b) n) full := cnt_congr (fun n => by rw [hasL_both, hasL_norm, hasL_norm]) _
  rw [← h, e1, e2]
theorem size_neg (a : List S38) : size (norm a) + size (norm (neg a)) = 1114112 := by
  rw [size_cnt (norm_canon _).1, size_cnt (norm_canon _).1]
  have h := cnt_not (hasL (norm a)) full
  have e : cnt (hasL (norm (neg a))) full = cnt (fun n => !hasL (norm a) n) full := by
    have key : ∀ N : Nat, N ≤ full → cnt (hasL (norm (neg a))) N = cnt (fun n => !hasL (norm a) n) N := by
      intro N
      induction N with
      | zero => intro _; rfl
      | succ n ih =>
        intro hn
        have e : hasL (norm (neg a)) (n : Int) = !hasL (norm a) (n : Int) := by
          unfold full at hn
          rw [hasL_norm, hasL_norm, hasL_neg, decide_eq_true (by omega : (0 : Int) ≤ (n : Int)), decide_eq_true (by omega : (n : Int) ≤ 1114111)]
          rfl
        simp only [cnt]
        rw [ih (by omega)]
        simp only [e]
    exact key full (Nat.le_refl _)
  rw [e]
  unfold full at h
  exact h
end Go.Proofs.Ytoihjhpabccigaa.PQ
