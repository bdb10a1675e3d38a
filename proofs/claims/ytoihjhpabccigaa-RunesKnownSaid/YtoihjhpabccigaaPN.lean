/- Sets of ranges, plainly: no program in sight. -/
import Derived.Test.YtoihjhpabccigaaPRx0
namespace Go.Proofs.Ytoihjhpabccigaa.OF
open Go.RowKit Go.Proofs.Ytoihjhpabccigaa.PR Go.Proofs.YtoihjhpabccigaaW.PrintWords
set_option linter.unusedVariables false
set_option linter.unusedSimpArgs false
/-- What of a range may be. -/
def clip1 (x : S38) : S38 := ⟨if x.f0 < 0 then 0 else x.f0, if 1114111 < x.f1 then 1114111 else x.f1⟩
def ok1 (x : S38) : Bool := decide (x.f0 ≤ x.f1)
def own (l : List S38) : List S38 := (l.map clip1).filter ok1
/-- One more range, behind or into the last. -/
def mstep (out : List S38) (x : S38) : List S38 :=
  if 0 < out.length ∧ x.f0 ≤ (out.getD (out.length - 1) z38).f1 + 1 then out.set (out.length - 1) ⟨(out.getD (out.length - 1) z38).f0, if (out.getD (out.length - 1) z38).f1 < x.f1 then x.f1 else (out.getD (out.length - 1) z38).f1⟩ else out ++ [x]
def mergeL (l : List S38) : List S38 := l.foldl mstep []
/-- What may stand in a set: within what a rune may be. -/
def InB (x : S38) : Prop := 0 ≤ x.f0 ∧ x.f0 ≤ x.f1 ∧ x.f1 ≤ 1114111
theorem own_InB (l : List S38) : ∀ x ∈ own l, InB x := by
  intro x hx
  unfold own at hx
  obtain ⟨h1, h2⟩ := List.mem_filter.1 hx
  obtain ⟨y, _, rfl⟩ := List.mem_map.1 h1
  have h3 : (clip1 y).f0 ≤ (clip1 y).f1 := of_decide_eq_true h2
  refine ⟨?_, h3, ?_⟩
  · unfold clip1; simp only; split <;> omega
  · unfold clip1; simp only; split <;> omega
theorem mstep_InB {out : List S38} {x : S38} (ho : ∀ y ∈ out, InB y) (hx : InB x) : ∀ y ∈ mstep out x, InB y := by
  intro y hy
  unfold mstep at hy
  split at hy
  · next h =>
    rcases List.mem_or_eq_of_mem_set hy with h1 | rfl
    · exact ho y h1
    · have hl := ho (out.getD (out.length - 1) z38) (by
        rw [List.getD_eq_getElem?_getD, List.getElem?_eq_getElem (by omega)]
        exact List.getElem_mem _)
      obtain ⟨a, b, c⟩ := hl
      obtain ⟨d, e, f⟩ := hx
      refine ⟨a, ?_, ?_⟩
      · simp only; split <;> omega
      · simp only; split <;> omega
  · rcases List.mem_append.1 hy with h1 | h1
    · exact ho y h1
    · rw [List.mem_singleton] at h1; subst h1; exact hx
theorem mstep_len (out : List S38) (x : S38) : (mstep out x).length ≤ out.length + 1 := by
  unfold mstep
  split <;> simp
theorem merge_take (ds : List S38) (k : Nat) (hk : k < ds.length) : mergeL (ds.take (k + 1)) = mstep (mergeL (ds.take k)) (rd_T38 ds (k : Int)) := by
  have h : ds.take (k + 1) = ds.take k ++ [rd_T38 ds (k : Int)] := by
    rw [List.take_succ_eq_append_getElem hk]
    unfold rd_T38
    rw [List.getD_eq_getElem?_getD, Int.toNat_natCast, List.getElem?_eq_getElem hk]
    rfl
  rw [h]
  unfold mergeL
  rw [List.foldl_append]
  rfl
theorem merge_InB (ds : List S38) (h : ∀ x ∈ ds, InB x) : (∀ y ∈ mergeL ds, InB y) ∧ (mergeL ds).length ≤ ds.length := by
  have key : ∀ (l out : List S38), (∀ x ∈ l, InB x) → (∀ y ∈ out, InB y) → (∀ y ∈ l.foldl mstep out, InB y) ∧ (l.foldl mstep out).length ≤ out.length + l.length := by
    intro l
    induction l with
    | nil => intro out _ ho; exact ⟨ho, by simp⟩
    | cons x r ih =>
      intro out hl ho
      obtain ⟨a, b⟩ := ih (mstep out x) (fun y hy => hl y (List.mem_cons_of_mem _ hy)) (mstep_InB ho (hl x (List.mem_cons_self ..)))
      have := mstep_len out x
      rw [List.foldl_cons, List.length_cons]
      exact ⟨a, by omega⟩
  have := key ds [] h (by simp)
  simpa [mergeL] using this
theorem own_step (l : List S38) (k : Nat) (hk : k < l.length) : own (l.take (k + 1)) = own (l.take k) ++ (if ok1 (clip1 (rd_T38 l (k : Int))) = true then [clip1 (rd_T38 l (k : Int))] else []) := by
  have h : l.take (k + 1) = l.take k ++ [rd_T38 l (k : Int)] := by
    rw [List.take_succ_eq_append_getElem hk]
    unfold rd_T38
    rw [List.getD_eq_getElem?_getD, Int.toNat_natCast, List.getElem?_eq_getElem hk]
    rfl
  rw [h]
  unfold own
  rw [List.map_append, List.filter_append]
  congr 1
  simp [List.filter_cons]
def inR (r : Int) (x : S38) : Bool := decide (x.f0 ≤ r) && decide (r ≤ x.f1)
def hasL (l : List S38) (r : Int) : Bool := decide (0 ≤ r) && decide (r ≤ 1114111) && l.any (inR r)
def mem (l : List S38) (n : Int) : Prop := ∃ x ∈ l, x.f0 ≤ n ∧ n ≤ x.f1
def Canon (l : List S38) : Prop := (∀ x ∈ l, InB x) ∧ l.Pairwise (fun x y => x.f1 + 1 < y.f0)
theorem Canon.tail {x : S38} {l : List S38} (h : Canon (x :: l)) : Canon l := ⟨fun y hy => h.1 y (List.mem_cons_of_mem _ hy), (List.pairwise_cons.1 h.2).2⟩
theorem mem_nil (n : Int) : ¬ mem [] n := fun ⟨x, hx, _⟩ => by simp at hx
theorem mem_cons (x : S38) (l : List S38) (n : Int) : mem (x :: l) n ↔ (x.f0 ≤ n ∧ n ≤ x.f1) ∨ mem l n := by
  constructor
  · rintro ⟨y, hy, h⟩
    rcases List.mem_cons.1 hy with rfl | hy
    · exact Or.inl h
    · exact Or.inr ⟨y, hy, h⟩
  · rintro (h | ⟨y, hy, h⟩)
    · exact ⟨x, List.mem_cons_self .., h⟩
    · exact ⟨y, List.mem_cons_of_mem _ hy, h⟩
theorem mem_append (a b : List S38) (n : Int) : mem (a ++ b) n ↔ mem a n ∨ mem b n := by
  constructor
  · rintro ⟨y, hy, h⟩
    rcases List.mem_append.1 hy with hy | hy
    · exact Or.inl ⟨y, hy, h⟩
    · exact Or.inr ⟨y, hy, h⟩
  · rintro (⟨y, hy, h⟩ | ⟨y, hy, h⟩)
    · exact ⟨y, List.mem_append_left _ hy, h⟩
    · exact ⟨y, List.mem_append_right _ hy, h⟩
theorem Canon.low {x : S38} {l : List S38} (h : Canon (x :: l)) {n : Int} (hn : mem (x :: l) n) : x.f0 ≤ n := by
  rcases (mem_cons x l n).1 hn with h1 | ⟨y, hy, h1⟩
  · exact h1.1
  · have h2 := (List.pairwise_cons.1 h.2).1 y hy
    have h3 := (h.1 x (List.mem_cons_self ..)).2.1
    omega
theorem Canon.beyond {x : S38} {l : List S38} (h : Canon (x :: l)) {n : Int} (hn : mem l n) : x.f1 + 1 < n := by
  obtain ⟨y, hy, h1⟩ := hn
  have h2 := (List.pairwise_cons.1 h.2).1 y hy
  omega
/-- There is just one such list of the same numbers. -/
theorem Canon.unique : ∀ {a b : List S38}, Canon a → Canon b → (∀ n, mem a n ↔ mem b n) → a = b
  | [], [], _, _, _ => rfl
  | [], y :: b, _, hb, h => by
    have := (hb.1 y (List.mem_cons_self ..)).2.1
    exact absurd ((h y.f0).2 ((mem_cons _ _ _).2 (Or.inl ⟨Int.le_refl _, this⟩))) (mem_nil _)
  | x :: a, [], ha, _, h => by
    have := (ha.1 x (List.mem_cons_self ..)).2.1
    exact absurd ((h x.f0).1 ((mem_cons _ _ _).2 (Or.inl ⟨Int.le_refl _, this⟩))) (mem_nil _)
  | x :: a, y :: b, ha, hb, h => by
    have hx := (ha.1 x (List.mem_cons_self ..)).2.1
    have hy := (hb.1 y (List.mem_cons_self ..)).2.1
    have e0 : x.f0 = y.f0 := by
      have h1 := hb.low ((h x.f0).1 ((mem_cons _ _ _).2 (Or.inl ⟨Int.le_refl _, hx⟩)))
      have h2 := ha.low ((h y.f0).2 ((mem_cons _ _ _).2 (Or.inl ⟨Int.le_refl _, hy⟩)))
      omega
    have e1 : x.f1 = y.f1 := by
      rcases Int.lt_trichotomy x.f1 y.f1 with h1 | h1 | h1
      · have h2 := (h (x.f1 + 1)).2 ((mem_cons _ _ _).2 (Or.inl ⟨by omega, by omega⟩))
        rcases (mem_cons _ _ _).1 h2 with h3 | h3
        · omega
        · have := ha.beyond h3; omega
      · exact h1
      · have h2 := (h (y.f1 + 1)).1 ((mem_cons _ _ _).2 (Or.inl ⟨by omega, by omega⟩))
        rcases (mem_cons _ _ _).1 h2 with h3 | h3
        · omega
        · have := hb.beyond h3; omega
    have e : x = y := by cases x; cases y; simp_all
    subst e
    rw [Canon.unique ha.tail hb.tail (fun n => ⟨fun hn => ?_, fun hn => ?_⟩)]
    · have h1 := ha.beyond hn
      rcases (mem_cons _ _ _).1 ((h n).1 ((mem_cons _ _ _).2 (Or.inr hn))) with h2 | h2
      · omega
      · exact h2
    · have h1 := hb.beyond hn
      rcases (mem_cons _ _ _).1 ((h n).2 ((mem_cons _ _ _).2 (Or.inr hn))) with h2 | h2
      · omega
      · exact h2
theorem mstep_nil (x : S38) : mstep [] x = [x] := by
  unfold mstep
  rw [if_neg (by simp)]
  rfl
theorem mstep_snoc (l : List S38) (y x : S38) : mstep (l ++ [y]) x = if x.f0 ≤ y.f1 + 1 then l ++ [⟨y.f0, if y.f1 < x.f1 then x.f1 else y.f1⟩] else l ++ [y] ++ [x] := by
  have e : (l ++ [y]).length - 1 = l.length := by simp
  have e2 : (l ++ [y]).getD l.length z38 = y := by
    rw [List.getD_eq_getElem?_getD, List.getElem?_append_right (Nat.le_refl _)]
    simp
  unfold mstep
  rw [e, e2]
  by_cases h : x.f0 ≤ y.f1 + 1
  · rw [if_pos ⟨by simp, h⟩, if_pos h, List.set_append_right _ _ (Nat.le_refl _)]
    simp
  · rw [if_neg (fun h2 => h h2.2), if_neg h]
theorem mstep_canon {out : List S38} {x : S38} (ho : Canon out) (hx : InB x) (hlow : ∀ y ∈ out, y.f0 ≤ x.f0) : Canon (mstep out x) ∧ ∀ n, mem (mstep out x) n ↔ mem out n ∨ (x.f0 ≤ n ∧ n ≤ x.f1) := by
  have hin : ∀ y ∈ mstep out x, InB y := mstep_InB ho.1 hx
  rcases List.eq_nil_or_concat out with rfl | ⟨l, y, rfl⟩
  · rw [mstep_nil] at hin ⊢
    refine ⟨⟨hin, List.pairwise_singleton _ _⟩, fun n => ?_⟩
    rw [mem_cons]
    constructor
    · rintro (h | h)
      · exact Or.inr h
      · exact Or.inl h
    · rintro (h | h)
      · exact Or.inr h
      · exact Or.inl h
  · rw [List.concat_eq_append] at *
    have hy := ho.1 y (by simp)
    have hyl := hlow y (by simp)
    have hp := List.pairwise_append.1 ho.2
    rw [mstep_snoc] at hin ⊢
    by_cases h : x.f0 ≤ y.f1 + 1
    · rw [if_pos h] at hin ⊢
      refine ⟨⟨hin, ?_⟩, fun n => ?_⟩
      · rw [List.pairwise_append]
        refine ⟨hp.1, List.pairwise_singleton _ _, fun a ha b hb => ?_⟩
        rw [List.mem_singleton] at hb
        subst hb
        exact hp.2.2 a ha y (by simp)
      · rw [mem_append, mem_append, mem_cons, mem_cons]
        have h1 := hy.2.1
        have h2 := hx.2.1
        simp only [mem_nil, or_false]
        by_cases hm : mem l n
        · simp [hm]
        · simp only [hm, false_or]
          split <;> omega
    · rw [if_neg h] at hin ⊢
      refine ⟨⟨hin, ?_⟩, fun n => ?_⟩
      · rw [List.pairwise_append]
        refine ⟨ho.2, List.pairwise_singleton _ _, fun a ha b hb => ?_⟩
        rw [List.mem_singleton] at hb
        subst hb
        rcases List.mem_append.1 ha with ha | ha
        · have h1 := hp.2.2 a ha y (by simp)
          have h2 := hy.2.1
          omega
        · rw [List.mem_singleton] at ha
          subst ha
          omega
      · rw [mem_append, mem_cons]
        simp only [mem_nil, or_false]
theorem foldl_canon : ∀ (ds out : List S38), Canon out → (∀ x ∈ ds, InB x) → ds.Pairwise (fun x y => x.f0 ≤ y.f0) → (∀ y ∈ out, ∀ x ∈ ds, y.f0 ≤ x.f0) → Canon (ds.foldl mstep out) ∧ ∀ n, mem (ds.foldl mstep out) n ↔ mem out n ∨ mem ds n
  | [], out, ho, _, _, _ => ⟨ho, fun n => by simp [mem_nil]⟩
  | x :: ds, out, ho, hi, hs, hl => by
    have hx := hi x (List.mem_cons_self ..)
    obtain ⟨h1, h2⟩ := mstep_canon ho hx (fun y hy => hl y hy x (List.mem_cons_self ..))
    have hs' := List.pairwise_cons.1 hs
    obtain ⟨h3, h4⟩ := foldl_canon ds (mstep out x) h1 (fun y hy => hi y (List.mem_cons_of_mem _ hy)) hs'.2 (fun y hy z hz => by
      have hzx := hs'.1 z hz
      unfold mstep at hy
      split at hy
      · next hc =>
        rcases List.mem_or_eq_of_mem_set hy with h5 | rfl
        · exact hl y h5 z (List.mem_cons_of_mem _ hz)
        · have hmem : out.getD (out.length - 1) z38 ∈ out := by
            rw [List.getD_eq_getElem?_getD, List.getElem?_eq_getElem (by omega)]
            exact List.getElem_mem _
          exact hl _ hmem z (List.mem_cons_of_mem _ hz)
      · rcases List.mem_append.1 hy with h5 | h5
        · exact hl y h5 z (List.mem_cons_of_mem _ hz)
        · rw [List.mem_singleton] at h5
          subst h5
          exact hzx)
    refine ⟨h3, fun n => ?_⟩
    rw [List.foldl_cons, h4, h2, mem_cons, or_assoc]
theorem mergeL_canon (ds : List S38) (hi : ∀ x ∈ ds, InB x) (hs : ds.Pairwise (fun x y => x.f0 ≤ y.f0)) : Canon (mergeL ds) ∧ ∀ n, mem (mergeL ds) n ↔ mem ds n := by
  obtain ⟨h1, h2⟩ := foldl_canon ds [] ⟨by simp, List.Pairwise.nil⟩ hi hs (by simp)
  exact ⟨h1, fun n => by rw [mergeL, h2]; simp [mem_nil]⟩
/-- The set of ranges, however they stand. -/
def norm (l : List S38) : List S38 := mergeL ((own l).mergeSort (fun x y => decide (x.f0 ≤ y.f0)))
theorem sorted_norm (l : List S38) : ((own l).mergeSort (fun x y => decide (x.f0 ≤ y.f0))).Pairwise (fun x y => x.f0 ≤ y.f0) := by
  have h := List.pairwise_mergeSort (le := fun x y : S38 => decide (x.f0 ≤ y.f0)) (fun a b c h1 h2 => by simp at *; omega) (fun a b => by simp; omega) (own l)
  exact h.imp (fun h => of_decide_eq_true h)
theorem norm_canon (l : List S38) : Canon (norm l) ∧ ∀ n, mem (norm l) n ↔ mem (own l) n := by
  have hp := List.mergeSort_perm (own l) (fun x y => decide (x.f0 ≤ y.f0))
  obtain ⟨h1, h2⟩ := mergeL_canon _ (fun x hx => own_InB l x (hp.mem_iff.1 hx)) (sorted_norm l)
  refine ⟨h1, fun n => (h2 n).trans ?_⟩
  constructor
  · rintro ⟨x, hx, h⟩; exact ⟨x, hp.mem_iff.1 hx, h⟩
  · rintro ⟨x, hx, h⟩; exact ⟨x, hp.mem_iff.2 hx, h⟩
theorem mergeL_norm (l ds : List S38) (hp : ds.Perm (own l)) (hs : ds.Pairwise (fun x y => x.f0 ≤ y.f0)) : mergeL ds = norm l := by
  obtain ⟨h1, h2⟩ := mergeL_canon ds (fun x hx => own_InB l x (hp.mem_iff.1 hx)) hs
  obtain ⟨h3, h4⟩ := norm_canon l
  refine Canon.unique h1 h3 (fun n => (h2 n).trans ((?_ : mem ds n ↔ mem (own l) n).trans (h4 n).symm))
  constructor
  · rintro ⟨x, hx, h⟩; exact ⟨x, hp.mem_iff.1 hx, h⟩
  · rintro ⟨x, hx, h⟩; exact ⟨x, hp.mem_iff.2 hx, h⟩
#print axioms mergeL_norm
#print axioms mstep_canon
end Go.Proofs.Ytoihjhpabccigaa.OF
