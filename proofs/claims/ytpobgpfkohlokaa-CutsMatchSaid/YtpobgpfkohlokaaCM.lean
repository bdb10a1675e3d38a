/- cuts.Match plainly: names in order, what a line's parts are. -/
import Derived.Lib.IndexMore
import Derived.Lib.Strings
import Derived.Sort.Statements
namespace Go.Proofs.Ytpobgpfkohlokaa.PC
open Go.Lib
set_option linter.unusedVariables false
theorem cb_self : ∀ a : List UInt8, compareBytes a a = 0
  | [] => rfl
  | x :: a => by
    unfold compareBytes
    rw [if_neg (UInt8.lt_irrefl x), if_neg (UInt8.lt_irrefl x)]
    exact cb_self a
theorem cb_zero : ∀ {a b : List UInt8}, compareBytes a b = 0 → a = b
  | [], [], _ => rfl
  | [], _ :: _, h => by unfold compareBytes at h; omega
  | _ :: _, [], h => by unfold compareBytes at h; omega
  | x :: a, y :: b, h => by
    unfold compareBytes at h
    split at h
    · omega
    · rename_i h1
      split at h
      · omega
      · rename_i h2
        have : x = y := UInt8.le_antisymm (UInt8.not_lt.1 h2) (UInt8.not_lt.1 h1)
        rw [this, cb_zero h]
theorem cb_cons (x y : UInt8) (a b : List UInt8) : compareBytes (x :: a) (y :: b) < 0 ↔ x < y ∨ (x = y ∧ compareBytes a b < 0) := by
  rw [compareBytes]
  by_cases h1 : x < y
  · simp [h1]
  · by_cases h2 : y < x
    · rw [if_neg h1, if_pos h2]
      constructor
      · intro h; omega
      · rintro (h | ⟨h, -⟩)
        · exact absurd h h1
        · subst h; exact absurd h2 h1
    · have e : x = y := UInt8.le_antisymm (UInt8.not_lt.1 h2) (UInt8.not_lt.1 h1)
      subst e
      simp [h1]
theorem cb_trans : ∀ {a b c : List UInt8}, compareBytes a b < 0 → compareBytes b c < 0 → compareBytes a c < 0
  | [], [], c, h, _ => by unfold compareBytes at h; omega
  | [], _ :: _, [], _, h => by unfold compareBytes at h; omega
  | [], _ :: _, _ :: _, _, _ => by unfold compareBytes; omega
  | _ :: _, [], c, h, _ => by unfold compareBytes at h; omega
  | _ :: _, _ :: _, [], _, h => by unfold compareBytes at h; omega
  | x :: a, y :: b, z :: c, h, h' => by
    rw [cb_cons] at h h' ⊢
    rcases h with h | ⟨rfl, h⟩
    · rcases h' with h' | ⟨rfl, h'⟩
      · exact .inl (UInt8.lt_trans h h')
      · exact .inl h
    · rcases h' with h' | ⟨rfl, h'⟩
      · exact .inl h'
      · exact .inr ⟨rfl, cb_trans h h'⟩
theorem cb_tri : ∀ (a b : List UInt8), compareBytes a b < 0 ∨ a = b ∨ compareBytes b a < 0
  | [], [] => .inr (.inl rfl)
  | [], _ :: _ => .inl (by unfold compareBytes; omega)
  | _ :: _, [] => .inr (.inr (by unfold compareBytes; omega))
  | x :: a, y :: b => by
    rw [cb_cons, cb_cons]
    by_cases h1 : x < y
    · exact .inl (.inl h1)
    · by_cases h2 : y < x
      · exact .inr (.inr (.inl h2))
      · have e : x = y := UInt8.le_antisymm (UInt8.not_lt.1 h2) (UInt8.not_lt.1 h1)
        subst e
        rcases cb_tri a b with h | h | h
        · exact .inl (.inr ⟨rfl, h⟩)
        · exact .inr (.inl (by rw [h]))
        · exact .inr (.inr (.inr ⟨rfl, h⟩))
theorem cb_asym {a b : List UInt8} (h : compareBytes a b < 0) : ¬ compareBytes b a < 0 := by
  intro h2
  have := cb_trans h h2
  rw [cb_self] at this
  omega
theorem cb_ntrans {a b c : List UInt8} (h : ¬ compareBytes a b < 0) (h' : ¬ compareBytes b c < 0) : ¬ compareBytes a c < 0 := by
  intro h3
  rcases cb_tri b a with h1 | h1 | h1
  · exact h' (cb_trans h1 h3)
  · subst h1; exact h' h3
  · exact h h1
/-- Where what stands behind a part begins. -/
def placeM (s b : List UInt8) : Int := if b = [] then (s.length : Int) else index s b
def stepM (st : List UInt8 × List (List UInt8 × List UInt8)) (p : List UInt8 × List UInt8) : Option (List UInt8 × List (List UInt8 × List UInt8)) :=
  if placeM st.1 p.2 < 0 then none else some (st.1.drop ((placeM st.1 p.2).toNat + p.2.length), if p.1 ≠ [95] ∧ 0 < placeM st.1 p.2 then st.2 ++ [(p.1, st.1.take (placeM st.1 p.2).toNat)] else st.2)
def foldM : List (List UInt8 × List UInt8) → List UInt8 × List (List UInt8 × List UInt8) → Option (List UInt8 × List (List UInt8 × List UInt8))
  | [], st => some st
  | p :: ps, st => (stepM st p).bind (foldM ps)
theorem foldM_append : ∀ (ps qs : List (List UInt8 × List UInt8)) (st), foldM (ps ++ qs) st = (foldM ps st).bind (foldM qs)
  | [], qs, st => rfl
  | p :: ps, qs, st => by
    show (stepM st p).bind (foldM (ps ++ qs)) = ((stepM st p).bind (foldM ps)).bind (foldM qs)
    cases stepM st p with
    | none => rfl
    | some s => exact foldM_append ps qs s
theorem foldM_snoc (ps : List (List UInt8 × List UInt8)) (p : List UInt8 × List UInt8) (st s) (h : foldM ps st = some s) : foldM (ps ++ [p]) st = stepM s p := by
  rw [foldM_append, h]
  show (stepM s p).bind some = _
  cases stepM s p <;> rfl
/-- A list by rising names. -/
def insM (p : List UInt8 × List UInt8) : List (List UInt8 × List UInt8) → List (List UInt8 × List UInt8)
  | [] => [p]
  | q :: l => if compareBytes q.1 p.1 < 0 then q :: insM p l else p :: q :: l
def sortM : List (List UInt8 × List UInt8) → List (List UInt8 × List UInt8)
  | [] => []
  | p :: l => insM p (sortM l)
def Up (l : List (List UInt8 × List UInt8)) : Prop := l.Pairwise (fun x y => compareBytes x.1 y.1 < 0)
theorem insM_perm (p : List UInt8 × List UInt8) : ∀ l, (insM p l).Perm (p :: l)
  | [] => .refl _
  | q :: l => by
    unfold insM
    split
    · exact ((insM_perm p l).cons q).trans (List.Perm.swap p q l)
    · exact .refl _
theorem sortM_perm : ∀ l, (sortM l).Perm l
  | [] => .refl _
  | p :: l => (insM_perm p _).trans ((sortM_perm l).cons p)
theorem insM_up (p : List UInt8 × List UInt8) : ∀ l, Up l → (∀ q ∈ l, q.1 ≠ p.1) → Up (insM p l)
  | [], _, _ => List.pairwise_singleton _ _
  | q :: l, h, hne => by
    unfold insM
    have h := List.pairwise_cons.1 h
    split
    · rename_i hq
      refine List.pairwise_cons.2 ⟨fun x hx => ?_, insM_up p l h.2 (fun q hq => hne q (List.mem_cons_of_mem _ hq))⟩
      rcases List.mem_cons.1 ((insM_perm p l).mem_iff.1 hx) with rfl | hx
      · exact hq
      · exact h.1 x hx
    · rename_i hq
      have hp : compareBytes p.1 q.1 < 0 := by
        rcases cb_tri p.1 q.1 with h1 | h1 | h1
        · exact h1
        · exact absurd h1.symm (hne q List.mem_cons_self)
        · exact absurd h1 hq
      refine List.pairwise_cons.2 ⟨fun x hx => ?_, List.pairwise_cons.2 h⟩
      rcases List.mem_cons.1 hx with rfl | hx
      · exact hp
      · exact cb_trans hp (h.1 x hx)
theorem sortM_up : ∀ l : List (List UInt8 × List UInt8), (l.map (·.1)).Nodup → Up (sortM l)
  | [], _ => List.Pairwise.nil
  | p :: l, h => by
    have h := List.nodup_cons.1 h
    refine insM_up p _ (sortM_up l h.2) (fun q hq e => h.1 ?_)
    show p.1 ∈ _
    rw [← e]
    exact List.mem_map_of_mem ((sortM_perm l).mem_iff.1 hq)
theorem up_unique {l m : List (List UInt8 × List UInt8)} (hl : Up l) (hm : Up m) (hp : l.Perm m) : l = m :=
  List.Perm.eq_of_pairwise (fun a b ha hb h1 h2 => absurd h2 (cb_asym h1)) hl hm hp
theorem sortM_unique {l m : List (List UInt8 × List UInt8)} (hp : m.Perm l) (hs : m.Pairwise (fun x y => ¬ compareBytes y.1 x.1 < 0)) (hn : (l.map (·.1)).Nodup) : m = sortM l := by
  have hnm : (m.map (·.1)).Nodup := ((hp.map (·.1)).nodup_iff).2 hn
  refine up_unique ?_ (sortM_up l hn) (hp.trans (sortM_perm l).symm)
  refine (hs.and (List.pairwise_map.1 hnm)).imp ?_
  rintro a b ⟨h1, h2⟩
  rcases cb_tri a.1 b.1 with h | h | h
  · exact h
  · exact absurd h h2
  · exact absurd h h1
/-- cuts.Match, plainly: none: the line has them not. -/
def matchP (a : List UInt8) (l : List (List UInt8 × List UInt8)) (s : List UInt8) : Option (List (List UInt8 × List UInt8)) :=
  if l = [] then none else if hasPrefix s a then (foldM l (trimPrefix s a, [])).map (fun st => sortM st.2) else none
end Go.Proofs.Ytpobgpfkohlokaa.PC
