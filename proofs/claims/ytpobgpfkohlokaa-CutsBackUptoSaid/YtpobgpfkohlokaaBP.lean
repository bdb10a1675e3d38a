/- CutsBack, plainly. -/
import Derived.Test.YtpobgpfkohlokaaNP
namespace Go.Proofs.Ytpobgpfkohlokaa.PC
open Go.RowKit Go.Lib Go.Shelf Go.Maps Go.Proofs.YtpobgpfkohlokaaW.PrintWords Go.Proofs.YtpobgpfkohlokaaW.PrintLast Go.Proofs.YtpobgpfkohlokaaW.PrintMore
set_option linter.unusedVariables false
set_option linter.unusedSimpArgs false
/-- What a text was found behind it is found behind in a longer one. -/
theorem index_more {x b : BL} {i : Nat} (h : index x b = (i : Int)) (y : BL) : index (x ++ y) b = (i : Int) := by
  rcases index_spec x b with ⟨h1, -⟩ | ⟨k, h1, h2, h3, h4⟩
  · omega
  · obtain rfl : k = i := by omega
    have hr := index_room x b (by omega)
    have key : ∀ j, j + b.length ≤ x.length → occAt (x ++ y) b j = occAt x b j := by
      intro j hj
      unfold occAt
      rw [List.drop_append_of_le_length (by omega)]
      rw [Bool.eq_iff_iff, List.isPrefixOf_iff_prefix, List.isPrefixOf_iff_prefix]
      constructor
      · intro hp
        have := List.prefix_iff_eq_take.1 hp
        rw [List.take_append_of_le_length (by rw [List.length_drop]; omega)] at this
        rw [this]
        exact List.take_prefix _ _
      · intro hp
        exact hp.trans (List.prefix_append _ _)
    refine index_first (by rw [List.length_append]; omega) (by rw [key k (by omega)]; exact h3) (fun j hj => ?_)
    rw [key j (by omega)]
    exact h4 j hj
/-- What stands behind, and the text ahead of it: which may be. -/
def OkQ (q : BL × BL) : Prop := q.1 ≠ [] ∧ No60 q.1 ∧ q.1.length ≤ 3 ∧ index (q.2 ++ q.1) q.1 = (q.2.length : Int)
def psQ : Nat → List (BL × BL) → List (BL × BL)
  | _, [] => []
  | i, q :: qs => (nmL i, q.1) :: psQ (i + 1) qs
def lineQ : List (BL × BL) → BL
  | [] => []
  | q :: qs => q.2 ++ (q.1 ++ lineQ qs)
def outQ : Nat → List (BL × BL) → List (BL × BL)
  | _, [] => []
  | i, q :: qs => (if q.2 = [] then [] else [(nmL i, q.2)]) ++ outQ (i + 1) qs
theorem psQ_snoc : ∀ (qs : List (BL × BL)) (i : Nat) (q : BL × BL), psQ i (qs ++ [q]) = psQ i qs ++ [(nmL (i + qs.length), q.1)]
  | [], i, q => rfl
  | p :: qs, i, q => by
    show (nmL i, p.1) :: psQ (i + 1) (qs ++ [q]) = (nmL i, p.1) :: (psQ (i + 1) qs ++ [_])
    rw [psQ_snoc qs (i + 1) q]
    simp only [List.length_cons]
    rw [show i + 1 + qs.length = i + (qs.length + 1) by omega]
theorem lineQ_snoc : ∀ (qs : List (BL × BL)) (q : BL × BL), lineQ (qs ++ [q]) = lineQ qs ++ (q.2 ++ q.1)
  | [], q => by show q.2 ++ (q.1 ++ []) = [] ++ (q.2 ++ q.1); simp
  | p :: qs, q => by
    show p.2 ++ (p.1 ++ lineQ (qs ++ [q])) = (p.2 ++ (p.1 ++ lineQ qs)) ++ (q.2 ++ q.1)
    rw [lineQ_snoc qs q]
    simp
theorem outQ_snoc : ∀ (qs : List (BL × BL)) (i : Nat) (q : BL × BL), outQ i (qs ++ [q]) = outQ i qs ++ (if q.2 = [] then [] else [(nmL (i + qs.length), q.2)])
  | [], i, q => by show _ ++ [] = [] ++ _; rw [List.append_nil]; rfl
  | p :: qs, i, q => by
    show _ ++ outQ (i + 1) (qs ++ [q]) = (_ ++ outQ (i + 1) qs) ++ _
    rw [outQ_snoc qs (i + 1) q]
    simp only [List.length_cons]
    rw [show i + 1 + qs.length = i + (qs.length + 1) by omega, List.append_assoc]
theorem psQ_ok : ∀ (qs : List (BL × BL)) (i : Nat), i + qs.length ≤ 20 → (∀ q ∈ qs, OkQ q) → ∀ p ∈ psQ i qs, NameOk p.1 ∧ No60 p.2
  | [], i, _, _, p, hp => by cases hp
  | q :: qs, i, hi, h, p, hp => by
    simp only [List.length_cons] at hi
    rcases List.mem_cons.1 hp with rfl | hp
    · exact ⟨nameOk_nm (by omega), (h q List.mem_cons_self).2.1⟩
    · exact psQ_ok qs (i + 1) (by omega) (fun r hr => h r (List.mem_cons_of_mem _ hr)) p hp
/-- What may stand at the end: nothing, or <z>. -/
def TailOk (t : List (BL × BL)) : Prop := t = [] ∨ t = [([122], [])]
theorem z_no : ∀ i, i < 20 → nmL i ≠ [122] := by decide
theorem okp_q : ∀ (qs : List (BL × BL)) (i : Nat) (sn : List BL) (b : BL) (t : List (BL × BL)), i + qs.length ≤ 20 → (∀ q ∈ qs, OkQ q) → b ≠ [] → TailOk t → (∀ n ∈ sn, ∃ j, j < i ∧ n = nmL j) → OKP sn b (psQ i qs ++ t)
  | [], i, sn, b, t, hi, _, hb, ht, hs => by
    rcases ht with rfl | rfl
    · trivial
    · refine ⟨hb, by simp, ?_, trivial⟩
      rintro ⟨h1, -⟩
      obtain ⟨j, hj, h2⟩ := hs _ h1
      simp only [List.length_nil] at hi
      exact z_no j (by omega) h2.symm
  | q :: qs, i, sn, b, t, hi, h, hb, ht, hs => by
    simp only [List.length_cons] at hi
    have hq := h q List.mem_cons_self
    refine ⟨hb, (nameOk_nm (show i < 20 by omega)).ne, ?_, ?_⟩
    · rintro ⟨h1, -⟩
      obtain ⟨j, hj, h2⟩ := hs _ h1
      have : i = j := nm_inj (by omega) (by omega) h2
      omega
    · refine okp_q qs (i + 1) _ _ t (by omega) (fun r hr => h r (List.mem_cons_of_mem _ hr)) hq.1 ht (fun n hn => ?_)
      rcases List.mem_cons.1 hn with rfl | hn
      · exact ⟨i, by omega, rfl⟩
      · obtain ⟨j, hj, h2⟩ := hs n hn
        exact ⟨j, by omega, h2⟩
theorem psQ_len : ∀ (qs : List (BL × BL)) (i : Nat), (∀ q ∈ qs, OkQ q) → (patC (psQ i qs)).length ≤ 6 * qs.length
  | [], i, _ => Nat.le_refl _
  | q :: qs, i, h => by
    have ih := psQ_len qs (i + 1) (fun r hr => h r (List.mem_cons_of_mem _ hr))
    have hq := (h q List.mem_cons_self).2.2.1
    show (60 :: (nmL i ++ 62 :: (q.1 ++ patC (psQ (i + 1) qs)))).length ≤ 6 * (qs.length + 1)
    simp only [List.length_cons, List.length_append]
    have : (nmL i).length = 1 := rfl
    omega
theorem psQ_none : ∀ (qs : List (BL × BL)) (i : Nat) (t : List (BL × BL)), qs ≠ [] → i + qs.length ≤ 20 → namesP (psQ i qs ++ t) ≠ []
  | [], i, t, h, _ => absurd rfl h
  | q :: qs, i, t, _, hi => by
    simp only [List.length_cons] at hi
    have hn := (nm_ok i (by omega)).2.2
    show namesP ((nmL i, q.1) :: (psQ (i + 1) qs ++ t)) ≠ []
    unfold namesP
    rw [List.map_cons, List.filter_cons, if_pos (by simpa using hn)]
    exact List.cons_ne_nil _ _
theorem firstP_open {n : BL} (h : NameOk n) (hn : No60 n) (r : BL) : firstP ([60] ++ 60 :: (n ++ 62 :: r)) = some (1, n) := by
  have h1 : partAt (60 :: 60 :: (n ++ 62 :: r)) = none := by
    unfold partAt
    dsimp only
    have e := cut1_at 62 (60 :: n) r (by
      intro x hx
      rcases List.mem_cons.1 hx with rfl | hx
      · decide
      · exact h.no x hx)
    rw [show (60 : UInt8) :: (n ++ 62 :: r) = (60 :: n) ++ 62 :: r from rfl, e]
    refine if_neg ?_
    rintro ⟨-, -, h2 | h2⟩
    · have := congrArg List.head? h2
      simp at this
    · unfold isNameB at h2
      simp only [List.all_cons, Bool.and_eq_true] at h2
      have := h2.2.1
      revert this
      decide
  have h2 := firstP_next ([60] ++ 60 :: (n ++ 62 :: r)) 0 (by simp) (by intro x hx; cases hx) (by rw [List.drop_zero]; exact h1)
  rw [h2]
  have h3 : firstP (([60] ++ 60 :: (n ++ 62 :: r)).drop (0 + 1)) = some (0, n) := firstP_at (x := []) (by intro x hx; cases hx) h r
  rw [h3]
  rfl
theorem no60_nm {i : Nat} (h : i < 20) : No60 (nmL i) := by
  have : ∀ i, i < 20 → (nmL i).all (fun x => x != 60) = true := by decide
  intro x hx
  simpa using List.all_eq_true.1 (this i h) x hx
theorem newP_back (qs : List (BL × BL)) (t : List (BL × BL)) (hl : qs.length ≤ 10) (hne : qs ≠ []) (h : ∀ q ∈ qs, OkQ q) (ht : TailOk t) : newP ([60] ++ patC (psQ 0 qs ++ t)) = some ([60], psQ 0 qs ++ t) := by
  cases qs with
  | nil => exact absurd rfl hne
  | cons q qs =>
    simp only [List.length_cons] at hl
    have hq := h q List.mem_cons_self
    have hps := psQ_ok (q :: qs) 0 (by simp only [List.length_cons]; omega) h
    have hlen := psQ_len (q :: qs) 0 h
    have htl : (patC t).length ≤ 3 := by rcases ht with rfl | rfl <;> decide
    have htok : ∀ p ∈ t, NameOk p.1 ∧ No60 p.2 := by
      rcases ht with rfl | rfl
      · intro p hp; cases hp
      · intro p hp
        rw [List.mem_singleton] at hp
        subst hp
        exact ⟨⟨.inr (by decide), by simp, by simp⟩, by intro x hx; cases hx⟩
    have hpa := partsA_pat (psQ 1 qs ++ t) q.1 hq.2.1 (fun p hp => by
      rcases List.mem_append.1 hp with hp | hp
      · exact hps p (List.mem_cons_of_mem _ hp)
      · exact htok p hp)
    have hn := newP_of (x := [60]) (p := (nmL 0, q.1)) (ps := psQ 1 qs ++ t) (by
      have e : patC ((nmL 0, q.1) :: (psQ 1 qs ++ t)) = patC (psQ 0 (q :: qs)) ++ patC t := by rw [← patC_append]; rfl
      rw [e]
      simp only [List.length_append, List.length_cons, List.length_nil] at hlen ⊢
      omega) (by
      show partsA ([60] ++ 60 :: (nmL 0 ++ 62 :: (q.1 ++ patC (psQ 1 qs ++ t)))) = _
      rw [partsA_of (firstP_open (nameOk_nm (by omega)) (no60_nm (by omega)) _), hpa]
      rfl) (nameOk_nm (by omega)).ne (okp_q qs 1 _ _ t (by omega) (fun r hr => h r (List.mem_cons_of_mem _ hr)) hq.1 ht (fun n hn => by
        rw [List.mem_singleton] at hn
        exact ⟨0, by omega, hn⟩))
    have hnn : ¬ namesP ((nmL 0, q.1) :: (psQ 1 qs ++ t)) = [] := psQ_none (q :: qs) 0 t (by simp) (by simp only [List.length_cons]; omega)
    rw [if_neg hnn] at hn
    exact hn
theorem foldM_back : ∀ (qs : List (BL × BL)) (i : Nat) (R : BL) (out : List (BL × BL)), i + qs.length ≤ 20 → (∀ q ∈ qs, OkQ q) → foldM (psQ i qs) (lineQ qs ++ R, out) = some (R, out ++ outQ i qs)
  | [], i, R, out, _, _ => by show some ([] ++ R, out) = some (R, out ++ []); simp
  | q :: qs, i, R, out, hi, h => by
    simp only [List.length_cons] at hi
    have hq := h q List.mem_cons_self
    show (stepM ((q.2 ++ (q.1 ++ lineQ qs)) ++ R, out) (nmL i, q.1)).bind (foldM (psQ (i + 1) qs)) = _
    have e0 : (q.2 ++ (q.1 ++ lineQ qs)) ++ R = (q.2 ++ q.1) ++ (lineQ qs ++ R) := by simp
    have hpl : placeM ((q.2 ++ (q.1 ++ lineQ qs)) ++ R) q.1 = (q.2.length : Int) := by
      unfold placeM
      rw [if_neg hq.1, e0]
      exact index_more hq.2.2.2 _
    have hn := (nm_ok i (by omega)).2.2
    have e1 : stepM ((q.2 ++ (q.1 ++ lineQ qs)) ++ R, out) (nmL i, q.1) = some (lineQ qs ++ R, out ++ (if q.2 = [] then [] else [(nmL i, q.2)])) := by
      unfold stepM
      simp only [hpl, Int.toNat_natCast]
      rw [if_neg (by omega)]
      have e2 : ((q.2 ++ (q.1 ++ lineQ qs)) ++ R).drop (q.2.length + q.1.length) = lineQ qs ++ R := by
        rw [e0, ← List.length_append, List.drop_left]
      have e3 : ((q.2 ++ (q.1 ++ lineQ qs)) ++ R).take q.2.length = q.2 := by
        rw [List.append_assoc, List.take_left]
      rw [e2, e3]
      by_cases h0 : q.2 = []
      · rw [if_pos h0, if_neg (by rw [h0]; simp), List.append_nil]
      · rw [if_neg h0, if_pos ⟨hn, by have := List.length_pos_iff.2 h0; omega⟩]
    rw [e1]
    show foldM (psQ (i + 1) qs) (lineQ qs ++ R, _) = _
    rw [foldM_back qs (i + 1) R _ (by omega) (fun r hr => h r (List.mem_cons_of_mem _ hr)), List.append_assoc]
    rfl
theorem outQ_mem : ∀ (qs : List (BL × BL)) (i : Nat) (p : BL × BL), p ∈ outQ i qs → ∃ j, i ≤ j ∧ j < i + qs.length ∧ p.1 = nmL j ∧ p.2 ≠ []
  | [], i, p, h => by cases h
  | q :: qs, i, p, h => by
    rcases List.mem_append.1 h with h | h
    · by_cases h0 : q.2 = []
      · rw [if_pos h0] at h; cases h
      · rw [if_neg h0, List.mem_singleton] at h
        subst h
        exact ⟨i, Nat.le_refl _, by simp, rfl, h0⟩
    · obtain ⟨j, h1, h2, h3, h4⟩ := outQ_mem qs (i + 1) p h
      exact ⟨j, by omega, by simp only [List.length_cons]; omega, h3, h4⟩
theorem outQ_up : ∀ (qs : List (BL × BL)) (i : Nat), i + qs.length ≤ 20 → Up (outQ i qs)
  | [], i, _ => List.Pairwise.nil
  | q :: qs, i, hi => by
    simp only [List.length_cons] at hi
    have ih := outQ_up qs (i + 1) (by omega)
    show Up (_ ++ outQ (i + 1) qs)
    refine List.pairwise_append.2 ⟨?_, ih, ?_⟩
    · split
      · exact List.Pairwise.nil
      · exact List.pairwise_singleton _ _
    · intro a ha b hb
      have ha2 : a.1 = nmL i := by
        split at ha
        · cases ha
        · rw [List.mem_singleton] at ha; rw [ha]
      obtain ⟨j, h1, h2, h3, -⟩ := outQ_mem qs (i + 1) b hb
      show compareBytes a.1 b.1 < 0
      rw [ha2, h3]
      exact nm_lt j (by omega) i (by omega)
theorem z_lt : ∀ i, i < 20 → compareBytes (nmL i) [122] < 0 := by decide
theorem trim60 (r : BL) : trimPrefix ([60] ++ r) [60] = r := by
  unfold trimPrefix
  rw [if_pos (by unfold hasPrefix; simp)]
  rfl
theorem cutP_back (qs : List (BL × BL)) (R : BL) (hl : qs.length ≤ 10) (hne : qs ≠ []) (h : ∀ q ∈ qs, OkQ q) : cutP ([60] ++ patC (psQ 0 qs)) ([60] ++ (lineQ qs ++ R)) = some (outQ 0 qs) := by
  have hn := newP_back qs [] hl hne h (.inl rfl)
  rw [List.append_nil] at hn
  unfold cutP
  rw [hn]
  show matchP [60] (psQ 0 qs) ([60] ++ (lineQ qs ++ R)) = _
  unfold matchP
  rw [if_neg (by cases qs with | nil => exact absurd rfl hne | cons q qs => exact List.cons_ne_nil _ _), if_pos (by unfold hasPrefix; simp), trim60, foldM_back qs 0 R [] (by omega) h]
  show some (sortM ([] ++ outQ 0 qs)) = _
  rw [List.nil_append, sortM_of_up (outQ_up qs 0 (by omega))]
theorem cutP_backz (qs : List (BL × BL)) (R : BL) (hl : qs.length ≤ 10) (hne : qs ≠ []) (h : ∀ q ∈ qs, OkQ q) : cutP (([60] ++ patC (psQ 0 qs)) ++ [60, 122, 62]) ([60] ++ (lineQ qs ++ R)) = some (if R = [] then outQ 0 qs else outQ 0 qs ++ [([122], R)]) := by
  have hn := newP_back qs [([122], [])] hl hne h (.inr rfl)
  have e : ([60] ++ patC (psQ 0 qs)) ++ [60, 122, 62] = [60] ++ patC (psQ 0 qs ++ [([122], [])]) := by
    rw [patC_append, List.append_assoc]
    rfl
  unfold cutP
  rw [e, hn]
  show matchP [60] (psQ 0 qs ++ [([122], [])]) ([60] ++ (lineQ qs ++ R)) = _
  unfold matchP
  rw [if_neg (by simp), if_pos (by unfold hasPrefix; simp), trim60, foldM_append, foldM_back qs 0 R [] (by omega) h]
  show Option.map (fun st => sortM st.2) ((stepM (R, [] ++ outQ 0 qs) ([122], [])).bind some) = _
  have es : stepM (R, [] ++ outQ 0 qs) ([122], []) = some (R.drop (R.length + 0), if R = [] then outQ 0 qs else outQ 0 qs ++ [([122], R)]) := by
    unfold stepM
    have e1 : placeM R [] = (R.length : Int) := if_pos rfl
    simp only [e1, Int.toNat_natCast, List.nil_append]
    rw [if_neg (by omega)]
    by_cases h0 : R = []
    · rw [if_pos h0, if_neg (by rw [h0]; simp)]; rfl
    · rw [if_neg h0, if_pos ⟨by decide, by have := List.length_pos_iff.2 h0; omega⟩, List.take_length]; rfl
  rw [es]
  show some (sortM (if R = [] then outQ 0 qs else outQ 0 qs ++ [([122], R)])) = _
  congr 1
  refine sortM_of_up ?_
  by_cases h0 : R = []
  · rw [if_pos h0]; exact outQ_up qs 0 (by omega)
  · rw [if_neg h0]
    refine List.pairwise_append.2 ⟨outQ_up qs 0 (by omega), List.pairwise_singleton _ _, ?_⟩
    intro a ha b hb
    rw [List.mem_singleton] at hb
    subst hb
    obtain ⟨j, h1, h2, h3, -⟩ := outQ_mem qs 0 a ha
    show compareBytes a.1 [122] < 0
    rw [h3]
    exact z_lt j (by omega)
/-- The eighth piece. -/
def pieceL8 : List BL := [32, 124, 32] :: pieceL
theorem piece8_ok : ∀ p ∈ pieceL8, p ≠ [] ∧ p.all (fun x => x != 60) = true ∧ p.length ≤ 3 := by decide
theorem okq_of {b s : BL} (hb : b ∈ pieceL8) : OkQ (b, if index (s ++ b) b = (s.length : Int) then s else []) := by
  obtain ⟨h1, h2, h3⟩ := piece8_ok b hb
  refine ⟨h1, fun x hx => by simpa using List.all_eq_true.1 h2 x hx, h3, ?_⟩
  show index ((if index (s ++ b) b = (s.length : Int) then s else []) ++ b) b = _
  by_cases h : index (s ++ b) b = (s.length : Int)
  · rw [if_pos h]; exact h
  · rw [if_neg h]
    exact index_self b
end Go.Proofs.Ytpobgpfkohlokaa.PC
