/- Patterns that are made of parts, plainly; CutsNames, plainly. -/
import Derived.Test.YtpobgpfkohlokaaLP
namespace Go.Proofs.Ytpobgpfkohlokaa.PC
open Go.RowKit Go.Lib Go.Shelf Go.Maps Go.Proofs.YtpobgpfkohlokaaW.PrintWords Go.Proofs.YtpobgpfkohlokaaW.PrintLast Go.Proofs.YtpobgpfkohlokaaW.PrintMore
set_option linter.unusedVariables false
set_option linter.unusedSimpArgs false
theorem indexByte_at (c : UInt8) (n r : BL) (h : ∀ x ∈ n, x ≠ c) : indexByte (n ++ c :: r) c = (n.length : Int) := by
  rcases indexByte_spec c (n ++ c :: r) with ⟨-, h2⟩ | ⟨i, h1, h2, h3, h4⟩
  · exact absurd rfl (h2 c (by simp))
  · rw [h1]
    have : i = n.length := by
      rcases Nat.lt_trichotomy i n.length with hi | hi | hi
      · exfalso
        rw [List.getD_eq_getElem?_getD, List.getElem?_append_left hi, List.getElem?_eq_getElem hi] at h3
        exact h _ (List.getElem_mem hi) h3
      · exact hi
      · exfalso
        refine h4 c ?_ rfl
        rw [List.mem_take_iff_getElem]
        exact ⟨n.length, by simp only [List.length_append, List.length_cons]; omega, by simp⟩
    rw [this]
theorem cut1_at (c : UInt8) (n r : BL) (h : ∀ x ∈ n, x ≠ c) : cut1 (n ++ c :: r) c = (n, r, true) := by
  unfold cut1
  rw [indexByte_at c n r h, if_neg (by omega), Int.toNat_natCast]
  rw [List.take_left, show (n ++ c :: r).drop (n.length + 1) = r by rw [← List.drop_drop, List.drop_left]; rfl]
/-- A name, as a part has it. -/
structure NameOk (n : BL) : Prop where
  ok : n = [95] ∨ isNameB n = true
  ne : n ≠ []
  no : ∀ x ∈ n, x ≠ 62
def No60 (b : BL) : Prop := ∀ x ∈ b, x ≠ 60
theorem partAt_name {n : BL} (h : NameOk n) (r : BL) : partAt (60 :: (n ++ 62 :: r)) = some n := by
  unfold partAt
  dsimp only
  rw [cut1_at 62 n r h.no]
  exact if_pos ⟨rfl, rfl, h.ok⟩
theorem firstP_at {x n : BL} (hx : No60 x) (h : NameOk n) (r : BL) : firstP (x ++ 60 :: (n ++ 62 :: r)) = some (x.length, n) := by
  refine firstP_here _ _ (by simp) ?_ n ?_
  · rw [List.take_left]; exact hx
  · rw [List.drop_left]; exact partAt_name h r
theorem partsA_of {x n r : BL} (h : firstP (x ++ 60 :: (n ++ 62 :: r)) = some (x.length, n)) : partsA (x ++ 60 :: (n ++ 62 :: r)) = (x, n) :: partsA r := by
  rw [partsA_some h]
  dsimp only
  rw [List.take_left]
  congr 2
  rw [show x.length + n.length + 2 = x.length + (1 + (n.length + 1)) by omega, ← List.drop_drop, List.drop_left, ← List.drop_drop]
  show ((n ++ 62 :: r)).drop (n.length + 1) = r
  rw [← List.drop_drop, List.drop_left]
  rfl
/-- The pattern of parts: names and what stands behind. -/
def patC : List (BL × BL) → BL
  | [] => []
  | p :: ps => 60 :: (p.1 ++ 62 :: (p.2 ++ patC ps))
theorem patC_append : ∀ ps qs, patC (ps ++ qs) = patC ps ++ patC qs
  | [], qs => rfl
  | p :: ps, qs => by
    show 60 :: (p.1 ++ 62 :: (p.2 ++ patC (ps ++ qs))) = 60 :: (p.1 ++ 62 :: (p.2 ++ patC ps)) ++ patC qs
    rw [patC_append ps qs]
    simp
/-- What the loop of New ranges over. -/
def pieces : BL → List (BL × BL) → List (BL × BL)
  | x, [] => [(x, [])]
  | x, p :: ps => (x, p.1) :: pieces p.2 ps
theorem partsA_pat : ∀ (ps : List (BL × BL)) (x : BL), No60 x → (∀ p ∈ ps, NameOk p.1 ∧ No60 p.2) → partsA (x ++ patC ps) = pieces x ps
  | [], x, hx, _ => by
    show partsA (x ++ []) = _
    rw [List.append_nil]
    exact partsA_none (firstP_none x hx)
  | p :: ps, x, hx, h => by
    have hp := h p List.mem_cons_self
    show partsA (x ++ 60 :: (p.1 ++ 62 :: (p.2 ++ patC ps))) = _
    rw [partsA_of (firstP_at hx hp.1 _), partsA_pat ps p.2 hp.2 (fun q hq => h q (List.mem_cons_of_mem _ hq))]
    rfl
/-- The names that came; what stands ahead; the parts: may they follow? -/
def OKP : List BL → BL → List (BL × BL) → Prop
  | _, _, [] => True
  | sn, b, p :: ps => b ≠ [] ∧ p.1 ≠ [] ∧ ¬ (p.1 ∈ sn ∧ ¬ p.1 = [95]) ∧ OKP (p.1 :: sn) p.2 ps
theorem setBeh_snoc : ∀ (L : List (BL × BL)) (n b : BL), setBeh (L ++ [(n, [])]) b = L ++ [(n, b)]
  | [], n, b => rfl
  | [q], n, b => rfl
  | q :: r :: L, n, b => by
    show q :: setBeh ((r :: L) ++ [(n, [])]) b = q :: ((r :: L) ++ [(n, b)])
    rw [setBeh_snoc (r :: L) n b]
theorem foldN_pieces : ∀ (ps : List (BL × BL)) (sn : List BL) (a : BL) (L : List (BL × BL)) (n b : BL), [] ∉ sn → OKP sn b ps → ∃ sn', foldN (pieces b ps) (sn, a, L ++ [(n, [])]) = some (sn', a, L ++ (n, b) :: ps)
  | [], sn, a, L, n, b, hs, _ => by
    refine ⟨[] :: sn, ?_⟩
    show (stepN (sn, a, L ++ [(n, [])]) (b, [])).bind some = _
    rw [stepN_end (fun h => h.2.2 rfl) (fun h => hs h.1) rfl, if_neg (by simp), setBeh_snoc]
    rfl
  | p :: ps, sn, a, L, n, b, hs, ⟨h1, h2, h3, h4⟩ => by
    obtain ⟨sn', h5⟩ := foldN_pieces ps (p.1 :: sn) a (L ++ [(n, b)]) p.1 p.2 (by
      intro h
      rcases List.mem_cons.1 h with h | h
      · exact h2 h.symm
      · exact hs h) h4
    refine ⟨sn', ?_⟩
    show (stepN (sn, a, L ++ [(n, [])]) (b, p.1)).bind (foldN (pieces p.2 ps)) = _
    rw [stepN_on (fun h => h1 h.2.1) h3 h2, if_neg (by simp), setBeh_snoc]
    show foldN (pieces p.2 ps) (p.1 :: sn, a, (L ++ [(n, b)]) ++ [(p.1, [])]) = _
    rw [h5]
    simp
theorem newP_of {x : BL} {p : BL × BL} {ps : List (BL × BL)} (hl : (x ++ patC (p :: ps)).length ≤ 256) (hp : partsA (x ++ patC (p :: ps)) = pieces x (p :: ps)) (hn : p.1 ≠ []) (ho : OKP [p.1] p.2 ps) : newP (x ++ patC (p :: ps)) = if namesP (p :: ps) = [] then none else some (x, p :: ps) := by
  unfold newP
  rw [if_pos hl, hp]
  obtain ⟨sn', h⟩ := foldN_pieces ps [p.1] x [] p.1 p.2 (by intro h; rw [List.mem_singleton] at h; exact hn h.symm) ho
  have e : foldN (pieces x (p :: ps)) ([], [], []) = some (sn', x, p :: ps) := by
    show (stepN ([], [], []) (x, p.1)).bind (foldN (pieces p.2 ps)) = _
    rw [stepN_on (fun h => h.1 rfl) (fun h => by cases h.1) hn, if_pos rfl]
    exact h
  rw [e]
  rfl
/-! ### CutsNames -/
def nmL (i : Nat) : BL := [(97 + i).toUInt8]
def repL (i : Nat) : BL := List.replicate i 120
/-- A part: with its name, or without. -/
def entL (od : Nat → Bool) (i : Nat) : BL × BL := (if od i then [95] else nmL i, [59])
def lineL : List Nat → BL
  | [] => []
  | i :: l => repL i ++ 59 :: lineL l
theorem lineL_append : ∀ l m, lineL (l ++ m) = lineL l ++ lineL m
  | [], m => rfl
  | i :: l, m => by
    show repL i ++ 59 :: lineL (l ++ m) = (repL i ++ 59 :: lineL l) ++ lineL m
    rw [lineL_append l m]
    simp
theorem nm_ok : ∀ i, i < 20 → isNameB (nmL i) = true ∧ (nmL i).all (fun x => x != 62) = true ∧ nmL i ≠ [95] := by decide
theorem nm_lt : ∀ j, j < 20 → ∀ i, i < j → compareBytes (nmL i) (nmL j) < 0 := by decide
theorem nm_inj {i j : Nat} (hi : i < 20) (hj : j < 20) (h : nmL i = nmL j) : i = j := by
  rcases Nat.lt_trichotomy i j with h1 | h1 | h1
  · have := nm_lt j hj i h1; rw [h, cb_self] at this; omega
  · exact h1
  · have := nm_lt i hi j h1; rw [h, cb_self] at this; omega
theorem nameOk_nm {i : Nat} (h : i < 20) : NameOk (nmL i) := ⟨.inr (nm_ok i h).1, by unfold nmL; simp, fun x hx => by simpa using List.all_eq_true.1 (nm_ok i h).2.1 x hx⟩
theorem nameOk_ent {od : Nat → Bool} {i : Nat} (h : i < 20) : NameOk (entL od i).1 ∧ No60 (entL od i).2 := by
  refine ⟨?_, by unfold entL No60; simp⟩
  unfold entL
  cases od i with
  | true => exact ⟨.inl rfl, by simp, by simp⟩
  | false => exact nameOk_nm h
theorem okp_range (od : Nat → Bool) : ∀ (m i : Nat) (sn : List BL), i + m ≤ 20 → (∀ n ∈ sn, n = [95] ∨ ∃ j, j < i ∧ n = nmL j) → OKP sn [59] ((List.range' i m).map (entL od))
  | 0, i, sn, _, _ => trivial
  | m + 1, i, sn, hi, hs => by
    rw [List.range'_succ, List.map_cons]
    have ho := (nameOk_ent (od := od) (show i < 20 by omega)).1
    refine ⟨by simp, ho.ne, ?_, ?_⟩
    · rintro ⟨h1, h2⟩
      rcases hs _ h1 with h3 | ⟨j, hj, h3⟩
      · exact h2 h3
      · unfold entL at h3 h2
        cases hd : od i with
        | true => rw [hd] at h2; exact h2 rfl
        | false =>
          rw [hd] at h3
          have : i = j := nm_inj (by omega) (by omega) h3
          omega
    · refine okp_range od m (i + 1) _ (by omega) (fun n hn => ?_)
      rcases List.mem_cons.1 hn with rfl | hn
      · unfold entL
        cases od i with
        | true => exact .inl rfl
        | false => exact .inr ⟨i, by omega, rfl⟩
      · rcases hs n hn with h | ⟨j, hj, h⟩
        · exact .inl h
        · exact .inr ⟨j, by omega, h⟩
theorem patC_len (od : Nat → Bool) : ∀ (m i : Nat), (patC ((List.range' i m).map (entL od))).length = 4 * m
  | 0, i => rfl
  | m + 1, i => by
    rw [List.range'_succ, List.map_cons]
    have ih := patC_len od m (i + 1)
    unfold patC
    have e1 : (entL od i).1.length = 1 := by unfold entL nmL; cases od i <;> rfl
    have e2 : (entL od i).2.length = 1 := rfl
    simp only [List.length_cons, List.length_append, e1, e2, ih]
    omega
/-- The names that are told. -/
def wantL (od : Nat → Bool) (k : Nat) : List BL := ((List.range k).filter (fun i => !od i)).map nmL
theorem namesP_ents (od : Nat → Bool) : ∀ l : List Nat, (∀ i ∈ l, i < 20) → namesP (l.map (entL od)) = (l.filter (fun i => !od i)).map nmL
  | [], _ => rfl
  | i :: l, h => by
    have ih := namesP_ents od l (fun j hj => h j (List.mem_cons_of_mem _ hj))
    unfold namesP at ih ⊢
    rw [List.map_cons, List.map_cons, List.filter_cons, ih, List.filter_cons]
    unfold entL
    cases hd : od i with
    | true => simp
    | false =>
      have := (nm_ok i (h i List.mem_cons_self)).2.2
      simp [this]
theorem newP_names (od : Nat → Bool) (k : Nat) (hk : k < 20) : newP (patC ((List.range k).map (entL od))) = if wantL od k = [] then none else some ([], (List.range k).map (entL od)) := by
  cases k with
  | zero =>
    show newP [] = if ([] : List BL) = [] then none else _
    rw [if_pos rfl]
    decide
  | succ k =>
    have hin : ∀ i ∈ List.range (k + 1), i < 20 := fun i hi => by have := List.mem_range.1 hi; omega
    have hw : namesP ((List.range (k + 1)).map (entL od)) = wantL od (k + 1) := namesP_ents od _ hin
    have hl := patC_len od (k + 1) 0
    have hp := partsA_pat ((List.range (k + 1)).map (entL od)) [] (by intro x hx; cases hx) (fun p hp => by
      obtain ⟨i, hi, rfl⟩ := List.mem_map.1 hp
      exact nameOk_ent (hin i hi))
    rw [← hw]
    rw [List.range_eq_range'] at hp ⊢
    rw [List.range'_succ, List.map_cons] at hl hp ⊢
    refine newP_of (x := []) (by rw [List.nil_append, hl]; omega) hp (nameOk_ent (by omega)).1.ne (okp_range od k 1 _ (by omega) (fun n hn => ?_))
    rw [List.mem_singleton] at hn
    rw [hn]
    unfold entL
    cases od 0 with
    | true => exact .inl rfl
    | false => exact .inr ⟨0, by omega, rfl⟩
/-- What the parts of the line are. -/
def outL (od : Nat → Bool) (l : List Nat) : List (BL × BL) := (l.filter (fun i => !od i && decide (0 < i))).map (fun i => (nmL i, repL i))
theorem place_rep (i : Nat) (r : BL) : placeM (repL i ++ 59 :: r) [59] = (i : Int) := by
  unfold placeM
  rw [if_neg (by simp), index_one, indexByte_at 59 (repL i) r (fun x hx => by rw [(List.mem_replicate.1 hx).2]; decide)]
  unfold repL
  rw [List.length_replicate]
theorem foldM_names_line (od : Nat → Bool) : ∀ (l : List Nat) (out : List (BL × BL)), (∀ i ∈ l, i < 20) → foldM (l.map (entL od)) (lineL l, out) = some ([], out ++ outL od l)
  | [], out, _ => by show some ([], out) = some ([], out ++ []); rw [List.append_nil]
  | i :: l, out, h => by
    show (stepM (repL i ++ 59 :: lineL l, out) (entL od i)).bind (foldM (l.map (entL od))) = _
    have e : stepM (repL i ++ 59 :: lineL l, out) (entL od i) = some (lineL l, out ++ outL od [i]) := by
      unfold stepM
      have h2 : (entL od i).2 = [59] := rfl
      simp only [h2, place_rep, Int.toNat_natCast]
      rw [if_neg (by omega)]
      have h3 : (repL i ++ 59 :: lineL l).drop (i + ([59] : BL).length) = lineL l := by
        have : i = (repL i).length := by unfold repL; rw [List.length_replicate]
        conv => lhs; rw [this]
        show (repL (repL i).length ++ 59 :: lineL l).drop ((repL i).length + 1) = _
        rw [← this, ← List.drop_drop]
        conv => lhs; rw [show i = (repL i).length from this]
        rw [← this, show (repL i ++ 59 :: lineL l).drop i = 59 :: lineL l by
          conv => lhs; rw [show (repL i ++ 59 :: lineL l).drop i = (repL i ++ 59 :: lineL l).drop (repL i).length by rw [← this]]
          rw [List.drop_left]]
        rfl
      have h4 : (repL i ++ 59 :: lineL l).take i = repL i := by
        have : i = (repL i).length := by unfold repL; rw [List.length_replicate]
        rw [show (repL i ++ 59 :: lineL l).take i = (repL i ++ 59 :: lineL l).take (repL i).length by rw [← this]]
        rw [List.take_left]
      rw [h3, h4]
      unfold outL entL
      cases hd : od i with
      | true => simp [hd]
      | false =>
        have hne := (nm_ok i (h i List.mem_cons_self)).2.2
        by_cases hi : 0 < i
        · have hi2 : (0 : Int) < (i : Int) := by omega
          simp [hd, hi, hi2, hne]
        · have hi2 : ¬ (0 : Int) < (i : Int) := by omega
          simp [hd, hi, hi2, hne]
    rw [e]
    show foldM (l.map (entL od)) (lineL l, out ++ outL od [i]) = _
    rw [foldM_names_line od l _ (fun j hj => h j (List.mem_cons_of_mem _ hj)), List.append_assoc]
    congr 3
    unfold outL
    rw [← List.map_append, ← List.filter_append]
    rfl
theorem up_outL (od : Nat → Bool) (k : Nat) (hk : k < 20) : Up (outL od (List.range k)) := by
  unfold outL Up
  rw [List.pairwise_map]
  refine ((List.pairwise_lt_range (n := k)).filter _).imp_of_mem ?_
  intro a b ha hb hab
  have hb2 := List.mem_range.1 (List.mem_filter.1 hb).1
  exact nm_lt b (by omega) a hab
theorem up_nodup {l : List (BL × BL)} (h : Up l) : (l.map (·.1)).Nodup := by
  refine List.pairwise_map.2 (h.imp (fun {a b} hab e => ?_))
  have hab : compareBytes a.1 b.1 < 0 := hab
  rw [show a.1 = b.1 from e, cb_self] at hab
  omega
theorem sortM_of_up {l : List (BL × BL)} (h : Up l) : sortM l = l := up_unique (sortM_up l (up_nodup h)) h (sortM_perm l)
theorem matchP_names (od : Nat → Bool) (k : Nat) (hk : k < 20) (h0 : 0 < k) : matchP [] ((List.range k).map (entL od)) (lineL (List.range k)) = some (outL od (List.range k)) := by
  unfold matchP
  rw [if_neg (by intro h; have := congrArg List.length h; rw [List.length_map, List.length_range] at this; simp at this; omega)]
  have hp : hasPrefix (lineL (List.range k)) [] = true := by unfold hasPrefix; cases lineL (List.range k) <;> rfl
  rw [if_pos hp]
  have ht : trimPrefix (lineL (List.range k)) [] = lineL (List.range k) := by
    unfold trimPrefix
    rw [if_pos hp]
    rfl
  rw [ht, foldM_names_line od _ [] (fun i hi => by have := List.mem_range.1 hi; omega), List.nil_append]
  show some (sortM (outL od (List.range k))) = _
  rw [sortM_of_up (up_outL od k hk)]
/-- Those of the told names. -/
theorem outL_by (od : Nat → Bool) (k : Nat) (hk : k < 20) : (outL (fun _ => false) (List.range k)).filter (fun p => decide (p.1 ∈ wantL od k)) = outL od (List.range k) := by
  unfold outL
  rw [List.filter_map, List.filter_filter]
  congr 1
  refine List.filter_congr (fun i hi => ?_)
  have hi2 := List.mem_range.1 hi
  have e : (nmL i ∈ wantL od k) ↔ od i = false := by
    unfold wantL
    rw [List.mem_map]
    constructor
    · rintro ⟨j, hj, he⟩
      have hj2 := List.mem_filter.1 hj
      have hj3 := List.mem_range.1 hj2.1
      have : j = i := nm_inj (by omega) (by omega) he
      rw [← this]
      simpa using hj2.2
    · intro h
      exact ⟨i, List.mem_filter.2 ⟨hi, by rw [h]; rfl⟩, rfl⟩
  show (decide (nmL i ∈ wantL od k) && (!false && decide (0 < i))) = (!od i && decide (0 < i))
  cases hd : od i with
  | true => rw [decide_eq_false (by rw [e, hd]; decide)]; rfl
  | false => rw [decide_eq_true (e.2 hd)]; rfl
theorem wantL_all (k : Nat) (h0 : 0 < k) : wantL (fun _ => false) k ≠ [] := by
  intro h
  have := congrArg List.length h
  unfold wantL at this
  have e : (List.range k).filter (fun i => !(fun _ => false) i) = List.range k := List.filter_eq_self.2 (by intro a _; rfl)
  rw [List.length_map, e, List.length_range] at this
  simp at this
  omega
theorem cutP_all (k : Nat) (hk : k < 20) (h0 : 0 < k) : cutP (patC ((List.range k).map (entL (fun _ => false)))) (lineL (List.range k)) = some (outL (fun _ => false) (List.range k)) := by
  unfold cutP
  rw [newP_names _ k hk, if_neg (wantL_all k h0)]
  exact matchP_names _ k hk h0
end Go.Proofs.Ytpobgpfkohlokaa.PC
