/- CutsPieces, plainly. -/
import Derived.Test.YtpobgpfkohlokaaCU
import Derived.Test.YtpobgpfkohlokaaPB
namespace Go.Proofs.Ytpobgpfkohlokaa.PC
open Go.RowKit Go.Lib Go.Shelf Go.Maps Go.Proofs.YtpobgpfkohlokaaW.PrintWords Go.Proofs.YtpobgpfkohlokaaW.PrintLast Go.Proofs.YtpobgpfkohlokaaW.PrintMore
set_option linter.unusedVariables false
set_option linter.unusedSimpArgs false
/-- The pieces. -/
def pieceL : List BL := [[32], [61], [32, 45, 32], [97, 98], [34], [44, 44], [97, 97, 98]]
theorem bring7 (n : Int) : ∃ r : Int, driftnetref00_Bring.f n 7 = some r ∧ 0 ≤ r ∧ r < 7 := by
  unfold driftnetref00_Bring.f
  rw [if_neg (by omega), if_neg (by omega)]
  have h1 : -7 < Int.tmod n 7 := by
    have := Int.neg_lt_of_neg_lt (Int.tmod_lt_of_pos (-n) (show (0 : Int) < 7 by omega) |> fun h => by rw [Int.neg_tmod] at h; exact h : -(Int.tmod n 7) < 7)
    omega
  have h2 : Int.tmod n 7 < 7 := Int.tmod_lt_of_pos n (by omega)
  by_cases h : Int.tmod n 7 < 0
  · rw [if_pos h, w64 (by omega) (by omega)]
    exact ⟨_, rfl, by omega, by omega⟩
  · rw [if_neg h]
    exact ⟨_, rfl, by omega, h2⟩
theorem piece_in (n : Int) : ∃ r, driftnetlaw18_piece.f n = some r ∧ r.data.toList ∈ pieceL := by
  obtain ⟨t, h1, h2, h3⟩ := bring7 n
  unfold driftnetlaw18_piece.f
  rw [h1]
  show ∃ r, (if 0 ≤ t then (if t < (7 : Int) then (some (rdOf ByteArray.empty _ t)) else none) else none) = some r ∧ _
  rw [if_pos h2, if_pos h3]
  refine ⟨_, rfl, ?_⟩
  have : t = 0 ∨ t = 1 ∨ t = 2 ∨ t = 3 ∨ t = 4 ∨ t = 5 ∨ t = 6 := by omega
  rcases this with rfl | rfl | rfl | rfl | rfl | rfl | rfl <;> decide
/-- The pattern of two pieces. -/
def patP (p q : BL) : BL := [60, 97, 62] ++ p ++ [60, 98, 62] ++ q ++ [60, 99, 62]
set_option maxRecDepth 100000 in
theorem patP_new : ∀ p ∈ pieceL, ∀ q ∈ pieceL, newP (patP p q) = some ([], [([97], p), ([98], q), ([99], [])]) := by decide
theorem pieceL_ne : ∀ p ∈ pieceL, p ≠ [] ∧ p.length ≤ 3 := by decide
/-- A name's value: "": there is none. -/
def getL (l : List (BL × BL)) (n : BL) : BL := match l.find? (fun p => p.1 == n) with | some p => p.2 | none => []
theorem getB_map (l : List PB) (n : ByteArray) : (getB l n).data.toList = getL (l.map plB) n.data.toList := by
  have h : (l.map plB).find? (fun p => p.1 == n.data.toList) = (l.find? (isN n)).map plB := by
    rw [List.find?_map]
    congr 2
    funext p
    show (p.1.data.toList == n.data.toList) = isN n p
    unfold isN
    rw [ByteArray.toList_eq, ByteArray.toList_eq]
  unfold getB getL
  rw [h]
  cases l.find? (isN n) <;> rfl
theorem occ_split {s p : BL} {i : Nat} (h : occAt s p i = true) (hi : i ≤ s.length) : s = s.take i ++ p ++ s.drop (i + p.length) := by
  obtain ⟨t, ht⟩ := List.isPrefixOf_iff_prefix.1 h
  have e : s.drop (i + p.length) = t := by rw [← List.drop_drop, ← ht, List.drop_left]
  rw [e, List.append_assoc, ht, List.take_append_drop]
/-- What the two pieces make of a line. -/
theorem cutP_pieces (p q s : BL) (hp : p ∈ pieceL) (hq : q ∈ pieceL) :
    (index s p < 0 ∧ cutP (patP p q) s = none) ∨ (∃ i : Nat, index s p = (i : Int) ∧ i + p.length ≤ s.length ∧ ((index (s.drop (i + p.length)) q < 0 ∧ cutP (patP p q) s = none) ∨ (∃ k : Nat, index (s.drop (i + p.length)) q = (k : Int) ∧ ∃ o, cutP (patP p q) s = some o ∧ getL o [97] ++ p ++ getL o [98] ++ q ++ getL o [99] = s))) := by
  have hn := patP_new p hp q hq
  obtain ⟨hp0, -⟩ := pieceL_ne p hp
  obtain ⟨hq0, -⟩ := pieceL_ne q hq
  have hc : cutP (patP p q) s = (foldM [([97], p), ([98], q), ([99], [])] (s, [])).map (fun st => sortM st.2) := by
    unfold cutP
    rw [hn]
    show matchP [] _ s = _
    unfold matchP
    rw [if_neg (by simp), if_pos (by unfold hasPrefix; cases s <;> rfl)]
    have e : trimPrefix s [] = s := by
      unfold trimPrefix
      rw [if_pos (by unfold hasPrefix; cases s <;> rfl)]
      rfl
    rw [e]
  rw [hc]
  unfold foldM
  have hpl : placeM s p = index s p := by unfold placeM; rw [if_neg hp0]
  rcases index_spec s p with ⟨h1, -⟩ | ⟨i, h1, h2, h3, -⟩
  · refine .inl ⟨by omega, ?_⟩
    unfold stepM
    rw [if_pos (by show placeM s p < 0; rw [hpl]; omega)]
    rfl
  · have hsp := occ_split h3 h2
    have hir := index_room s p (by omega)
    refine .inr ⟨i, h1, by omega, ?_⟩
    obtain ⟨r, hr⟩ : ∃ r, r = s.drop (i + p.length) := ⟨_, rfl⟩
    have hs1 : stepM (s, []) ([97], p) = some (r, if 0 < (i : Int) then [([97], s.take i)] else []) := by
      unfold stepM
      show (if placeM s p < 0 then none else some (s.drop ((placeM s p).toNat + p.length), if ¬ ([97] : BL) = [95] ∧ 0 < placeM s p then _ else _)) = _
      rw [hpl, h1, if_neg (by omega), Int.toNat_natCast, ← hr]
      by_cases hi0 : 0 < (i : Int)
      · rw [if_pos ⟨by decide, hi0⟩, if_pos hi0]; rfl
      · rw [if_neg (fun h => hi0 h.2), if_neg hi0]
    rw [hs1, ← hr]
    rw [← hr] at hsp
    show (_ ∧ Option.map _ ((foldM [([98], q), ([99], [])]) (r, _)) = none) ∨ _
    unfold foldM
    have hql : placeM r q = index r q := by unfold placeM; rw [if_neg hq0]
    rcases index_spec r q with ⟨k1, -⟩ | ⟨k, k1, k2, k3, -⟩
    · refine .inl ⟨by omega, ?_⟩
      unfold stepM
      rw [if_pos (by show placeM r q < 0; rw [hql]; omega)]
      rfl
    · have hsq := occ_split k3 k2
      refine .inr ⟨k, k1, ?_⟩
      obtain ⟨u, hu⟩ : ∃ u, u = r.drop (k + q.length) := ⟨_, rfl⟩
      rw [← hu] at hsq
      obtain ⟨o1, ho1⟩ : ∃ o1, o1 = (if 0 < (i : Int) then [(([97] : BL), s.take i)] else []) := ⟨_, rfl⟩
      have hs2 : stepM (r, o1) ([98], q) = some (u, o1 ++ if 0 < (k : Int) then [([98], r.take k)] else []) := by
        unfold stepM
        show (if placeM r q < 0 then none else some (r.drop ((placeM r q).toNat + q.length), if ¬ ([98] : BL) = [95] ∧ 0 < placeM r q then _ else _)) = _
        rw [hql, k1, if_neg (by omega), Int.toNat_natCast, ← hu]
        by_cases hk0 : 0 < (k : Int)
        · rw [if_pos ⟨by decide, hk0⟩, if_pos hk0]
        · rw [if_neg (fun h => hk0 h.2), if_neg hk0, List.append_nil]
      have hs3 : ∀ o2, stepM (u, o2) ([99], []) = some (u.drop (u.length + 0), o2 ++ if 0 < (u.length : Int) then [([99], u)] else []) := by
        intro o2
        unfold stepM
        have e : placeM u [] = (u.length : Int) := if_pos rfl
        show (if placeM u [] < 0 then none else some (u.drop ((placeM u []).toNat + ([] : BL).length), if ¬ ([99] : BL) = [95] ∧ 0 < placeM u [] then _ else _)) = _
        rw [e, if_neg (by omega), Int.toNat_natCast]
        by_cases hk0 : 0 < (u.length : Int)
        · rw [if_pos ⟨by decide, hk0⟩, if_pos hk0]
          show some (_, o2 ++ [([99], u.take u.length)]) = _
          rw [List.take_length]
          rfl
        · rw [if_neg (fun h => hk0 h.2), if_neg hk0, List.append_nil]; rfl
      rw [← ho1]
      show ∃ o, Option.map _ ((stepM (r, o1) ([98], q)).bind (foldM [([99], [])])) = some o ∧ _
      rw [hs2]
      show ∃ o, Option.map _ ((foldM [([99], [])]) (u, _)) = some o ∧ _
      unfold foldM
      rw [hs3]
      refine ⟨_, rfl, ?_⟩
      rw [ho1]
      have hA : s.take i = [] ∨ 0 < (i : Int) := by
        rcases Nat.eq_zero_or_pos i with h | h
        · exact .inl (by rw [h]; rfl)
        · exact .inr (by omega)
      have hBk : r.take k = [] ∨ 0 < (k : Int) := by
        rcases Nat.eq_zero_or_pos k with h | h
        · exact .inl (by rw [h]; rfl)
        · exact .inr (by omega)
      have hCu : u = [] ∨ 0 < (u.length : Int) := by
        rcases Nat.eq_zero_or_pos u.length with h | h
        · exact .inl (List.eq_nil_of_length_eq_zero h)
        · exact .inr (by omega)
      have fin : s = s.take i ++ p ++ r.take k ++ q ++ u := by
        rw [List.append_assoc, List.append_assoc, ← List.append_assoc (r.take k), ← hsq, ← hsp]
      have getA : ∀ x y z : BL, ((0 < (i : Int)) ∨ x = []) → ((0 < (k : Int)) ∨ y = []) → ((0 < (u.length : Int)) ∨ z = []) → ∀ o, o = sortM (((if 0 < (i : Int) then [(([97] : BL), x)] else []) ++ (if 0 < (k : Int) then [(([98] : BL), y)] else [])) ++ (if 0 < (u.length : Int) then [(([99] : BL), z)] else [])) → getL o [97] = x ∧ getL o [98] = y ∧ getL o [99] = z := by
        intro x y z hx hy hz o ho
        subst ho
        by_cases a : 0 < (i : Int) <;> by_cases b : 0 < (k : Int) <;> by_cases c : 0 < (u.length : Int) <;>
          (simp only [if_pos, if_neg, a, b, c, if_true, if_false, not_false_eq_true] at hx hy hz ⊢
           simp [a, b, c] at hx hy hz
           refine ⟨?_, ?_, ?_⟩ <;> first | rfl | (rw [hx]; rfl) | (rw [hy]; rfl) | (rw [hz]; rfl))
      obtain ⟨g1, g2, g3⟩ := getA (s.take i) (r.take k) u hA.symm hBk.symm hCu.symm _ rfl
      have e : ∀ a b c : BL, a = s.take i → b = r.take k → c = u → a ++ p ++ b ++ q ++ c = s := by
        intro a b c ha hb hc
        rw [ha, hb, hc]; exact fin.symm
      exact e _ _ _ g1 g2 g3
end Go.Proofs.Ytpobgpfkohlokaa.PC
