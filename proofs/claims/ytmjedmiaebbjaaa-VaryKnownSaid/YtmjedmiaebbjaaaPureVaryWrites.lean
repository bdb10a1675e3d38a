/-
  VaryWrites: what U, S, Text and Put write is what the document's own U, S, Text and Put write, errors too, and the list handed to Put stays as it was. For all numbers, texts and lists, no condition.
-/
import Derived.Test.YtmjedmiaebbjaaaVC
import Derived.Test.YtmjedmiaebbjaaaPVx2
import Derived.Test.YtmjedmiaebbjaaaPVx3
namespace Go.Proofs.Ytmjedmiaebbjaaa.Pure
open Go.RowKit Go.Proofs.Ytmjedmiaebbjaaa.PV Go.Proofs.YtmjedmiaebbjaaaW.PrintWords Go.Proofs.YtmjedmiaebbjaaaW.PrintLast
open Go.Proofs.Ytmjedmiaebbjaaa.VA Go.Proofs.Ytmjedmiaebbjaaa.VC

theorem refU_l0 (f : Nat) : ∀ (k : Nat) (n : Int) (acc : List Int), f < k → 0 ≤ n → n < 128 ^ (f + 1) → n ≤ 18014398509481982 → acc.length + f < 140737488355328 → driftnetref06_U.l0 k n acc = some (acc ++ enc f n, 0) := by
  induction f with
  | zero =>
    intro k n acc hk h0 h1 h3 ha
    obtain ⟨k, rfl⟩ : ∃ m, k = m + 1 := ⟨k - 1, by omega⟩
    have h2 : n < 128 := by simpa using h1
    rw [driftnetref06_U.l0, if_neg (by omega), if_pos (by omega), show n % 256 = n by omega]
    rfl
  | succ f ih =>
    intro k n acc hk h0 h1 h3 ha
    obtain ⟨k, rfl⟩ : ∃ m, k = m + 1 := ⟨k - 1, by omega⟩
    by_cases h : n < 128
    · rw [driftnetref06_U.l0, if_neg (by omega), if_pos (by omega), show n % 256 = n by omega, enc_small _ _ h]
    · have e1 : wrap64 (Int.tdiv n 128) = n / 128 := by
        rw [Int.tdiv_eq_ediv_of_nonneg h0]; unfold wrap64; omega
      have e2 : (wrap64 (128 + Int.tmod n 128)) % 256 = 128 + n % 128 := by
        rw [Int.tmod_eq_emod_of_nonneg h0]; unfold wrap64; omega
      rw [driftnetref06_U.l0, if_pos (by omega), if_pos (by omega), e1, e2, ih k (n / 128) _ (by omega) (by omega) (pow_step n f h1) (by omega) (by simp; omega), enc_big _ _ h]
      simp
theorem refU_bad (k : Nat) (n : Int) (hk : 0 < k) (h : n < 0 ∨ 18014398509481982 < n) : driftnetref06_U.f k n = some ([], 9) := by
  obtain ⟨k, rfl⟩ : ∃ m, k = m + 1 := ⟨k - 1, by omega⟩
  unfold driftnetref06_U.f
  by_cases h0 : n < 0
  · rw [if_pos h0, driftnetref06_U.j0, if_pos rfl]
  · rw [if_neg h0, driftnetref06_U.j0, if_pos (by simp; omega)]
theorem refU_good (k : Nat) (n : Int) (hk : 9 ≤ k) (h0 : 0 ≤ n) (h1 : n ≤ 18014398509481982) : driftnetref06_U.f k n = some (enc 7 n, 0) := by
  obtain ⟨k, rfl⟩ : ∃ m, k = m + 1 := ⟨k - 1, by omega⟩
  unfold driftnetref06_U.f
  rw [if_neg (by omega), driftnetref06_U.j0, if_neg (by simp; omega), refU_l0 7 k n [] (by omega) h0 (by omega) h1 (by simp)]
  rfl
theorem refU_same (k : Nat) (n : Int) (hk : 9 ≤ k) : driftnetref06_U.f k n = vary_U.f k n := by
  by_cases h : n < 0 ∨ 18014398509481982 < n
  · rw [refU_bad k n (by omega) h, U_bad k n (by omega) h]
  · rw [refU_good k n hk (by omega) (by omega), U_good k n hk (by omega) (by omega)]
theorem refS_same (k : Nat) (n : Int) (hk : 10 ≤ k) : driftnetref06_S.f k n = vary_S.f k n := by
  obtain ⟨k, rfl⟩ : ∃ m, k = m + 1 := ⟨k - 1, by omega⟩
  unfold driftnetref06_S.f
  by_cases h0 : n < -9007199254740991
  · rw [if_pos h0, driftnetref06_S.j0, if_pos rfl, S_bad _ _ (.inl h0)]
  · by_cases h1 : 9007199254740991 < n
    · rw [if_neg h0, driftnetref06_S.j0, if_pos (by simp; omega), S_bad _ _ (.inr h1)]
    · have b := zig_bound n (by omega) (by omega)
      rw [if_neg h0, driftnetref06_S.j0, if_neg (by simp; omega), S_good _ n (by omega) (by omega) (by omega)]
      by_cases h2 : n < 0
      · have e : wrap64 (wrap64 (-2 * n) - 1) = zig n := by unfold zig; rw [if_pos h2]; unfold wrap64; omega
        rw [if_pos h2, e, refU_good k _ (by omega) b.1 b.2]; rfl
      · have e : wrap64 (2 * n) = zig n := by unfold zig; rw [if_neg h2]; unfold wrap64; omega
        rw [if_neg h2, e, refU_good k _ (by omega) b.1 b.2]; rfl
theorem refText_same (k : Nat) (s : ByteArray) (hk : 9 ≤ k) : driftnetref06_Text.f k s = vary_Text.f k s := by
  unfold driftnetref06_Text.f vary_Text.f
  rw [refU_same k _ hk]
theorem Text_some (k : Nat) (s : ByteArray) (hk : 9 ≤ k) : ∃ l e, vary_Text.f k s = some (l, e) ∧ l.length ≤ 65543 := by
  unfold vary_Text.f
  by_cases h : (s.size : Int) > 65535
  · exact ⟨[], 5, by rw [if_pos h], by simp⟩
  · have e := enc_len 7 (s.size : Int)
    rw [if_neg h, U_good k _ hk (by omega) (by omega)]
    simp only [Option.bind_some]
    refine ⟨enc 7 (s.size : Int) ++ bytesOf s, 0, ?_, ?_⟩
    · rw [if_pos (by omega)]
    · rw [List.length_append, bytesOf_length]; omega
theorem U_some (k : Nat) (n : Int) (hk : 9 ≤ k) : ∃ l e, vary_U.f k n = some (l, e) ∧ l.length ≤ 8 := by
  by_cases h : n < 0 ∨ 18014398509481982 < n
  · exact ⟨_, _, U_bad k n (by omega) h, by simp⟩
  · exact ⟨_, _, U_good k n hk (by omega) (by omega), (enc_len 7 n).2⟩
theorem S_some (k : Nat) (n : Int) (hk : 9 ≤ k) : ∃ l e, vary_S.f k n = some (l, e) ∧ l.length ≤ 8 := by
  by_cases h : n < -9007199254740991 ∨ 9007199254740991 < n
  · exact ⟨_, _, S_bad k n h, by simp⟩
  · exact ⟨_, _, S_good k n hk (by omega) (by omega), (enc_len 7 _).2⟩
/-- Both Puts, from a place on. -/
theorem Put_both (l : List Int) (hl : l.length * 8 ≤ 140737488351232) (d : Nat) : ∀ (k i : Nat) (acc : List Int), i + d = l.length → d + 10 < k → acc.length ≤ 8 * i →
    ∃ r, vary_Put.l0 k acc l (l.length : Int) (i : Int) = some r ∧ driftnetref06_Put.l0 k l acc (i : Int) = some r ∧ r.1.length ≤ 8 * l.length := by
  induction d with
  | zero =>
    intro k i acc hi hk ha
    obtain ⟨k, rfl⟩ : ∃ m, k = m + 1 := ⟨k - 1, by omega⟩
    refine ⟨(acc, 0), ?_, ?_, ?_⟩
    · rw [vary_Put.l0, if_neg (by omega)]
    · rw [driftnetref06_Put.l0, if_neg (by omega)]
    · show acc.length ≤ 8 * l.length; omega
  | succ d ih =>
    intro k i acc hi hk ha
    obtain ⟨k, rfl⟩ : ∃ m, k = m + 1 := ⟨k - 1, by omega⟩
    obtain ⟨b, e, hS, hb⟩ := S_some k (rd l i) (by omega)
    rw [vary_Put.l0, driftnetref06_Put.l0, refS_same k _ (by omega), hS, if_pos (by omega), if_pos (by omega), if_pos (by omega), if_pos (by omega), if_pos (by omega)]
    simp only [Option.bind_some]
    by_cases he : e = 0
    · rw [if_pos he, if_pos he, if_pos (by omega), if_pos (by omega), show wrap64 ((i : Int) + 1) = ((i + 1 : Nat) : Int) from by unfold wrap64; omega]
      exact ih k (i + 1) (acc ++ b) (by omega) (by omega) (by rw [List.length_append]; omega)
    · rw [if_neg he, if_neg he]
      exact ⟨_, rfl, rfl, by simp⟩
theorem eqI_l0 (a b : List Int) (hl : a.length = b.length) (hm : a.length < 4611686018427387904) (d : Nat) : ∀ (k i : Nat), i + d = a.length → d < k → driftnetref00_EqInts.l0 k a b (i : Int) = some (decide (a.drop i = b.drop i)) := by
  induction d with
  | zero =>
    intro k i hi hk
    obtain ⟨k, rfl⟩ : ∃ m, k = m + 1 := ⟨k - 1, by omega⟩
    rw [driftnetref00_EqInts.l0, if_neg (by omega), List.drop_eq_nil_of_le (by omega), List.drop_eq_nil_of_le (by omega)]
    rfl
  | succ d ih =>
    intro k i hi hk
    obtain ⟨k, rfl⟩ : ∃ m, k = m + 1 := ⟨k - 1, by omega⟩
    rw [driftnetref00_EqInts.l0, if_pos (by omega), if_pos (by omega), if_pos (by omega), drop_step (show i < a.length by omega), drop_step (show i < b.length by omega)]
    unfold rd
    rw [show ((i : Nat) : Int).toNat = i from rfl]
    by_cases h : a.getD i 0 = b.getD i 0
    · rw [if_pos h, show wrap64 ((i : Int) + 1) = ((i + 1 : Nat) : Int) from by unfold wrap64; omega, ih k (i + 1) (by omega) (by omega), h]
      simp
    · rw [if_neg h]
      exact congrArg some (decide_eq_false (fun e => h (List.cons.inj e).1)).symm
theorem eqI (a b : List Int) (k : Nat) (hk : a.length < k) (hm : a.length < 4611686018427387904) : driftnetref00_EqInts.f k a b = some (decide (a = b)) := by
  unfold driftnetref00_EqInts.f
  by_cases h : a.length = b.length
  · rw [if_pos (by omega)]
    have := eqI_l0 a b h hm a.length k 0 (by omega) hk
    simpa using this
  · rw [if_neg (by omega)]
    have : a ≠ b := fun e => h (by rw [e])
    simp [this]
theorem CopyInts_same (l : List Int) (hl : l.length * 8 ≤ 140737488351232) : driftnetref00_CopyInts.f l = some l := by
  unfold driftnetref00_CopyInts.f
  rw [if_pos (by simp; omega)]
  simp
theorem VaryWrites : driftnetlaw06_VaryWrites.Pure := by
  intro n s l _ _ _ hl _
  obtain ⟨k, hk⟩ : ∃ k, k = 8 * l.length + 70000 := ⟨_, rfl⟩
  obtain ⟨a, e, hU, ha⟩ := U_some k n (by omega)
  obtain ⟨b, f, hS, hb⟩ := S_some k n (by omega)
  obtain ⟨c, g, hT, hc⟩ := Text_some k s (by omega)
  obtain ⟨p, hP1, hP2, hp⟩ := Put_both l hl l.length k 0 [] (by omega) (by omega) (by simp)
  have hP1' : vary_Put.f k l = some p := hP1
  have hP2' : driftnetref06_Put.f k l = some p := hP2
  refine ⟨k, ?_⟩
  unfold driftnetlaw06_VaryWrites.f
  rw [refU_same k _ (by omega), refS_same k _ (by omega), refText_same k _ (by omega), hU, hS, hT, CopyInts_same l hl]
  simp only [Option.bind_some]
  rw [hP1', hP2']
  simp only [Option.bind_some]
  rw [eqB a a k (by omega) (by omega), eqB b b k (by omega) (by omega), eqB c c k (by omega) (by omega), eqB p.1 p.1 k (by omega) (by omega), eqI l l k (by omega) (by omega), awake_at k (by omega)]
  simp
end Go.Proofs.Ytmjedmiaebbjaaa.Pure
