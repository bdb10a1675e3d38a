/- Lemmas on what U, S and the comparing of bytes come to, for the statements of chapter 6. -/
import Derived.Test.YtmjedmiaebbjaaaVB
import Derived.Test.YtmjedmiaebbjaaaPVx1
namespace Go.Proofs.Ytmjedmiaebbjaaa.VC
open Go.RowKit Go.Proofs.Ytmjedmiaebbjaaa.PV Go.Proofs.Ytmjedmiaebbjaaa.VA Go.Proofs.YtmjedmiaebbjaaaW.PrintWords Go.Proofs.YtmjedmiaebbjaaaW.PrintLast

theorem U_l0 (f : Nat) : ∀ (k : Nat) (n : Int) (acc : List Int), f < k → 0 ≤ n → n < 128 ^ (f + 1) → acc.length + f < 140737488355328 → vary_U.l0 k n acc = some (acc ++ enc f n, 0) := by
  induction f with
  | zero =>
    intro k n acc hk h0 h1 ha
    obtain ⟨k, rfl⟩ : ∃ m, k = m + 1 := ⟨k - 1, by omega⟩
    have h2 : n < 128 := by simpa using h1
    rw [vary_U.l0, if_neg (by omega), if_pos (by omega), show n % 256 = n by omega]
    rfl
  | succ f ih =>
    intro k n acc hk h0 h1 ha
    obtain ⟨k, rfl⟩ : ∃ m, k = m + 1 := ⟨k - 1, by omega⟩
    by_cases h : n < 128
    · rw [vary_U.l0, if_neg (by omega), if_pos (by omega), show n % 256 = n by omega, enc_small _ _ h]
    · rw [vary_U.l0, if_pos (by omega), if_pos (by omega), ih k (n / 128) _ (by omega) (by omega) (pow_step n f h1) (by simp; omega), enc_big _ _ h, or128 _ (by omega) (by omega),
        show n % 256 % 128 = n % 128 by omega]
      simp
theorem U_bad (k : Nat) (n : Int) (hk : 0 < k) (h : n < 0 ∨ 18014398509481982 < n) : vary_U.f k n = some ([], 9) := by
  obtain ⟨k, rfl⟩ : ∃ m, k = m + 1 := ⟨k - 1, by omega⟩
  unfold vary_U.f
  by_cases h0 : n < 0
  · rw [if_pos h0, vary_U.j0, if_pos rfl]
  · rw [if_neg h0, vary_U.j0, if_pos (by simp; omega)]
theorem U_good (k : Nat) (n : Int) (hk : 9 ≤ k) (h0 : 0 ≤ n) (h1 : n ≤ 18014398509481982) : vary_U.f k n = some (enc 7 n, 0) := by
  obtain ⟨k, rfl⟩ : ∃ m, k = m + 1 := ⟨k - 1, by omega⟩
  unfold vary_U.f
  rw [if_neg (by omega), vary_U.j0, if_neg (by simp; omega), U_l0 7 k n [] (by omega) h0 (by omega) (by simp)]
  rfl
theorem S_bad (k : Nat) (n : Int) (h : n < -9007199254740991 ∨ 9007199254740991 < n) : vary_S.f k n = some ([], 9) := by
  unfold vary_S.f
  by_cases h0 : n < -9007199254740991
  · rw [if_pos h0]
  · rw [if_neg h0, if_pos (by omega)]
theorem S_good (k : Nat) (n : Int) (hk : 9 ≤ k) (h0 : -9007199254740991 ≤ n) (h1 : n ≤ 9007199254740991) : vary_S.f k n = some (enc 7 (zig n), 0) := by
  unfold vary_S.f
  rw [if_neg (by omega), if_neg (by omega), zig_eq n h0 h1, U_good k _ hk (zig_bound n h0 h1).1 (zig_bound n h0 h1).2]
  rfl
theorem drop_step {a : List Int} {i : Nat} (h : i < a.length) : a.drop i = a.getD i 0 :: a.drop (i + 1) := by
  rw [List.drop_eq_getElem_cons h, List.getD_eq_getElem?_getD, List.getElem?_eq_getElem h]; rfl
theorem eqB_l0 (a b : List Int) (hl : a.length = b.length) (hm : a.length < 4611686018427387904) (d : Nat) : ∀ (k i : Nat), i + d = a.length → d < k → driftnetref00_EqBytes.l0 k a b (i : Int) = some (decide (a.drop i = b.drop i)) := by
  induction d with
  | zero =>
    intro k i hi hk
    obtain ⟨k, rfl⟩ : ∃ m, k = m + 1 := ⟨k - 1, by omega⟩
    rw [driftnetref00_EqBytes.l0, if_neg (by omega), List.drop_eq_nil_of_le (by omega), List.drop_eq_nil_of_le (by omega)]
    rfl
  | succ d ih =>
    intro k i hi hk
    obtain ⟨k, rfl⟩ : ∃ m, k = m + 1 := ⟨k - 1, by omega⟩
    rw [driftnetref00_EqBytes.l0, if_pos (by omega), if_pos (by omega), if_pos (by omega), drop_step (show i < a.length by omega), drop_step (show i < b.length by omega)]
    unfold rd
    rw [show ((i : Nat) : Int).toNat = i from rfl]
    by_cases h : a.getD i 0 = b.getD i 0
    · rw [if_pos h, show wrap64 ((i : Int) + 1) = ((i + 1 : Nat) : Int) from by unfold wrap64; omega, ih k (i + 1) (by omega) (by omega), h]
      simp
    · rw [if_neg h]
      exact congrArg some (decide_eq_false (fun e => h (List.cons.inj e).1)).symm
theorem eqB (a b : List Int) (k : Nat) (hk : a.length < k) (hm : a.length < 4611686018427387904) : driftnetref00_EqBytes.f k a b = some (decide (a = b)) := by
  unfold driftnetref00_EqBytes.f
  by_cases h : a.length = b.length
  · rw [if_pos (by omega)]
    have := eqB_l0 a b h hm a.length k 0 (by omega) hk
    simpa using this
  · rw [if_neg (by omega)]
    have : a ≠ b := fun e => h (by rw [e])
    simp [this]
theorem awake_ok : driftnetlaw06_awake.f 12 = some true := by decide +kernel
theorem awake_at (k : Nat) (hk : 12 ≤ k) : driftnetlaw06_awake.f k = some true := at_rounds driftnetlaw06_awake.mono hk awake_ok
end Go.Proofs.Ytmjedmiaebbjaaa.VC
