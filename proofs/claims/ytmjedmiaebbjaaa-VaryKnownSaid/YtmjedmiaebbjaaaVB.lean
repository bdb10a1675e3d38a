/- What was written is read as it was: plain facts on groups of seven bits, no program. -/
import Derived.Test.YtmjedmiaebbjaaaVA
namespace Go.Proofs.Ytmjedmiaebbjaaa.VA
open Go.RowKit

/-- The groups of a number, so many and one at most. -/
def enc : Nat → Int → List Int
  | 0, n => [n]
  | f + 1, n => if n < 128 then [n] else (128 + n % 128) :: enc f (n / 128)
theorem enc_small (f : Nat) (n : Int) (h : n < 128) : enc f n = [n] := by
  cases f with
  | zero => rfl
  | succ f => unfold enc; rw [if_pos h]
theorem enc_big (f : Nat) (n : Int) (h : ¬ n < 128) : enc (f + 1) n = (128 + n % 128) :: enc f (n / 128) := by
  rw [enc]; rw [if_neg h]
theorem enc_len (f : Nat) : ∀ n : Int, 1 ≤ (enc f n).length ∧ (enc f n).length ≤ f + 1 := by
  induction f with
  | zero => intro n; exact ⟨Nat.le_refl _, Nat.le_refl _⟩
  | succ f ih =>
    intro n
    by_cases h : n < 128
    · rw [enc_small _ _ h]; simp
    · rw [enc_big _ _ h]; have := ih (n / 128); simp; omega
theorem enc_mono (f : Nat) : ∀ m n : Int, m ≤ n → (enc f m).length ≤ (enc f n).length := by
  induction f with
  | zero => intro m n _; exact Nat.le_refl _
  | succ f ih =>
    intro m n h
    by_cases h1 : n < 128
    · rw [enc_small _ _ h1, enc_small _ _ (by omega : m < 128)]; exact Nat.le_refl _
    · by_cases h2 : m < 128
      · rw [enc_small _ _ h2]; exact (enc_len (f + 1) n).1
      · rw [enc_big _ _ h1, enc_big _ _ h2]
        have := ih (m / 128) (n / 128) (by omega)
        simp; omega
theorem pow_step (n : Int) (f : Nat) (h : n < 128 ^ (f + 1 + 1)) : n / 128 < 128 ^ (f + 1) := by
  rw [Int.pow_succ] at h
  exact Int.ediv_lt_of_lt_mul (by decide) h
theorem enc_wf (f : Nat) : ∀ n : Int, 0 ≤ n → n < 128 ^ (f + 1) → ∀ x ∈ enc f n, 0 ≤ x ∧ x < 256 := by
  induction f with
  | zero => intro n h0 h1 x hx; simp [enc] at hx h1; omega
  | succ f ih =>
    intro n h0 h1 x hx
    by_cases h : n < 128
    · rw [enc_small _ _ h] at hx; simp at hx; omega
    · rw [enc_big _ _ h] at hx
      rcases List.mem_cons.1 hx with rfl | hx
      · omega
      · exact ih (n / 128) (by omega) (pow_step n f h1) x hx
theorem enc_val (f : Nat) : ∀ n : Int, 0 ≤ n → n < 128 ^ (f + 1) → val (enc f n) = n := by
  induction f with
  | zero => intro n h0 h1; simp [enc, val] at *; omega
  | succ f ih =>
    intro n h0 h1
    by_cases h : n < 128
    · rw [enc_small _ _ h]; simp [val]; omega
    · rw [enc_big _ _ h, val, ih (n / 128) (by omega) (pow_step n f h1)]; omega
theorem enc_lead (f : Nat) : ∀ (n : Int) (rest : List Int), 0 ≤ n → n < 128 ^ (f + 1) → lead (enc f n ++ rest) + 1 = (enc f n).length := by
  induction f with
  | zero =>
    intro n rest h0 h1
    have : ¬ (128 ≤ n) := by simp at h1; omega
    simp [enc, lead, this]
  | succ f ih =>
    intro n rest h0 h1
    by_cases h : n < 128
    · rw [enc_small _ _ h]
      have : ¬ (128 ≤ n) := by omega
      simp [lead, this]
    · rw [enc_big _ _ h, List.cons_append, lead, if_pos (by omega), List.length_cons]
      have := ih (n / 128) rest (by omega) (pow_step n f h1)
      omega
theorem enc_top (f : Nat) : ∀ n : Int, 1 ≤ n → 1 ≤ (enc f n).getD ((enc f n).length - 1) 0 := by
  induction f with
  | zero => intro n h; simpa [enc] using h
  | succ f ih =>
    intro n h
    by_cases h1 : n < 128
    · rw [enc_small _ _ h1]; simpa using h
    · rw [enc_big _ _ h1]
      have h2 := ih (n / 128) (by omega)
      have h3 := (enc_len f (n / 128)).1
      rw [List.length_cons, show (enc f (n / 128)).length + 1 - 1 = ((enc f (n / 128)).length - 1) + 1 by omega, List.getD_cons_succ]
      exact h2
/-- What was written is read as it was. -/
theorem uRes_enc (n : Int) (rest : List Int) (h0 : 0 ≤ n) (h1 : n ≤ 18014398509481982) : uRes (enc 7 n ++ rest) = (n, rest, 0) := by
  have hp : n < 128 ^ (7 + 1) := by omega
  have hl := enc_lead 7 n rest h0 hp
  obtain ⟨l1, l2⟩ := enc_len 7 n
  obtain ⟨k, hk⟩ : ∃ k, k = lead (enc 7 n ++ rest) := ⟨_, rfl⟩
  have hk1 : (enc 7 n).length = k + 1 := by omega
  have ht : (enc 7 n ++ rest).take (k + 1) = enc 7 n := by rw [← hk1, List.take_left]
  have hd : (enc 7 n ++ rest).drop (k + 1) = rest := by rw [← hk1, List.drop_left]
  rw [uRes_good _ k (by omega) hk.symm (by rw [List.length_append]; omega), ht, hd, enc_val 7 n h0 hp]
  rw [ht, enc_val 7 n h0 hp]
  rintro (⟨h2, h3⟩ | h2)
  · have hn : 1 ≤ n := by
      by_cases h : n < 128
      · rw [enc_small _ _ h] at hk1; simp at hk1; omega
      · omega
    have := enc_top 7 n hn
    rw [List.getD_eq_getElem?_getD, List.getElem?_append_left (by omega), ← List.getD_eq_getElem?_getD] at h3
    rw [hk1, show k + 1 - 1 = k by omega] at this
    omega
  · omega
theorem or128 (a : Int) (h0 : 0 ≤ a) (h1 : a < 256) : bits .or .u8 a 128 = 128 + a % 128 := by
  obtain ⟨a, rfl⟩ := Int.eq_ofNat_of_zero_le h0
  have h : ∀ b : Fin 256, bits .or .u8 ((b.val : Nat) : Int) 128 = 128 + ((b.val : Nat) : Int) % 128 := by decide +kernel
  exact h ⟨a, by omega⟩
/-- Zigzag, written. -/
def zig (n : Int) : Int := if n < 0 then -2 * n - 1 else 2 * n
theorem zig_eq (n : Int) (h0 : -9007199254740991 ≤ n) (h1 : n ≤ 9007199254740991) : bits .xor .i64 (wrap64 (n * 2)) (n / 9223372036854775808) = zig n := by
  have w : wrap64 (n * 2) = n * 2 := by unfold wrap64; omega
  rw [w]
  unfold zig
  by_cases h : n < 0
  · rw [if_pos h, show n / 9223372036854775808 = -1 by omega]
    have e : bits .xor .i64 (n * 2) (-1) = bits .xor .i64 (-(n * 2) - 1) 0 := by
      have k1 : ∀ x : Int, bits .xor .i64 x (-1) = IntKind.i64.wrap (((BitVec.ofInt 64 x ^^^ BitVec.allOnes 64).toNat : Nat) : Int) := fun x => rfl
      have k2 : ∀ x : Int, bits .xor .i64 x 0 = IntKind.i64.wrap (((BitVec.ofInt 64 x ^^^ 0#64).toNat : Nat) : Int) := fun x => rfl
      rw [k1, k2, BitVec.xor_allOnes, BitVec.xor_zero]
      congr 2
      rw [BitVec.toNat_not, BitVec.toNat_ofInt, BitVec.toNat_ofInt]
      omega
    rw [e, xor_none _ (by omega) (by omega)]
    omega
  · rw [if_neg h, show n / 9223372036854775808 = 0 by omega, xor_none _ (by omega) (by omega)]
    omega
theorem zig_bound (n : Int) (h0 : -9007199254740991 ≤ n) (h1 : n ≤ 9007199254740991) : 0 ≤ zig n ∧ zig n ≤ 18014398509481982 := by
  unfold zig; split <;> omega
theorem sOf_zig (n : Int) : sOf (zig n) = n := by
  unfold sOf zig; split <;> split <;> omega
/-- What can be read is written so. -/
theorem enc_read (l : List Int) : ∀ f : Nat, (∀ x ∈ l, 0 ≤ x ∧ x < 256) → lead l < l.length → lead l ≤ f → (lead l = 0 ∨ l.getD (lead l) 0 ≠ 0) →
    enc f (val (l.take (lead l + 1))) = l.take (lead l + 1) ∧ (0 < lead l ∨ l.getD (lead l) 0 ≠ 0 → 1 ≤ val (l.take (lead l + 1))) := by
  induction l with
  | nil => intro f _ h; exact absurd h (by simp [lead])
  | cons c t ih =>
    intro f hw hl hf hn
    have hc := hw c List.mem_cons_self
    by_cases h : 128 ≤ c
    · have e : lead (c :: t) = lead t + 1 := by rw [lead, if_pos h]
      rw [e] at hl hf hn ⊢
      obtain ⟨f, rfl⟩ : ∃ m, f = m + 1 := ⟨f - 1, by omega⟩
      have hn' : t.getD (lead t) 0 ≠ 0 := by
        rcases hn with hn | hn
        · omega
        · simpa using hn
      obtain ⟨h1, h2⟩ := ih f (fun x hx => hw x (List.mem_cons_of_mem _ hx)) (by simpa using hl) (by omega) (.inr hn')
      have h3 := h2 (.inr hn')
      simp only [List.take_succ_cons, val]
      refine ⟨?_, fun _ => by omega⟩
      rw [enc_big _ _ (by omega), show (c % 128 + 128 * val (t.take (lead t + 1))) / 128 = val (t.take (lead t + 1)) by omega, h1,
        show 128 + (c % 128 + 128 * val (t.take (lead t + 1))) % 128 = c by omega]
    · have e : lead (c :: t) = 0 := by rw [lead, if_neg h]
      rw [e]
      simp only [Nat.zero_add, List.take_succ_cons, List.take_zero, val, List.getD_cons_zero]
      rw [show c % 128 + 128 * 0 = c by omega, enc_small _ _ (by omega)]
      exact ⟨rfl, fun h => by rcases h with h | h <;> omega⟩
theorem uRes_ok (l l' : List Int) (n : Int) (hw : ∀ x ∈ l, 0 ≤ x ∧ x < 256) (h : uRes l = (n, l', 0)) : enc 7 n ++ l' = l := by
  unfold uRes at h
  by_cases h1 : 8 ≤ lead l
  · rw [if_pos h1] at h; simp at h
  · rw [if_neg h1] at h
    by_cases h2 : lead l = l.length
    · rw [if_pos h2] at h; simp at h
    · rw [if_neg h2] at h
      by_cases h3 : (0 < lead l ∧ l.getD (lead l) 0 = 0) ∨ 18014398509481982 < val (l.take (lead l + 1))
      · rw [if_pos h3] at h; simp at h
      · rw [if_neg h3] at h
        simp only [Prod.mk.injEq] at h
        obtain ⟨rfl, rfl, _⟩ := h
        have := lead_le l
        rw [(enc_read l 7 hw (by omega) (by omega) (by by_cases h4 : lead l = 0; exact .inl h4; exact .inr (fun h5 => h3 (.inl ⟨by omega, h5⟩)))).1]
        exact List.take_append_drop _ _
theorem zig_sOf (n : Int) (h : 0 ≤ n) : zig (sOf n) = n := by
  unfold sOf zig; split <;> split <;> omega
theorem sOf_bound (n : Int) (h0 : 0 ≤ n) (h1 : n ≤ 18014398509481982) : -9007199254740991 ≤ sOf n ∧ sOf n ≤ 9007199254740991 := by
  unfold sOf; split <;> omega
theorem tRes_ok (most : Int) (l t l' : List Int) (hw : ∀ x ∈ l, 0 ≤ x ∧ x < 256) (h : tRes most l = (t, l', 0)) : enc 7 (t.length : Int) ++ t ++ l' = l ∧ (t.length : Int) ≤ most ∧ (t.length : Int) ≤ 18014398509481982 := by
  obtain ⟨n, l1, e, hu⟩ : ∃ n l1 e, uRes l = (n, l1, e) := ⟨_, _, _, rfl⟩
  have hb := uRes_bound l
  rw [hu] at hb
  by_cases he : e = 0
  · subst he
    have hok := uRes_ok l l1 n hw hu
    by_cases h1 : most < n
    · rw [tRes_most most l l1 n hu h1] at h; simp at h
    · by_cases h2 : (l1.length : Int) < n
      · rw [tRes_short most l l1 n hu h1 h2] at h; simp at h
      · rw [tRes_good most l l1 n hu h1 h2] at h
        simp only [Prod.mk.injEq] at h
        obtain ⟨rfl, rfl, _⟩ := h
        have hl : (((l1.take n.toNat).length : Nat) : Int) = n := by rw [List.length_take]; simp only at hb; omega
        rw [hl, List.append_assoc, List.take_append_drop]
        exact ⟨hok, by omega, hb.2⟩
  · rw [tRes_err most l l1 n e hu he] at h
    simp only [Prod.mk.injEq] at h
    exact absurd h.2.2 he
theorem tRes_bad (most : Int) (l : List Int) (h : (uRes l).2.2 ≠ 0) : (tRes most l).2.2 ≠ 0 := by
  unfold tRes; rw [if_pos h]; exact h
/-- A text behind its length is read as it was. -/
theorem tRes_enc (most : Int) (t rest : List Int) (h1 : (t.length : Int) ≤ most) (h2 : (t.length : Int) ≤ 18014398509481982) : tRes most (enc 7 (t.length : Int) ++ t ++ rest) = (t, rest, 0) := by
  have hu := uRes_enc (t.length : Int) (t ++ rest) (by omega) h2
  rw [← List.append_assoc] at hu
  rw [tRes_good most _ _ _ hu (by omega) (by rw [List.length_append]; omega)]
  simp
end Go.Proofs.Ytmjedmiaebbjaaa.VA
