/- What the statement rests on, part 5: LN NS DV ND. -/
import Derived.Test.YtgdkgahbmfhgcaaR04
set_option linter.unusedVariables false
set_option linter.unusedSimpArgs false
set_option maxHeartbeats 4000000
set_option maxRecDepth 100000
namespace Go.Proofs.Ytgdkgahbmfhgcaa.Limbs
def V : List Int → Nat
 | [] => 0
 | x :: r => x.toNat + 4294967296 * V r
def Ok (l : List Int) : Prop := ∀ x ∈ l, 0 ≤ x ∧ x < 4294967296
def Tight (l : List Int) : Prop := ∀ x, l.getLast? = some x → x ≠ 0
def limbs (n : Nat) : List Int := if h : n = 0 then [] else (n % 4294967296 : Nat) :: limbs (n / 4294967296)
termination_by n
decreasing_by omega
theorem limbs_zero : limbs 0 = [] := by rw [limbs]; simp
theorem limbs_pos {n : Nat} (h : 0 < n) : limbs n = ((n % 4294967296 : Nat) : Int) :: limbs (n / 4294967296) := by rw [limbs, dif_neg (by omega)]
theorem V_limbs (n : Nat) : V (limbs n) = n := by
 induction n using Nat.strongRecOn with
 | _ n ih =>
  rcases Nat.eq_zero_or_pos n with rfl | h
  · rw [limbs_zero]; rfl
  · rw [limbs_pos h, V, ih _ (by omega)]
    omega
theorem Ok_nil : Ok [] := by simp [Ok]
theorem Ok_cons {x : Int} {l : List Int} : Ok (x :: l) ↔ (0 ≤ x ∧ x < 4294967296) ∧ Ok l := by simp [Ok]
theorem Ok_append {a b : List Int} : Ok (a ++ b) ↔ Ok a ∧ Ok b := by
 unfold Ok
 constructor
 · intro h; exact ⟨fun x hx => h x (List.mem_append_left _ hx), fun x hx => h x (List.mem_append_right _ hx)⟩
 · rintro ⟨h1, h2⟩ x hx
   rcases List.mem_append.1 hx with h | h
   · exact h1 x h
   · exact h2 x h
theorem Ok_take {l : List Int} (h : Ok l) (n : Nat) : Ok (l.take n) := fun x hx => h x (List.mem_of_mem_take hx)
theorem Ok_drop {l : List Int} (h : Ok l) (n : Nat) : Ok (l.drop n) := fun x hx => h x (List.mem_of_mem_drop hx)
theorem Ok_limbs (n : Nat) : Ok (limbs n) := by
 induction n using Nat.strongRecOn with
 | _ n ih =>
  rcases Nat.eq_zero_or_pos n with rfl | h
  · rw [limbs_zero]; exact Ok_nil
  · rw [limbs_pos h, Ok_cons]
    exact ⟨by omega, ih _ (by omega)⟩
theorem V_append (a b : List Int) : V (a ++ b) = V a + 4294967296 ^ a.length * V b := by
 induction a with
 | nil => simp [V]
 | cons x r ih =>
  rw [List.cons_append, V, V, ih, List.length_cons, Nat.pow_succ]
  rw [Nat.mul_add, Nat.add_assoc, ← Nat.mul_assoc, Nat.mul_comm (4294967296 ^ r.length) 4294967296]
theorem V_lt {l : List Int} (h : Ok l) : V l < 4294967296 ^ l.length := by
 induction l with
 | nil => simp [V]
 | cons x r ih =>
  obtain ⟨⟨h0, h1⟩, h2⟩ := Ok_cons.1 h
  have := ih h2
  rw [V, List.length_cons, Nat.pow_succ]
  omega
theorem Tight_nil : Tight [] := by intro x h; simp at h
theorem Tight_cons {x : Int} {l : List Int} (hl : l ≠ []) : Tight (x :: l) ↔ Tight l := by
 unfold Tight
 rw [List.getLast?_cons, List.getLast?_eq_some_getLast hl]
 simp
theorem Tight_one {x : Int} : Tight [x] ↔ x ≠ 0 := by simp [Tight]
theorem limbs_ne {n : Nat} (h : 0 < n) : limbs n ≠ [] := by rw [limbs_pos h]; simp
theorem Tight_limbs (n : Nat) : Tight (limbs n) := by
 induction n using Nat.strongRecOn with
 | _ n ih =>
  rcases Nat.eq_zero_or_pos n with rfl | h
  · rw [limbs_zero]; exact Tight_nil
  · rw [limbs_pos h]
    rcases Nat.eq_zero_or_pos (n / 4294967296) with h2 | h2
    · rw [h2, limbs_zero, Tight_one]
      have : n % 4294967296 = n := by omega
      omega
    · rw [Tight_cons (limbs_ne h2)]
      exact ih _ (by omega)
theorem V_pos {l : List Int} (h : Ok l) (ht : Tight l) (hne : l ≠ []) : 0 < V l := by
 induction l with
 | nil => exact absurd rfl hne
 | cons x r ih =>
  obtain ⟨⟨h0, h1⟩, h2⟩ := Ok_cons.1 h
  rw [V]
  by_cases hr : r = []
  · subst hr
    have := Tight_one.1 ht
    omega
  · have := ih h2 ((Tight_cons hr).1 ht) hr
    omega
theorem limbs_V {l : List Int} (h : Ok l) (ht : Tight l) : limbs (V l) = l := by
 induction l with
 | nil => exact limbs_zero
 | cons x r ih =>
  obtain ⟨⟨h0, h1⟩, h2⟩ := Ok_cons.1 h
  have hp := V_pos h ht (by simp)
  have hr : Tight r := by
   by_cases hr : r = []
   · subst hr; exact Tight_nil
   · exact (Tight_cons hr).1 ht
  rw [limbs_pos hp, V]
  have e1 : (x.toNat + 4294967296 * V r) % 4294967296 = x.toNat := by omega
  have e2 : (x.toNat + 4294967296 * V r) / 4294967296 = V r := by omega
  rw [e1, e2, ih h2 hr]
  congr 1
  omega
theorem limbs_inj {m n : Nat} (h : limbs m = limbs n) : m = n := by rw [← V_limbs m, ← V_limbs n, h]
theorem limbs_len_le {n m : Nat} (h : n < 4294967296 ^ m) : (limbs n).length ≤ m := by
 induction m generalizing n with
 | zero =>
  have : n = 0 := by simpa using h
  subst this
  rw [limbs_zero]; simp
 | succ m ih =>
  rcases Nat.eq_zero_or_pos n with rfl | h0
  · rw [limbs_zero]; simp
  · rw [limbs_pos h0, List.length_cons]
    rw [Nat.pow_succ] at h
    have := @ih (n / 4294967296) (by omega)
    omega
theorem lt_of_limbs_len {n m : Nat} (h : (limbs n).length ≤ m) : n < 4294967296 ^ m := by
 have h1 := V_lt (Ok_limbs n)
 rw [V_limbs] at h1
 exact Nat.lt_of_lt_of_le h1 (Nat.pow_le_pow_right (by omega) h)
theorem limbs_len_mono {m n : Nat} (h : m ≤ n) : (limbs m).length ≤ (limbs n).length := limbs_len_le (Nat.lt_of_le_of_lt h (lt_of_limbs_len (Nat.le_refl _)))
theorem V_le_of_pow {l : List Int} (h : Ok l) (ht : Tight l) (hne : l ≠ []) : 4294967296 ^ (l.length - 1) ≤ V l := by
 rcases Nat.lt_or_ge (V l) (4294967296 ^ (l.length - 1)) with h1 | h1
 · have h2 := limbs_len_le h1
   rw [limbs_V h ht] at h2
   have := List.length_pos_iff.2 hne
   omega
 · exact h1
theorem V_zeros (n : Nat) : V (List.replicate n (0 : Int)) = 0 := by
 induction n with
 | zero => rfl
 | succ n ih => rw [List.replicate_succ, V, ih]; rfl
theorem trim_spec {l : List Int} (h : Ok l) (m : Nat) (hm : m ≤ l.length) (hz : ∀ i, m ≤ i → ∀ x, l[i]? = some x → x = 0) (ht : m = 0 ∨ ∃ x, l[m - 1]? = some x ∧ x ≠ 0) : l.take m = limbs (V l) := by
 have hd : V (l.drop m) = 0 := by
  have e : l.drop m = List.replicate (l.length - m) 0 := by
   apply List.ext_getElem?
   intro i
   rw [List.getElem?_drop, List.getElem?_replicate]
   by_cases hi : m + i < l.length
   · rw [if_pos (by omega), List.getElem?_eq_getElem hi, hz (m + i) (by omega) _ (List.getElem?_eq_getElem hi)]
   · rw [if_neg (by omega), List.getElem?_eq_none (by omega)]
  rw [e, V_zeros]
 have hv : V l = V (l.take m) := by
  have := V_append (l.take m) (l.drop m)
  rw [List.take_append_drop, hd] at this
  simpa using this
 rw [hv]
 refine (limbs_V (Ok_take h m) ?_).symm
 intro x hx
 rcases ht with rfl | ⟨y, hy, hy0⟩
 · simp at hx
 · by_cases hm0 : m = 0
   · subst hm0; simp at hx
   · rw [List.getLast?_eq_getElem?, List.length_take, Nat.min_eq_left hm, List.getElem?_take_of_lt (by omega), hy] at hx
     obtain rfl := Option.some.inj hx
     exact hy0
end Go.Proofs.Ytgdkgahbmfhgcaa.Limbs
namespace Go.Proofs.Ytgdkgahbmfhgcaa.NS
open Go Go.RowKit Go.Proofs.Ytgdkgahbmfhgcaa.PN Go.Proofs.Ytgdkgahbmfhgcaa.Limbs Go.Proofs.YtgdkgahbmfhgcaaW.PrintWords Go.Proofs.YtgdkgahbmfhgcaaW.PrintMore
section
variable {α : Type}
theorem Ev.pos {c : Prop} [Decidable c] {A B : Nat → Option α} {r : α} (h : c) (k : Ev A r) : Ev (fun n => if c then A n else B n) r := Ev.congr (fun _ => if_pos h) k
theorem Ev.neg {c : Prop} [Decidable c] {A B : Nat → Option α} {r : α} (h : ¬ c) (k : Ev B r) : Ev (fun n => if c then A n else B n) r := Ev.congr (fun _ => if_neg h) k
theorem Ev.succ {g : Nat → Option α} {r : α} (k : Ev (fun n => g (n + 1)) r) : Ev g r := Ev.step (fun _ => rfl) k
theorem Ev.some_ (r : α) {s : α} (h : r = s) : Ev (fun _ => some r) s := h ▸ Ev.now r
theorem Ev.one {β : Type} {g : Option α} {a : α} {f : Nat → α → Option β} {r : β} (h : g = some a) (k : Ev (fun n => f n a) r) : Ev (fun n => g.bind (f n)) r := Ev.bind (h ▸ Ev.now a) k
end
theorem w64 {x : Int} (h0 : -9223372036854775808 ≤ x) (h1 : x ≤ 9223372036854775807) : wrap64 x = x := by unfold wrap64; omega
theorem u64w {x : Int} (h0 : 0 ≤ x) (h1 : x < 18446744073709551616) : IntKind.u64.wrap x = x := by simp [IntKind.wrap, IntKind.bits, IntKind.signed]; omega
theorem rdi (l : List Int) (i : Nat) (h : i < l.length) : rd l (i : Int) = l[i] := by
 unfold rd
 rw [List.getD_eq_getElem?_getD, Int.toNat_natCast, List.getElem?_eq_getElem h]
 rfl
theorem ok_at {l : List Int} (h : Ok l) (i : Nat) (hi : i < l.length) : 0 ≤ l[i] ∧ l[i] < 4294967296 := h _ (List.getElem_mem _)
theorem V_split (l : List Int) (j : Nat) (h : j < l.length) : V l = V (l.take j) + 4294967296 ^ j * (l[j].toNat + 4294967296 * V (l.drop (j + 1))) := by
 have h1 := V_append (l.take j) (l.drop j)
 rw [List.take_append_drop, List.length_take, Nat.min_eq_left (by omega), List.drop_eq_getElem_cons h, V] at h1
 exact h1
theorem V_take_succ (l : List Int) (j : Nat) (h : j < l.length) : V (l.take (j + 1)) = V (l.take j) + 4294967296 ^ j * l[j].toNat := by
 rw [List.take_succ_eq_append_getElem h, V_append, List.length_take, Nat.min_eq_left (by omega)]
 simp [V]
theorem V_drop_cons (l : List Int) (j : Nat) (h : j < l.length) : V (l.drop j) = l[j].toNat + 4294967296 * V (l.drop (j + 1)) := by
 rw [List.drop_eq_getElem_cons h, V]
theorem V_set (l : List Int) (p : Nat) (h : p < l.length) (v : Int) : V (l.set p v) + 4294967296 ^ p * l[p].toNat = V l + 4294967296 ^ p * v.toNat := by
 have h1 := V_split l p h
 have h2 := V_split (l.set p v) p (by simpa using h)
 rw [List.take_set_of_le (Nat.le_refl _), List.drop_set_of_lt (by omega), List.getElem_set_self] at h2
 rw [h1, h2, Nat.mul_add, Nat.mul_add]
 omega
theorem Ok_set {l : List Int} (h : Ok l) (p : Nat) {v : Int} (h0 : 0 ≤ v) (h1 : v < 4294967296) : Ok (l.set p v) := by
 intro x hx
 rcases List.mem_or_eq_of_mem_set hx with h2 | rfl
 · exact h x h2
 · exact ⟨h0, h1⟩
theorem Ok_zeros (n : Nat) : Ok (List.replicate n 0) := by
 intro x hx
 rw [List.eq_of_mem_replicate hx]
 omega
theorem trim_ev (l : List Int) (h : Ok l) (hl : l.length ≤ 1000000) : Ev (fun k => nat_trim.f k l) (limbs (V l)) := by
 unfold nat_trim.f
 have key : ∀ m : Nat, m ≤ l.length → (∀ i, m ≤ i → ∀ x, l[i]? = some x → x = 0) → Ev (fun k => nat_trim.l0 k (l.take m)) (limbs (V l)) := by
  intro m
  induction m with
  | zero =>
   intro hm hz
   refine Ev.succ ?_
   simp only [nat_trim.l0]
   refine Ev.neg (by simp) (Ev.some_ _ ?_)
   exact trim_spec h 0 (by omega) hz (Or.inl rfl)
  | succ m ih =>
   intro hm hz
   have hlen : (l.take (m + 1)).length = m + 1 := by rw [List.length_take]; omega
   refine Ev.succ ?_
   simp only [nat_trim.l0]
   rw [hlen, w64 (by omega) (by omega), show ((m + 1 : Nat) : Int) - 1 = (m : Int) by omega, rdi _ m (by omega)]
   refine Ev.pos (by omega) (Ev.pos (by omega) (Ev.pos (by omega) ?_))
   have e : (l.take (m + 1))[m]'(by omega) = l[m] := List.getElem_take
   rw [e]
   by_cases c : l[m] = 0
   · refine Ev.pos c (Ev.pos (by omega) ?_)
     rw [Int.toNat_natCast, List.take_take, Nat.min_eq_left (by omega)]
     refine ih (by omega) (fun i hi x hx => ?_)
     by_cases hi2 : i = m
     · subst hi2
       rw [List.getElem?_eq_getElem (by omega)] at hx
       rw [← Option.some.inj hx, c]
     · exact hz i (by omega) x hx
   · refine Ev.neg c (Ev.some_ _ ?_)
     exact trim_spec h (m + 1) hm hz (Or.inr ⟨l[m], by rw [Nat.add_sub_cancel, List.getElem?_eq_getElem (by omega)], c⟩)
 have := key l.length (Nat.le_refl _) (fun i hi x hx => by rw [List.getElem?_eq_none hi] at hx; cases hx)
 rwa [List.take_length] at this
theorem Of_ev (n : Nat) (h : n < 18446744073709551616) : Ev (fun k => nat_Of.f k (n : Int)) (limbs n) := by
 unfold nat_Of.f
 have h1 := trim_ev [((n : Int)) % 4294967296, ((n : Int) / 4294967296) % 4294967296] (by intro x hx; simp at hx; rcases hx with rfl | rfl <;> omega) (by simp)
 have e : V [((n : Int)) % 4294967296, ((n : Int) / 4294967296) % 4294967296] = n := by simp only [V]; omega
 rw [e] at h1
 exact Ev.bind h1 (Ev.now _)
theorem compare_ev (a b : List Int) (ha : Ok a) (ta : Tight a) (hb : Ok b) (tb : Tight b) (la : a.length ≤ 1000000) (lb : b.length ≤ 1000000) :
 Ev (fun k => nat_compare.f k a b) (if V a < V b then -1 else if V a = V b then 0 else 1) := by
 unfold nat_compare.f
 by_cases hl : a.length = b.length
 · refine Ev.pos (by omega) ?_
   have key : ∀ d i : Nat, i + d = a.length → a.drop d = b.drop d → Ev (fun k => nat_compare.l0 k a b (a.length : Int) (i : Int)) (if V a < V b then -1 else if V a = V b then 0 else 1) := by
    intro d
    induction d with
    | zero =>
     intro i hi hd
     refine Ev.succ ?_
     simp only [nat_compare.l0]
     refine Ev.neg (by omega) (Ev.some_ _ ?_)
     rw [List.drop_zero, List.drop_zero] at hd
     subst hd
     simp
    | succ d ih =>
     intro i hi hd
     refine Ev.succ ?_
     simp only [nat_compare.l0]
     rw [w64 (x := (a.length : Int) - 1) (by omega) (by omega), w64 (x := (b.length : Int) - 1) (by omega) (by omega), w64 (x := (a.length : Int) - 1 - i) (by omega) (by omega), w64 (x := (b.length : Int) - 1 - i) (by omega) (by omega), w64 (x := (i : Int) + 1) (by omega) (by omega)]
     have e1 : (a.length : Int) - 1 - i = (d : Int) := by omega
     have e2 : (b.length : Int) - 1 - i = (d : Int) := by omega
     rw [e1, e2, rdi a d (by omega), rdi b d (by omega)]
     refine Ev.pos (by omega) (Ev.pos (by omega) (Ev.pos (by omega) (Ev.pos (by omega) (Ev.pos (by omega) ?_))))
     have sa := V_split a d (by omega)
     have sb := V_split b d (by omega)
     have oa := ok_at ha d (by omega)
     have ob := ok_at hb d (by omega)
     have va := V_lt (Ok_take ha d)
     have vb := V_lt (Ok_take hb d)
     rw [List.length_take, Nat.min_eq_left (by omega)] at va vb
     by_cases c : a[d] = b[d]
     · refine Ev.pos c (ih (i + 1) (by omega) ?_)
       rw [List.drop_eq_getElem_cons (l := a) (i := d) (by omega), List.drop_eq_getElem_cons (l := b) (i := d) (by omega), c, hd]
     · refine Ev.neg c ?_
       rw [hd] at sa
       generalize V (a.take d) = p at sa va
       generalize V (b.take d) = q at sb vb
       generalize V (b.drop (d + 1)) = t at sa sb
       generalize 4294967296 ^ d = Z at sa sb va vb
       by_cases c2 : a[d] < b[d]
       · refine Ev.pos c2 (Ev.some_ _ ?_)
         have hx : a[d].toNat + 4294967296 * t + 1 ≤ b[d].toNat + 4294967296 * t := by omega
         have := Nat.mul_le_mul_left Z hx
         rw [Nat.mul_add, Nat.mul_one] at this
         rw [if_pos (by omega)]
       · refine Ev.neg c2 (Ev.some_ _ ?_)
         have hx : b[d].toNat + 4294967296 * t + 1 ≤ a[d].toNat + 4294967296 * t := by omega
         have := Nat.mul_le_mul_left Z hx
         rw [Nat.mul_add, Nat.mul_one] at this
         rw [if_neg (by omega), if_neg (by omega)]
   have := key a.length 0 (by omega) (by rw [List.drop_length, hl, List.drop_length])
   exact this
 · refine Ev.neg (by omega) (Ev.some_ _ ?_)
   rw [w64 (x := (a.length : Int) - b.length) (by omega) (by omega), w64 (by omega) (by omega)]
   rcases Nat.lt_or_ge a.length b.length with h | h
   · have h1 := V_lt ha
     have h2 := V_le_of_pow hb tb (by intro e; subst e; simp at h)
     have h3 : 4294967296 ^ a.length ≤ 4294967296 ^ (b.length - 1) := Nat.pow_le_pow_right (by omega) (by omega)
     rw [if_pos (by omega)]
     unfold mn mx
     (repeat' split) <;> omega
   · have h1 := V_lt hb
     have h2 := V_le_of_pow ha ta (fun e => by have h9 : a.length = 0 := (by rw [e]; rfl); omega)
     have h3 : 4294967296 ^ b.length ≤ 4294967296 ^ (a.length - 1) := Nat.pow_le_pow_right (by omega) (by omega)
     rw [if_neg (by omega), if_neg (by omega)]
     unfold mn mx
     (repeat' split) <;> omega
theorem replicate_wrap (n : Int) (m : Nat) (h : n = (m : Int)) : List.replicate n.toNat (0 : Int) = List.replicate m 0 := by rw [h, Int.toNat_natCast]
theorem sub32_some (x y b : Int) (h0 : 0 ≤ x) (h1 : x < 4294967296) (h2 : 0 ≤ y) (h3 : y < 4294967296) (h4 : 0 ≤ b) (h5 : b ≤ 1) :
 ∃ v c : Int, bits_Sub32.f x y b = some (v, c) ∧ 0 ≤ v ∧ v < 4294967296 ∧ 0 ≤ c ∧ c ≤ 1 ∧ x + 4294967296 * c = v + y + b := by
 unfold bits_Sub32.f
 rw [if_pos ⟨h0, h1, h2, h3, h4, h5⟩]
 refine ⟨_, _, rfl, ?_⟩
 split <;> omega
theorem add32_some (x y b : Int) (h0 : 0 ≤ x) (h1 : x < 4294967296) (h2 : 0 ≤ y) (h3 : y < 4294967296) (h4 : 0 ≤ b) (h5 : b ≤ 1) :
 ∃ v c : Int, bits_Add32.f x y b = some (v, c) ∧ 0 ≤ v ∧ v < 4294967296 ∧ 0 ≤ c ∧ c ≤ 1 ∧ x + y + b = v + 4294967296 * c := by
 unfold bits_Add32.f
 rw [u64w (x := x) (by omega) (by omega), u64w (x := y) (by omega) (by omega), u64w (x := b) (by omega) (by omega), u64w (x := x + y) (by omega) (by omega), u64w (x := x + y + b) (by omega) (by omega)]
 refine ⟨_, _, rfl, ?_⟩
 omega
theorem V_fill (o : List Int) (i : Nat) (h : i < o.length) (v : Int) : V ((o.set i v).take (i + 1)) = V (o.take i) + 4294967296 ^ i * v.toNat := by
 rw [V_take_succ _ _ (by simpa using h), List.take_set_of_le (Nat.le_refl _), List.getElem_set_self]
theorem Ok_fill (o : List Int) (i : Nat) (h : i < o.length) {v : Int} (ho : Ok (o.take i)) (h0 : 0 ≤ v) (h1 : v < 4294967296) : Ok ((o.set i v).take (i + 1)) := by
 rw [List.take_succ_eq_append_getElem (by simpa using h), List.take_set_of_le (Nat.le_refl _), List.getElem_set_self, Ok_append]
 exact ⟨ho, by intro x hx; rw [List.mem_singleton] at hx; subst hx; exact ⟨h0, h1⟩⟩
theorem st_sub {Z pa po pb a b c c' v : Nat} (h1 : pa + Z * c = po + pb) (h2 : a + 4294967296 * c' = v + b + c) : pa + Z * a + Z * 4294967296 * c' = po + Z * v + (pb + Z * b) := by
 have h3 := congrArg (Z * ·) h2
 simp only [Nat.mul_add] at h3
 rw [Nat.mul_assoc]
 omega
theorem st_add {Z pa po pb a b c c' v : Nat} (h1 : pa + pb = po + Z * c) (h2 : a + b + c = v + 4294967296 * c') : pa + Z * a + (pb + Z * b) = po + Z * v + Z * 4294967296 * c' := by
 have h3 := congrArg (Z * ·) h2
 simp only [Nat.mul_add] at h3
 rw [Nat.mul_assoc]
 omega
theorem minus_ev (a b : List Int) (ha : Ok a) (hb : Ok b) (hl : b.length ≤ a.length) (hv : V b ≤ V a) (la : a.length ≤ 1000000) : Ev (fun k => nat_minus.f k a b) (limbs (V a - V b)) := by
 unfold nat_minus.f
 refine Ev.pos (by omega) (Ev.pos (by omega) ?_)
 rw [Int.toNat_natCast]
 have key : ∀ d i : Nat, i + d = a.length → ∀ (o : List Int) (c : Int), o.length = a.length → 0 ≤ c → c ≤ 1 → Ok (o.take i) → V (a.take i) + 4294967296 ^ i * c.toNat = V (o.take i) + V (b.take i) → Ev (fun k => nat_minus.l0 k a b o c (a.length : Int) (i : Int)) (limbs (V a - V b)) := by
  intro d
  induction d with
  | zero =>
   intro i hi o c ho c0 c1 hok hs
   refine Ev.succ ?_
   simp only [nat_minus.l0]
   obtain rfl : i = a.length := by omega
   rw [List.take_length, List.take_of_length_le (Nat.le_of_eq ho), List.take_of_length_le hl] at hs
   rw [List.take_of_length_le (Nat.le_of_eq ho)] at hok
   have hlt := V_lt hok
   rw [ho] at hlt
   have hc : c.toNat = 0 := by
    rcases Nat.eq_zero_or_pos c.toNat with h | h
    · exact h
    · have : c.toNat = 1 := by omega
      rw [this] at hs
      omega
   rw [hc] at hs
   have e : V o = V a - V b := by omega
   have ht := trim_ev o hok (by omega)
   rw [e] at ht
   exact Ev.neg (by omega) (Ev.bind ht (Ev.now _))
  | succ d ih =>
   intro i hi o c ho c0 c1 hok hs
   refine Ev.succ ?_
   simp only [nat_minus.l0]
   have oa := ok_at ha i (by omega)
   rw [rdi a i (by omega), w64 (by omega) (by omega)]
   refine Ev.pos (by omega) ?_
   by_cases hb2 : i < b.length
   · have ob := ok_at hb i hb2
     obtain ⟨v, c', he, v0, v1, c0', c1', hq⟩ := sub32_some a[i] b[i] c oa.1 oa.2 ob.1 ob.2 c0 c1
     rw [rdi b i hb2]
     refine Ev.pos (by omega) (Ev.pos (by omega) (Ev.pos (by omega) (Ev.one he (Ev.pos (by omega) ?_))))
     rw [Int.toNat_natCast]
     refine ih (i + 1) (by omega) (o.set i v) c' (by simpa using ho) c0' c1' (Ok_fill o i (by omega) hok v0 v1) ?_
     rw [V_fill o i (by omega), V_take_succ a i (by omega), V_take_succ b i hb2, Nat.pow_succ]
     exact st_sub hs (by omega)
   · obtain ⟨v, c', he, v0, v1, c0', c1', hq⟩ := sub32_some a[i] 0 c oa.1 oa.2 (by omega) (by omega) c0 c1
     refine Ev.neg (by omega) (Ev.pos (by omega) (Ev.pos (by omega) (Ev.one he (Ev.pos (by omega) ?_))))
     rw [Int.toNat_natCast]
     refine ih (i + 1) (by omega) (o.set i v) c' (by simpa using ho) c0' c1' (Ok_fill o i (by omega) hok v0 v1) ?_
     rw [List.take_of_length_le (l := b) (i := i) (by omega)] at hs
     rw [V_fill o i (by omega), V_take_succ a i (by omega), List.take_of_length_le (l := b) (i := i + 1) (by omega), Nat.pow_succ]
     exact st_sub (b := 0) hs (by omega)
 exact key a.length 0 (by omega) _ 0 (by simp) (by omega) (by omega) (by simp [Ok]) (by simp [V])
theorem plusL_ev (a b : List Int) (ha : Ok a) (hb : Ok b) (hl : b.length ≤ a.length) (la : a.length ≤ 900000) : Ev (fun k => nat_plusL.f k a b) (limbs (V a + V b)) := by
 unfold nat_plusL.f
 rw [w64 (by omega) (by omega)]
 refine Ev.pos (by omega) (Ev.pos (by omega) ?_)
 rw [replicate_wrap _ (a.length + 1) (by omega)]
 have key : ∀ d i : Nat, i + d = a.length → ∀ (o : List Int) (c : Int), o.length = a.length + 1 → 0 ≤ c → c ≤ 1 → Ok (o.take i) → V (a.take i) + V (b.take i) = V (o.take i) + 4294967296 ^ i * c.toNat → Ev (fun k => nat_plusL.l0 k a b o c (a.length : Int) (i : Int)) (limbs (V a + V b)) := by
  intro d
  induction d with
  | zero =>
   intro i hi o c ho c0 c1 hok hs
   refine Ev.succ ?_
   simp only [nat_plusL.l0]
   obtain rfl : i = a.length := by omega
   rw [List.take_length, List.take_of_length_le hl] at hs
   have h1 := V_fill o a.length (by omega) c
   have h2 := Ok_fill o a.length (by omega) hok c0 (by omega)
   rw [List.take_of_length_le (l := o.set a.length c) (i := a.length + 1) (by rw [List.length_set]; omega)] at h1 h2
   rw [Int.toNat_natCast]
   have ht := trim_ev _ h2 (by rw [List.length_set]; omega)
   rw [h1, ← hs] at ht
   exact Ev.neg (by omega) (Ev.pos (by omega) (Ev.pos (by omega) (Ev.bind ht (Ev.now _))))
  | succ d ih =>
   intro i hi o c ho c0 c1 hok hs
   refine Ev.succ ?_
   simp only [nat_plusL.l0]
   have oa := ok_at ha i (by omega)
   rw [rdi a i (by omega), w64 (by omega) (by omega)]
   refine Ev.pos (by omega) ?_
   by_cases hb2 : i < b.length
   · have ob := ok_at hb i hb2
     obtain ⟨v, c', he, v0, v1, c0', c1', hq⟩ := add32_some a[i] b[i] c oa.1 oa.2 ob.1 ob.2 c0 c1
     rw [rdi b i hb2]
     refine Ev.pos (by omega) (Ev.pos (by omega) (Ev.pos (by omega) (Ev.one he (Ev.pos (by omega) ?_))))
     rw [Int.toNat_natCast]
     refine ih (i + 1) (by omega) (o.set i v) c' (by simpa using ho) c0' c1' (Ok_fill o i (by omega) hok v0 v1) ?_
     rw [V_fill o i (by omega), V_take_succ a i (by omega), V_take_succ b i hb2, Nat.pow_succ]
     exact st_add hs (by omega)
   · obtain ⟨v, c', he, v0, v1, c0', c1', hq⟩ := add32_some a[i] 0 c oa.1 oa.2 (by omega) (by omega) c0 c1
     refine Ev.neg (by omega) (Ev.pos (by omega) (Ev.pos (by omega) (Ev.one he (Ev.pos (by omega) ?_))))
     rw [Int.toNat_natCast]
     refine ih (i + 1) (by omega) (o.set i v) c' (by simpa using ho) c0' c1' (Ok_fill o i (by omega) hok v0 v1) ?_
     rw [List.take_of_length_le (l := b) (i := i) (by omega)] at hs
     rw [V_fill o i (by omega), V_take_succ a i (by omega), List.take_of_length_le (l := b) (i := i + 1) (by omega), Nat.pow_succ]
     exact st_add (b := 0) hs (by omega)
 exact key a.length 0 (by omega) _ 0 (by simp) (by omega) (by omega) (by simp [Ok]) (by simp [V])
theorem plus_ev (a b : List Int) (ha : Ok a) (hb : Ok b) (la : a.length ≤ 900000) (lb : b.length ≤ 900000) : Ev (fun k => nat_plus.f k a b) (limbs (V a + V b)) := by
 unfold nat_plus.f
 by_cases h : a.length < b.length
 · rw [Nat.add_comm]
   exact Ev.pos h (plusL_ev b a hb ha (by omega) lb)
 · exact Ev.neg h (plusL_ev a b ha hb (by omega) la)
theorem short_ev (a : List Int) (by_ : Int) (ha : Ok a) (h0 : 0 < by_) (h1 : by_ < 4294967296) (la : a.length ≤ 1000000) : Ev (fun k => nat_short.f k a by_) (limbs (V a / by_.toNat), ((V a % by_.toNat : Nat) : Int)) := by
 unfold nat_short.f
 refine Ev.pos (by omega) (Ev.pos (by omega) ?_)
 rw [Int.toNat_natCast, w64 (by omega) (by omega)]
 have key : ∀ (m : Nat), m ≤ a.length → ∀ (o : List Int) (r : Int), o.length = a.length → 0 ≤ r → r < by_ → Ok (o.drop m) → V (a.drop m) = by_.toNat * V (o.drop m) + r.toNat → Ev (fun k => nat_short.l0 k a by_ o r ((m : Int) - 1)) (limbs (V a / by_.toNat), ((V a % by_.toNat : Nat) : Int)) := by
  intro m
  induction m with
  | zero =>
   intro hm o r ho r0 r1 hok hs
   refine Ev.succ ?_
   simp only [nat_short.l0]
   rw [List.drop_zero, List.drop_zero] at hs
   rw [List.drop_zero] at hok
   have ht := trim_ev o hok (by omega)
   have e1 : V a / by_.toNat = V o := by rw [hs, Nat.mul_add_div (by omega), Nat.div_eq_of_lt (by omega), Nat.add_zero]
   have e2 : V a % by_.toNat = r.toNat := by rw [hs, Nat.mul_add_mod, Nat.mod_eq_of_lt (by omega)]
   rw [e1, e2]
   refine Ev.neg (by omega) (Ev.bind ht (Ev.some_ _ ?_))
   rw [Int.toNat_of_nonneg r0]
  | succ m ih =>
   intro hm o r ho r0 r1 hok hs
   refine Ev.succ ?_
   simp only [nat_short.l0]
   have oa := ok_at ha m (by omega)
   have em : ((m + 1 : Nat) : Int) - 1 = (m : Int) := by omega
   rw [em, rdi a m (by omega), w64 (by omega) (by omega)]
   have hd : bits_Div32.f r a[m] by_ = some ((r * 4294967296 + a[m]) / by_, (r * 4294967296 + a[m]) % by_) := by
    unfold bits_Div32.f
    rw [if_pos ⟨r0, r1, h1, oa.1, oa.2⟩]
   obtain ⟨z, hz⟩ : ∃ z, z = r * 4294967296 + a[m] := ⟨_, rfl⟩
   rw [← hz] at hd
   have z0 : 0 ≤ z := by omega
   have q0 : 0 ≤ z / by_ := Int.ediv_nonneg z0 (by omega)
   have q1 : z / by_ < 4294967296 := Int.ediv_lt_of_lt_mul h0 (by rw [Int.mul_comm]; omega)
   have m0 : 0 ≤ z % by_ := Int.emod_nonneg _ (by omega)
   have m1 : z % by_ < by_ := Int.emod_lt_of_pos _ h0
   have hdm : by_ * (z / by_) + z % by_ = z := Int.mul_ediv_add_emod z by_
   generalize z / by_ = q at *
   generalize z % by_ = s at *
   refine Ev.pos (by omega) (Ev.pos (by omega) (Ev.pos (by omega) (Ev.one hd (Ev.pos (by omega) ?_))))
   rw [Int.toNat_natCast]
   have e1 : (o.set m q).drop m = q :: o.drop (m + 1) := by
    rw [List.drop_eq_getElem_cons (by simp; omega), List.getElem_set_self, List.drop_set_of_lt (by omega)]
   refine ih (by omega) (o.set m q) s (by simpa using ho) m0 m1 ?_ ?_
   · rw [e1, Ok_cons]; exact ⟨⟨q0, q1⟩, hok⟩
   · rw [e1, V, V_drop_cons a m (by omega), hs]
     obtain ⟨B, rfl⟩ := Int.eq_ofNat_of_zero_le (Int.le_of_lt h0)
     obtain ⟨q, rfl⟩ := Int.eq_ofNat_of_zero_le q0
     obtain ⟨s, rfl⟩ := Int.eq_ofNat_of_zero_le m0
     obtain ⟨r, rfl⟩ := Int.eq_ofNat_of_zero_le r0
     simp only [Int.toNat_natCast]
     have hdm' : ((B * q + s : Nat) : Int) = r * 4294967296 + a[m] := by rw [← hz, ← hdm]; simp
     have hn : B * q + s = r * 4294967296 + a[m].toNat := by omega
     rw [Nat.mul_add, Nat.mul_add, ← Nat.mul_assoc B 4294967296, Nat.mul_comm B 4294967296, Nat.mul_assoc]
     omega
 have h := key a.length (Nat.le_refl _) (List.replicate a.length 0) 0 (by simp) (by omega) (by omega) (by rw [List.drop_of_length_le (by simp)]; exact Ok_nil) (by rw [List.drop_of_length_le (Nat.le_refl _), List.drop_of_length_le (by simp)]; simp [V])
 exact h
theorem st_mul {P Q Z over p v o' x y T : Nat} (h1 : P + Z * over = T) (h2 : Q + Z * p = P + Z * v) (h3 : v + 4294967296 * o' = over + p + x * y) : Q + Z * 4294967296 * o' = T + Z * (x * y) := by
 have h4 := congrArg (Z * ·) h3
 simp only [Nat.mul_add] at h4
 rw [Nat.mul_assoc]
 omega
theorem times_ev (a b : List Int) (ha : Ok a) (hb : Ok b) (la : a.length ≤ 400000) (lb : b.length ≤ 400000) : Ev (fun k => nat_times.f k a b) (limbs (V a * V b)) := by
 unfold nat_times.f
 rw [w64 (by omega) (by omega)]
 refine Ev.pos (by omega) (Ev.pos (by omega) ?_)
 rw [replicate_wrap _ (a.length + b.length) (by omega)]
 have key : ∀ d i : Nat, i + d = a.length → ∀ (o : List Int), o.length = a.length + b.length → Ok (o.take (i + b.length)) → V (o.take (i + b.length)) = V (a.take i) * V b → Ev (fun k => nat_times.l0 k b o a (a.length : Int) (i : Int)) (limbs (V a * V b)) := by
  intro d
  induction d with
  | zero =>
   intro i hi o ho hok hs
   refine Ev.succ ?_
   simp only [nat_times.l0]
   obtain rfl : i = a.length := by omega
   rw [List.take_of_length_le (l := o) (i := a.length + b.length) (by omega)] at hs hok
   rw [List.take_length] at hs
   have ht := trim_ev o hok (by omega)
   rw [hs] at ht
   exact Ev.neg (by omega) (Ev.bind ht (Ev.now _))
  | succ d ih =>
   intro i hi o ho hok hs
   refine Ev.succ ?_
   simp only [nat_times.l0]
   have oa := ok_at ha i (by omega)
   rw [rdi a i (by omega)]
   refine Ev.pos (by omega) (Ev.pos (by omega) (Ev.pos (by omega) ?_))
   have inner : ∀ e j : Nat, j + e = b.length → ∀ (o : List Int) (over : Int), o.length = a.length + b.length → 0 ≤ over → over < 4294967296 → Ok (o.take (i + b.length)) →
    V (o.take (i + b.length)) + 4294967296 ^ (i + j) * over.toNat = V (a.take i) * V b + 4294967296 ^ i * (a[i].toNat * V (b.take j)) →
    Ev (fun k => nat_times.l1 k b o (i : Int) a[i] over a (a.length : Int) (i : Int) b (b.length : Int) (j : Int)) (limbs (V a * V b)) := by
    intro e
    induction e with
    | zero =>
     intro j hj o over ho c0 c1 hok hs
     refine Ev.succ ?_
     simp only [nat_times.l1]
     obtain rfl : j = b.length := by omega
     rw [w64 (x := (i : Int) + (b.length : Int)) (by omega) (by omega), w64 (x := (i : Int) + 1) (by omega) (by omega)]
     refine Ev.neg (by omega) (Ev.pos (by omega) (Ev.pos (by omega) ?_))
     rw [List.take_length] at hs
     have e1 : ((i : Int) + (b.length : Int)).toNat = i + b.length := by omega
     have e2 : over % 4294967296 = over := by omega
     rw [e1, e2]
     have h1 := V_fill o (i + b.length) (by omega) over
     have h2 := Ok_fill o (i + b.length) (by omega) hok c0 c1
     refine ih (i + 1) (by omega) _ (by simpa using ho) (by rw [show i + 1 + b.length = i + b.length + 1 by omega]; exact h2) ?_
     rw [show i + 1 + b.length = i + b.length + 1 by omega, h1, hs, V_take_succ a i (by omega), Nat.add_mul, Nat.mul_assoc]
    | succ e ih2 =>
     intro j hj o over ho c0 c1 hok hs
     refine Ev.succ ?_
     simp only [nat_times.l1]
     have ob := ok_at hb j (by omega)
     have hp : i + j < (o.take (i + b.length)).length := by rw [List.length_take]; omega
     have op := ok_at hok (i + j) hp
     rw [List.getElem_take] at op
     rw [w64 (x := (i : Int) + (j : Int)) (by omega) (by omega), w64 (x := (j : Int) + 1) (by omega) (by omega), show (i : Int) + (j : Int) = ((i + j : Nat) : Int) by omega, rdi b j (by omega), rdi o (i + j) (by omega)]
     have hm0 : 0 ≤ a[i] * b[j] := Int.mul_nonneg oa.1 ob.1
     have hm1 : a[i] * b[j] ≤ 4294967295 * 4294967295 := Int.mul_le_mul (by omega) (by omega) ob.1 (by omega)
     rw [u64w (x := a[i]) (by omega) (by omega), u64w (x := b[j]) (by omega) (by omega), u64w (x := o[i + j]) (by omega) (by omega), u64w (x := a[i] * b[j]) (by omega) (by omega), u64w (x := o[i + j] + a[i] * b[j]) (by omega) (by omega), u64w (x := over + (o[i + j] + a[i] * b[j])) (by omega) (by omega)]
     refine Ev.pos (by omega) (Ev.pos (by omega) (Ev.pos (by omega) (Ev.pos (by omega) (Ev.pos (by omega) ?_))))
     rw [Int.toNat_natCast]
     have hst := V_set (o.take (i + b.length)) (i + j) hp ((over + (o[i + j] + a[i] * b[j])) % 4294967296)
     have hok2 := Ok_set hok (i + j) (v := (over + (o[i + j] + a[i] * b[j])) % 4294967296) (by omega) (by omega)
     rw [← List.take_set] at hst hok2
     rw [List.getElem_take] at hst
     refine ih2 (j + 1) (by omega) _ _ (by simpa using ho) (by omega) (by omega) hok2 ?_
     rw [V_take_succ b j (by omega), Nat.mul_add, Nat.mul_add, ← Nat.add_assoc]
     have hr : 4294967296 ^ i * (a[i].toNat * (4294967296 ^ j * b[j].toNat)) = 4294967296 ^ (i + j) * (a[i].toNat * b[j].toNat) := by
      rw [Nat.pow_add, Nat.mul_left_comm a[i].toNat, Nat.mul_assoc]
     rw [hr, Nat.pow_succ, ← Nat.add_assoc]
     have hmn : (a[i] * b[j]).toNat = a[i].toNat * b[j].toNat := Int.toNat_mul oa.1 ob.1
     refine st_mul hs hst ?_
     rw [← hmn]
     omega
   exact inner b.length 0 (by omega) o 0 ho (by omega) (by omega) hok (by rw [hs]; simp [V])
 exact key a.length 0 (by omega) _ (by simp) (Ok_take (Ok_zeros _) _) (by rw [List.take_replicate, V_zeros]; simp [V])
theorem u32_wraps (n : Int) (h0 : 0 ≤ n) (h1 : n < 2 ^ 32) : IntKind.u32.wrap n = n := by rw [IntKind.wrap_u32]; omega
theorem two_pow_le (s : Nat) (h : s ≤ 32) : (2 : Int) ^ s ≤ 4294967296 ∧ 0 < (2 : Int) ^ s ∧ ((2 ^ s : Nat) : Int) = (2 : Int) ^ s := by
 have e : ((2 ^ s : Nat) : Int) = (2 : Int) ^ s := Int.natCast_pow 2 s
 have h2 : 2 ^ s ≤ 2 ^ 32 := Nat.pow_le_pow_right (n := 2) (by omega) h
 have h3 : 0 < (2 : Nat) ^ s := Nat.two_pow_pos s
 omega
theorem two_pow_lt (s : Nat) (h : s < 32) : (2 : Int) ^ s < 4294967296 := by
 have e : ((2 ^ s : Nat) : Int) = (2 : Int) ^ s := Int.natCast_pow 2 s
 have h2 : 2 ^ s < 2 ^ 32 := Nat.pow_lt_pow_right (by omega) h
 omega
theorem or_join (x y : Int) (s : Nat) (x0 : 0 ≤ x) (xs : x < 2 ^ s) (y0 : 0 ≤ y) (ys : y % 2 ^ s = 0) (hs : s ≤ 32) (y1 : y < 4294967296) : Go.bits .or .u32 x y = x + y := by
 have h3 := two_pow_le s hs
 have h2 : x < 2 ^ 32 := by omega
 have hj := bits_join .u32 32 (by decide) u32_wraps s y x y0 ys (by omega) x0 xs h2
 obtain ⟨a, rfl⟩ := Int.eq_ofNat_of_zero_le x0
 obtain ⟨b, rfl⟩ := Int.eq_ofNat_of_zero_le y0
 have ha : a < 2 ^ 32 := by exact_mod_cast h2
 have hb : b < 2 ^ 32 := by omega
 rw [(bits_nat .u32 32 (by decide) u32_wraps b a hb ha).2] at hj
 rw [(bits_nat .u32 32 (by decide) u32_wraps a b ha hb).2, Nat.or_comm, hj, Int.add_comm]
theorem shl64 (x : Int) (s : Nat) (hs : s ≤ 32) (h0 : 0 ≤ x) (h1 : x < 4294967296) : shl .u64 (IntKind.u64.wrap x) (s : Int) = x * 2 ^ s ∧ 0 ≤ x * 2 ^ s ∧ x * 2 ^ s < 4294967296 * 2 ^ s := by
 obtain ⟨h3, h4, -⟩ := two_pow_le s hs
 have a : 0 ≤ x * 2 ^ s := Int.mul_nonneg h0 (by omega)
 have b : x * 2 ^ s < 4294967296 * 2 ^ s := Int.mul_lt_mul_of_pos_right h1 h4
 refine ⟨?_, a, b⟩
 rw [u64w h0 (by omega)]
 unfold shl
 have e : min ((s : Int)).toNat IntKind.u64.bits = s := by
  rw [Int.toNat_natCast]
  exact Nat.min_eq_left (Nat.le_trans hs (by decide))
 rw [e]
 exact u64w a (by omega)
theorem st_shift {P Z T v hi lo o x s : Nat} (h1 : P + Z * o = T * s) (h3 : v = o + lo) (h4 : lo + 4294967296 * hi = x * s) : P + Z * v + Z * 4294967296 * hi = (T + Z * x) * s := by
 subst h3
 rw [Nat.add_mul, Nat.mul_assoc Z x, ← h4, ← h1, Nat.mul_add, Nat.mul_add, Nat.mul_assoc Z]
 omega
theorem shifted_ev (a : List Int) (s : Nat) (ha : Ok a) (hs : s < 32) (la : a.length ≤ 400000) : ∃ L, Ev (fun k => nat_shifted.f k a (s : Int)) L ∧ L.length = a.length + 1 ∧ Ok L ∧ V L = V a * 2 ^ s := by
 unfold nat_shifted.f
 rw [w64 (by omega) (by omega), replicate_wrap _ (a.length + 1) (by omega)]
 have hp : 0 < (2 : Nat) ^ s := Nat.two_pow_pos s
 have key : ∀ d i : Nat, i + d = a.length → ∀ (o : List Int), o.length = a.length + 1 → ∀ (hl : i < o.length), Ok (o.take (i + 1)) → o[i] < 2 ^ s → V (o.take (i + 1)) = V (a.take i) * 2 ^ s →
  ∃ L, Ev (fun k => nat_shifted.l0 k (s : Int) o a (a.length : Int) (i : Int)) L ∧ L.length = a.length + 1 ∧ Ok L ∧ V L = V a * 2 ^ s := by
  intro d
  induction d with
  | zero =>
   intro i hi o ho hl hok hx hv
   obtain rfl : i = a.length := by omega
   rw [List.take_length, List.take_of_length_le (l := o) (by omega)] at hv
   rw [List.take_of_length_le (l := o) (by omega)] at hok
   refine ⟨o, ?_, ho, hok, hv⟩
   refine Ev.succ ?_
   simp only [nat_shifted.l0]
   exact Ev.neg (by omega) (Ev.now _)
  | succ d ih =>
   intro i hi o ho hl hok hx hv
   have oa := ok_at ha i (by omega)
   have oo := ok_at hok i (by rw [List.length_take]; omega)
   rw [List.getElem_take] at oo
   obtain ⟨e1, y0, y1⟩ := shl64 a[i] s (by omega) oa.1 oa.2
   have hdiv : (4294967296 : Int) = 2 ^ s * ((2 ^ (32 - s) : Nat) : Int) := by
    have : (4294967296 : Nat) = 2 ^ s * 2 ^ (32 - s) := by rw [← Nat.pow_add, show s + (32 - s) = 32 by omega]
    rw [← (two_pow_le s (by omega)).2.2, ← Int.natCast_mul, ← this]
    rfl
   have hlo : (a[i] * 2 ^ s % 4294967296) % 2 ^ s = 0 := by
    rw [Int.emod_emod_of_dvd _ ⟨_, hdiv⟩]
    exact Int.mul_emod_left _ _
   have hps : (0 : Int) < 2 ^ s := (two_pow_le s (by omega)).2.1
   have hor := or_join o[i] (a[i] * 2 ^ s % 4294967296) s oo.1 hx (by omega) hlo (by omega) (by omega)
   have hhi : a[i] * 2 ^ s / 4294967296 < 2 ^ s := Int.ediv_lt_of_lt_mul (by omega) (by rw [Int.mul_comm (2 ^ s)]; exact y1)
   have hh0 : 0 ≤ a[i] * 2 ^ s / 4294967296 := Int.ediv_nonneg y0 (by omega)
   have hs32 := two_pow_lt s hs
   have hroom : a[i] * 2 ^ s % 4294967296 + 2 ^ s ≤ 4294967296 := by
    obtain ⟨q, hq⟩ := Int.dvd_of_emod_eq_zero hlo
    have l1 : a[i] * 2 ^ s % 4294967296 < 4294967296 := by omega
    rw [hq]
    rw [hq, hdiv] at l1
    have hd2 := hdiv
    have : q < ((2 ^ (32 - s) : Nat) : Int) := Int.lt_of_mul_lt_mul_left l1 (by omega)
    have := Int.mul_le_mul_of_nonneg_left (show q + 1 ≤ ((2 ^ (32 - s) : Nat) : Int) by omega) (show (0 : Int) ≤ 2 ^ s by omega)
    rw [Int.mul_add, Int.mul_one, ← hdiv] at this
    exact this
   have hmm : a[i] * 2 ^ s / 4294967296 % 4294967296 = a[i] * 2 ^ s / 4294967296 := Int.emod_eq_of_lt hh0 (by omega)
   have hok2 : Ok (o.take i) := by
    have := Ok_take hok i
    rwa [List.take_take, Nat.min_eq_left (by omega)] at this
   have h1 := V_fill o i (by omega) (o[i] + a[i] * 2 ^ s % 4294967296)
   have h2 := Ok_fill o i (by omega) hok2 (v := o[i] + a[i] * 2 ^ s % 4294967296) (by omega) (by omega)
   have h3 := V_fill (o.set i (o[i] + a[i] * 2 ^ s % 4294967296)) (i + 1) (by rw [List.length_set]; omega) (a[i] * 2 ^ s / 4294967296)
   have h4 := Ok_fill (o.set i (o[i] + a[i] * 2 ^ s % 4294967296)) (i + 1) (by rw [List.length_set]; omega) h2 (v := a[i] * 2 ^ s / 4294967296) hh0 (by omega)
   have hn : (a[i] * 2 ^ s).toNat = a[i].toNat * 2 ^ s := by
    rw [Int.toNat_mul oa.1 (by omega), ← (two_pow_le s (by omega)).2.2, Int.toNat_natCast]
   have hv2 : V (((o.set i (o[i] + a[i] * 2 ^ s % 4294967296)).set (i + 1) (a[i] * 2 ^ s / 4294967296)).take (i + 1 + 1)) = V (a.take (i + 1)) * 2 ^ s := by
    rw [h3, h1, V_take_succ a i (by omega), Nat.pow_succ]
    rw [V_take_succ o i (by omega)] at hv
    refine st_shift (o := o[i].toNat) (lo := (a[i] * 2 ^ s % 4294967296).toNat) hv (by omega) ?_
    rw [← hn]
    omega
   obtain ⟨L, g1, g2⟩ := ih (i + 1) (by omega) ((o.set i (o[i] + a[i] * 2 ^ s % 4294967296)).set (i + 1) (a[i] * 2 ^ s / 4294967296)) (by simpa using ho) (by simp; omega) h4 (by rw [List.getElem_set_self]; exact hhi) hv2
   refine ⟨L, ?_, g2⟩
   refine Ev.succ ?_
   simp only [nat_shifted.l0]
   rw [rdi a i (by omega), rdi o i (by omega), w64 (x := (i : Int) + 1) (by omega) (by omega), e1, hor, hmm, Int.toNat_natCast, show ((i : Int) + 1) = ((i + 1 : Nat) : Int) by omega, Int.toNat_natCast]
   exact Ev.pos (by omega) (Ev.pos (by omega) (Ev.pos (by omega) (Ev.pos (by omega) (Ev.pos (by omega) (Ev.pos (by omega) (Ev.pos (by omega) g1))))))
 obtain ⟨L, g1, g2⟩ := key a.length 0 (by omega) (List.replicate (a.length + 1) 0) (by simp) (by simp) (Ok_take (Ok_zeros _) _) (by rw [List.getElem_replicate]; exact_mod_cast hp) (by rw [List.take_replicate, V_zeros]; simp [V])
 exact ⟨L, Ev.pos (by omega) (Ev.pos (by omega) g1), g2⟩
theorem lead_spec (x : Nat) (h0 : 0 < x) (h1 : x < 4294967296) : ∃ u : Nat, bits_LeadingZeros32.f (x : Int) = some (u : Int) ∧ u < 32 ∧ 2147483648 ≤ x * 2 ^ u ∧ x * 2 ^ u < 4294967296 := by
 have hb := Lib.bitLenAux_bounds 64 x (by omega) (by omega)
 have hl := Lib.bitLen_le x 32 (by omega) (by omega)
 unfold Lib.bitLen at hl
 refine ⟨32 - Lib.bitLen x, ?_, ?_, ?_, ?_⟩
 · unfold bits_LeadingZeros32.f
   rw [if_pos ⟨by omega, by omega⟩, Int.toNat_natCast]
   unfold Lib.bitLen
   congr 1
   omega
 · unfold Lib.bitLen; omega
 · unfold Lib.bitLen
   have := Nat.mul_le_mul_right (2 ^ (32 - Lib.bitLenAux 64 x)) hb.2.1
   rw [← Nat.pow_add, show Lib.bitLenAux 64 x - 1 + (32 - Lib.bitLenAux 64 x) = 31 by omega] at this
   exact this
 · unfold Lib.bitLen
   have := Nat.mul_lt_mul_of_pos_right hb.2.2 (Nat.two_pow_pos (32 - Lib.bitLenAux 64 x))
   rw [← Nat.pow_add, show Lib.bitLenAux 64 x + (32 - Lib.bitLenAux 64 x) = 32 by omega] at this
   exact this
theorem Check_eq (l : List Int) (h : Tight l) : nat_Check.f l = some (if 64 < l.length then 5 else 0) := by
 unfold nat_Check.f
 by_cases c : 64 < l.length
 · rw [if_pos (by omega), if_pos c]
 · rw [if_neg (by omega), if_neg c]
   by_cases c2 : 0 < l.length
   · rw [if_pos (by omega), w64 (by omega) (by omega), if_pos (by omega), if_pos (by omega), show (l.length : Int) - 1 = ((l.length - 1 : Nat) : Int) by omega, rdi l (l.length - 1) (by omega), if_neg]
     have := h l[l.length - 1] (by rw [List.getLast?_eq_getElem?, List.getElem?_eq_getElem (by omega)])
     exact this
   · rw [if_neg (by omega)]
abbrev Fits (n : Nat) : Prop := n < 4294967296 ^ 64
theorem Check_limbs (n : Nat) : nat_Check.f (limbs n) = some (if Fits n then 0 else 5) := by
 rw [Check_eq _ (Tight_limbs n)]
 by_cases h : Fits n
 · rw [if_pos h, if_neg]
   have := limbs_len_le h
   omega
 · rw [if_neg h, if_pos]
   by_cases c : (limbs n).length ≤ 64
   · exact absurd (lt_of_limbs_len c) h
   · omega
theorem both_limbs {m n : Nat} (hm : Fits m) (hn : Fits n) : nat_both.f (limbs m) (limbs n) = some 0 := by
 unfold nat_both.f
 rw [Check_limbs, if_pos hm, Option.bind_some, if_pos rfl, Check_limbs, if_pos hn]
 rfl
theorem len_fits {n : Nat} (h : Fits n) : (limbs n).length ≤ 64 := limbs_len_le h
open Go Go.RowKit Go.Proofs.Ytgdkgahbmfhgcaa.Limbs Go.Proofs.YtgdkgahbmfhgcaaW.PrintWords Go.Proofs.YtgdkgahbmfhgcaaW.PrintMore
theorem guess_ge (p d : List Int) (n : Nat) (hp : p.length = n + 1 + 1) (hd : d.length = n + 1) (hok : Ok p) (hdo : Ok d) (ht : 0 < d[n]) :
 V p / V d ≤ (p[n + 1].toNat * 4294967296 + p[n].toNat) / d[n].toNat := by
 have h1 := V_split p n (by omega)
 have h2 := V_drop_cons p (n + 1) (by omega)
 rw [show p.drop (n + 1 + 1) = [] from List.drop_of_length_le (by omega)] at h2
 rw [h2] at h1
 have h3 := V_split d n (by omega)
 rw [show d.drop (n + 1) = [] from List.drop_of_length_le (by omega)] at h3
 have h4 := V_lt (Ok_take hok n)
 rw [List.length_take, Nat.min_eq_left (by omega)] at h4
 have hZ : 0 < 4294967296 ^ n := Nat.pow_pos (by omega)
 have hD : 4294967296 ^ n * d[n].toNat ≤ V d := by rw [h3, V, Nat.mul_zero, Nat.add_zero]; omega
 have e : V p / 4294967296 ^ n = p[n + 1].toNat * 4294967296 + p[n].toNat := by
  rw [h1, Nat.add_mul_div_left _ _ hZ, Nat.div_eq_of_lt h4]
  simp only [V]
  omega
 rw [← e, Nat.div_div_eq_div_mul]
 exact Nat.div_le_div_left hD (Nat.mul_pos hZ (by omega))
def St (X D m : Nat) (L Q : List Int) : Prop := X = D * 4294967296 ^ m * V Q + V L ∧ V L < D * 4294967296 ^ m
theorem st_num {X D Z k VL lo P : Nat} (hD : 0 < D) (hZ : 0 < Z) (h : X = D * (Z * 4294967296) * k + VL) (hl : VL < D * (Z * 4294967296)) (e : VL = lo + Z * P) (hlo : lo < Z) :
 P / D < 4294967296 ∧ X = D * Z * (P / D + 4294967296 * k) + (lo + Z * (P % D)) ∧ lo + Z * (P % D) < D * Z := by
 have hP : P < D * 4294967296 := by
  have h1 : Z * P < Z * (D * 4294967296) := by
   have : D * (Z * 4294967296) = Z * (D * 4294967296) := Nat.mul_left_comm _ _ _
   omega
  exact Nat.lt_of_mul_lt_mul_left h1
 have hm := Nat.div_add_mod P D
 have hlt := Nat.mod_lt P hD
 refine ⟨Nat.div_lt_of_lt_mul hP, ?_, ?_⟩
 · rw [h, e]
   have h2 : Z * P = D * Z * (P / D) + Z * (P % D) := by
    conv => lhs; rw [← hm]
    rw [Nat.mul_add, ← Nat.mul_assoc, Nat.mul_comm Z D]
   have h3 : D * (Z * 4294967296) * k = D * Z * (4294967296 * k) := by simp only [Nat.mul_assoc]
   rw [h2, h3, Nat.mul_add]
   omega
 · have h4 := Nat.mul_le_mul_left Z (show P % D + 1 ≤ D by omega)
   rw [Nat.mul_add, Nat.mul_one, Nat.mul_comm Z D] at h4
   omega
theorem div_step (X D i n : Nat) (L Q new : List Int) (hD : 0 < D) (hDn : D < 4294967296 ^ n) (hok : Ok L) (hi : i + n + 1 ≤ L.length) (h : St X D (i + 1) L Q)
 (hn : new.length = n + 1) (hv : V new = V ((L.drop i).take (n + 1)) % D) :
 V ((L.drop i).take (n + 1)) / D < 4294967296 ∧ St X D i (L.take i ++ (new ++ L.drop (i + n + 1))) (((V ((L.drop i).take (n + 1)) / D : Nat) : Int) :: Q) := by
 obtain ⟨hX, hl⟩ := h
 have hZ : 0 < 4294967296 ^ i := Nat.pow_pos (by omega)
 have e1 : V L = V (L.take i) + 4294967296 ^ i * (V ((L.drop i).take (n + 1)) + 4294967296 ^ (n + 1) * V (L.drop (i + n + 1))) := by
  have a := V_append (L.take i) (L.drop i)
  rw [List.take_append_drop, List.length_take, Nat.min_eq_left (by omega)] at a
  have b := V_append ((L.drop i).take (n + 1)) ((L.drop i).drop (n + 1))
  rw [List.take_append_drop, List.length_take, List.length_drop, Nat.min_eq_left (by omega), List.drop_drop] at b
  rw [a, b, Nat.add_assoc]
 have e2 : V (L.drop (i + n + 1)) = 0 := by
  rcases Nat.eq_zero_or_pos (V (L.drop (i + n + 1))) with h | h
  · exact h
  · have h1 : D * 4294967296 ^ (i + 1) < 4294967296 ^ n * 4294967296 ^ (i + 1) := Nat.mul_lt_mul_of_pos_right hDn (Nat.pow_pos (by omega))
    have h2 : 4294967296 ^ n * 4294967296 ^ (i + 1) = 4294967296 ^ i * 4294967296 ^ (n + 1) := by rw [← Nat.pow_add, ← Nat.pow_add]; congr 1; omega
    have h3 : 4294967296 ^ i * 4294967296 ^ (n + 1) * 1 ≤ 4294967296 ^ i * 4294967296 ^ (n + 1) * V (L.drop (i + n + 1)) := Nat.mul_le_mul_left _ h
    rw [Nat.mul_add] at e1
    rw [Nat.mul_assoc, Nat.mul_assoc] at h3
    rw [Nat.mul_one] at h3
    omega
 rw [e2, Nat.mul_zero, Nat.add_zero] at e1
 have h4 := V_lt (Ok_take hok i)
 rw [List.length_take, Nat.min_eq_left (by omega)] at h4
 rw [Nat.pow_succ] at hX hl
 obtain ⟨g1, g2, g3⟩ := st_num hD hZ hX hl e1 h4
 have e3 : V (L.take i ++ (new ++ L.drop (i + n + 1))) = V (L.take i) + 4294967296 ^ i * (V ((L.drop i).take (n + 1)) % D) := by
  rw [V_append, V_append, e2, hv, List.length_take, Nat.min_eq_left (by omega)]
  simp
 refine ⟨g1, ?_, ?_⟩
 · rw [e3, V, Int.toNat_natCast]; exact g2
 · rw [e3]; exact g3
theorem div_lt (X D i n : Nat) (L Q : List Int) (hi : i + n + 1 ≤ L.length) (h : St X D (i + 1) L Q) : V ((L.drop i).take (n + 1)) / D < 4294967296 := by
 have hZ : 0 < 4294967296 ^ i := Nat.pow_pos (by omega)
 have a := V_append (L.take i) (L.drop i)
 rw [List.take_append_drop, List.length_take, Nat.min_eq_left (by omega)] at a
 have b := V_append ((L.drop i).take (n + 1)) ((L.drop i).drop (n + 1))
 rw [List.take_append_drop] at b
 have h1 : 4294967296 ^ i * V ((L.drop i).take (n + 1)) ≤ 4294967296 ^ i * V (L.drop i) := Nat.mul_le_mul_left _ (by omega)
 have h2 := h.2
 rw [Nat.pow_succ, Nat.mul_left_comm] at h2
 exact Nat.div_lt_of_lt_mul (Nat.lt_of_mul_lt_mul_left (a := 4294967296 ^ i) (by omega))
theorem toNat_ediv' {a b : Int} (ha : 0 ≤ a) (hb : 0 ≤ b) : (a / b).toNat = a.toNat / b.toNat := by
 obtain ⟨a, rfl⟩ := Int.eq_ofNat_of_zero_le ha
 obtain ⟨b, rfl⟩ := Int.eq_ofNat_of_zero_le hb
 rw [← Int.natCast_ediv, Int.toNat_natCast, Int.toNat_natCast, Int.toNat_natCast]
theorem div_start (a b u : Nat) (la n : Nat) (L : List Int) (ha : a < 4294967296 ^ la) (hb : 4294967296 ^ n * 2147483648 ≤ b * 2 ^ u) (hu : u < 32) (hn : n + 1 ≤ la) (hL : V L = a * 2 ^ u) :
 St (a * 2 ^ u) (b * 2 ^ u) (la - (n + 1) + 1) L [] := by
 refine ⟨by simp [V, hL], ?_⟩
 rw [hL]
 have h1 : 2 ^ u ≤ 2147483648 := Nat.pow_le_pow_right (n := 2) (by omega) (show u ≤ 31 by omega)
 have h2 : a * 2 ^ u < 4294967296 ^ la * 2 ^ u := Nat.mul_lt_mul_of_pos_right ha (Nat.two_pow_pos u)
 have h3 : 4294967296 ^ la * 2 ^ u ≤ 4294967296 ^ la * 2147483648 := Nat.mul_le_mul_left _ h1
 have h4 : 4294967296 ^ n * 2147483648 * 4294967296 ^ (la - (n + 1) + 1) ≤ b * 2 ^ u * 4294967296 ^ (la - (n + 1) + 1) := Nat.mul_le_mul_right _ hb
 have h5 : 4294967296 ^ n * 2147483648 * 4294967296 ^ (la - (n + 1) + 1) = 4294967296 ^ la * 2147483648 := by
  rw [Nat.mul_right_comm, ← Nat.pow_add]
  congr 2
  omega
 omega
theorem div_end (a b u : Nat) (L Q : List Int) (h : St (a * 2 ^ u) (b * 2 ^ u) 0 L Q) : V Q = a / b ∧ V L = a % b * 2 ^ u := by
 obtain ⟨h1, h2⟩ := h
 rw [Nat.pow_zero, Nat.mul_one] at h1 h2
 have hu := Nat.two_pow_pos u
 have hb : 0 < b * 2 ^ u := by omega
 have e1 : a * 2 ^ u / (b * 2 ^ u) = V Q := by rw [h1, Nat.mul_add_div hb, Nat.div_eq_of_lt h2, Nat.add_zero]
 have e2 : a * 2 ^ u % (b * 2 ^ u) = V L := by rw [h1, Nat.mul_add_mod, Nat.mod_eq_of_lt h2]
 rw [Nat.mul_div_mul_right _ _ hu] at e1
 rw [Nat.mul_mod_mul_right] at e2
 exact ⟨e1.symm, e2.symm⟩
theorem rest_digit (L : List Int) (hok : Ok L) (r u i : Nat) (hu : u < 32) (hL : V L = r * 2 ^ u) (hi : i + 1 < L.length) :
 ((L[i + 1].toNat * 4294967296 + L[i].toNat) / 2 ^ u) % 4294967296 = (r / 4294967296 ^ i) % 4294967296 := by
 have h1 := V_split L i (by omega)
 have h2 := V_drop_cons L (i + 1) hi
 have hlo := V_lt (Ok_take hok i)
 rw [List.length_take, Nat.min_eq_left (by omega)] at hlo
 have hZ : 0 < 4294967296 ^ i := Nat.pow_pos (by omega)
 have e1 : r * 2 ^ u / 4294967296 ^ i = L[i].toNat + 4294967296 * (L[i + 1].toNat + 4294967296 * V (L.drop (i + 1 + 1))) := by
  rw [← hL, h1, h2, Nat.add_mul_div_left _ _ hZ, Nat.div_eq_of_lt hlo, Nat.zero_add]
 have hu2 := Nat.two_pow_pos u
 have e2 : r / 4294967296 ^ i = (r * 2 ^ u / 4294967296 ^ i) / 2 ^ u := by
  rw [Nat.div_div_eq_div_mul, Nat.mul_comm (4294967296 ^ i), Nat.mul_comm r, Nat.mul_div_mul_left _ _ hu2]
 rw [e2, e1]
 have e3 : L[i].toNat + 4294967296 * (L[i + 1].toNat + 4294967296 * V (L.drop (i + 1 + 1))) = 2 ^ u * (2 ^ (32 - u) * 4294967296 * V (L.drop (i + 1 + 1))) + (L[i + 1].toNat * 4294967296 + L[i].toNat) := by
  have : 2 ^ u * (2 ^ (32 - u) * 4294967296 * V (L.drop (i + 1 + 1))) = 4294967296 * (4294967296 * V (L.drop (i + 1 + 1))) := by
   rw [← Nat.mul_assoc, ← Nat.mul_assoc, ← Nat.pow_add, show u + (32 - u) = 32 by omega, Nat.mul_assoc]
  rw [this]
  omega
 rw [e3, Nat.mul_add_div hu2, Nat.mul_right_comm, Nat.mul_add_mod_self_right]
theorem rest_step (r i : Nat) : r % 4294967296 ^ i + 4294967296 ^ i * (r / 4294967296 ^ i % 4294967296) = r % 4294967296 ^ (i + 1) := (Nat.mod_pow_succ).symm
theorem compare_limbs {m n : Nat} (hm : Fits m) (hn : Fits n) : Ev (fun k => PN.nat_compare.f k (limbs m) (limbs n)) (if m < n then -1 else if m = n then 0 else 1) := by
 have a := len_fits hm; have b := len_fits hn
 have := compare_ev (limbs m) (limbs n) (Ok_limbs m) (Tight_limbs m) (Ok_limbs n) (Tight_limbs n) (by omega) (by omega)
 rwa [V_limbs, V_limbs] at this
theorem norm_len (n u : Nat) (hu : u < 32) (h0 : 0 < n) (ht : ∀ t, (limbs n)[(limbs n).length - 1]? = some t → 2147483648 ≤ t.toNat * 2 ^ u ∧ t.toNat * 2 ^ u < 4294967296) :
 (limbs (n * 2 ^ u)).length = (limbs n).length ∧ 4294967296 ^ ((limbs n).length - 1) * 2147483648 ≤ n * 2 ^ u ∧ n * 2 ^ u < 4294967296 ^ (limbs n).length ∧
  ∀ (h : (limbs n).length - 1 < (limbs (n * 2 ^ u)).length), 0 < (limbs (n * 2 ^ u))[(limbs n).length - 1] := by
 have hl : 0 < (limbs n).length := by
  rcases Nat.eq_zero_or_pos (limbs n).length with h | h
  · exact absurd (List.eq_nil_of_length_eq_zero h) (limbs_ne h0)
  · exact h
 obtain ⟨b, hb⟩ : ∃ b, (limbs n).length = b + 1 := ⟨(limbs n).length - 1, by omega⟩
 have hs := V_split (limbs n) b (by omega)
 rw [List.drop_of_length_le (l := limbs n) (i := b + 1) (by omega), V_limbs] at hs
 obtain ⟨t1, t2⟩ := ht ((limbs n)[b]) (by rw [show (limbs n).length - 1 = b by omega]; exact List.getElem?_eq_getElem (by omega))
 generalize (limbs n)[b].toNat = t at *
 simp only [V, Nat.mul_zero, Nat.add_zero] at hs
 have hlo := V_lt (Ok_take (Ok_limbs n) b)
 rw [List.length_take, Nat.min_eq_left (by omega)] at hlo
 generalize V ((limbs n).take b) = lo at *
 have e1 : 4294967296 ^ b * 2147483648 ≤ n * 2 ^ u := by
  have a := Nat.mul_le_mul_left (4294967296 ^ b) t1
  rw [hs, Nat.add_mul, Nat.mul_assoc]
  omega
 have e2 : n * 2 ^ u < 4294967296 ^ (b + 1) := by
  have hd : 2 ^ u * 2 ^ (32 - u) = 4294967296 := by rw [← Nat.pow_add, show u + (32 - u) = 32 by omega]
  have h3 : t < 2 ^ (32 - u) := by
   rw [← hd, Nat.mul_comm] at t2
   exact Nat.lt_of_mul_lt_mul_left t2
  have h4 : n < 4294967296 ^ b * 2 ^ (32 - u) := by
   have := Nat.mul_le_mul_left (4294967296 ^ b) (show t + 1 ≤ 2 ^ (32 - u) by omega)
   rw [Nat.mul_add, Nat.mul_one] at this
   omega
  have h5 := Nat.mul_lt_mul_of_pos_right h4 (Nat.two_pow_pos u)
  rw [Nat.mul_assoc, Nat.mul_comm (2 ^ (32 - u)), hd] at h5
  rw [Nat.pow_succ]
  exact h5
 have e3 : (limbs (n * 2 ^ u)).length = b + 1 := by
  have a := limbs_len_le e2
  rcases Nat.lt_or_ge (limbs (n * 2 ^ u)).length (b + 1) with h | h
  · have := lt_of_limbs_len (n := n * 2 ^ u) (m := b) (by omega)
    have hz : 0 < 4294967296 ^ b := Nat.pow_pos (by omega)
    omega
  · omega
 rw [hb, Nat.add_sub_cancel]
 refine ⟨e3, e1, e2, fun h => ?_⟩
 have o := ok_at (Ok_limbs (n * 2 ^ u)) b h
 have tt := Tight_limbs (n * 2 ^ u) (limbs (n * 2 ^ u))[b] (by rw [List.getLast?_eq_getElem?, e3, Nat.add_sub_cancel, List.getElem?_eq_getElem h])
 omega
end Go.Proofs.Ytgdkgahbmfhgcaa.NS
namespace Go.Proofs.Ytgdkgahbmfhgcaa.PN
open Go.RowKit Go.Proofs.Ytgdkgahbmfhgcaa.NS Go.Proofs.Ytgdkgahbmfhgcaa.Limbs Go.Proofs.YtgdkgahbmfhgcaaW.PrintWords Go.Proofs.YtgdkgahbmfhgcaaW.PrintLast Go.Proofs.YtgdkgahbmfhgcaaW.PrintMore
def least (x y : Int) : Int := if y < x then y else x
theorem min2_least (k k' : IntKind) (x y : Int) : Builtin.min2 (.int k x) (.int k' y) = pure (.int k (least x y)) := min2_int k k' x y
attribute [local go_sem] min2_least min_two
theorem V_reads {α : Type} {d : Kd α} {e base : Nat} {ok : Nat → Prop} {W : World} {v : Value} {xs : List α} (h : Kd.V d e W base ok v xs) : ∃ A c, v = .slice A xs.length c ∧ xs.length ≤ c ∧ d.C W A xs.length xs := by
 obtain ⟨A, c, hv, hl, hf⟩ := h
 exact ⟨A, c, hv, hl, Kd.F_now hf⟩
def Rd (B : Nat) (w : World) (v : Value) (l : List Int) : Prop := Kd.V (Kd.int .u32) 48 w 0 (fun k => B ≤ k) v l
theorem Rd.ofV {B b base : Nat} {w : World} {v : Value} {l : List Int} (h : Kd.V (Kd.int .u32) 48 w base (fun k => b ≤ k) v l) (hB : B ≤ b) : Rd B w v l := Kd.V_map h (fun _ hf => Kd.F_mono hf (fun k hk => Nat.le_trans hB hk))
theorem Rd.ofR {B base : Nat} {ok : Nat → Prop} {w : World} {v : Value} {l : List Int} (h : Kd.R (Kd.int .u32) 48 w base ok v l) (hB : B ≤ base) : Rd B w v l :=
 Kd.R_V (base' := 0) (Kd.R_mono (Kd.R_tight rfl h) (fun k hk => Nat.le_trans hB (Kd.R_base h k hk.symm)))
theorem Rd.lower {B B' : Nat} {w : World} {v : Value} {l : List Int} (h : Rd B w v l) (hB : B' ≤ B) : Rd B' w v l := Kd.V_mono h (fun k hk => Nat.le_trans hB hk)
theorem Rd.reads {B : Nat} {w : World} {v : Value} {l : List Int} (h : Rd B w v l) : ∃ A c, v = .slice A l.length c ∧ l.length ≤ c ∧ Kd.C (Kd.int .u32) w A l.length l := V_reads h
theorem Rd.below {B : Nat} {w w1 : World} {v : Value} {l : List Int} (h : Rd B w v l) (hb : Below w.heap.size w w1) : Rd B w1 v l := Kd.V_below h hb
theorem Rd.set {B : Nat} {w : World} {v : Value} {l : List Int} (h : Rd B w v l) (p : Addr) (hp : p.block < B) (u : Value) : Rd B (w.setCell p u) v l := Kd.V_far h (fun k hk e => by have : p.block < k := Nat.lt_of_lt_of_le hp hk; omega) u
theorem Rd.nil (B : Nat) (w : World) : Rd B w (.slice none 0 0) [] := Kd.V_nil _ _ _ _ _
def Row (w : World) (g : Nat) (L : List Int) (X : List Value) : Prop := w.heap[g]? = some (.cells (L.map (Value.int .u32) ++ X).toArray 48 (0, 0))
theorem Row.lt {w : World} {g : Nat} {L : List Int} {X : List Value} (h : Row w g L X) : g < w.heap.size := by
 rcases Nat.lt_or_ge g w.heap.size with c | c
 · exact c
 · unfold Row at h; rw [Array.getElem?_eq_none c] at h; cases h
theorem Row.below {w w1 : World} {g : Nat} {L : List Int} {X : List Value} (h : Row w g L X) (hb : Below w.heap.size w w1) : Row w1 g L X := (hb.block g h.lt).trans h
theorem Row.cell {w : World} {g : Nat} {L : List Int} {X : List Value} (h : Row w g L X) (i : Nat) (hi : i < L.length) : w.cell? ⟨g, i, none⟩ = some (.int .u32 L[i]) := by
 unfold World.cell?
 rw [show w.heap[(⟨g, i, none⟩ : Addr).block]? = _ from h]
 show (List.map (Value.int .u32) L ++ X).toArray[i]? = _
 rw [List.getElem?_toArray, List.getElem?_append_left (by simpa using hi), List.getElem?_map, List.getElem?_eq_getElem hi]
 rfl
theorem Row.unfrozen {w : World} {g : Nat} {L : List Int} {X : List Value} (h : Row w g L X) (i : Nat) : w.frozen? ⟨g, i, none⟩ = false := by
 unfold World.frozen?
 rw [show w.heap[(⟨g, i, none⟩ : Addr).block]? = _ from h]
 simp
theorem Row.C {w : World} {g : Nat} {L : List Int} {X : List Value} (h : Row w g L X) (i m : Nat) (hi : i + m ≤ L.length) (hL : L.length ≤ 1000000) : Kd.C (Kd.int .u32) w (some ⟨g, i, none⟩) ((L.drop i).take m).length ((L.drop i).take m) := by
 have hl : ((L.drop i).take m).length = m := by rw [List.length_take, List.length_drop]; omega
 refine Kd.C_of_reads (d := (0 : Int)) ⟨rfl, by omega, fun _ => ⟨_, rfl, fun j hj => ?_⟩⟩
 rw [hl] at hj
 have := h.cell (i + j) (by omega)
 rw [show (⟨g, i, none⟩ : Addr).add j = ⟨g, i + j, none⟩ by simp [Addr.add], this, List.getD_eq_getElem?_getD, List.getElem?_take_of_lt hj, List.getElem?_drop, List.getElem?_eq_getElem (by omega)]
 rfl
theorem Row.set {w : World} {g : Nat} {L : List Int} {X : List Value} (h : Row w g L X) (i : Nat) (hi : i < L.length) (v : Int) : Row (w.setCell ⟨g, i, none⟩ (.int .u32 v)) g (L.set i v) X := by
 unfold Row at h ⊢
 show (w.heap.modify g _)[g]? = _
 rw [Array.getElem?_modify, if_pos rfl, h]
 simp [List.map_set, List.set_append_left, hi]
theorem Row.of_R {w : World} {base : Nat} {ok : Nat → Prop} {v : Value} {L : List Int} (h : Kd.R (Kd.int .u32) 48 w base ok v L) (hp : 0 < L.length) :
 ∃ g cap X, v = .slice (some ⟨g, 0, none⟩) L.length cap ∧ base ≤ g ∧ L.length ≤ cap ∧ Row w g L X := by
 have ho := Kd.own_of_R (enc := Value.int .u32) (h1 := fun _ => rfl) h
 obtain ⟨hl, ⟨rfl, h0⟩ | ⟨g, cap, cur, hv, hb, hg, hn, hm, hs, hc⟩⟩ := ho
 · omega
 · refine ⟨g, cap, cur.toList.drop (L.length * 1), hv, hb, hn, ?_⟩
   unfold Row
   have e : L.map (Value.int .u32) = cur.toList.take (L.length * 1) := hc.symm
   rw [hg, e, List.take_append_drop]
theorem Row.of_R' {w : World} {base : Nat} {ok : Nat → Prop} {v : Value} {L : List Int} (h : Kd.R (Kd.int .u32) 48 w base ok v L) (hp : 0 < L.length) :
 ∃ g cap X, v = .slice (some ⟨g, 0, none⟩) L.length cap ∧ base ≤ g ∧ (L.length ≤ cap ∧ L.length + X.length = cap ∧ cap ≤ maxLen) ∧ Row w g L X := by
 have ho := Kd.own_of_R (enc := Value.int .u32) (h1 := fun _ => rfl) h
 obtain ⟨hl, ⟨rfl, h0⟩ | ⟨g, cap, cur, hv, hb, hg, hn, hm, hs, hc⟩⟩ := ho
 · omega
 · refine ⟨g, cap, cur.toList.drop (L.length * 1), hv, hb, ⟨hn, ?_, hm⟩, ?_⟩
   · have hs' : cur.toList.length = cap := by simpa using hs
     rw [List.length_drop, hs']; omega
   · unfold Row
     have e : L.map (Value.int .u32) = cur.toList.take (L.length * 1) := hc.symm
     rw [hg, e, List.take_append_drop]
theorem Row.to_R {w : World} {base g cap : Nat} {L : List Int} {X : List Value} (h : Row w g L X) (h1 : L.length + X.length = cap) (h2 : cap ≤ maxLen) (hb : base ≤ g) : Kd.R (Kd.int .u32) 48 w base (fun k => k = g) (.slice (some ⟨g, 0, none⟩) L.length cap) L := by
 refine Kd.R_of_own (enc := Value.int .u32) (h1 := fun _ => rfl) ⟨by simp [encs], Or.inr ⟨g, cap, _, rfl, hb, h, by omega, h2, by simp; omega, ?_⟩⟩ (fun k hk => ?_)
 · simp [encs]
 · simp only [Value.ownBlock, Option.some.injEq] at hk; exact hk.symm
def Other (g : Nat) (w w' : World) : Prop := w'.os = w.os ∧ w'.tape = w.tape ∧ w'.output = w.output ∧ w'.heap.size = w.heap.size ∧ ∀ k, k ≠ g → w'.heap[k]? = w.heap[k]?
theorem Other.below {g B : Nat} {w0 w w1 : World} (h : Other g w w1) (hb : Below B w0 w) (hB : B ≤ g) : Below B w0 w1 :=
 ⟨h.1.trans hb.os, h.2.1.trans hb.tape, h.2.2.1.trans hb.output, by rw [h.2.2.2.1]; exact hb.size, fun k hk => (h.2.2.2.2 k (by omega)).trans (hb.block k hk)⟩
theorem Other.keep {g : Nat} {w w1 : World} (h : Other g w w1) : KeepBut w w1 g none := ⟨Nat.le_of_eq h.2.2.2.1.symm, fun i _ hg _ => h.2.2.2.2 i hg⟩
theorem Other.row {g g1 : Nat} {w w1 : World} {L : List Int} {X : List Value} (h : Other g w w1) (hne : g1 ≠ g) (hr : Row w g1 L X) : Row w1 g1 L X := (h.2.2.2.2 g1 hne).trans hr
theorem Other.set (w : World) (g i : Nat) (v : Value) : Other g w (w.setCell ⟨g, i, none⟩ v) := by
 refine ⟨rfl, rfl, rfl, by simp [World.setCell], fun k hk => ?_⟩
 show (w.heap.modify g _)[k]? = _
 rw [Array.getElem?_modify, if_neg (fun e => hk e.symm)]
theorem copy_row {P : Program} {w : World} {ops : Array Oper} {rest : List Oper} {o : Oper} {a : Act} {Q : Exit → Act → World → Prop} (hgd : o.guard = none) (d s : Operand) (T : TypeId)
 (ho : o.op = .call { callee := .builtin .copy, args := #[d, s], argTypes := #[T, T] }) (hu : P.underlying T = some (.slice 48)) (hsz : (P.info? 48).map (·.size) = some 1)
 (g off n cap : Nat) (L N : List Int) (X : List Value) (A : Option Addr) (cN : Nat) (hL : Row w g L X) (hN : Kd.C (Kd.int .u32) w A N.length N) (hd : a.eval d = .slice (some ⟨g, off, none⟩) n cap) (hs : a.eval s = .slice A N.length cN)
 (hn : N.length ≤ n) (hfit : off + N.length ≤ L.length)
 (h : ∀ w1, Row w1 g (L.take off ++ (N ++ L.drop (off + N.length))) X → Other g w w1 → wpList P ops Q rest (a.put o.dst (goInt N.length)) w1) : wpList P ops Q (o :: rest) a w := by
 rcases Nat.eq_zero_or_pos N.length with h0 | h0
 · refine wpList_copy_nothing hgd d s T T ho 48 hu hsz _ _ _ _ _ _ hd hs (by rw [h0]; exact Nat.zero_min _) ?_
   have hN0 : N = [] := List.eq_nil_of_length_eq_zero h0
   subst hN0
   exact h w (by simpa using hL) ⟨rfl, rfl, rfl, rfl, fun _ _ => rfl⟩
 · obtain ⟨_, _, hc0⟩ := Kd.reads_of_C (enc := Value.int .u32) (d := (0 : Int)) (h1 := fun _ => rfl) hN
   obtain ⟨ad, rfl, hc⟩ := hc0 h0
   clear hc0
   have hl : (N.map (Value.int .u32)).length = N.length := by simp
   refine wpList_copy_own hgd d s T T ho 48 hu hsz g off n cap ad N.length cN hd hs _ 48 hL (N.map (Value.int .u32)) (by rw [hl]; exact (Nat.min_eq_left hn).symm) (fun j v hj => ?_) (by simp; omega) (fun v hv => ?_) ?_
   · rw [List.getElem?_map] at hj
     obtain ⟨y, hy, rfl⟩ := Option.map_eq_some_iff.mp hj
     obtain ⟨hlt, hy⟩ := List.getElem?_eq_some_iff.mp hy
     rw [hc j hlt, List.getD_eq_getElem?_getD, List.getElem?_eq_getElem hlt, hy]
     rfl
   · obtain ⟨y, _, rfl⟩ := List.mem_map.mp hv
     rfl
   · rw [hl]
     refine h _ ?_ ⟨rfl, rfl, rfl, by simp [World.setRow], fun k hk => setRow_other w g k _ (fun e => hk e)⟩
     unfold Row
     rw [setRow_heap w g _ _ 48 _ hL]
     congr 3
     simp only [List.map_append, List.map_take, List.map_drop]
     rw [List.take_append_of_le_length (by simp; omega), List.drop_append_of_le_length (by simp; omega)]
     simp
theorem splice2 (L N : List Int) (q k : Nat) (hk : q + k ≤ L.length) (hN : N.length ≤ k) :
 (L.take q ++ (List.replicate k 0 ++ L.drop (q + k))).take q ++ (N ++ (L.take q ++ (List.replicate k 0 ++ L.drop (q + k))).drop (q + N.length)) = L.take q ++ ((N ++ List.replicate (k - N.length) 0) ++ L.drop (q + k)) := by
 have hl : (L.take q).length = q := by rw [List.length_take]; omega
 have e1 : (L.take q ++ (List.replicate k 0 ++ L.drop (q + k))).take q = L.take q := List.take_left' hl
 have e2 : (L.take q ++ (List.replicate k 0 ++ L.drop (q + k))).drop (q + N.length) = List.replicate (k - N.length) 0 ++ L.drop (q + k) := by
  rw [← List.drop_drop, List.drop_left' hl, List.drop_append_of_le_length (by simpa using hN), List.drop_replicate]
 rw [e1, e2, List.append_assoc]
theorem set_mid (q : Nat) (Q : List Int) (v : Int) : (List.replicate (q + 1) 0 ++ Q).set q v = List.replicate q 0 ++ v :: Q := by
 rw [List.replicate_succ', List.append_assoc, List.set_append_right _ _ (by simp)]
 simp
theorem Row.other {w : World} {g : Nat} {L : List Int} {X : List Value} (h : Row w g L X) (p : Addr) (hp : p.block ≠ g) (v : Value) : Row (w.setCell p v) g L X := by
 unfold Row at h ⊢
 show (w.heap.modify p.block _)[g]? = _
 rw [Array.getElem?_modify, if_neg hp, h]
theorem divide_calls (m n : Nat) (hn0 : 0 < n) (hm : Fits m) (hn : Fits n) (A0 : Option Addr) (c0 : Nat) (A1 : Option Addr) (c1 : Nat) (w : World)
 (hra : Kd.C (Kd.int .u32) w A0 (limbs m).length (limbs m)) (hca : (limbs m).length ≤ c0) (hrb : Kd.C (Kd.int .u32) w A1 (limbs n).length (limbs n)) (hcb : (limbs n).length ≤ c1) :
 Calls Try.prog 51 #[.slice A0 (limbs m).length c0, .slice A1 (limbs n).length c1] w fun e w' => ∃ v1 v2, e = .returned (.tuple #[v1, v2]) ∧ Rd w.heap.size w' v1 (limbs (m / n)) ∧ Rd w.heap.size w' v2 (limbs (m % n)) ∧ Below w.heap.size w w' := by
 have hfa := len_fits hm
 have hfb := len_fits hn
 obtain ⟨kc, hkc⟩ := (compare_limbs hm hn).rounds
 obtain ⟨c, hc⟩ : ∃ c : Int, c = (if m < n then -1 else if m = n then 0 else 1) := ⟨_, rfl⟩
 rw [← hc] at hkc
 have Hc := a0_ hkc
 clear hkc
 have hlb : 0 < (limbs n).length := by
  rcases Nat.eq_zero_or_pos (limbs n).length with h | h
  · exact absurd (List.eq_nil_of_length_eq_zero h) (limbs_ne hn0)
  · exact h
 have R_a := a0_ hra
 have C_a := a0_ hca
 clear hra hca
 have B_a := a0_ (Below.refl w.heap.size w)
 have R_b := a0_ hrb
 have C_b := a0_ hcb
 clear hrb hcb
 have B_b := a0_ (Below.refl w.heap.size w)
 have HB := a0_ (Below.refl w.heap.size w)
 by_cases hlt : m < n
 · have hcd : decide (c < 0) = true := by rw [hc, if_pos hlt]; decide
   obtain ⟨kl, hkl⟩ : ∃ r, slices_Clone_uint32_uint32.f (limbs m) = some r := ⟨limbs m, by unfold slices_Clone_uint32_uint32.f; rw [if_pos (by omega)]⟩
   have e9 : kl = limbs m := by unfold slices_Clone_uint32_uint32.f at hkl; rw [if_pos (by omega)] at hkl; exact (Option.some.inj hkl).symm
   rw [e9] at hkl
   clear e9
   have Hl := a0_ hkl
   clear hkl
   have e1 : m / n = 0 := Nat.div_eq_of_lt hlt
   have e2 : m % n = m := Nat.mod_eq_of_lt hlt
   rw [e1, e2, limbs_zero]
   clear e1 e2 hc hlt
   go_enter Try.func51, Try.ntmps51
   go_wp2_with fail
   go_step3
   go_wp2_with fail
   with_reducible refine (nat_compare.calls kc _ _ (limbs m) _ _ (limbs n) _ _ (Kd.C_below R_a.out B_a.out) C_a.out (Kd.C_below R_b.out B_b.out) C_b.out Hc.out).mono ?_
   rintro e w101 ⟨rfl, hb⟩
   replace B_a := bl_b B_a hb
   replace B_b := bl_b B_b hb
   replace HB := bl_b HB hb
   clear hb
   go_wp2_with fail
   with_reducible refine (slices_Clone_uint32_uint32.calls _ _ (limbs m) _ _ (Kd.C_below R_a.out B_a.out) C_a.out Hl.out).mono ?_
   rintro e w102 ⟨v, rfl, ho, hb⟩
   have D_q := a0_ (Rd.ofR ho (below_size HB.out))
   obtain ⟨A_q, c_q, rfl, hlo, hC⟩ := Kd.R_reads ho
   clear ho
   replace B_a := bl_b B_a hb
   replace B_b := bl_b B_b hb
   replace HB := bl_b HB hb
   clear hb
   have R_q := a0_ hC
   have C_q := a0_ hlo
   clear hC hlo
   have B_q := a0_ (Below.refl w102.heap.size w102)
   go_wp2_with fail
   simp only [Exit.noGoto]
   go_ret2
   exact ⟨_, _, rfl, Rd.nil _ _, Rd.below D_q.out B_q.out, HB.out⟩
 · have hcd : decide (c < 0) = false := by rw [hc, if_neg hlt]; split <;> decide
   clear hc
   by_cases h1 : (limbs n).length = 1
   · have hl1 : ((limbs n).length == 1) = true := by rw [h1]; rfl
     obtain ⟨x, hx⟩ : ∃ x, limbs n = [x] := List.length_eq_one_iff.mp h1
     have hxo := Ok_limbs n
     have hxv := V_limbs n
     rw [hx] at hxo hxv
     have hx0 := hxo x (List.mem_singleton.2 rfl)
     simp only [V, Nat.mul_zero, Nat.add_zero] at hxv
     have hxn : x = (n : Int) := by omega
     have hn32 : n < 4294967296 := by omega
     obtain ⟨ks, hks⟩ := (short_ev (limbs m) x (Ok_limbs m) (by omega) (by omega) (by omega)).rounds
     rw [V_limbs, show x.toNat = n by omega] at hks
     obtain ⟨r2, hr2⟩ : ∃ r2 : Int, r2 = ((m % n : Nat) : Int) := ⟨_, rfl⟩
     rw [← hr2] at hks
     have hrl : m % n < n := Nat.mod_lt _ hn0
     have hr64 : r2 % 18446744073709551616 = r2 := by omega
     have hr64' : IntKind.u64.wrap r2 = r2 := by rw [u64w] <;> omega
     obtain ⟨ko, hko⟩ := (Of_ev (m % n) (by omega)).rounds
     rw [← hr2] at hko
     have Hs := a0_ hks
     have Ho := a0_ hko
     clear hks hko hxv hx0 hrl hr2
     obtain ⟨ad, rfl, hcell⟩ := Kd.at_int R_b.out 0 (by decide) (by omega)
     have hrd : rd (limbs n) 0 = x := by rw [hx]; rfl
     rw [hrd, show ad.add (Int.toNat 0) = ad from rfl] at hcell
     have Hcell := a0_ hcell
     clear hcell hrd hx hxo h1 hlt
     subst hxn
     go_enter Try.func51, Try.ntmps51
     go_wp2_with fail
     go_step3
     go_wp2_with fail
     with_reducible refine (nat_compare.calls kc _ _ (limbs m) _ _ (limbs n) _ _ (Kd.C_below R_a.out B_a.out) C_a.out (Kd.C_below R_b.out B_b.out) C_b.out Hc.out).mono ?_
     rintro e w101 ⟨rfl, hb⟩
     replace B_a := bl_b B_a hb
     replace B_b := bl_b B_b hb
     replace HB := bl_b HB hb
     clear hb
     have hcell := pw_cell_below HB.out Hcell.out
     clear Hcell
     go_wp2_with fail
     with_reducible refine (nat_short.calls ks _ _ (limbs m) (n : Int) _ _ _ (Kd.C_below R_a.out B_a.out) C_a.out Hs.out).mono ?_
     rintro e w102 ⟨v, rfl, ho, hb⟩
     have D_q := a0_ (Rd.ofV ho (below_size HB.out))
     obtain ⟨A_q, c_q, rfl, hlo, hC⟩ := V_reads ho
     clear ho
     replace B_a := bl_b B_a hb
     replace B_b := bl_b B_b hb
     replace HB := bl_b HB hb
     clear hb
     have R_q := a0_ hC
     have C_q := a0_ hlo
     clear hC hlo
     have B_q := a0_ (Below.refl w102.heap.size w102)
     clear hcell
     go_wp2_with fail
     with_reducible refine (nat_Of.calls ko _ _ _ Ho.out).mono ?_
     rintro e w103 ⟨v, rfl, ho, hb⟩
     have D_r := a0_ (Rd.ofV ho (below_size HB.out))
     obtain ⟨A_r, c_r, rfl, hlo, hC⟩ := V_reads ho
     clear ho
     replace B_a := bl_b B_a hb
     replace B_b := bl_b B_b hb
     replace B_q := bl_b B_q hb
     replace HB := bl_b HB hb
     clear hb
     have R_r := a0_ hC
     have C_r := a0_ hlo
     clear hC hlo
     have B_r := a0_ (Below.refl w103.heap.size w103)
     go_wp2_with fail
     simp only [Exit.noGoto]
     go_ret2
     exact ⟨_, _, rfl, Rd.below D_q.out B_q.out, Rd.below D_r.out B_r.out, HB.out⟩
   · have hl1 : ((limbs n).length == 1) = false := by simpa using h1
     have hlb2 : 2 ≤ (limbs n).length := by omega
     have hlm : (limbs n).length ≤ (limbs m).length := limbs_len_mono (by omega)
     have ht0 := ok_at (Ok_limbs n) ((limbs n).length - 1) (by omega)
     have htt := Tight_limbs n (limbs n)[(limbs n).length - 1] (by rw [List.getLast?_eq_getElem?, List.getElem?_eq_getElem (by omega)])
     obtain ⟨t, ht⟩ : ∃ t, t = (limbs n)[(limbs n).length - 1]'(by omega) := ⟨_, rfl⟩
     rw [← ht] at ht0 htt
     obtain ⟨t, rfl⟩ := Int.eq_ofNat_of_zero_le ht0.1
     obtain ⟨u, hu1, hu2, hu3, hu4⟩ := lead_spec t (by omega) (by omega)
     obtain ⟨hdl, hdb, hdn, hdt⟩ := norm_len n u hu2 hn0 (fun x hx => by
      rw [List.getElem?_eq_getElem (by omega), ← ht] at hx
      obtain rfl := Option.some.inj hx
      rw [Int.toNat_natCast]
      exact ⟨hu3, hu4⟩)
     obtain ⟨L0, hL0, hL1, hL2, hL3⟩ := shifted_ev (limbs m) u (Ok_limbs m) hu2 (by omega)
     obtain ⟨D0, hD0, hD1, hD2, hD3⟩ := shifted_ev (limbs n) u (Ok_limbs n) hu2 (by omega)
     rw [V_limbs] at hL3 hD3
     have hT0 := trim_ev D0 hD2 (by omega)
     rw [hD3] at hT0
     obtain ⟨kL, hL0⟩ := hL0.rounds
     obtain ⟨kD, hD0⟩ := hD0.rounds
     obtain ⟨kT, hT0⟩ := hT0.rounds
     have HL0 := a0_ hL0
     have HD0 := a0_ hD0
     have Hu := a0_ hu1
     obtain ⟨dl, hdl_⟩ : ∃ dl, dl = limbs (n * 2 ^ u) := ⟨_, rfl⟩
     rw [← hdl_] at hT0 hdl hdt
     have HT0 := a0_ hT0
     have hdV : V dl = n * 2 ^ u := by rw [hdl_, V_limbs]
     have hdO : Ok dl := by rw [hdl_]; exact Ok_limbs _
     have hdTi : Tight dl := by rw [hdl_]; exact Tight_limbs _
     clear hL0 hD0 hT0 hu1 htt
     obtain ⟨ad1, rfl, hcell⟩ := Kd.at_int R_b.out (((limbs n).length : Int) - 1) (by omega) (by omega)
     have hrd : rd (limbs n) (((limbs n).length : Int) - 1) = (t : Int) := by rw [show ((limbs n).length : Int) - 1 = (((limbs n).length - 1 : Nat) : Int) by omega, rdi _ _ (by omega), ← ht]
     rw [hrd, show (((limbs n).length : Int) - 1).toNat = (limbs n).length - 1 by omega] at hcell
     have Hcell := a0_ hcell
     have P1 := a0_ (And.intro hdl (And.intro hdb (And.intro hdn (And.intro hdt (And.intro hdV (And.intro hdO hdTi))))))
     have P2 := a0_ (And.intro hL1 (And.intro hL2 hL3))
     have P3 := a0_ (And.intro hu3 (And.intro hu4 ht0))
     have hd64 : dl.length ≤ (limbs m).length := by omega
     have hd2 : 2 ≤ dl.length := by omega
     have HLT := a0_ (And.intro hlt (And.intro h1 (And.intro hD1 (And.intro hD2 hD3))))
     clear hcell hrd hdl hdb hdn hdt hdV hdO hdTi hL1 hL2 hL3 hu3 hu4 ht0 ht hdl_ hlt h1 hD1 hD2 hD3
     go_enter Try.func51, Try.ntmps51
     go_wp2_with fail
     go_step3
     go_wp2_with fail
     with_reducible refine (nat_compare.calls kc _ _ (limbs m) _ _ (limbs n) _ _ (Kd.C_below R_a.out B_a.out) C_a.out (Kd.C_below R_b.out B_b.out) C_b.out Hc.out).mono ?_
     rintro e w101 ⟨rfl, hb⟩
     replace B_a := bl_b B_a hb
     replace B_b := bl_b B_b hb
     replace HB := bl_b HB hb
     clear hb
     have hcell := pw_cell_below HB.out Hcell.out
     clear Hcell
     go_wp2_with fail
     with_reducible refine (bits_LeadingZeros32.calls _ _ _ Hu.out).mono ?_
     rintro e w102 ⟨rfl, hb0⟩
     have hb := hb0.below
     clear hb0 hcell
     replace B_a := bl_b B_a hb
     replace B_b := bl_b B_b hb
     replace HB := bl_b HB hb
     clear hb
     go_wp2_with fail
     with_reducible refine (nat_shifted.calls kL _ _ (limbs m) _ _ _ (Kd.C_below R_a.out B_a.out) C_a.out HL0.out).mono ?_
     rintro e w103 ⟨v, rfl, ho, hb⟩
     obtain ⟨gl, cl, Xl, rfl, hgl, hcl, hrl⟩ := Row.of_R ho (by have := P2.out.1; omega)
     clear ho
     have hgl' : w.heap.size ≤ gl := Nat.le_trans (below_size HB.out) hgl
     replace B_a := bl_b B_a hb
     replace B_b := bl_b B_b hb
     replace HB := bl_b HB hb
     clear hb
     clear R_a C_a B_a
     have R_l := a0_ hrl
     have B_l := a0_ (Below.refl w103.heap.size w103)
     have G_l := a0_ hgl'
     clear hrl hgl hgl'
     go_wp2_with fail
     with_reducible refine (nat_shifted.calls kD _ _ (limbs n) _ _ _ (Kd.C_below R_b.out B_b.out) C_b.out HD0.out).mono ?_
     rintro e w104 ⟨v, rfl, ho, hb⟩
     replace B_b := bl_b B_b hb
     replace HB := bl_b HB hb
     replace B_l := bl_b B_l hb
     clear hb
     clear R_b C_b B_b
     obtain ⟨gd, cd, Xd, rfl, hgd, hcd_, hrd⟩ := Row.of_R ho (by have := HLT.out.2.2.1; omega)
     have hgd2 : gl < gd := Nat.lt_of_lt_of_le R_l.out.lt hgd
     have V_d := a0_ (Kd.R_V (base' := 0) (Kd.R_tight rfl ho))
     have G_d := a0_ hgd2
     clear hrd hgd hgd2 ho hcd_
     go_wp2_with fail
     with_reducible refine (nat_trim.calls kT _ _ _ _ _ _ V_d.out HT0.out).mono ?_
     rintro e w105 ⟨v, rfl, ho, hb⟩
     have hgl5 : gl < w104.heap.size := Nat.lt_of_lt_of_le R_l.out.lt (below_size B_l.out)
     have hok : ∀ k, (some k = (Value.slice (some ⟨gd, 0, none⟩) D0.length cd).ownBlock ∨ w104.heap.size ≤ k) → k ≠ gl := by
      intro k hk
      have hG := G_d.out
      rcases hk with h | h
      · simp only [Value.ownBlock, Option.some.injEq] at h; omega
      · omega
     have V_d2 := a0_ (Kd.V_bound (Kd.V_mono ho hok))
     obtain ⟨A_d, c_d, rfl, hlo, -⟩ := ho
     clear V_d G_d hgl5 hok
     have C_d := a0_ hlo
     clear hlo
     replace HB := bl_b HB hb
     replace B_l := bl_b B_l hb
     clear hb
     obtain ⟨lq, hlq⟩ : ∃ lq : Nat, lq = (limbs m).length - dl.length + 1 := ⟨_, rfl⟩
     have hlq' : (((limbs m).length : Int) - (dl.length : Int) + 1).toNat = lq := by omega
     have HQ := a0_ hlq'
     clear hlq'
     go_wp2_with (first | ((with_reducible refine gd_ 62 rfl ?_); refine Kd.R_make (Kd.int .u32) (w0 := w105) w105.heap.size 48 rfl (N := 62) rfl 28 _ _ rfl (((limbs m).length : Int) - (dl.length : Int) + 1) rfl rfl Try.underlying28 (.int .u32 0) 4 info48 rfl (by decide) (by omega) 0 (ok := fun _ => True) (okp := fun _ => True) rfl (fun _ hk => hk) trivial (by omega) (by omega) (Below.refl _ _) (Nat.le_refl _) ?_; intro v62 w6 ho hb hg_ hnew_; clear hg_ hnew_; rw [HQ.out] at ho; have HO := a0_ ho; have HBB := a0_ hb; clear ho hb))
     obtain ⟨gq, cq, Xq, rfl, hgq, ⟨hcq, hXq⟩, hrq⟩ := Row.of_R' HO.out (by rw [List.length_replicate]; omega)
     rw [List.length_replicate] at hXq
     have HXQ := a0_ hXq
     clear hXq
     rw [List.length_replicate] at hcq ⊢
     have hglq : gl ≠ gq := by
      have := R_l.out.lt
      have := below_size B_l.out
      omega
     have hlqb : lq ≤ 64 := by omega
     have hlq1 : 1 ≤ lq := by omega
     have hwq : w.heap.size ≤ gq := Nat.le_trans (below_size HB.out) hgq
     have R_l6 := a0_ (Row.below (Row.below R_l.out B_l.out) HBB.out)
     have R_q6 := a0_ hrq
     have V_d6 : Aside0 (Kd.V (Kd.int .u32) 48 w6 0 (fun k => k ≠ gl ∧ k ≠ gq) (.slice A_d dl.length c_d) dl) := ⟨Kd.V_mono (Kd.V_below V_d2.out HBB.out) (fun k hk => ⟨hk.1, by have := hk.2; omega⟩)⟩
     have HB6 := a0_ (below_step HB.out HBB.out)
     have W_l := a0_ G_l.out
     have W_q := a0_ hwq
     have NE := a0_ hglq
     have S0 : Aside0 (L0.length = (limbs m).length + 1 ∧ Ok L0 ∧ St (m * 2 ^ u) (n * 2 ^ u) lq L0 [] ∧ Ok ([] : List Int) ∧ lq + ([] : List Int).length = lq) := by
      refine ⟨P2.out.1, P2.out.2.1, ?_, Ok_nil, rfl⟩
      have hh := div_start m n u (limbs m).length ((limbs n).length - 1) L0 (lt_of_limbs_len (Nat.le_refl _)) P1.out.2.1 hu2 (by omega) P2.out.2.2
      rw [show (limbs m).length - ((limbs n).length - 1 + 1) + 1 = lq by have := P1.out.1; omega] at hh
      exact hh
     obtain ⟨ad2, rfl, -⟩ := Kd.at_int (Kd.V_reads' V_d6.out).2.2 0 (by decide) (by omega)
     clear R_l B_l HBB V_d2 HB hrq hgq hwq hglq HO HQ G_l Hu HL0 HD0 HT0 Hc
     go_step3
     go_wp2_with fail
     go_loopg [12] lq (fun mm v wr => ∃ (i : Int) (L Q : List Int), v = .int .i64 i ∧ i = (mm : Int) - 1 ∧ Aside0 (L.length = (limbs m).length + 1 ∧ Ok L ∧ St (m * 2 ^ u) (n * 2 ^ u) mm L Q ∧ Ok Q ∧ mm + Q.length = lq) ∧ Aside0 (Row wr gl L Xl) ∧ Aside0 (Row wr gq (List.replicate mm 0 ++ Q) Xq) ∧ Aside0 (Kd.V (Kd.int .u32) 48 wr 0 (fun k => k ≠ gl ∧ k ≠ gq) (.slice (some ad2) dl.length c_d) dl) ∧ Aside0 (Below w.heap.size w wr))
     case atStart => exact ⟨_, L0, [], rfl, by omega, S0, R_l6, ⟨by rw [List.append_nil]; exact R_q6.out⟩, V_d6, HB6⟩
     case round =>
      obtain ⟨i, L, Q, rfl, hi, S, RL, RQ, VD, HB⟩ := hrel
      have HLQ := a0_ hlq
      clear hlq
      clear S0 R_l6 R_q6 V_d6 HB6
      cases gk with
      | zero =>
       obtain rfl : i = -1 := by omega
       clear hi
       have hde := div_end m n u L Q S.out.2.2.1
       obtain ⟨zl, hzl⟩ : ∃ zl : List Int, zl = List.replicate dl.length 0 := ⟨_, rfl⟩
       have HZ : Aside0 (List.replicate ((dl.length : Int)).toNat (0 : Int) = zl) := ⟨by rw [hzl, Int.toNat_natCast]⟩
       have hzl2 : zl.length = dl.length := by rw [hzl, List.length_replicate]
       have hrl : m % n < 4294967296 ^ dl.length := by
        have h1 := V_lt (Ok_limbs n)
        rw [V_limbs] at h1
        rw [P1.out.1]
        exact Nat.lt_trans (Nat.mod_lt _ hn0) h1
       have HD := a0_ (And.intro hde (And.intro hzl (And.intro hzl2 hrl)))
       clear hde hzl hzl2 hrl
       go_wp2_with (first | ((with_reducible refine gd_ 132 rfl ?_); refine Kd.R_make (Kd.int .u32) (w0 := wr) wr.heap.size 48 rfl (N := 132) rfl 28 _ _ rfl (dl.length : Int) rfl rfl Try.underlying28 (.int .u32 0) 4 info48 rfl (by decide) (by omega) 0 (ok := fun _ => True) (okp := fun _ => True) rfl (fun _ hk => hk) trivial (by omega) (by omega) (Below.refl _ _) (Nat.le_refl _) ?_; intro v132 wz ho hbz hg_ hnew_; clear hg_ hnew_; rw [HZ.out] at ho; obtain ⟨gz, cz, Xz, rfl, hgz, hcz, hrz⟩ := Row.of_R' ho (by rw [HD.out.2.2.1]; omega); have RZ := a0_ hrz; have RLZ := a0_ (Row.below RL.out hbz); have RQZ := a0_ (Row.below RQ.out hbz); have HBZ := a0_ (below_step HB.out hbz); have GZ := a0_ hgz; have CZ := a0_ hcz; clear hgz hcz hrz ho hbz; rw [HD.out.2.2.1]))
       have HU := a0_ hu2
       have R1 : Aside0 (0 + dl.length = dl.length ∧ zl.length = dl.length ∧ Ok (zl.take 0) ∧ V (zl.take 0) = (m % n) % 4294967296 ^ 0) := ⟨by omega, HD.out.2.2.1, Ok_nil, by rw [Nat.pow_zero, Nat.mod_one]; rfl⟩
       have RQY : Aside0 (Row wz gq Q Xq) := ⟨by have h := RQZ.out; rwa [List.replicate_zero, List.nil_append] at h⟩
       have hwz : w.heap.size ≤ gz := Nat.le_trans (below_size HB.out) GZ.out
       have hglz : gl ≠ gz := by have := RL.out.lt; have := GZ.out; omega
       have hgqz : gq ≠ gz := by have := RQ.out.lt; have := GZ.out; omega
       have HW := a0_ (And.intro hwz (And.intro hglz hgqz))
       clear RQZ RL RQ VD HB hwz hglz hgqz
       go_loopg [134] dl.length (fun kg v wi => ∃ (j : Nat) (R : List Int), v = .int .i64 (j : Int) ∧ Aside0 (j + kg = dl.length ∧ R.length = dl.length ∧ Ok (R.take j) ∧ V (R.take j) = (m % n) % 4294967296 ^ j) ∧ Aside0 (Row wi gz R Xz) ∧ Aside0 (Row wi gl L Xl) ∧ Aside0 (Row wi gq Q Xq) ∧ Aside0 (Below w.heap.size w wi))
       case atStart => exact ⟨0, zl, rfl, R1, RZ, RLZ, RQY, HBZ⟩
       case round =>
        obtain ⟨j, R, rfl, RR, RZ, RL, RQ, HB⟩ := hrel
        clear R1 RLZ RQY HBZ
        by_cases hj : j < dl.length
        · have hj2 : (j : Int) < (dl.length : Int) := by omega
          have hLl : j + 1 < L.length := by have := S.out.1; have := P2.out.1; omega
          have hLl2 : j + 1 < L0.length := by have := S.out.1; have := P2.out.1; omega
          have hL65 : L0.length ≤ 65 := by have := P2.out.1; omega
          have hc1 := RL.out.cell (j + 1) hLl
          have hc2 := RL.out.cell j (by omega)
          have o1 := ok_at S.out.2.1 (j + 1) hLl
          have o2 := ok_at S.out.2.1 j (by omega)
          obtain ⟨y1, hy1⟩ : ∃ y, y = L[j + 1] := ⟨_, rfl⟩
          obtain ⟨y2, hy2⟩ : ∃ y, y = L[j]'(by omega) := ⟨_, rfl⟩
          have hdig := rest_digit L S.out.2.1 (m % n) u j HU.out HD.out.1.2 hLl
          rw [← hy1, ← hy2] at hdig
          rw [← hy1] at hc1 o1
          rw [← hy2] at hc2 o2
          clear hy1 hy2
          have hor : bits .or .u64 (y1 * 4294967296) y2 = y1 * 4294967296 + y2 := bits_join .u64 64 (by decide) (fun n h0 h1 => by simp [IntKind.wrap, IntKind.bits, IntKind.signed]; omega) 32 (y1 * 4294967296) y2 (by omega) (by omega) (by omega) o2.1 (by omega) (by omega)
          obtain ⟨z, hz⟩ : ∃ z, z = y1 * 4294967296 + y2 := ⟨_, rfl⟩
          rw [← hz] at hor
          have z0 : 0 ≤ z := by omega
          have z1 : z < 18446744073709551616 := by omega
          have hrc := Row.cell RZ.out j (by have := RR.out.2.1; omega)
          have hrf := Row.unfrozen RZ.out j
          have RX := a0_ (And.intro hz hdig)
          clear hz hdig
          have s1 : IntKind.i64.wrap ((j : Int) + 1) = (j : Int) + 1 := (i64_w _).trans (w64 (by omega) (by omega))
          have s2 : (0 : Int) ≤ (j : Int) + 1 := by omega
          have s3 : (j : Int) + 1 < (L0.length : Int) := by omega
          have s3' : (j : Int) < (L0.length : Int) := by omega
          have s4 : ((j : Int) + 1).toNat = j + 1 := by omega
          go_wp2_with fail
          go_still_tail 19, (by kernel_rfl)
          change wpList _ _ _ _ _ wr.drew
          obtain ⟨w8, hw8⟩ : ∃ w8, w8 = wr.drew := ⟨_, rfl⟩
          rw [← hw8]
          have hb8 : Below wr.heap.size wr w8 := by rw [hw8]; exact below_drew1 (Below.refl _ _)
          have hrc8 := pw_cell_below hb8 hrc
          have RZ8 := a0_ (Row.below RZ.out hb8)
          have hrf8 := Row.unfrozen RZ8.out j
          have RL8 := a0_ (Row.below RL.out hb8)
          have RQ8 := a0_ (Row.below RQ.out hb8)
          have HB8 := a0_ (below_step HB.out hb8)
          clear hw8 hb8 hrc hrf RZ RL RQ HB hc1 hc2
          go_wp2
          have hz0 : z / 2 ^ u = ((z.toNat / 2 ^ u : Nat) : Int) := by
           rw [← (two_pow_le u (by have := HU.out; omega)).2.2, Int.natCast_ediv, Int.toNat_of_nonneg z0]
          have hzd : (z / 2 ^ u % 4294967296).toNat = (m % n / 4294967296 ^ j) % 4294967296 := by
           rw [hz0, ← RX.out.2]
           have : z.toNat = y1.toNat * 4294967296 + y2.toNat := by have := RX.out.1; omega
           rw [this]
           generalize (y1.toNat * 4294967296 + y2.toNat) / 2 ^ u = s
           omega
          have hz3 : 0 ≤ z / 2 ^ u % 4294967296 ∧ z / 2 ^ u % 4294967296 < 4294967296 := by omega
          have hset := Row.set RZ8.out j (by have := RR.out.2.1; omega) (z / 2 ^ u % 4294967296)
          have hf1 := V_fill R j (by have := RR.out.2.1; omega) (z / 2 ^ u % 4294967296)
          have hf2 := Ok_fill R j (by have := RR.out.2.1; omega) RR.out.2.2.1 hz3.1 hz3.2
          rw [RR.out.2.2.2, hzd, rest_step] at hf1
          have hgk := RR.out.1
          go_roundg (gk - 1)
          case measure => omega
          case rel =>
           exact ⟨j + 1, _, rfl, ⟨by omega, by rw [List.length_set]; exact RR.out.2.1, hf2, hf1⟩, ⟨hset⟩, ⟨Other.row (Other.set _ _ _ _) HW.out.2.1 RL8.out⟩, ⟨Other.row (Other.set _ _ _ _) HW.out.2.2 RQ8.out⟩, ⟨Other.below (Other.set _ _ _ _) HB8.out HW.out.1⟩⟩
        · have hj2 : ¬ (j : Int) < (dl.length : Int) := by omega
          have hQl : lq = Q.length := by have := S.out.2.2.2.2; omega
          obtain ⟨kQ, hkQ⟩ := (trim_ev Q S.out.2.2.2.1 (by omega)).rounds
          rw [HD.out.1.1] at hkQ
          have ejd : j = dl.length := by have := RR.out.1; omega
          have hRV : V R = m % n := by
           have h := RR.out.2.2.2
           rw [ejd, ← RR.out.2.1, List.take_length, RR.out.2.1, Nat.mod_eq_of_lt HD.out.2.2.2] at h
           exact h
          have hRO : Ok R := by
           have h := RR.out.2.2.1
           rw [ejd, ← RR.out.2.1, List.take_length] at h
           exact h
          obtain ⟨kR, hkR⟩ := (trim_ev R hRO (by have := RR.out.2.1; omega)).rounds
          rw [hRV] at hkR
          have EQ := a0_ (And.intro hkQ (And.intro hkR hQl))
          clear hkQ hkR hRV hRO ejd hQl
          have VQ : Kd.V (Kd.int .u32) 48 wr wr.heap.size (fun k_ => k_ = gq) (.slice (some ⟨gq, 0, none⟩) Q.length cq) Q := Kd.R_V (base' := wr.heap.size) (Row.to_R (base := 0) RQ.out (by rw [← EQ.out.2.2]; exact HXQ.out.1) HXQ.out.2 (Nat.zero_le _))
          go_wp2_with fail
          rw [EQ.out.2.2]
          with_reducible refine (nat_trim.calls kQ _ _ _ _ _ _ VQ EQ.out.1).mono ?_
          rintro e w9 ⟨v, rfl, ho, hb⟩
          clear VQ
          have RZ9 := a0_ (Row.below RZ.out hb)
          clear RZ RL RQ
          have D_q : Aside0 (Rd w.heap.size w9 v (limbs (m / n))) := ⟨Kd.V_map ho (fun _ hf => Kd.F_mono hf (fun k hk => by
           rcases hk with h | h
           · rw [h]; exact W_q.out
           · exact Nat.le_trans (below_size HB.out) h))⟩
          obtain ⟨A_q, c_q, rfl, hlq9, hC9⟩ := V_reads ho
          have HB9 := a0_ (below_step HB.out hb)
          clear HB hb ho hC9 hlq9
          have VR : Kd.V (Kd.int .u32) 48 w9 w9.heap.size (fun k_ => k_ = gz) (.slice (some ⟨gz, 0, none⟩) R.length cz) R := Kd.R_V (base' := w9.heap.size) (Row.to_R (base := 0) RZ9.out (by rw [RR.out.2.1, ← HD.out.2.2.1]; exact CZ.out.2.1) CZ.out.2.2 (Nat.zero_le _))
          go_wp2_with fail
          rw [← RR.out.2.1]
          with_reducible refine (nat_trim.calls kR _ _ _ _ _ _ VR EQ.out.2.1).mono ?_
          rintro e w10 ⟨v, rfl, ho, hb⟩
          clear VR
          have D_q2 := a0_ (Rd.below D_q.out hb)
          have D_r : Aside0 (Rd w.heap.size w10 v (limbs (m % n))) := ⟨Kd.V_map ho (fun _ hf => Kd.F_mono hf (fun k hk => by
           rcases hk with h | h
           · rw [h]; exact HW.out.1
           · exact Nat.le_trans (below_size HB9.out) h))⟩
          obtain ⟨A_r, c_r, rfl, hlr, hCr⟩ := V_reads ho
          have HB10 := a0_ (below_step HB9.out hb)
          clear HB9 hb ho hCr hlr D_q
          go_wp2_with fail
          simp only [Exit.noGoto]
          go_ret2
          exact ⟨_, _, rfl, D_q2.out, D_r.out, HB10.out⟩
      | succ q =>
       obtain rfl : i = (q : Int) := by omega
       clear hi
       have hq1 : q + dl.length < L0.length := by have := S.out.1; have := S.out.2.2.2.2; have := HLQ.out; have := P2.out.1; omega
       have hq2 : q + dl.length < L.length := by have := S.out.1; have := P2.out.1; omega
       have hL64 : L0.length ≤ 65 := by have := P2.out.1; omega
       have hcd := Kd.at_int (Kd.V_reads' VD.out).2.2 ((dl.length : Int) - 1) (by omega) (by omega)
       rw [show (dl.length : Int) - 1 = ((dl.length - 1 : Nat) : Int) by omega, rdi dl _ (by omega), Int.toNat_natCast] at hcd
       obtain ⟨ad3, ead, hcd⟩ := hcd
       obtain rfl := Option.some.inj ead
       clear ead
       have hc1 := RL.out.cell (q + dl.length) hq2
       have hc2 := RL.out.cell (q + dl.length - 1) (by omega)
       have o1 := ok_at S.out.2.1 (q + dl.length) hq2
       have o2 := ok_at S.out.2.1 (q + dl.length - 1) (by omega)
       have o3 := ok_at P1.out.2.2.2.2.2.1 (dl.length - 1) (by omega)
       have o4 : 0 < dl[dl.length - 1]'(by omega) := by
        have h := P1.out.2.2.2.1 (by have := P1.out.1; omega)
        have e : dl[dl.length - 1]'(by omega) = dl[(limbs n).length - 1]'(by have := P1.out.1; omega) := by congr 1; have := P1.out.1; omega
        rw [e]; exact h
       obtain ⟨x1, hx1⟩ : ∃ x, x = L[q + dl.length] := ⟨_, rfl⟩
       obtain ⟨x2, hx2⟩ : ∃ x, x = L[q + dl.length - 1]'(by omega) := ⟨_, rfl⟩
       obtain ⟨dt, hdt⟩ : ∃ x, x = dl[dl.length - 1]'(by omega) := ⟨_, rfl⟩
       rw [← hx1] at hc1 o1
       rw [← hx2] at hc2 o2
       rw [← hdt] at hcd o3 o4
       have X := a0_ (And.intro hx1 (And.intro hx2 hdt))
       clear hx1 hx2 hdt
       have hor : bits .or .u64 (x1 * 4294967296) x2 = x1 * 4294967296 + x2 := bits_join .u64 64 (by decide) (fun n h0 h1 => by simp [IntKind.wrap, IntKind.bits, IntKind.signed]; omega) 32 (x1 * 4294967296) x2 (by omega) (by omega) (by omega) o2.1 (by omega) (by omega)
       obtain ⟨top, htop⟩ : ∃ z, z = x1 * 4294967296 + x2 := ⟨_, rfl⟩
       rw [← htop] at hor
       have z0 : 0 ≤ top := by omega
       have z1 : top < 18446744073709551616 := by omega
       have HT := a0_ htop
       clear htop
       have hz : ¬ dt = 0 := by omega
       have hz1 : (dt == 0) = false := by simpa using hz
       have hz2 : (dt != 0) = true := by simpa using hz
       have e1 : top.tdiv dt = top / dt := Int.tdiv_eq_ediv_of_nonneg z0
       obtain ⟨gs, hgs⟩ : ∃ z, z = top / dt := ⟨_, rfl⟩
       rw [← hgs] at e1
       have g0 : 0 ≤ gs := by rw [hgs]; exact Int.ediv_nonneg z0 (by omega)
       have g1 : gs < 18446744073709551616 := by rw [hgs]; exact Int.lt_of_le_of_lt (Int.ediv_le_self _ z0) z1
       have e3 : IntKind.u64.wrap gs = gs := u64w g0 g1
       obtain ⟨gm, hgm⟩ : ∃ z, z = least gs 4294967295 := ⟨_, rfl⟩
       have hgm' := hgm.symm
       have m0 : 0 ≤ gm := by rw [hgm]; unfold least; split <;> omega
       have m1 : gm < 4294967296 := by rw [hgm]; unfold least; split <;> omega
       obtain ⟨pl, hpl⟩ : ∃ pl, pl = (L.drop q).take (dl.length + 1) := ⟨_, rfl⟩
       have hpl2 : pl.length = dl.length + 1 := by rw [hpl, List.length_take, List.length_drop]; omega
       have hplO : Ok pl := by rw [hpl]; exact Ok_take (Ok_drop S.out.2.1 _) _
       have hstart : V pl / V dl ≤ gm.toNat := by
        obtain ⟨n2, hn2⟩ : ∃ n2, dl.length = n2 + 1 := ⟨dl.length - 1, by omega⟩
        have hgg := guess_ge pl dl n2 (by omega) hn2 hplO P1.out.2.2.2.2.2.1 (by
         have e : dl[n2]'(by omega) = dt := by rw [X.out.2.2]; congr 1; omega
         rw [e]; omega)
        have e1 : pl[n2 + 1]'(by omega) = x1 := by
         rw [X.out.1]; simp only [hpl, List.getElem_take, List.getElem_drop]; congr 1; omega
        have e2 : pl[n2]'(by omega) = x2 := by
         rw [X.out.2.1]; simp only [hpl, List.getElem_take, List.getElem_drop]; congr 1; omega
        have e3 : dl[n2]'(by omega) = dt := by rw [X.out.2.2]; congr 1; omega
        rw [e1, e2, e3] at hgg
        have e4 : top.toNat / dt.toNat = gs.toNat := by rw [hgs]; exact (toNat_ediv' z0 (by omega)).symm
        have e5 : x1.toNat * 4294967296 + x2.toNat = top.toNat := by have := HT.out; omega
        rw [e5, e4] at hgg
        have hlt := div_lt (m * 2 ^ u) (n * 2 ^ u) q dl.length L Q (by omega) S.out.2.2.1
        rw [← hpl, ← P1.out.2.2.2.2.1] at hlt
        rw [hgm]; unfold least; split <;> omega
       have HG := a0_ (And.intro hgs (And.intro hgm (And.intro hpl (And.intro hplO hstart))))
       have hsub : q + dl.length + 1 - q = pl.length := by omega
       have HP2 := a0_ hpl2
       clear hgs hgm hpl hplO hstart hpl2
       go_wp2_with fail
       go_quiet (fail)
       go_wp2_with fail
       rw [hsub]
       clear hor z0 z1 hz hz1 hz2 e1 g0 g1 e3 hgm' hcd hc1 hc2 o1 o2 o3 o4 hsub
       obtain ⟨w200, hw200⟩ : ∃ w_, w_ = wr.drewN nq := ⟨_, rfl⟩
       rw [← hw200]
       have hbb : Below wr.heap.size wr w200 := by rw [hw200]; exact pw_below_drewN (Below.refl _ _) _
       have RL2 := a0_ (Row.below RL.out hbb)
       have RQ2 := a0_ (Row.below RQ.out hbb)
       have VD2 := a0_ (Kd.V_below VD.out hbb)
       have HB2 := a0_ (below_step HB.out hbb)
       clear RL RQ VD HB hbb hw200
       have RL := RL2
       have RQ := RQ2
       have VD := VD2
       have HO := HB2
       clear RL2 RQ2 VD2 HB2
       have hCp : pl.length ≤ cl - q := by have := HP2.out; omega
       have C_p := a0_ hCp
       have hRp : Kd.C (Kd.int .u32) w200 (some ⟨gl, q, none⟩) pl.length pl := by
        rw [HG.out.2.2.1]; exact RL.out.C q (dl.length + 1) (by omega) (by have := S.out.1; omega)
       have R_p := a0_ hRp
       have R_d := a0_ (Kd.V_reads' VD.out).2.2
       clear hCp hRp
       go_loopg [14] gm.toNat (fun kg v wi => ∃ g : Int, v = .int .u64 g ∧ g = (kg : Int) ∧ Aside0 (V pl / V dl ≤ kg ∧ kg < 4294967296) ∧ Aside0 (Below w200.heap.size w200 wi))
       case atStart => exact ⟨gm, rfl, by omega, ⟨HG.out.2.2.2.2, by omega⟩, ⟨Below.refl _ _⟩⟩
       case round =>
        obtain ⟨g, rfl, rfl, HK, HB⟩ := hrel
        have hk32 := HK.out.2
        obtain ⟨kO, hkO⟩ := (Of_ev gk (by omega)).rounds
        have hfl := len_fits hm
        have hgl := limbs_len_le (show gk < 4294967296 ^ 1 by omega)
        obtain ⟨kM, hkM⟩ := (times_ev (limbs gk) dl (Ok_limbs gk) P1.out.2.2.2.2.2.1 (by omega) (by omega)).rounds
        rw [V_limbs] at hkM
        have hpo := HG.out.2.2.2.1
        have hpl2 := HP2.out
        have hT := trim_ev pl hpo (by omega)
        obtain ⟨kT2, hkT2⟩ := hT.rounds
        have hlM : (limbs (gk * V dl)).length ≤ dl.length + 1 := by
         refine limbs_len_le ?_
         have h1 := V_lt P1.out.2.2.2.2.2.1
         have h2 : gk * V dl < 4294967296 * 4294967296 ^ dl.length := Nat.mul_lt_mul'' hk32 h1
         rw [Nat.pow_succ, Nat.mul_comm (4294967296 ^ dl.length)]
         exact h2
        have hlP : (limbs (V pl)).length ≤ dl.length + 1 := by
         refine limbs_len_le ?_
         have h1 := V_lt hpo
         rw [hpl2] at h1
         exact h1
        obtain ⟨kC2, hkC2⟩ := (compare_ev (limbs (gk * V dl)) (limbs (V pl)) (Ok_limbs _) (Tight_limbs _) (Ok_limbs _) (Tight_limbs _) (by omega) (by omega)).rounds
        rw [V_limbs, V_limbs] at hkC2
        obtain ⟨c2, hc2⟩ : ∃ c2 : Int, c2 = (if gk * V dl < V pl then -1 else if gk * V dl = V pl then 0 else 1) := ⟨_, rfl⟩
        rw [← hc2] at hkC2
        have hcl : slices_Clone_uint32_uint32.f pl = some pl := by unfold slices_Clone_uint32_uint32.f; rw [if_pos (by omega)]
        have E1 := a0_ hkO
        have E2 := a0_ hkM
        have E3 := a0_ hcl
        have E4 := a0_ hkT2
        have E5 := a0_ hkC2
        have E6 := a0_ (And.intro hlM hlP)
        have E7 := a0_ hc2
        clear hkO hkM hcl hkT2 hkC2 hlM hlP hpl2 hpo hT
        have B_p := a0_ HB.out
        have B_d := a0_ HB.out
        by_cases hle : gk * V dl ≤ V pl
        · have hcd2 : decide (c2 ≤ 0) = true := by
           rw [hc2]
           by_cases h : gk * V dl < V pl
           · rw [if_pos h]; rfl
           · rw [if_neg h, if_pos (by omega)]; rfl
          clear hc2
          go_wp2_with fail
          with_reducible refine (nat_Of.calls kO _ _ _ E1.out).mono ?_
          rintro e w401 ⟨v, rfl, ho, hb⟩
          obtain ⟨A_o, c_o, rfl, hlo, hC⟩ := V_reads ho
          clear ho
          replace B_p := bl_b B_p hb
          replace B_d := bl_b B_d hb
          replace HB := bl_b HB hb
          clear hb
          have R_o := a0_ hC
          have C_o := a0_ hlo
          clear hC hlo
          have B_o := a0_ (Below.refl w401.heap.size w401)
          go_wp2_with fail
          with_reducible refine (nat_times.calls kM _ _ (limbs gk) _ _ dl _ _ (Kd.C_below R_o.out B_o.out) C_o.out (Kd.C_below R_d.out B_d.out) C_d.out E2.out).mono ?_
          rintro e w402 ⟨v, rfl, ho, hb⟩
          obtain ⟨A_m, c_m, rfl, hlo, hC⟩ := V_reads ho
          clear ho
          replace B_p := bl_b B_p hb
          replace B_d := bl_b B_d hb
          replace B_o := bl_b B_o hb
          replace HB := bl_b HB hb
          clear hb
          have R_m := a0_ hC
          have C_m := a0_ hlo
          clear hC hlo
          have B_m := a0_ (Below.refl w402.heap.size w402)
          clear R_o C_o B_o
          go_wp2_with fail
          with_reducible refine (slices_Clone_uint32_uint32.calls _ _ pl _ _ (Kd.C_below R_p.out B_p.out) C_p.out E3.out).mono ?_
          rintro e w403 ⟨v, rfl, ho, hb⟩
          obtain ⟨A_k, c_k, rfl⟩ := Kd.R_slice ho
          have V_k := a0_ (Kd.R_V (base' := 0) (Kd.R_tight rfl ho))
          clear ho
          replace B_p := bl_b B_p hb
          replace B_d := bl_b B_d hb
          replace B_m := bl_b B_m hb
          replace HB := bl_b HB hb
          clear hb
          go_wp2_with fail
          with_reducible refine (nat_trim.calls kT2 _ _ _ _ _ _ V_k.out E4.out).mono ?_
          rintro e w404 ⟨v, rfl, ho, hb⟩
          clear V_k
          obtain ⟨A_t, c_t, rfl, hlo, hC⟩ := V_reads ho
          clear ho
          replace B_p := bl_b B_p hb
          replace B_d := bl_b B_d hb
          replace B_m := bl_b B_m hb
          replace HB := bl_b HB hb
          clear hb
          have R_t := a0_ hC
          have C_t := a0_ hlo
          clear hC hlo
          have B_t := a0_ (Below.refl w404.heap.size w404)
          go_wp2_with fail
          with_reducible refine (nat_compare.calls kC2 _ _ (limbs (gk * V dl)) _ _ (limbs (V pl)) _ _ (Kd.C_below R_m.out B_m.out) C_m.out (Kd.C_below R_t.out B_t.out) C_t.out E5.out).mono ?_
          rintro e w405 ⟨rfl, hb⟩
          replace B_p := bl_b B_p hb
          replace B_d := bl_b B_d hb
          replace B_m := bl_b B_m hb
          replace B_t := bl_b B_t hb
          replace HB := bl_b HB hb
          clear hb
          clear R_t C_t B_t
          have hml : (limbs (gk * V dl)).length ≤ pl.length := by have := E6.out.1; have := HP2.out; omega
          obtain ⟨kS, hkS⟩ := (minus_ev pl (limbs (gk * V dl)) HG.out.2.2.2.1 (Ok_limbs _) hml (by rw [V_limbs]; exact hle) (by have := HP2.out; omega)).rounds
          rw [V_limbs] at hkS
          have E8 := a0_ hkS
          clear hkS hml
          have GL5 : Aside0 (gl < w405.heap.size) := ⟨Nat.lt_of_lt_of_le RL.out.lt (below_size HB.out)⟩
          go_wp2_with fail
          with_reducible refine (nat_minus.calls kS _ _ pl _ _ (limbs (gk * V dl)) _ _ (Kd.C_below R_p.out B_p.out) C_p.out (Kd.C_below R_m.out B_m.out) C_m.out E8.out).mono ?_
          rintro e w406 ⟨v, rfl, ho, hb⟩
          have VS := a0_ ho
          obtain ⟨A_s, c_s, rfl, hlo, hC⟩ := V_reads ho
          clear ho
          replace B_p := bl_b B_p hb
          replace B_d := bl_b B_d hb
          replace B_m := bl_b B_m hb
          replace HB := bl_b HB hb
          clear hb
          have R_s := a0_ hC
          have C_s := a0_ hlo
          clear hC hlo
          have B_s := a0_ (Below.refl w406.heap.size w406)
          clear R_m C_m B_m
          have hsl : (limbs (V pl - gk * V dl)).length ≤ pl.length := by
           have h1 : (limbs (V pl - gk * V dl)).length ≤ (limbs (V pl)).length := limbs_len_mono (Nat.sub_le _ _)
           have := E6.out.2; have := HP2.out; omega
          have hsl2 := hsl
          rw [HP2.out] at hsl2
          have HSL := a0_ (And.intro hsl hsl2)
          clear hsl hsl2
          obtain ⟨zl, hzl⟩ : ∃ zl : List Int, zl = List.replicate (dl.length + 1) 0 := ⟨_, rfl⟩
          have hzl2 : zl.length = dl.length + 1 := by rw [hzl, List.length_replicate]
          have HZ : Aside0 (List.replicate ((dl.length : Int) + 1).toNat (0 : Int) = zl) := ⟨by rw [hzl]; congr 1⟩
          have HZ2 := a0_ (And.intro hzl hzl2)
          clear hzl hzl2
          have RLC := a0_ (Row.below RL.out HB.out)
          have RQC := a0_ (Row.below RQ.out HB.out)
          have VDC := a0_ (Kd.V_below VD.out HB.out)
          have HBC := a0_ (below_step HO.out HB.out)
          have hqL : q + (dl.length + 1) ≤ L.length := by omega
          have HKW : IntKind.u32.wrap (gk : Int) = (gk : Int) := by rw [IntKind.wrap_u32]; omega
          have HKW2 : (gk : Int) % 4294967296 = (gk : Int) := by omega
          have hqi0 : (0 : Int) ≤ (q : Int) := by omega
          have hqi1 : (q : Int) < (lq : Int) := by have := S.out.2.2.2.2; omega
          go_wp2_with (first
           | ((with_reducible refine gd_ 119 rfl ?_); refine Kd.R_make (Kd.int .u32) (w0 := w406) w406.heap.size 48 rfl (N := 119) rfl 28 _ _ rfl ((dl.length : Int) + 1) rfl rfl Try.underlying28 (.int .u32 0) 4 info48 rfl (by decide) (by omega) 0 (ok := fun _ => True) (okp := fun _ => True) rfl (fun _ hk => hk) trivial (by omega) (by omega) (Below.refl _ _) (Nat.le_refl _) ?_; intro v119 wz ho hbz hg_ hnew_; clear hg_ hnew_; rw [HZ.out] at ho; obtain ⟨gz, cz, Xz, rfl, hgz, hcz, hrz⟩ := Row.of_R ho (by rw [HZ2.out.2]; omega); have CZ := a0_ (Kd.R_reads' ho).2.2; have RLZ := a0_ (Row.below RLC.out hbz); have RQZ := a0_ (Row.below RQC.out hbz); have VDZ := a0_ (Kd.V_below VDC.out hbz); have HBZ := a0_ (below_step HBC.out hbz); have VSZ := a0_ (Kd.V_below VS.out hbz); clear hgz hcz hrz ho hbz)
           | ((with_reducible refine gd_ 120 rfl ?_); refine copy_row (P := Try.prog) rfl (.tmp 116) (.tmp 119) 28 rfl Try.underlying28 (by kernel_rfl) gl q pl.length (cl - q) L zl Xl (some ⟨gz, 0, none⟩) cz RLZ.out CZ.out rfl rfl (by rw [HZ2.out.2, HP2.out]; exact Nat.le_refl _) (by rw [HZ2.out.2]; exact hqL) ?_; intro wA hA1 hA2; have OA := a0_ hA2; rw [HZ2.out.2, HZ2.out.1] at hA1; have RLA := a0_ hA1; have CSA := a0_ (Kd.V_reads' (Kd.V_keep VSZ.out hA2.keep (fun k hk => by have := GL5.out; omega))).2.2; have RQA := a0_ (Other.row hA2 NE.out.symm RQZ.out); have VDA := a0_ (Kd.V_keep VDZ.out hA2.keep (fun k hk => hk.1)); have HBA := a0_ (Other.below hA2 HBZ.out W_l.out); clear hA1 hA2 RLZ RQZ VDZ HBZ)
           | ((with_reducible refine gd_ 123 rfl ?_); refine copy_row (P := Try.prog) rfl (.tmp 121) (.tmp 122) 28 rfl Try.underlying28 (by kernel_rfl) gl q pl.length (cl - q) (L.take q ++ (List.replicate (dl.length + 1) 0 ++ L.drop (q + (dl.length + 1)))) (limbs (V pl - gk * V dl)) Xl A_s c_s RLA.out CSA.out rfl rfl HSL.out.1 (by have := HSL.out.2; simp only [List.length_append, List.length_take, List.length_drop, List.length_replicate]; omega) ?_; intro wB hA1 hA2; rw [splice2 L _ q (dl.length + 1) hqL HSL.out.2] at hA1; have RLB := a0_ hA1; have RQB := a0_ (Other.row hA2 NE.out.symm RQA.out); have VDB := a0_ (Kd.V_keep VDA.out hA2.keep (fun k hk => hk.1)); have HBB := a0_ (Other.below hA2 HBA.out W_l.out); have hqc := Row.cell RQB.out q (by rw [List.length_append, List.length_replicate]; omega); have hqf := Row.unfrozen RQB.out q; clear hA1 hA2 RLA RQA VDA HBA CSA OA))
          have hgkd : gk = V pl / V dl := Nat.le_antisymm ((Nat.le_div_iff_mul_le (by rw [P1.out.2.2.2.2.1]; exact Nat.mul_pos hn0 (Nat.two_pow_pos u))).2 hle) HK.out.1
          have hnew : V (limbs (V pl - gk * V dl) ++ List.replicate (dl.length + 1 - (limbs (V pl - gk * V dl)).length) 0) = V ((L.drop q).take (dl.length + 1)) % (n * 2 ^ u) := by
           rw [V_append, V_limbs, V_zeros, ← HG.out.2.2.1, ← P1.out.2.2.2.2.1, hgkd, Nat.mul_zero, Nat.add_zero]
           have := Nat.div_add_mod (V pl) (V dl)
           rw [Nat.mul_comm] at this
           omega
          have hst := div_step (m * 2 ^ u) (n * 2 ^ u) q dl.length L Q _ (Nat.mul_pos hn0 (Nat.two_pow_pos u)) (by rw [P1.out.1]; exact P1.out.2.2.1) S.out.2.1 (by omega) S.out.2.2.1 (by rw [List.length_append, List.length_replicate]; have := HSL.out.2; omega) hnew
          have hgk2 : V pl / (n * 2 ^ u) = gk := by rw [← P1.out.2.2.2.2.1]; exact hgkd.symm
          rw [← HG.out.2.2.1, hgk2] at hst
          have hset := Row.set RQB.out q (by rw [List.length_append, List.length_replicate]; omega) (gk : Int)
          rw [set_mid] at hset
          clear hnew
          go_roundg q
          case measure => omega
          case rel =>
           refine ⟨(q : Int) - 1, _, (gk : Int) :: Q, rfl, rfl, ⟨?_, ?_, hst.2, ?_, ?_⟩, ⟨Other.row (Other.set _ _ _ _) NE.out RLB.out⟩, ⟨hset⟩, ⟨Kd.V_far (p := ⟨gq, q, none⟩) VDB.out (fun k hk => hk.2) _⟩, ⟨Other.below (Other.set _ _ _ _) HBB.out W_q.out⟩⟩
           · have h1 := S.out.1
             have := HSL.out.2
             simp only [List.length_append, List.length_take, List.length_drop, List.length_replicate]
             omega
           · rw [Ok_append, Ok_append, Ok_append]
             exact ⟨Ok_take S.out.2.1 _, ⟨Ok_limbs _, Ok_zeros _⟩, Ok_drop S.out.2.1 _⟩
           · rw [Ok_cons]
             exact ⟨⟨by omega, by omega⟩, S.out.2.2.2.1⟩
           · have := S.out.2.2.2.2
             simp only [List.length_cons]
             omega
        · have hcd2 : decide (c2 ≤ 0) = false := by
           rw [hc2, if_neg (by omega), if_neg (by omega)]
           rfl
          clear hc2
          go_wp2_with fail
          with_reducible refine (nat_Of.calls kO _ _ _ E1.out).mono ?_
          rintro e w401 ⟨v, rfl, ho, hb⟩
          obtain ⟨A_o, c_o, rfl, hlo, hC⟩ := V_reads ho
          clear ho
          replace B_p := bl_b B_p hb
          replace B_d := bl_b B_d hb
          replace HB := bl_b HB hb
          clear hb
          have R_o := a0_ hC
          have C_o := a0_ hlo
          clear hC hlo
          have B_o := a0_ (Below.refl w401.heap.size w401)
          go_wp2_with fail
          with_reducible refine (nat_times.calls kM _ _ (limbs gk) _ _ dl _ _ (Kd.C_below R_o.out B_o.out) C_o.out (Kd.C_below R_d.out B_d.out) C_d.out E2.out).mono ?_
          rintro e w402 ⟨v, rfl, ho, hb⟩
          obtain ⟨A_m, c_m, rfl, hlo, hC⟩ := V_reads ho
          clear ho
          replace B_p := bl_b B_p hb
          replace B_d := bl_b B_d hb
          replace B_o := bl_b B_o hb
          replace HB := bl_b HB hb
          clear hb
          have R_m := a0_ hC
          have C_m := a0_ hlo
          clear hC hlo
          have B_m := a0_ (Below.refl w402.heap.size w402)
          clear R_o C_o B_o
          go_wp2_with fail
          with_reducible refine (slices_Clone_uint32_uint32.calls _ _ pl _ _ (Kd.C_below R_p.out B_p.out) C_p.out E3.out).mono ?_
          rintro e w403 ⟨v, rfl, ho, hb⟩
          obtain ⟨A_k, c_k, rfl⟩ := Kd.R_slice ho
          have V_k := a0_ (Kd.R_V (base' := 0) (Kd.R_tight rfl ho))
          clear ho
          replace B_p := bl_b B_p hb
          replace B_d := bl_b B_d hb
          replace B_m := bl_b B_m hb
          replace HB := bl_b HB hb
          clear hb
          go_wp2_with fail
          with_reducible refine (nat_trim.calls kT2 _ _ _ _ _ _ V_k.out E4.out).mono ?_
          rintro e w404 ⟨v, rfl, ho, hb⟩
          clear V_k
          obtain ⟨A_t, c_t, rfl, hlo, hC⟩ := V_reads ho
          clear ho
          replace B_p := bl_b B_p hb
          replace B_d := bl_b B_d hb
          replace B_m := bl_b B_m hb
          replace HB := bl_b HB hb
          clear hb
          have R_t := a0_ hC
          have C_t := a0_ hlo
          clear hC hlo
          have B_t := a0_ (Below.refl w404.heap.size w404)
          go_wp2_with fail
          with_reducible refine (nat_compare.calls kC2 _ _ (limbs (gk * V dl)) _ _ (limbs (V pl)) _ _ (Kd.C_below R_m.out B_m.out) C_m.out (Kd.C_below R_t.out B_t.out) C_t.out E5.out).mono ?_
          rintro e w405 ⟨rfl, hb⟩
          replace B_p := bl_b B_p hb
          replace B_d := bl_b B_d hb
          replace B_m := bl_b B_m hb
          replace B_t := bl_b B_t hb
          replace HB := bl_b HB hb
          clear hb
          clear R_t C_t B_t
          have hgk0 : V pl < V dl * gk := by rw [Nat.mul_comm]; exact Nat.lt_of_not_le hle
          have hgk : V pl / V dl < gk := Nat.div_lt_of_lt_mul hgk0
          have hgk1 : 1 ≤ gk := Nat.lt_of_le_of_lt (Nat.zero_le _) hgk
          have hgk2 : V pl / V dl ≤ gk - 1 := Nat.le_sub_one_of_lt hgk
          have hgk3 := a0_ hgk2
          clear hgk2 hgk hgk0
          have hw1 : IntKind.u64.wrap ((gk : Int) - 1) = (gk : Int) - 1 := u64w (by omega) (by omega)
          go_wp2_with fail
          go_roundg (gk - 1)
          case measure => omega
          case rel => exact ⟨_, rfl, by omega, ⟨hgk3.out, by omega⟩, ⟨HB.out⟩⟩
end Go.Proofs.Ytgdkgahbmfhgcaa.PN
