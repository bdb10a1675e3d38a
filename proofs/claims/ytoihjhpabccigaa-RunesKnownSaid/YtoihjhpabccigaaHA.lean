/- (runes.Set).Has, walked. -/
import Derived.Test.YtoihjhpabccigaaJO
namespace Go.Proofs.Ytoihjhpabccigaa.OF
open Go.RowKit Go.Proofs.Ytoihjhpabccigaa.PR Go.Proofs.YtoihjhpabccigaaW.PrintWords Go.Proofs.YtoihjhpabccigaaW.PrintLast Go.Proofs.YtoihjhpabccigaaW.PrintMore
set_option linter.unusedVariables false
set_option linter.unusedSimpArgs false
theorem pred37 (r : Int) (B : Nat) (x : S38) (W : World) (hB : B < W.heap.size) (hc : W.cell? ⟨B, 0, none⟩ = some (.int .i64 r)) :
    Calls Try.prog 37 #[.agg #[.int .i64 x.f0, .int .i64 x.f1], .pointer (some ⟨B, 0, none⟩)] W fun e w' => e = .returned (.bool (inR r x)) ∧ Below W.heap.size W w' := by
  have hne : B ≠ W.heap.size := by omega
  have hc2 := pw_cell_below (below_alloc (Below.refl _ W) (.cells #[.int .i64 x.f0, .int .i64 x.f1] 38)) hc
  by_cases h : x.f0 ≤ r
  · have hd : inR r x = decide (r ≤ x.f1) := by unfold inR; simp [h]
    rw [hd]
    clear hd
    go_enter Try.func37, Try.ntmps37
    go_wp2
    go_ret
    exact ⟨rfl, below_alloc (Below.refl _ _) _⟩
  · have hd : inR r x = false := by unfold inR; simp [h]
    have h2 : decide (x.f0 ≤ r) = false := by simpa using h
    rw [hd]
    clear hd
    go_enter Try.func37, Try.ntmps37
    go_wp2
    go_ret
    exact ⟨rfl, below_alloc (Below.refl _ _) _⟩
#print axioms pred37
set_option maxHeartbeats 1600000 in
theorem idx (A : Option Addr) (c : Nat) (l : List S38) (r : Int) (B : Nat) (w : World) (hr : Kd.C k38 w A l.length l) (hl : l.length ≤ 1000000) (hB : B < w.heap.size) (hc : w.cell? ⟨B, 0, none⟩ = some (.int .i64 r)) :
    Calls Try.prog 42 #[.slice A l.length c, .func (.func 37) #[] #[.pointer (some ⟨B, 0, none⟩)]] w fun e w' => ∃ i : Int, e = .returned (.int .i64 i) ∧ (0 ≤ i ↔ l.any (inR r) = true) ∧ Below w.heap.size w w' := by
  obtain ⟨bb, hbb⟩ : ∃ bb, bb = l.any (inR r) := ⟨_, rfl⟩
  have HBOOL := Aside0.mk hbb
  rw [← hbb]
  clear hbb
  have HR := Aside0.mk hr
  have HL := Aside0.mk hl
  have HBB := Aside0.mk hB
  have HC := Aside0.mk hc
  clear hr hl hB hc
  go_enter Try.func42, Try.ntmps42
  go_wp2_with fail
  go_loopw [8] (fun i wr => ∃ k : Nat, k ≤ l.length ∧ i = .int .i64 k ∧ Aside0 ((l.take k).any (inR r) = false) ∧ Aside0 (Below w.heap.size w wr)) (fun i _ => l.length - (intOf i).toNat)
  case atStart => exact ⟨0, Nat.zero_le _, rfl, ⟨rfl⟩, ⟨Below.refl _ _⟩⟩
  case round =>
    obtain ⟨k, hk, rfl, HA, HB⟩ := hrel
    have hkb : (k : Int) ≤ 1000000 := by have := HL.out; omega
    by_cases hlt : k < l.length
    · have hki : (k : Int) < (l.length : Int) := by omega
      have hk0 : (0 : Int) ≤ (k : Int) := by omega
      obtain ⟨ad, rfl, hx0, hx1⟩ := at_T38 HR.out (k : Int) hk0 hki
      replace hx0 := pw_cell_below HB.out hx0
      replace hx1 := pw_cell_below HB.out hx1
      rw [show ((k : Int)).toNat = k from rfl] at hx0 hx1
      obtain ⟨x, hx⟩ : ∃ x, x = rd_T38 l (k : Int) := ⟨_, rfl⟩
      rw [← hx] at hx0 hx1
      have hxl : l[k]? = some x := by rw [hx]; unfold rd_T38; rw [List.getD_eq_getElem?_getD, Int.toNat_natCast, List.getElem?_eq_getElem hlt]; rfl
      have HXL := Aside0.mk hxl
      clear hxl hx
      have htk : (l.take (k + 1)).any (inR r) = ((l.take k).any (inR r) || inR r x) := by
        rw [List.take_add_one, HXL.out]
        simp
      have HTK := Aside0.mk htk
      clear htk
      go_wp2_with fail
      with_reducible refine (pred37 r B x wr (Nat.lt_of_lt_of_le HBB.out HB.out.size) (pw_cell_below HB.out HC.out)).mono ?_
      rintro e w2 ⟨rfl, hb⟩
      have HB2 := Aside0.mk (below_step HB.out hb)
      clear hb
      cases hin : inR r x with
      | true =>
        have HIN := Aside0.mk hin
        clear hin
        go_wp2_with fail
        go_ret
        refine ⟨_, rfl, ⟨fun _ => ?_, fun _ => hk0⟩, HB2.out⟩
        rw [HBOOL.out, List.any_eq_true]
        exact ⟨x, List.mem_of_getElem? HXL.out, HIN.out⟩
      | false =>
        have HIN := Aside0.mk hin
        clear hin
        go_wp2_with fail
        go_roundw
        case rel => exact ⟨k + 1, by omega, by go_num, ⟨by rw [HTK.out, HA.out, HIN.out]; rfl⟩, HB2⟩
        case measure => simp [intOf]; omega
    · have hki : ¬ ((k : Int) < (l.length : Int)) := by omega
      obtain rfl : k = l.length := by omega
      rw [List.take_length] at HA
      go_wp2_with fail
      go_ret
      exact ⟨_, rfl, ⟨fun h => absurd h (by decide), fun h => by rw [HBOOL.out, HA.out] at h; cases h⟩, HB.out⟩
#print axioms idx
set_option maxHeartbeats 1600000 in
theorem contains (A : Option Addr) (c : Nat) (l : List S38) (r : Int) (B : Nat) (w : World) (hr : Kd.C k38 w A l.length l) (hl : l.length ≤ 1000000) (hB : B < w.heap.size) (hc : w.cell? ⟨B, 0, none⟩ = some (.int .i64 r)) :
    Calls Try.prog 36 #[.slice A l.length c, .func (.func 37) #[] #[.pointer (some ⟨B, 0, none⟩)]] w fun e w' => e = .returned (.bool (l.any (inR r))) ∧ Below w.heap.size w w' := by
  obtain ⟨bb, hbb⟩ : ∃ bb, bb = l.any (inR r) := ⟨_, rfl⟩
  have HBOOL := Aside0.mk hbb
  rw [← hbb]
  clear hbb
  have HR := Aside0.mk hr
  have HL := Aside0.mk hl
  have HBB := Aside0.mk hB
  have HC := Aside0.mk hc
  clear hr hl hB hc
  go_enter Try.func36, Try.ntmps36
  go_wp2_with fail
  with_reducible refine (idx A c l r B _ HR.out HL.out HBB.out HC.out).mono ?_
  rintro e w1 ⟨i, rfl, hi, hb⟩
  have HI := Aside0.mk hi
  have HB := Aside0.mk hb
  clear hi hb
  rw [← HBOOL.out] at HI
  cases bb with
  | true =>
    have h : 0 ≤ i := HI.out.2 rfl
    go_wp2_with fail
    go_ret
    exact ⟨rfl, HB.out⟩
  | false =>
    have h : ¬ (0 ≤ i) := fun h => by cases HI.out.1 h
    have h2 : decide ((0 : Int) ≤ i) = false := by simpa using h
    go_wp2_with fail
    go_ret
    exact ⟨rfl, HB.out⟩
#print axioms contains
set_option maxHeartbeats 1600000 in
theorem has (A : Option Addr) (c : Nat) (l : List S38) (r : Int) (w : World) (hr : Kd.C k38 w A l.length l) (hl : l.length ≤ 1000000) :
    Calls Try.prog 22 #[.slice A l.length c, .int .i64 r] w fun e w' => e = .returned (.bool (hasL l r)) ∧ Below w.heap.size w w' := by
  obtain ⟨bb, hbb⟩ : ∃ bb, bb = l.any (inR r) := ⟨_, rfl⟩
  have hcon := contains A c l r w.heap.size (w.alloc (.cells #[.int .i64 r] 3)) (Kd.C_alloc hr _) hl (by simp) (blk_cell (MapKept.heap_alloc w (.cells #[.int .i64 r] 3)).1 0)
  unfold hasL
  rw [← hbb] at hcon ⊢
  have HCON := Aside0.mk hcon
  clear hcon hr hl hbb
  by_cases h0 : 0 ≤ r
  · by_cases h1 : r ≤ 1114111
    · rw [decide_eq_true h0, decide_eq_true h1, Bool.true_and, Bool.true_and]
      go_enter Try.func22, Try.ntmps22
      go_wp2_with fail
      with_reducible refine HCON.out.mono ?_
      rintro e w1 ⟨rfl, hb⟩
      have HB := Aside0.mk (below_step (below_alloc (Below.refl _ w) _) hb)
      clear hb
      go_wp2_with fail
      go_ret
      exact ⟨rfl, HB.out⟩
    · have h2 : decide (r ≤ 1114111) = false := by simpa using h1
      rw [decide_eq_true h0, h2, Bool.and_false, Bool.false_and]
      go_enter Try.func22, Try.ntmps22
      go_wp2_with fail
      go_ret
      exact ⟨rfl, below_alloc (Below.refl _ _) _⟩
  · have h2 : decide (0 ≤ r) = false := by simpa using h0
    rw [h2, Bool.false_and, Bool.false_and]
    go_enter Try.func22, Try.ntmps22
    go_wp2_with fail
    go_ret
    exact ⟨rfl, below_alloc (Below.refl _ _) _⟩
#print axioms has
end Go.Proofs.Ytoihjhpabccigaa.OF
