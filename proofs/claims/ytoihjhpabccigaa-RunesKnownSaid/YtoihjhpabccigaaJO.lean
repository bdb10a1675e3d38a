/- slices.Concat and runes.Join, walked. -/
import Derived.Test.YtoihjhpabccigaaOF
namespace Go.Proofs.Ytoihjhpabccigaa.OF
open Go.RowKit Go.Proofs.Ytoihjhpabccigaa.PR Go.Proofs.YtoihjhpabccigaaW.PrintWords Go.Proofs.YtoihjhpabccigaaW.PrintLast Go.Proofs.YtoihjhpabccigaaW.PrintMore
set_option linter.unusedVariables false
set_option linter.unusedSimpArgs false
theorem zeroCells_size (z : Array Value) (n : Nat) : (Builtin.zeroCells z n).size = n * z.size := by
  simp [Builtin.zeroCells]
theorem grow_call (n : Nat) (hn : n ≤ 1000000) (w : World) : Calls Try.prog 38 #[.slice none 0 0, .int .i64 n] w fun e w' => ∃ v, e = .returned v ∧ Kd.R k38 38 w' w.heap.size (fun _ => True) v [] ∧ Below w.heap.size w w' := by
  rcases Nat.eq_zero_or_pos n with rfl | hp
  · have h := Any8.slices_Grow_room Try.laysGrow none 0 0 0 w (Nat.le_refl _) (by decide) (by decide) (by decide)
    change Calls Try.prog 38 _ _ _ at h
    refine h.mono ?_
    rintro e w' ⟨rfl, rfl⟩
    exact ⟨_, rfl, Kd.R_nil _ _ _ _ _, Below.refl _ _⟩
  · obtain ⟨i0, hi0, hz0, hsz, hby⟩ := info_parts info38
    have h := Any8.slices_Grow_grow Try.laysGrow i0 (.agg #[(.int .i64 0), (.int .i64 0)]) hi0 hz0 (by rw [hsz]; decide) none 0 0 n [] w (Nat.le_refl _) (by omega) (by rw [hby]; omega) (by omega) (by simp) (fun _ => rfl) (by simp)
    change Calls Try.prog 38 _ _ _ at h
    refine h.mono ?_
    rintro e w' ⟨rfl, rfl⟩
    refine ⟨_, rfl, ?_, below_alloc (below_drew1 (Below.refl _ _)) _⟩
    have hcap : grownCap w (0 + n) 0 38 ≤ maxLen := grownCap_le_maxLen _ _ _ _ (by unfold maxLen; omega)
    have hge : 0 + n ≤ grownCap w (0 + n) 0 38 := grownCap_ge _ _ _ _
    exact of_row (xs := []) ⟨Nat.le_refl _, (MapKept.heap_alloc w.drew _).1, Nat.zero_le _, hcap, by
      simp only [Array.size_append, zeroCells_size]
      show 0 + (0 + n - 0) * 2 + (grownCap w (0 + n) 0 38 - (0 + n)) * 2 = grownCap w (0 + n) 0 38 * 2
      generalize grownCap w (0 + n) 0 38 = G at hge ⊢
      omega, fun j hj => absurd hj (by simp)⟩
theorem flat_take (ls : List (List S38)) (k : Nat) (hk : k < ls.length) : (ls.take (k + 1)).flatten = (ls.take k).flatten ++ ls.getD k [] := by
  rw [List.take_succ_eq_append_getElem hk, List.flatten_append, List.getD_eq_getElem?_getD, List.getElem?_eq_getElem hk]
  simp
theorem flat_le (ls : List (List S38)) (k : Nat) : (ls.take k).flatten.length ≤ ls.flatten.length := by
  have h := congrArg (fun l => l.flatten.length) (List.take_append_drop k ls)
  simp only [List.flatten_append, List.length_append] at h
  omega
set_option maxHeartbeats 3200000 in
set_option maxRecDepth 100000 in
theorem concat (A : Option Addr) (c : Nat) (ls : List (List S38)) (w : World) (hr : Kd.C (Kd.slice 38 k38) w A ls.length ls) (hl : ls.flatten.length ≤ 1000000) (hn : ls.length ≤ 1000000) :
    Calls Try.prog 28 #[.slice A ls.length c] w fun e w' => ∃ v, e = .returned v ∧ Kd.R k38 38 w' w.heap.size (fun _ => True) v ls.flatten ∧ Below w.heap.size w w' := by
  have HR := Aside0.mk hr
  have HL := Aside0.mk hl
  have HN := Aside0.mk hn
  clear hr hl hn
  go_enter Try.func28, Try.ntmps28
  go_wp2_with fail
  go_loopw [3, 11] (fun s i wr => ∃ k : Nat, k ≤ ls.length ∧ i = .int .i64 k ∧ s = .int .i64 ((ls.take k).flatten.length : Nat) ∧ w = wr) (fun _ i _ => ls.length - (intOf i).toNat)
  case atStart => exact ⟨0, Nat.zero_le _, rfl, rfl, rfl⟩
  case round =>
    obtain ⟨k, hk, rfl, rfl, rfl⟩ := hrel
    have hkb : (k : Int) ≤ 1000000 := by have := HN.out; omega
    by_cases hlt : k < ls.length
    · have hki : (k : Int) < (ls.length : Int) := by omega
      have hk0 : (0 : Int) ≤ (k : Int) := by omega
      obtain ⟨ad, cc, rfl, _, ⟨A', c', rfl, hle, hC'⟩, hcell⟩ := Kd.C_get HR.out [] (k : Int) hk0 hki
      have hx := hcell 0 _ rfl
      rw [show ((k : Int)).toNat = k from rfl, show k * (Kd.slice 38 k38).sz + 0 = k from by show k * 1 + 0 = k; omega] at hx
      obtain ⟨y, hy⟩ : ∃ y, y = ls.getD k [] := ⟨_, rfl⟩
      rw [← hy] at hx
      have hf := flat_take ls k hlt
      have hfl := flat_le ls (k + 1)
      rw [hf, ← hy, List.length_append] at hfl
      have HF : Aside0 ((ls.take (k + 1)).flatten.length = (ls.take k).flatten.length + y.length) := ⟨by rw [hf, ← hy, List.length_append]⟩
      obtain ⟨m, hm⟩ : ∃ m, m = (ls.take k).flatten.length := ⟨_, rfl⟩
      have hmb : m + y.length ≤ 1000000 := by have := HL.out; rw [← hm] at hfl; exact Nat.le_trans hfl this
      have hsum : wrap64 ((m : Int) + (y.length : Int)) = ((m + y.length : Nat) : Int) := by unfold wrap64; omega
      have hneg : ¬ (((m + y.length : Nat) : Int) < 0) := Int.not_lt.mpr (Int.natCast_nonneg _)
      rw [← hm] at HF
      rw [← hm]
      clear hf hfl hcell hC' hle hm hy
      go_wp2_with fail
      go_roundw
      case rel => exact ⟨k + 1, by omega, by go_num, by rw [HF.out]; go_num, trivial⟩
      case measure => simp [intOf]; omega
    · have hki : ¬ ((k : Int) < (ls.length : Int)) := by omega
      obtain rfl : k = ls.length := by omega
      rw [List.take_length]
      obtain ⟨m, hm⟩ : ∃ m, m = ls.flatten.length := ⟨_, rfl⟩
      have HM : Aside0 (m ≤ 1000000) := ⟨by rw [hm]; exact HL.out⟩
      rw [← hm]
      clear hm
      go_wp2_with fail
      with_reducible refine (grow_call m HM.out _).mono ?_
      rintro e w1 ⟨v, rfl, ho, hb⟩
      have HO := Aside0.mk ho
      have HB := Aside0.mk hb
      clear ho hb
      go_wp2_with fail
      go_loopw [6, 27] (fun v i wr => ∃ k : Nat, k ≤ ls.length ∧ i = .int .i64 k ∧ Aside0 (Kd.R k38 38 wr w.heap.size (fun _ => True) v (ls.take k).flatten) ∧ Aside0 (Below w.heap.size w wr)) (fun _ i _ => ls.length - (intOf i).toNat)
      case atStart => exact ⟨0, Nat.zero_le _, rfl, HO, HB⟩
      case round =>
        clear HO HB
        obtain ⟨k, hk, rfl, HO, HB⟩ := hrel
        have hkb : (k : Int) ≤ 1000000 := by have := HN.out; omega
        by_cases hlt : k < ls.length
        · have hki : (k : Int) < (ls.length : Int) := by omega
          have hk0 : (0 : Int) ≤ (k : Int) := by omega
          obtain ⟨ad, cc, rfl, _, ⟨A', c', rfl, hle, hC'⟩, hcell⟩ := Kd.C_get HR.out [] (k : Int) hk0 hki
          have hx := pw_cell_below HB.out (hcell 0 _ rfl)
          rw [show ((k : Int)).toNat = k from rfl, show k * (Kd.slice 38 k38).sz + 0 = k from by show k * 1 + 0 = k; omega] at hx
          rw [show ((k : Int)).toNat = k from rfl] at hC'
          obtain ⟨y, hy⟩ : ∃ y, y = ls.getD k [] := ⟨_, rfl⟩
          rw [← hy] at hx hC'
          have hf := flat_take ls k hlt
          have hfl := flat_le ls (k + 1)
          rw [hf, ← hy, List.length_append] at hfl
          rw [← hy] at hf
          have HF := Aside0.mk hf
          have HLL : Aside0 ((ls.take k).flatten.length + y.length ≤ 1000000) := ⟨by have := HL.out; omega⟩
          have HC2 := Aside0.mk (Kd.C_below hC' HB.out)
          clear hf hfl hcell hC' hle hy
          go_wp2_with (first | ((with_reducible refine gate_builtin (b := .append) (xs := #[.tmp 31, .tmp 32]) rfl ?_); at_builtin; refine Kd.R_append_rows k38 (Rr := k38.K wr) (w0 := w) w.heap.size rfl (.tmp 31) (.tmp 32) 24 38 (.agg #[.int .i64 0, .int .i64 0]) 16 rfl Try.underlying24 info38 rfl (by decide) (by omega) u6 (ls.take k).flatten y A' y.length c' (fun _ => True) (fun _ => False) rfl rfl ?aO ?aR ?aK (fun _ h => h.elim) ?aF ?aB ?aS ?aL ?_; (case aO => exact HO.out); (case aR => exact HC2.out); (case aK => exact fun x cs h => by rw [k38_open h]; exact k38_mkM _ _ _ _); (case aF => exact fun _ _ => trivial); (case aB => exact HB.out); (case aS => exact below_size HB.out); (case aL => have := HLL.out; omega); intro v1 w1 ho hb hg hat; have HO1 := Aside0.mk ho; have HB1 := Aside0.mk hb; clear ho hb hg hat))
          go_roundw
          case rel => exact ⟨k + 1, by omega, by go_num, ⟨by rw [HF.out]; exact HO1.out⟩, HB1⟩
          case measure => simp [intOf]; omega
        · have hki : ¬ ((k : Int) < (ls.length : Int)) := by omega
          obtain rfl : k = ls.length := by omega
          rw [List.take_length] at HO
          go_wp2_with fail
          go_ret
          exact ⟨_, rfl, HO.out, HB.out⟩
set_option maxHeartbeats 1600000 in
theorem join (A : Option Addr) (c : Nat) (ls : List (List S38)) (w : World) (hr : Kd.C (Kd.slice 38 k38) w A ls.length ls) (hl : ls.flatten.length ≤ 1000000) (hn : ls.length ≤ 1000000) :
    Calls Try.prog 10 #[.slice A ls.length c] w fun e w' => ∃ v, e = .returned v ∧ ∃ ds : List S38, (ds.Perm (own ls.flatten) ∧ ds.Pairwise (fun x y => x.f0 ≤ y.f0)) ∧ Kd.R k38 38 w' w.heap.size (fun _ => True) v (mergeL ds) ∧ Below w.heap.size w w' := by
  have HR := Aside0.mk hr
  have HL := Aside0.mk hl
  have HN := Aside0.mk hn
  clear hr hl hn
  obtain ⟨l, hll⟩ : ∃ l, l = ls.flatten := ⟨_, rfl⟩
  have HLL := Aside0.mk hll
  rw [← hll] at HL ⊢
  clear hll
  go_enter Try.func10, Try.ntmps10
  go_wp2_with fail
  with_reducible refine (concat A c ls _ HR.out (by rw [← HLL.out]; exact HL.out) HN.out).mono ?_
  rintro e w1 ⟨v, rfl, ho, hb⟩
  rw [← HLL.out] at ho
  obtain ⟨Ao, co, rfl, hlo, hC⟩ := Kd.R_reads ho
  have HC := Aside0.mk hC
  have HLO := Aside0.mk hlo
  have HB := Aside0.mk hb
  clear ho hb hC hlo
  go_wp2_with fail
  with_reducible refine (walk Ao co l _ HC.out HLO.out HL.out).mono ?_
  rintro e w2 ⟨v, rfl, ds, hd, ho, hb⟩
  have HO := Aside0.mk (And.intro hd (And.intro (Kd.R_lower ho HB.out.size) (below_step HB.out hb)))
  clear hd ho hb
  go_wp2_with fail
  go_ret
  exact ⟨_, rfl, ds, HO.out⟩
#print axioms join
#print axioms concat
end Go.Proofs.Ytoihjhpabccigaa.OF
