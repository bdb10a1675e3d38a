/- strings.Cut at one byte; cuts.first. -/
import Derived.Test.YtpobgpfkohlokaaCA
namespace Go.Proofs.Ytpobgpfkohlokaa.PC
open Go.RowKit Go.Lib Go.Proofs.YtpobgpfkohlokaaW.PrintWords Go.Proofs.YtpobgpfkohlokaaW.PrintLast Go.Proofs.YtpobgpfkohlokaaW.PrintMore
set_option linter.unusedVariables false
set_option linter.unusedSimpArgs false
theorem indexByte_spec (c : UInt8) : ∀ l : List UInt8, (indexByte l c = -1 ∧ ∀ x ∈ l, x ≠ c) ∨ (∃ i : Nat, indexByte l c = i ∧ i < l.length ∧ l.getD i 0 = c ∧ ∀ x ∈ l.take i, x ≠ c)
  | [] => .inl ⟨rfl, fun x h => by cases h⟩
  | b :: l => by
    unfold indexByte
    by_cases h : b = c
    · rw [if_pos (by simpa using h)]
      exact .inr ⟨0, rfl, by simp, h, fun x hx => by cases hx⟩
    · rw [if_neg (by simpa using h)]
      rcases indexByte_spec c l with ⟨h1, h2⟩ | ⟨i, h1, h2, h3, h4⟩
      · rw [h1]
        refine .inl ⟨rfl, fun x hx => ?_⟩
        rcases List.mem_cons.1 hx with rfl | hx
        · exact h
        · exact h2 x hx
      · rw [h1, if_neg (by simp only [beq_iff_eq]; omega)]
        refine .inr ⟨i + 1, by omega, by simp; omega, by simpa using h3, fun x hx => ?_⟩
        rw [List.take_succ_cons] at hx
        rcases List.mem_cons.1 hx with rfl | hx
        · exact h
        · exact h4 x hx
theorem ext_list (s : ByteArray) (a b : Nat) : (s.extract a b).data.toList = (s.data.toList.take b).drop a := by
  rw [ByteArray.data_extract, Array.toList_extract, List.extract_eq_take_drop, List.drop_take]
theorem ext_take (s : ByteArray) (b : Nat) : (s.extract 0 b).data.toList = s.data.toList.take b := by rw [ext_list]; rfl
theorem ext_drop (s : ByteArray) (a : Nat) : (s.extract a s.size).data.toList = s.data.toList.drop a := by
  rw [ext_list, List.take_of_length_le (by rw [data_length]; exact Nat.le_refl _)]
/-- A text cut at the first such byte. -/
def cut1 (l : List UInt8) (c : UInt8) : List UInt8 × List UInt8 × Bool := if indexByte l c < 0 then (l, [], false) else (l.take (indexByte l c).toNat, l.drop ((indexByte l c).toNat + 1), true)
set_option maxHeartbeats 4000000 in
set_option maxRecDepth 100000 in
theorem cut_one_lite (s : ByteArray) (c : UInt8) (w : World) (hsz : s.size < 1099511627776) : Calls Try.prog 96 #[.string s, .string ⟨#[c]⟩] w fun e w' => (∃ a b f, e = .returned (.tuple #[.string a, .string b, .bool f]) ∧ (a.data.toList, b.data.toList, f) = cut1 s.data.toList c) ∧ Below w.heap.size w w' := by
  have HI := fun W => Try.stringslite_Index_one s c W
  have HB := Aside0.mk (Below.refl w.heap.size w)
  have HL := data_length s
  rcases indexByte_spec c s.data.toList with ⟨h1, h2⟩ | ⟨i, h1, h2, h3, h4⟩
  · rw [h1] at HI
    have HR := Aside0.mk (show cut1 s.data.toList c = (s.data.toList, [], false) by unfold cut1; rw [h1]; rfl)
    clear h1 h2
    go_enter Try.func96, Try.ntmps96
    go_wp2_with (go_at_call 36; refine (HI _).mono ?_; rintro e w' ⟨rfl, rfl⟩)
    go_ret3
    exact ⟨⟨_, _, _, rfl, HR.out.symm⟩, HB.out⟩
  · rw [h1] at HI
    have hz : (i : Int) < (s.size : Int) := by omega
    have hn : i < s.size := by omega
    have HR := Aside0.mk (show cut1 s.data.toList c = (s.data.toList.take i, s.data.toList.drop (i + 1), true) by unfold cut1; rw [h1, if_neg (by omega)]; rfl)
    have hw : IntKind.i64.wrap ((i : Int) + 1) = (i : Int) + 1 := (i64_w _).trans (w64 (by omega) (by omega))
    clear h1 h2 h3 h4
    go_enter Try.func96, Try.ntmps96
    go_wp2_with (go_at_call 36; refine (HI _).mono ?_; rintro e w' ⟨rfl, rfl⟩)
    have mixed : Try.prog.follows .mixedOrders = true := by kernel_rfl
    have hz2 : (i : Int) + 1 ≤ (s.size : Int) := by omega
    have hz3 : i + 1 ≤ s.size := by omega
    go_big_region_o
    all_goals go_wp2
    go_ret3
    refine ⟨⟨_, _, _, rfl, ?_⟩, below_drew1 HB.out⟩
    rw [HR.out, ext_take, ext_drop]
set_option maxHeartbeats 4000000 in
set_option maxRecDepth 100000 in
theorem cut_one (s : ByteArray) (c : UInt8) (w : World) (hsz : s.size < 1099511627776) : Calls Try.prog 75 #[.string s, .string ⟨#[c]⟩] w fun e w' => (∃ a b f, e = .returned (.tuple #[.string a, .string b, .bool f]) ∧ (a.data.toList, b.data.toList, f) = cut1 s.data.toList c) ∧ Below w.heap.size w w' := by
  have HC := Aside0.mk (cut_one_lite s c w hsz)
  go_enter Try.func75, Try.ntmps75
  go_wp2_with fail
  refine HC.out.mono ?_
  rintro e w1 ⟨⟨a, b, f, rfl, hr⟩, hb⟩
  have HR := Aside0.mk (And.intro hr hb)
  clear hr hb HC
  go_wp2
  go_ret3
  exact ⟨⟨_, _, _, rfl, HR.out.1⟩, HR.out.2⟩
theorem cut1_len (l : List UInt8) (c : UInt8) (h : (cut1 l c).2.2 = true) : (cut1 l c).1.length < l.length := by
  unfold cut1 at h ⊢
  rcases indexByte_spec c l with ⟨h1, h2⟩ | ⟨i, h1, h2, h3, h4⟩
  · rw [h1] at h; cases h
  · rw [h1, if_neg (by omega)]
    show (l.take _).length < _
    rw [List.length_take]
    omega
/-- The name of the part that a text begins with. -/
def partAt : List UInt8 → Option (List UInt8)
  | [] => none
  | b :: t => if b = 60 ∧ (cut1 t 62).2.2 = true ∧ ((cut1 t 62).1 = [95] ∨ isNameB (cut1 t 62).1 = true) then some (cut1 t 62).1 else none
/-- Where the first part begins, and its name. -/
def firstP : List UInt8 → Option (Nat × List UInt8)
  | [] => none
  | b :: t => match partAt (b :: t) with
    | some n => some (0, n)
    | none => (firstP t).map (fun p => (p.1 + 1, p.2))
theorem firstP_none : ∀ l : List UInt8, (∀ x ∈ l, x ≠ 60) → firstP l = none
  | [], _ => rfl
  | b :: t, h => by
    have e : partAt (b :: t) = none := by unfold partAt; exact if_neg (fun hh => h b List.mem_cons_self hh.1)
    unfold firstP
    rw [e]
    dsimp only
    rw [firstP_none t (fun x hx => h x (List.mem_cons_of_mem _ hx))]
    rfl
theorem firstP_skip : ∀ (l : List UInt8) (i : Nat), (∀ x ∈ l.take i, x ≠ 60) → firstP l = (firstP (l.drop i)).map (fun p => (p.1 + i, p.2))
  | [], i, _ => by simp [firstP]
  | b :: t, 0, _ => by simp
  | b :: t, i + 1, h => by
    rw [List.take_succ_cons] at h
    have e : partAt (b :: t) = none := by unfold partAt; exact if_neg (fun hh => h b List.mem_cons_self hh.1)
    rw [List.drop_succ_cons]
    conv => lhs; unfold firstP; rw [e]
    dsimp only
    rw [firstP_skip t i (fun x hx => h x (List.mem_cons_of_mem _ hx)), Option.map_map]
    rfl
theorem firstP_next (l : List UInt8) (i : Nat) (hi : i < l.length) (h : ∀ x ∈ l.take i, x ≠ 60) (hp : partAt (l.drop i) = none) : firstP l = (firstP (l.drop (i + 1))).map (fun p => (p.1 + (i + 1), p.2)) := by
  rw [firstP_skip l i h]
  have e : l.drop i = l[i] :: l.drop (i + 1) := List.drop_eq_getElem_cons hi
  rw [e] at hp ⊢
  conv => lhs; unfold firstP; rw [hp]
  dsimp only
  rw [Option.map_map]
  congr 1
  funext p
  show (p.1 + 1 + i, p.2) = (p.1 + (i + 1), p.2)
  rw [Nat.add_assoc, Nat.add_comm 1 i]
theorem firstP_here (l : List UInt8) (i : Nat) (hi : i < l.length) (h : ∀ x ∈ l.take i, x ≠ 60) (n : List UInt8) (hp : partAt (l.drop i) = some n) : firstP l = some (i, n) := by
  rw [firstP_skip l i h]
  have e : l.drop i = l[i] :: l.drop (i + 1) := List.drop_eq_getElem_cons hi
  rw [e] at hp ⊢
  conv => lhs; unfold firstP; rw [hp]
  simp
theorem results_tmp4_ {fn : Func} {t u v x : Tmp} (h : fn.results = #[.tmp t, .tmp u, .tmp v, .tmp x]) (tmps : Array Value) (P : Program) (w : World) :
    (results fn tmps).run P w = .ok (.tuple #[tmps.getD t undef, tmps.getD u undef, tmps.getD v undef, tmps.getD x undef]) w := by
  simp [results, h, go_sem]
set_option maxHeartbeats 8000000 in
set_option maxRecDepth 100000 in
theorem first_calls (s : ByteArray) (w : World) (hsz : s.size < 1099511627776) : Calls Try.prog 54 #[.string s] w fun e w' => ((firstP s.data.toList = none ∧ e = .returned (.tuple #[.int .i64 0, .int .i64 0, .string ByteArray.empty, .bool false])) ∨ (∃ (fr : Nat) (nm : ByteArray), firstP s.data.toList = some (fr, nm.data.toList) ∧ fr + nm.size + 2 ≤ s.size ∧ e = .returned (.tuple #[.int .i64 fr, .int .i64 ((fr + 1 + nm.size + 1 : Nat) : Int), .string nm, .bool true]))) ∧ Below w.heap.size w w' := by
  have HL := Aside0.mk (data_length s)
  go_enter Try.func54, Try.ntmps54
  go_wp2
  go_loopg [6] s.size (fun g1 v6 wr => ∃ k : Nat, v6 = .int .i64 k ∧ Aside0 (k ≤ s.size ∧ s.size - k ≤ g1) ∧ Aside0 (firstP s.data.toList = (firstP (s.data.toList.drop k)).map (fun p => (p.1 + k, p.2))) ∧ Aside0 (Below w.heap.size w wr))
  case atStart => exact ⟨0, rfl, ⟨by omega, by omega⟩, ⟨by simp⟩, ⟨Below.refl _ _⟩⟩
  case round =>
    obtain ⟨k, rfl, HK, HF, HB⟩ := hrel
    have hk1 : k ≤ s.size := HK.out.1
    have hk2 : (k : Int) ≤ (s.size : Int) := by omega
    have HI := fun W => Try.strings_Index_one (s.extract k s.size) 60 W
    rw [ext_drop] at HI
    rcases indexByte_spec 60 (s.data.toList.drop k) with ⟨h1, h2⟩ | ⟨i, h1, h2, h3, h4⟩
    · rw [h1] at HI
      have HR := Aside0.mk (show firstP s.data.toList = none by rw [HF.out, firstP_none _ h2]; rfl)
      clear h1 h2
      go_wp2_with (go_at_call 19; refine (HI _).mono ?_; rintro e w' ⟨rfl, rfl⟩)
      refine bodyPost_ret (results_tmp4_ rfl _ _ _) rfl ?_
      exact ⟨.inl ⟨HR.out, rfl⟩, HB.out⟩
    · rw [h1] at HI
      rw [List.length_drop, HL.out] at h2
      obtain ⟨f, hf⟩ : ∃ f, f = k + i := ⟨_, rfl⟩
      have HFK := Aside0.mk (And.intro hf (And.intro h2 (And.intro h3 h4)))
      have hf1 : IntKind.i64.wrap ((k : Int) + (i : Int)) = (f : Int) := (i64_w _).trans ((w64 (by omega) (by omega)).trans (by omega))
      have hf2 : f < s.size := by omega
      have hf3 : (f : Int) + 1 ≤ (s.size : Int) := by omega
      have hf4 : f + 1 ≤ s.size := by omega
      have hfw : IntKind.i64.wrap ((f : Int) + 1) = (f : Int) + 1 := (i64_w _).trans (w64 (by omega) (by omega))
      have hkf : (k : Int) + (i : Int) = (f : Int) := by omega
      have HKF := Aside0.mk hkf
      have hn60 : ∀ x ∈ (s.data.toList.drop k).take i, x ≠ 60 := h4
      have hat : (s.data.toList.drop k).drop i = 60 :: s.data.toList.drop (f + 1) := by
        rw [List.drop_drop, ← hf]
        have hlt : f < s.data.toList.length := by rw [HL.out]; exact hf2
        rw [List.drop_eq_getElem_cons hlt]
        congr 1
        rw [List.getD_eq_getElem?_getD, List.getElem?_drop, ← hf, List.getElem?_eq_getElem hlt] at h3
        exact h3
      have hil : i < (s.data.toList.drop k).length := by rw [List.length_drop, HL.out]; exact h2
      have HPA := Aside0.mk (And.intro hn60 (And.intro hat (And.intro hil hf)))
      clear h1 h2 h3 h4 hf hn60 hat hil hkf
      have HC := Aside0.mk (cut_one (s.extract (f + 1) s.size) 62 wr (by rw [ByteArray.size_extract]; omega))
      rw [ext_drop] at HC
      go_wp2_with (go_at_call 19; refine (HI _).mono ?_; rintro e w' ⟨rfl, rfl⟩)
      refine HC.out.mono ?_
      rintro e w1 ⟨⟨a, b, ff, rfl, hcut⟩, hb⟩
      have HB1 := Aside0.mk (below_step HB.out hb)
      have hc1 : a.data.toList = (cut1 (s.data.toList.drop (f + 1)) 62).1 := by rw [← hcut]
      have hc2 : ff = (cut1 (s.data.toList.drop (f + 1)) 62).2.2 := by rw [← hcut]
      have HPV := Aside0.mk (show partAt ((s.data.toList.drop k).drop i) = if ff = true ∧ (a.data.toList = [95] ∨ isNameB a.data.toList = true) then some a.data.toList else none by
        rw [HPA.out.2.1]
        show (if (60 : UInt8) = 60 ∧ (cut1 (s.data.toList.drop (f + 1)) 62).2.2 = true ∧ ((cut1 (s.data.toList.drop (f + 1)) 62).1 = [95] ∨ isNameB (cut1 (s.data.toList.drop (f + 1)) 62).1 = true) then some (cut1 (s.data.toList.drop (f + 1)) 62).1 else none) = _
        rw [← hc1, ← hc2]
        simp)
      have HLA := Aside0.mk (show ff = true → f + a.size + 2 ≤ s.size from fun h => by
        have h9 := cut1_len (s.data.toList.drop (f + 1)) 62 (by rw [← hc2]; exact h)
        rw [← hc1, data_length, List.length_drop, HL.out] at h9
        omega)
      have HT := Aside0.mk (ByteArray.toList_eq a)
      clear hcut hb hc1 hc2 HC HI
      have next : ff = false ∨ (¬ a.data.toList = [95] ∧ isNameB a.data.toList = false) → Aside0 (firstP s.data.toList = (firstP (s.data.toList.drop (f + 1))).map (fun p => (p.1 + (f + 1), p.2))) := fun h => ⟨by
        have hp : partAt ((s.data.toList.drop k).drop i) = none := by
          rw [HPV.out, if_neg (fun hh => by rcases h with h | h; · rw [h] at hh; cases hh.1
                                            · rcases hh.2 with h2 | h2
                                              · exact h.1 h2
                                              · rw [h.2] at h2; cases h2)]
        rw [HF.out, firstP_next _ i HPA.out.2.2.1 HPA.out.1 hp, List.drop_drop, Option.map_map, show k + (i + 1) = f + 1 by have := HPA.out.2.2.2; omega]
        congr 1
        funext p
        show (p.1 + (i + 1) + k, p.2) = _
        rw [show p.1 + (i + 1) + k = p.1 + (f + 1) by have := HPA.out.2.2.2; omega]⟩
      have NEXT := Aside0.mk next
      clear next
      have HN := Aside0.mk (isname_calls a)
      cases ff with
      | false =>
        go_wp2
        go_roundg (s.size - (f + 1))
        case measure => have := HK.out; have := HPA.out.2.2.2; omega
        case rel => exact ⟨f + 1, by first | rfl | (congr 1; omega), ⟨by omega, Nat.le_refl _⟩, NEXT.out (by simp), HB1⟩
      | true =>
        have hla := HLA.out rfl
        have hw1 : wrap64 ((f : Int) + 1 + (a.size : Int)) = (f : Int) + 1 + (a.size : Int) := w64 (by omega) (by omega)
        have hw2 : wrap64 ((f : Int) + 1 + (a.size : Int) + 1) = ((f + 1 + a.size + 1 : Nat) : Int) := (w64 (by omega) (by omega)).trans (by omega)
        have HERE := Aside0.mk (fun (h : a.data.toList = [95] ∨ isNameB a.data.toList = true) => (show firstP s.data.toList = some (f, a.data.toList) from by
          rw [HF.out, firstP_here _ i HPA.out.2.2.1 HPA.out.1 a.data.toList (by rw [HPV.out, if_pos ⟨rfl, h⟩])]
          show some (i + k, _) = _
          rw [show i + k = f by have := HPA.out.2.2.2; omega]))
        by_cases h95 : a.toList = [95]
        · have HX := Aside0.mk (HERE.out (.inl (by rw [← HT.out]; exact h95)))
          go_wp2
          refine bodyPost_ret (results_tmp4_ rfl _ _ _) rfl ?_
          exact ⟨.inr ⟨f, a, HX.out, hla, by show Ending.returned (.tuple #[.int .i64 f, .int .i64 _, .string a, .bool true]) = _; first | rfl | rw [hw2] | (congr 4; omega)⟩, HB1.out⟩
        · have hq : (a.toList == [95]) = false := by simpa using h95
          cases hnm : isNameB a.data.toList with
          | true =>
            have HX := Aside0.mk (HERE.out (.inr hnm))
            rw [hnm] at HN
            go_wp2_with (go_at_call 76; refine (HN.out _ (by omega)).mono ?_; rintro e w2 ⟨rfl, hb⟩; have HB2 := Aside0.mk (below_step HB1.out hb); clear hb)
            refine bodyPost_ret (results_tmp4_ rfl _ _ _) rfl ?_
            exact ⟨.inr ⟨f, a, HX.out, hla, by show Ending.returned (.tuple #[.int .i64 f, .int .i64 _, .string a, .bool true]) = _; first | rfl | rw [hw2] | (congr 4; omega)⟩, HB2.out⟩
          | false =>
            have HX := NEXT.out (.inr ⟨by rw [← HT.out]; exact h95, hnm⟩)
            rw [hnm] at HN
            go_wp2_with (go_at_call 76; refine (HN.out _ (by omega)).mono ?_; rintro e w2 ⟨rfl, hb⟩; have HB2 := Aside0.mk (below_step HB1.out hb); clear hb)
            go_roundg (s.size - (f + 1))
            case measure => have := HK.out; have := HPA.out.2.2.2; omega
            case rel => exact ⟨f + 1, by first | rfl | (congr 1; omega), ⟨by omega, Nat.le_refl _⟩, HX, HB2⟩
end Go.Proofs.Ytpobgpfkohlokaa.PC
