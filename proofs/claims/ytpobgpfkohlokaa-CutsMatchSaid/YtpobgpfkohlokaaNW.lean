/- CutsNames, walked. -/
import Derived.Test.YtpobgpfkohlokaaNB
import Derived.Test.YtpobgpfkohlokaaNP
import Derived.Test.YtpobgpfkohlokaaLK
import Derived.Laws.IdiomStrings
namespace Go.Proofs.Ytpobgpfkohlokaa.PC
open Go.RowKit Go.Lib Go.Shelf Go.Maps Go.Proofs.YtpobgpfkohlokaaW.PrintWords Go.Proofs.YtpobgpfkohlokaaW.PrintLast Go.Proofs.YtpobgpfkohlokaaW.PrintMore
set_option linter.unusedVariables false
set_option linter.unusedSimpArgs false
theorem bring20 (n : Int) : ∃ r : Nat, driftnetref00_Bring.f n 20 = some (r : Int) ∧ r < 20 := by
  unfold driftnetref00_Bring.f
  rw [if_neg (by omega), if_neg (by omega)]
  have h1 : -20 < Int.tmod n 20 := by
    have h := Int.tmod_lt_of_pos (-n) (show (0 : Int) < 20 by omega)
    rw [Int.neg_tmod] at h
    omega
  have h2 : Int.tmod n 20 < 20 := Int.tmod_lt_of_pos n (by omega)
  by_cases h : Int.tmod n 20 < 0
  · rw [if_pos h, w64 (by omega) (by omega)]
    exact ⟨(Int.tmod n 20 + 20).toNat, by rw [Int.toNat_of_nonneg (by omega)], by omega⟩
  · rw [if_neg h]
    exact ⟨(Int.tmod n 20).toNat, by rw [Int.toNat_of_nonneg (by omega)], by omega⟩
theorem repeatL_120 : ∀ i, repeatL [Nat.toUInt8 120] i = repL i
  | 0 => rfl
  | i + 1 => by
    show [Nat.toUInt8 120] ++ repeatL [Nat.toUInt8 120] i = _
    rw [repeatL_120 i]
    rfl
theorem cell_lt {w : World} {a : Addr} {v : Value} (h : w.cell? a = some v) : a.block < w.heap.size := by
  rcases Nat.lt_or_ge a.block w.heap.size with h1 | h1
  · exact h1
  · simp [World.cell?, Array.getElem?_eq_none h1] at h
theorem nw_eq {a b : ByteArray} (h : a.data.toList = b.data.toList) : a = b := by
  cases a; cases b
  congr 1
  exact Array.toList_inj.1 h
theorem pat_next (od : Nat → Bool) (i : Nat) : patC ((List.range (i + 1)).map (entL od)) = patC ((List.range i).map (entL od)) ++ (60 :: ((entL od i).1 ++ [62, 59])) := by
  rw [List.range_succ, List.map_append, patC_append]
  rfl
theorem line_next (i : Nat) : lineL (List.range (i + 1)) = lineL (List.range i) ++ (repL i ++ [59]) := by
  rw [List.range_succ, lineL_append]
  rfl
theorem want_next (od : Nat → Bool) (i : Nat) : wantL od (i + 1) = wantL od i ++ (if od i then [] else [nmL i]) := by
  unfold wantL
  rw [List.range_succ, List.filter_append, List.map_append]
  congr 1
  show (List.filter _ [i]).map nmL = _
  cases h : od i <;> simp [h]
theorem bl_inj {l m : List ByteArray} (h : l.map bl = m.map bl) : l = m := by
  induction l generalizing m with
  | nil => cases m with
    | nil => rfl
    | cons b m => cases h
  | cons a l ih => cases m with
    | nil => cases h
    | cons b m =>
      have h1 : bl a = bl b := (List.cons.inj h).1
      have h2 := ih (List.cons.inj h).2
      rw [h2, show a = b from nw_eq h1]
theorem plB_inj {l m : List PB} (h : l.map plB = m.map plB) : l = m := by
  induction l generalizing m with
  | nil => cases m with
    | nil => rfl
    | cons b m => cases h
  | cons a l ih => cases m with
    | nil => cases h
    | cons b m =>
      have h1 : plB a = plB b := (List.cons.inj h).1
      have h2 := ih (List.cons.inj h).2
      have h3 : a = b := Prod.ext (nw_eq (congrArg Prod.fst h1)) (nw_eq (congrArg Prod.snd h1))
      rw [h2, h3]
/-- Labels that are the parts of such a line. -/
theorem ino_out {od : Nat → Bool} {k : Nat} (hk : k < 20) {ds : List PB} (h : ds.map plB = outL od (List.range k)) : InO ds ∧ ∀ x ∈ ds, x.1.size ≤ 1000 := by
  have hm : ∀ x ∈ ds, ∃ i, 0 < i ∧ plB x = (nmL i, repL i) := by
    intro x hx
    have h1 : plB x ∈ outL od (List.range k) := by rw [← h]; exact List.mem_map_of_mem hx
    obtain ⟨i, hi, he⟩ := List.mem_map.1 h1
    refine ⟨i, ?_, he.symm⟩
    have := (List.mem_filter.1 hi).2
    simp at this
    exact this.2
  refine ⟨⟨?_, ?_⟩, ?_⟩
  · have := up_outL od k hk
    rw [← h] at this
    exact List.pairwise_map.1 this
  · intro x hx
    obtain ⟨i, hi, he⟩ := hm x hx
    have : x.2.data.toList = repL i := congrArg Prod.snd he
    rw [this]
    unfold repL
    cases i with
    | zero => omega
    | succ i => simp [List.replicate_succ]
  · intro x hx
    obtain ⟨i, hi, he⟩ := hm x hx
    have : x.1.data.toList = nmL i := congrArg Prod.fst he
    have h2 := congrArg List.length this
    rw [lk_size] at h2
    rw [h2]
    show 1 ≤ 1000
    omega
set_option maxHeartbeats 16000000 in
set_option maxRecDepth 100000 in
theorem names_law (n bits : Int) (w : World) (m : Int) (hm : w.cell? ⟨0, 0, none⟩ = some (.int .i64 m)) :
    Calls Try.prog 7 #[.int .i64 n, .int .i64 bits] w fun e w' => e = .returned (.bool true) ∧ Below w.heap.size w w' := by
  obtain ⟨k, hk, hk20⟩ := bring20 n
  obtain ⟨od, hod⟩ : ∃ od : Nat → Bool, od = fun i => (Go.bits BinOp.and IntKind.i64 (bits / 2 ^ i) 1 == 1) := ⟨_, rfl⟩
  have HOD := Aside0.mk hod
  clear hod
  have HM0 := Aside0.mk hm
  have HX0 := Aside0.mk (cell_lt hm)
  go_enter Try.func7, Try.ntmps7
  go_wp2_with fail
  refine (works_calls w m HM0.out).mono ?_
  rintro e w1 ⟨rfl, hb1⟩
  have HB1 := Aside0.mk hb1
  have HM1 := Aside0.mk (cell_bl hb1 HM0.out)
  clear hb1 hm HM0
  go_wp2_with fail
  refine (driftnetref00_Bring.calls n 20 (k : Int) w1 hk).mono ?_
  rintro e w2 ⟨rfl, hd2⟩
  clear hk
  have HB2 := Aside0.mk (below_then HB1.out hd2.below)
  have HM2 := Aside0.mk (cell_bl hd2.below HM1.out)
  clear hd2 HB1 HM1
  go_wp2_with fail
  go_loopg [6, 7, 8, 9, 10] k (fun g1 v6 v7 v8 v9 v10 wr => ∃ (i : Nat) (pa al li : ByteArray) (wa : List ByteArray) (A9 : Option Addr) (c9 : Nat), v10 = .int .i64 i ∧ v6 = .string pa ∧ v7 = .string al ∧ v8 = .string li ∧ v9 = .slice A9 wa.length c9 ∧ i ≤ k ∧ Aside0 (i + g1 = k) ∧ pa.size = 4 * i ∧ al.size = 4 * i ∧ li.size ≤ 21 * i ∧ wa.length ≤ i ∧ Aside0 (pa.data.toList = patC ((List.range i).map (entL od)) ∧ al.data.toList = patC ((List.range i).map (entL (fun _ => false))) ∧ li.data.toList = lineL (List.range i) ∧ wa.map bl = wantL od i) ∧ Aside0 (RowT w.heap.size wr (.slice A9 wa.length c9) wa) ∧ Aside0 (Below w.heap.size w wr) ∧ Aside0 (wr.cell? ⟨0, 0, none⟩ = some (.int .i64 m)))
  case atStart => exact ⟨0, ⟨#[]⟩, ⟨#[]⟩, ⟨#[]⟩, [], none, 0, rfl, rfl, rfl, rfl, rfl, Nat.zero_le _, ⟨by omega⟩, rfl, rfl, Nat.le_refl _, Nat.le_refl _, ⟨rfl, rfl, rfl, rfl⟩, ⟨⟨rfl, .inl ⟨rfl, rfl⟩⟩⟩, HB2, HM2⟩
  case round =>
    obtain ⟨i, pa, al, li, wa, A9, c9, rfl, rfl, rfl, rfl, rfl, hik, HI, zp, za, zl, zw, HDT, HR, HB, HM⟩ := hrel
    clear HB2 HM2
    by_cases hlt : i < k
    · have hz : (i : Int) < (k : Int) := by omega
      have e1 : IntKind.i64.wrap ((i : Int) + 1) = ((i + 1 : Nat) : Int) := (i64_w _).trans ((w64 (by omega) (by omega)).trans (by omega))
      have e2 : IntKind.i64.wrap (97 + (i : Int)) = ((97 + i : Nat) : Int) := (i64_w _).trans ((w64 (by omega) (by omega)).trans (by omega))
      have e3 : IntKind.u8.wrap (((97 + i : Nat) : Int)) = ((97 + i : Nat) : Int) := by simp [IntKind.wrap, IntKind.bits, IntKind.signed]; omega
      obtain ⟨nm, hnm⟩ : ∃ nm : ByteArray, nm = ⟨#[(97 + i).toUInt8]⟩ := ⟨_, rfl⟩
      have znm : nm.size = 1 := by rw [hnm]; rfl
      have hcv : Sem.run Try.prog (convert 52 9 (.slice (some ⟨wr.heap.size, 0, none⟩) 1 1)) (wr.alloc (.cells #[.int .u8 (97 + (i : Int))] 5)) = .ok (.string nm) (wr.alloc (.cells #[.int .u8 (97 + (i : Int))] 5)) := by
        rw [hnm]
        refine run_convert_bytes_back _ 52 9 5 ⟨wr.heap.size, 0, none⟩ 1 [(97 + i).toUInt8] Try.underlying52 Try.underlying5 Try.underlying9 (fun j hj => ?_)
        obtain rfl : j = 0 := by simp at hj; omega
        refine ((blk_cell (World.alloc_heap_new wr _) 0).trans ?_)
        show some (Value.int .u8 (97 + (i : Int))) = some (Value.int .u8 (((97 + i).toUInt8.toNat : Nat) : Int))
        have : (97 + i).toUInt8.toNat = 97 + i := by
          show (97 + i) % 256 = 97 + i
          omega
        rw [this]
        rfl
      have HNM := Aside0.mk hnm
      clear hnm
      go_wp2_with fail
      all_goals (first | (exfalso; omega) | skip)
      have HB3 := Aside0.mk (below_alloc HB.out (.cells #[.int .u8 (97 + (i : Int))] 5))
      have HM3 := Aside0.mk (cell_bl (below_alloc (Below.refl _ _) (.cells #[.int .u8 (97 + (i : Int))] 5)) HM.out)
      have HR3 := Aside0.mk (RowT.kb HR.out ((Kb.refl (fun _ => False) wr).alloc (.cells #[.int .u8 (97 + (i : Int))] 5)) (fun _ _ h => h))
      refine (repeat_calls i 120 (by omega) (by omega) _).mono ?_
      rintro e w3 ⟨⟨rp, rfl, hrp, zrp⟩, hb3⟩
      have HB4 := Aside0.mk (below_then HB3.out hb3)
      have HM4 := Aside0.mk (cell_bl hb3 HM3.out)
      have HR4 := Aside0.mk (RowT.kb HR3.out (Kb.of_below (S := fun _ => False) hb3) (fun _ _ h => h))
      have HRP := Aside0.mk (show rp.data.toList = repL i by rw [hrp, repeatL_120])
      clear hb3 hrp HR HM HB HR3 HM3 HB3 hcv
      have HAL := Aside0.mk (show (al ++ (⟨#[60]⟩ : ByteArray) ++ nm ++ (⟨#[62, 59]⟩ : ByteArray)).data.toList = patC ((List.range (i + 1)).map (entL (fun _ => false))) by
        rw [pat_next, lk_app, lk_app, lk_app, HDT.out.2.1, HNM.out]
        simp [entL, nmL])
      have HLI := Aside0.mk (show (li ++ rp ++ (⟨#[59]⟩ : ByteArray)).data.toList = lineL (List.range (i + 1)) by
        rw [line_next, lk_app, lk_app, HDT.out.2.2.1, HRP.out]
        simp)
      cases hb : od i with
      | true =>
        have hb1 : (Go.bits BinOp.and IntKind.i64 (bits / 2 ^ i) 1 == 1) = true := by rw [HOD.out] at hb; exact hb
        have HPA := Aside0.mk (show (pa ++ (⟨#[60, 95, 62, 59]⟩ : ByteArray)).data.toList = patC ((List.range (i + 1)).map (entL od)) by
          rw [pat_next, lk_app, HDT.out.1]
          unfold entL
          rw [hb]
          rfl)
        have HWA := Aside0.mk (show wa.map bl = wantL od (i + 1) by rw [want_next, hb, HDT.out.2.2.2]; simp)
        clear hb
        go_wp2_with fail
        all_goals (first | (exfalso; omega) | skip)
        go_roundg (k - (i + 1))
        case measure => have := HI.out; omega
        case rel => exact ⟨i + 1, _, _, _, wa, A9, c9, by first | rfl | rw [e1], rfl, rfl, rfl, rfl, hlt, ⟨by have := HI.out; omega⟩, by (simp only [ByteArray.size_append]; show pa.size + 4 = _; omega), by (simp only [ByteArray.size_append]; show al.size + 1 + nm.size + 2 = _; omega), by (simp only [ByteArray.size_append]; show li.size + rp.size + 1 ≤ _; omega), by omega, ⟨HPA.out, HAL.out, HLI.out, HWA.out⟩, HR4, HB4, HM4⟩
      | false =>
        have hb1 : (Go.bits BinOp.and IntKind.i64 (bits / 2 ^ i) 1 == 1) = false := by rw [HOD.out] at hb; exact hb
        have HPA := Aside0.mk (show (pa ++ (⟨#[60]⟩ : ByteArray) ++ nm ++ (⟨#[62, 59]⟩ : ByteArray)).data.toList = patC ((List.range (i + 1)).map (entL od)) by
          rw [pat_next, lk_app, lk_app, lk_app, HDT.out.1, HNM.out]
          simp [entL, nmL, hb])
        have HWA := Aside0.mk (show (wa ++ [nm]).map bl = wantL od (i + 1) by
          rw [want_next, hb, List.map_append, HDT.out.2.2.2]
          congr 1
          show [nm.data.toList] = [nmL i]
          rw [HNM.out]
          rfl)
        clear hb
        go_wp2_with (first | ((with_reducible refine gate_builtin (b := .append) (xs := #[.tmp 54, .tmp 56]) rfl ?_); at_builtin; refine append_T (u := nm) rfl (.tmp 54) (.tmp 56) rfl rfl HR4.out.alloc rfl (by go_simp) (by omega) (by have := HB4.out.size; simp only [World.size_alloc]; omega) ?_; intro g2 c2 w4 hr2 hk2; have HR5 := Aside0.mk hr2; have HB5 := Aside0.mk (below_kb (below_alloc HB4.out _) hk2); have HM5 := Aside0.mk (Kb.cell (cell_bl (below_alloc (Below.refl _ _) _) HM4.out) hk2 (by intro h; have h2 := h; simp only [] at h2; exact absurd h2 (by have := HX0.out; omega))); clear hr2 hk2))
        all_goals (first | (exfalso; omega) | skip)
        go_roundg (k - (i + 1))
        case measure => have := HI.out; omega
        case rel => exact ⟨i + 1, _, _, _, wa ++ [nm], _, c2, by first | rfl | rw [e1], rfl, rfl, rfl, by rw [List.length_append]; rfl, hlt, ⟨by have := HI.out; omega⟩, by (simp only [ByteArray.size_append]; show pa.size + 1 + nm.size + 2 = _; omega), by (simp only [ByteArray.size_append]; show al.size + 1 + nm.size + 2 = _; omega), by (simp only [ByteArray.size_append]; show li.size + rp.size + 1 ≤ _; omega), by (rw [List.length_append]; show wa.length + 1 ≤ _; omega), ⟨HPA.out, HAL.out, HLI.out, HWA.out⟩, ⟨by rw [List.length_append]; exact HR5.out⟩, HB5, HM5⟩
    · obtain rfl : i = k := by omega
      have hz : ¬ (i : Int) < (i : Int) := by omega
      have hpl : newP pa.data.toList = if wantL od i = [] then none else some ([], (List.range i).map (entL od)) := by rw [HDT.out.1]; exact newP_names od i hk20
      have hpz : pa.size < 1099511627776 := by omega
      by_cases hw : wantL od i = []
      · rw [if_pos hw] at hpl
        have hwa : wa = [] := by
          have := HDT.out.2.2.2
          rw [hw] at this
          exact List.map_eq_nil_iff.1 this
        subst hwa
        go_wp2_with fail
        refine (new_none pa wr hpz hpl).mono ?_
        rintro e w5 ⟨rfl, hb⟩
        have HB5 := Aside0.mk (below_then HB.out hb)
        clear hb hpl
        go_wp2_with fail
        go_ret
        exact ⟨rfl, HB5.out⟩
      · rw [if_neg hw] at hpl
        have hi0 : 0 < i := by
          rcases Nat.eq_zero_or_pos i with h | h
          · subst h; exact absurd rfl hw
          · exact h
        have hwl : ¬ (wa.length : Int) = 0 := by
          intro h
          have h0 : wa = [] := List.eq_nil_of_length_eq_zero (by omega)
          have := HDT.out.2.2.2
          rw [h0] at this
          exact hw this.symm
        have hcut := cutP_all i hk20 hi0
        have hmat := matchP_names od i hk20 hi0
        have HW := Aside0.mk hw
        rw [← HDT.out.2.1, ← HDT.out.2.2.1] at hcut
        rw [← HDT.out.2.2.1] at hmat
        have hz2 : al.size < 1099511627776 := by omega
        have hz3 : li.size < 4294967281 := by omega
        have hwl2 : wa.length ≤ 1000000 := by omega
        have hwlz : ∀ q ∈ wa, q.size ≤ 1000 := by
          intro q hq
          have h1 : bl q ∈ wantL od i := by rw [← HDT.out.2.2.2]; exact List.mem_map_of_mem hq
          obtain ⟨j, -, he⟩ := List.mem_map.1 h1
          have := congrArg List.length he
          rw [show (bl q).length = q.size from lk_size q] at this
          rw [← this]
          show 1 ≤ 1000
          omega
        have HWZ := Aside0.mk hwlz
        clear hw hwlz
        go_wp2_with fail
        refine (new_some pa wr hpz _ hpl).mono ?_
        rintro e w5 ⟨ca, cl, cv, hceq, hnd, hcl, rfl, hca, hb⟩
        have hca0 : ca.data.toList = [] := (Prod.mk.inj hceq).1.symm
        have hcl0 : cl.map plB = (List.range i).map (entL od) := (Prod.mk.inj hceq).2.symm
        have HC5 := Aside0.mk hca
        have HND := Aside0.mk hnd
        have HCE := Aside0.mk (And.intro hca0 hcl0)
        have HB5 := Aside0.mk (below_then HB.out hb)
        have HM5 := Aside0.mk (cell_bl hb HM.out)
        have HR5 := Aside0.mk (RowT.kb HR.out (Kb.of_below (S := fun _ => False) hb) (fun _ _ h => h))
        rw [← hca0, ← hcl0] at hmat
        clear hb hca hnd hca0 hcl0 hceq hpl
        go_wp2_with fail
        refine (cut_some al li w5 hz2 hz3 m HM5.out _ hcut).mono ?_
        rintro e w6 ⟨u6, d6, hd6, rfl, hr6, hb⟩
        have HD6 := Aside0.mk hd6.symm
        have HP6 := Aside0.mk hr6
        have HB6 := Aside0.mk (below_then HB5.out hb)
        have HM6 := Aside0.mk (cell_bl hb HM5.out)
        have HR6 := Aside0.mk (RowT.kb HR5.out (Kb.of_below (S := fun _ => False) hb) (fun _ _ h => h))
        have HC6 := Aside0.mk (HC5.out.kb (Kb.of_below (S := fun _ => False) hb) (fun _ _ h => h))
        have hl6 := cutP_len hcut
        rw [hd6, List.length_map] at hl6
        clear hb hd6 hcut hr6
        go_wp2_with fail
        refine (match_some w6 _ cv ca cl HC6.out hcl HND.out li hz3 m HM6.out _ hmat).mono ?_
        rintro e w7 ⟨u7, d7, hd7, rfl, hr7, hb⟩
        have HD7 := Aside0.mk hd7.symm
        have HP7 := Aside0.mk hr7
        have HP7' := Aside0.mk (RowP.kb HP6.out (Kb.of_below (S := fun _ => False) hb) (fun _ _ h => h))
        have HB7 := Aside0.mk (below_then HB6.out hb)
        have HR7 := Aside0.mk (RowT.kb HR6.out (Kb.of_below (S := fun _ => False) hb) (fun _ _ h => h))
        have HC7 := Aside0.mk (HC6.out.kb (Kb.of_below (S := fun _ => False) hb) (fun _ _ h => h))
        have hl7 := matchP_len hmat
        rw [hd7, List.length_map, List.length_map] at hl7
        clear hb hd7 hmat hr7
        go_wp2_with fail
        refine (names_calls w7 _ cv ca cl HC7.out hcl).mono ?_
        rintro e w8 ⟨⟨u8, rfl, hu8⟩, hb⟩
        have hnn : namesB cl = wa := by
          refine bl_inj ?_
          show (namesB cl).map (fun n => n.data.toList) = wa.map bl
          rw [← namesP_map, HCE.out.2, HDT.out.2.2.2]
          exact namesP_ents od _ (fun j hj => by have := List.mem_range.1 hj; omega)
        rw [hnn] at hu8
        have HU8 := Aside0.mk hu8
        have HP8 := Aside0.mk (RowP.kb HP7.out (Kb.of_below (S := fun _ => False) hb) (fun _ _ h => h))
        have HP8' := Aside0.mk (RowP.kb HP7'.out (Kb.of_below (S := fun _ => False) hb) (fun _ _ h => h))
        have HB8 := Aside0.mk (below_then HB7.out hb)
        have HR8 := Aside0.mk (RowT.kb HR7.out (Kb.of_below (S := fun _ => False) hb) (fun _ _ h => h))
        clear hb hu8 hnn
        go_wp2_with fail
        refine (texts_true wa _ _ _ _ w8 HU8.out HR8.out hwl2).mono ?_
        rintro e w9 ⟨rfl, hb⟩
        have HP9 := Aside0.mk (RowP.kb HP8.out (Kb.of_below (S := fun _ => False) hb) (fun _ _ h => h))
        have HP9' := Aside0.mk (RowP.kb HP8'.out (Kb.of_below (S := fun _ => False) hb) (fun _ _ h => h))
        have HB9 := Aside0.mk (below_then HB8.out hb)
        have HR9 := Aside0.mk (RowT.kb HR8.out (Kb.of_below (S := fun _ => False) hb) (fun _ _ h => h))
        clear hb
        obtain ⟨hio, hxs⟩ := ino_out hk20 HD6.out
        have hby := by_calls d6 wa _ _ _ _ w9 HP9'.out (by omega) hio hxs HR9.out hwl2 HWZ.out
        have hbe : byB d6 wa = d7 := by
          refine plB_inj ?_
          unfold byB
          have h1 : (d6.filter (fun x => decide (x.1.data.toList ∈ wa.map bl))).map plB = (d6.map plB).filter (fun p => decide (p.1 ∈ wa.map bl)) := by
            rw [List.filter_map]
            rfl
          rw [h1, HD6.out, HDT.out.2.2.2, HD7.out]
          exact outL_by od i hk20
        rw [hbe] at hby
        clear hio hxs hbe
        go_wp2_with fail
        refine hby.mono ?_
        rintro e x1 ⟨v1, rfl, hv1, hb⟩
        have HV1 := Aside0.mk hv1
        have HPx := Aside0.mk (RowP.kb HP9.out (Kb.of_below (S := fun _ => False) hb) (fun _ _ h => h))
        have HBx := Aside0.mk (below_then HB9.out hb)
        clear hb hby hv1
        go_wp2_with fail
        refine (same_true d7 _ _ _ _ x1 HPx.out HV1.out (by omega)).mono ?_
        rintro e x2 ⟨rfl, hb⟩
        have HBy := Aside0.mk (below_then HBx.out hb)
        clear hb
        go_wp2_with fail
        go_ret
        exact ⟨rfl, HBy.out⟩
end Go.Proofs.Ytpobgpfkohlokaa.PC
