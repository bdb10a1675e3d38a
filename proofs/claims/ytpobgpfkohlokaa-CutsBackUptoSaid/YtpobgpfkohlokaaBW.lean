/- CutsBack, walked. -/
import Derived.Test.YtpobgpfkohlokaaBP
import Derived.Test.YtpobgpfkohlokaaLI
import Derived.Test.YtpobgpfkohlokaaNW
namespace Go.Proofs.Ytpobgpfkohlokaa.PC
open Go.RowKit Go.Lib Go.Shelf Go.Maps Go.Proofs.YtpobgpfkohlokaaW.PrintWords Go.Proofs.YtpobgpfkohlokaaW.PrintLast Go.Proofs.YtpobgpfkohlokaaW.PrintMore
attribute [local go_sem] max2_int min2_int max_two min_two
set_option linter.unusedVariables false
set_option linter.unusedSimpArgs false
theorem ino_q {qs : List (BL × BL)} {wa : List PB} (hl : qs.length ≤ 10) (h : wa.map plB = outQ 0 qs) : InO wa ∧ (∀ p ∈ wa, ∃ j, j < qs.length ∧ p.1.data.toList = nmL j) := by
  have hm : ∀ p ∈ wa, ∃ j, 0 ≤ j ∧ j < 0 + qs.length ∧ (plB p).1 = nmL j ∧ (plB p).2 ≠ [] := by
    intro p hp
    exact outQ_mem qs 0 _ (by rw [← h]; exact List.mem_map_of_mem hp)
  refine ⟨⟨?_, ?_⟩, ?_⟩
  · have := outQ_up qs 0 (by omega)
    rw [← h] at this
    exact List.pairwise_map.1 this
  · intro p hp
    obtain ⟨j, -, -, -, h4⟩ := hm p hp
    exact h4
  · intro p hp
    obtain ⟨j, -, h2, h3, -⟩ := hm p hp
    exact ⟨j, by omega, h3⟩
theorem setB_map {wa : List PB} {n s : ByteArray} {o : List (BL × BL)} (h : wa.map plB = o) : (setB wa n s).map plB = o ++ (if s.data.toList = [] then [] else [(n.data.toList, s.data.toList)]) := by
  unfold setB
  by_cases h0 : s.data.toList = []
  · rw [if_pos h0, if_pos h0, List.append_nil, h]
  · rw [if_neg h0, if_neg h0, List.map_append, h]
    rfl
set_option maxHeartbeats 32000000 in
set_option maxRecDepth 100000 in
theorem back_law (l : List ByteArray) (pcs : List Int) (bh : ByteArray) (A0 A1 : Option Addr) (c0 c1 : Nat) (w : World) (h0 : Kd.string.C w A0 l.length l) (hc0 : l.length ≤ c0) (h1 : (Kd.int .i64).C w A1 pcs.length pcs) (hc1 : pcs.length ≤ c1) (hbh : bh.size ≤ 1048576) (m : Int) (hm : w.cell? ⟨0, 0, none⟩ = some (.int .i64 m)) :
    Calls Try.prog 6 #[.slice A0 l.length c0, .slice A1 pcs.length c1, .string bh] w fun e w' => e = .returned (.bool true) ∧ Below w.heap.size w w' := by
  have HM0 := Aside0.mk hm
  have H0 := Aside0.mk h0
  have H1 := Aside0.mk h1
  obtain ⟨nl, hnl⟩ : ∃ nl, nl = l.length := ⟨_, rfl⟩
  obtain ⟨np, hnp⟩ : ∃ np, np = pcs.length := ⟨_, rfl⟩
  rw [← hnl] at hc0 ⊢
  rw [← hnp] at hc1 ⊢
  have HNL := Aside0.mk hnl
  have HNP := Aside0.mk hnp
  clear hm h0 h1 hnl hnp
  go_enter Try.func6, Try.ntmps6
  go_wp2_with fail
  refine (works_calls w m HM0.out).mono ?_
  rintro e w1 ⟨rfl, hb1⟩
  have HB1 := Aside0.mk hb1
  have HM1 := Aside0.mk (cell_bl hb1 HM0.out)
  clear hb1
  go_wp2_with fail
  go_loopg [7, 8, 9, 10] 10 (fun g1 v7 v8 v9 v10 wr => ∃ (i : Nat) (qs : List (BL × BL)) (pa li : ByteArray) (wa : List PB) (A9 : Option Addr) (c9 : Nat), v10 = .int .i64 i ∧ v7 = .string pa ∧ v8 = .string li ∧ v9 = .slice A9 wa.length c9 ∧ i ≤ 10 ∧ i ≤ nl ∧ Aside0 (i + g1 = 10) ∧ pa.size ≤ 1 + 6 * i ∧ li.size ≤ 1 + 63 * i ∧ wa.length ≤ i ∧ Aside0 (qs.length = i ∧ (∀ q ∈ qs, OkQ q) ∧ pa.data.toList = [60] ++ patC (psQ 0 qs) ∧ li.data.toList = [60] ++ lineQ qs ∧ wa.map plB = outQ 0 qs) ∧ Aside0 (RowP w.heap.size wr 74 (.slice A9 wa.length c9) wa) ∧ Aside0 (Below w.heap.size w wr) ∧ Aside0 (wr.cell? ⟨0, 0, none⟩ = some (.int .i64 m)))
  case atStart => exact ⟨0, [], ⟨#[60]⟩, ⟨#[60]⟩, [], none, 0, rfl, rfl, rfl, rfl, by omega, Nat.zero_le _, ⟨rfl⟩, Nat.le_refl _, Nat.le_refl _, Nat.le_refl _, ⟨rfl, (by intro q hq; cases hq), rfl, rfl, rfl⟩, ⟨⟨rfl, .inl ⟨rfl, rfl⟩⟩⟩, HB1, HM1⟩
  case round =>
    obtain ⟨i, qs, pa, li, wa, A9, c9, rfl, rfl, rfl, rfl, hi10, hinl, HI, zp, zl, zw, HDT, HR, HB, HM⟩ := hrel
    clear HB1 HM1
    have hz100 : ∀ x : Nat, x = x := fun _ => rfl
    clear hz100
    by_cases h1 : i < nl
    · have hz1 : (i : Int) < (nl : Int) := by omega
      by_cases h2 : i < 10
      · have hz2 : (i : Int) < 10 := by omega
        by_cases h3 : i < np
        · have hz3 : (i : Int) < (np : Int) := by omega
          obtain ⟨ad0, rfl, hx0⟩ := Kd.at_string H0.out (i : Int) (by omega) (by have := HNL.out; omega)
          rw [Int.toNat_natCast] at hx0
          obtain ⟨x, hx⟩ : ∃ x, x = rdOf ByteArray.empty l (i : Int) := ⟨_, rfl⟩
          rw [← hx] at hx0
          clear hx
          have cx := cell_bl HB.out hx0
          obtain ⟨c, hc, hcs1, hcs2⟩ : ∃ c : Nat, (if (60 : Int) < (x.size : Int) then (60 : Int) else (x.size : Int)) = (c : Int) ∧ c ≤ x.size ∧ c ≤ 60 := by
            by_cases h : (60 : Int) < (x.size : Int)
            · exact ⟨60, by rw [if_pos h]; rfl, by omega, Nat.le_refl _⟩
            · exact ⟨x.size, by rw [if_neg h], Nat.le_refl _, by omega⟩
          clear hx0
          obtain ⟨ad1, rfl, hx1⟩ := Kd.at_int H1.out (i : Int) (by omega) (by have := HNP.out; omega)
          rw [Int.toNat_natCast] at hx1
          obtain ⟨y, hy⟩ : ∃ y, y = rd pcs (i : Int) := ⟨_, rfl⟩
          rw [← hy] at hx1
          clear hy
          have cy := cell_bl HB.out hx1
          obtain ⟨p, hp, hpl⟩ := piece_in y
          have HP8 := Aside0.mk (show p.data.toList ∈ pieceL8 from List.mem_cons_of_mem _ hpl)
          clear hx1
          go_wp2_with fail
          refine (driftnetlaw18_piece.calls y p _ hp).mono ?_
          rintro e w2 ⟨rfl, hb⟩
          have HB2 := Aside0.mk (below_then HB.out hb)
          have HM2 := Aside0.mk (cell_bl hb HM.out)
          have HR2 := Aside0.mk (RowP.kb HR.out (Kb.of_below (S := fun _ => False) hb) (fun _ _ h => h))
          have cx2 := cell_bl hb cx
          clear hb hp hpl cx cy HB HM HR
          go_wp2_with fail
          have hps : p.size ≤ 3 := by
            have := (piece8_ok _ HP8.out).2.2
            rw [lk_size] at this
            exact this
          have hpne := (piece8_ok _ HP8.out).1
          go_quiet (fail)
          obtain ⟨t, ht⟩ : ∃ t, t = x.extract 0 c := ⟨_, rfl⟩
          rw [← ht]
          have htz : t.size ≤ 60 := by
            rw [ht, ← lk_size, ext_take, List.length_take]
            omega
          have HB3 := Aside0.mk (pw_below_drewN HB2.out nq)
          have HM3 := Aside0.mk (show (w2.drewN nq).cell? ⟨0, 0, none⟩ = some (.int .i64 m) from cell_bl (pw_below_drewN (Below.refl _ _) nq) HM2.out)
          have HR3 := Aside0.mk (RowP.kb HR2.out ((Kb.refl (fun _ => False) _).drewN nq) (fun _ _ h => h))
          clear ht cx2 hc hcs1 hcs2 HB2 HM2 HR2
          generalize w2.drewN nq = w3 at HB3 HM3 HR3 ⊢
          obtain ⟨z, hz⟩ : ∃ z, z = index (t ++ p).data.toList p.data.toList := ⟨_, rfl⟩
          have hix := Try.strings_Index (t ++ p) p m w3 (by simp only [ByteArray.size_append]; omega) HM3.out
          rw [← hz] at hix
          have HZ := Aside0.mk hz
          clear hz
          go_wp2_with fail
          all_goals (first | (exfalso; omega) | skip)
          refine hix.mono ?_
          rintro e w4 ⟨rfl, hw⟩
          subst w4
          clear hix
          obtain ⟨nm, hnm⟩ : ∃ nm : ByteArray, nm = ⟨#[(97 + i).toUInt8]⟩ := ⟨_, rfl⟩
          have znm : nm.size = 1 := by rw [hnm]; rfl
          have e1 : IntKind.i64.wrap ((i : Int) + 1) = ((i + 1 : Nat) : Int) := (i64_w _).trans ((w64 (by omega) (by omega)).trans (by omega))
          have e2 : IntKind.i64.wrap (97 + (i : Int)) = ((97 + i : Nat) : Int) := (i64_w _).trans ((w64 (by omega) (by omega)).trans (by omega))
          have e3 : IntKind.u8.wrap (((97 + i : Nat) : Int)) = ((97 + i : Nat) : Int) := by simp [IntKind.wrap, IntKind.bits, IntKind.signed]; omega
          have hcv : Sem.run Try.prog (convert 52 9 (.slice (some ⟨w3.heap.size, 0, none⟩) 1 1)) (w3.alloc (.cells #[.int .u8 (97 + (i : Int))] 5)) = .ok (.string nm) (w3.alloc (.cells #[.int .u8 (97 + (i : Int))] 5)) := by
            rw [hnm]
            refine run_convert_bytes_back _ 52 9 5 ⟨w3.heap.size, 0, none⟩ 1 [(97 + i).toUInt8] Try.underlying52 Try.underlying5 Try.underlying9 (fun j hj => ?_)
            obtain rfl : j = 0 := by simp at hj; omega
            refine ((blk_cell (World.alloc_heap_new w3 _) 0).trans ?_)
            show some (Value.int .u8 (97 + (i : Int))) = some (Value.int .u8 (((97 + i).toUInt8.toNat : Nat) : Int))
            have : (97 + i).toUInt8.toNat = 97 + i := by
              show (97 + i) % 256 = 97 + i
              omega
            rw [this]
            rfl
          have HNM := Aside0.mk (show nm.data.toList = nmL i by rw [hnm]; rfl)
          clear hnm
          have HB4 := Aside0.mk (below_alloc HB3.out (.cells #[.int .u8 (97 + (i : Int))] 5))
          have HM4 := Aside0.mk (cell_bl (below_alloc (Below.refl _ _) (.cells #[.int .u8 (97 + (i : Int))] 5)) HM3.out)
          have HR4 := Aside0.mk (RowP.kb HR3.out ((Kb.refl (fun _ => False) _).alloc (.cells #[.int .u8 (97 + (i : Int))] 5)) (fun _ _ h => h))
          obtain ⟨hio, hjn⟩ := ino_q (by rw [HDT.out.1]; exact hi10) HDT.out.2.2.2.2
          have hlow : ∀ q ∈ wa, compareBytes q.1.data.toList nm.data.toList < 0 := by
            intro q hq
            obtain ⟨j, hj, he⟩ := hjn q hq
            rw [he, HNM.out]
            exact nm_lt i (by omega) j (by rw [HDT.out.1] at hj; exact hj)
          have HOK := Aside0.mk (okq_of (s := t.data.toList) HP8.out)
          have HIX := Aside0.mk (show index (t.data.toList ++ p.data.toList) p.data.toList = z by rw [HZ.out, lk_app])
          have HIO := Aside0.mk hio
          have HLW := Aside0.mk hlow
          clear hio hjn hlow HB3 HM3 HR3
          by_cases hzt : z = (t.size : Int)
          · have HOK2 := Aside0.mk (show OkQ (p.data.toList, t.data.toList) by have h := HOK.out; rw [HIX.out, if_pos (by rw [lk_size]; exact hzt)] at h; exact h)
            go_wp2_with fail
            all_goals (first | (exfalso; omega) | skip)
            have hset := set_calls wa nm t _ (.slice A9 wa.length c9) _ HR4.out (by omega) HIO.out HLW.out
            refine hset.mono ?_
            rintro e w5 ⟨u5, rfl, hu5, hb5⟩
            obtain ⟨A5, c5, rfl, hc5⟩ := own_slice hu5
            have HR5 := Aside0.mk (own_base (B' := w.heap.size) hu5 HB4.out.size)
            have HB5 := Aside0.mk (below_then HB4.out hb5)
            have HM5 := Aside0.mk (cell_bl hb5 HM4.out)
            have HWM := Aside0.mk (show (setB wa nm t).map plB = outQ 0 (qs ++ [(p.data.toList, (t).data.toList)]) by
              rw [setB_map HDT.out.2.2.2.2, outQ_snoc, HNM.out, HDT.out.1, Nat.zero_add])
            have hwl : (setB wa nm t).length ≤ i + 1 := by
              unfold setB
              split
              · omega
              · rw [List.length_append]; show wa.length + 1 ≤ i + 1; omega
            have HPD := Aside0.mk (show (pa ++ (⟨#[60]⟩ : ByteArray) ++ nm ++ (⟨#[62]⟩ : ByteArray) ++ p).data.toList = [60] ++ patC (psQ 0 (qs ++ [(p.data.toList, (t).data.toList)])) by
              rw [psQ_snoc, patC_append, lk_app, lk_app, lk_app, lk_app, HDT.out.2.2.1, HNM.out, HDT.out.1, Nat.zero_add]
              simp [patC])
            have HLD := Aside0.mk (show (li ++ t ++ p).data.toList = [60] ++ lineQ (qs ++ [(p.data.toList, (t).data.toList)]) by
              rw [lineQ_snoc, lk_app, lk_app, HDT.out.2.2.2.1]
              simp)
            have HQS := Aside0.mk (show ∀ q ∈ qs ++ [(p.data.toList, (t).data.toList)], OkQ q by
              intro q hq
              rcases List.mem_append.1 hq with hq | hq
              · exact HDT.out.2.1 q hq
              · rw [List.mem_singleton] at hq
                subst hq
                exact HOK2.out)
            clear hu5 hb5 hset
            go_wp2_with fail
            all_goals (first | (exfalso; omega) | skip)
            go_roundg (10 - (i + 1))
            case measure => have := HI.out; omega
            case rel => exact ⟨i + 1, qs ++ [(p.data.toList, (t).data.toList)], _, _, setB wa nm t, A5, c5, by first | rfl | rw [e1], rfl, rfl, rfl, by omega, by omega, ⟨by have := HI.out; omega⟩, by (simp only [ByteArray.size_append]; show pa.size + 1 + nm.size + 1 + p.size ≤ _; omega), by (simp only [ByteArray.size_append]; first | (show li.size + t.size + p.size ≤ _; omega) | (show li.size + 0 + p.size ≤ _; omega) | (show li.size + p.size ≤ _; omega)), hwl, ⟨by rw [List.length_append, HDT.out.1]; rfl, HQS.out, HPD.out, HLD.out, HWM.out⟩, HR5, HB5, HM5⟩
          · have HOK2 := Aside0.mk (show OkQ (p.data.toList, []) by have h := HOK.out; rw [HIX.out, if_neg (by rw [lk_size]; exact hzt)] at h; exact h)
            go_wp2_with fail
            all_goals (first | (exfalso; omega) | skip)
            have hset := set_calls wa nm (⟨#[]⟩ : ByteArray) _ (.slice A9 wa.length c9) _ HR4.out (by omega) HIO.out HLW.out
            refine hset.mono ?_
            rintro e w5 ⟨u5, rfl, hu5, hb5⟩
            obtain ⟨A5, c5, rfl, hc5⟩ := own_slice hu5
            have HR5 := Aside0.mk (own_base (B' := w.heap.size) hu5 HB4.out.size)
            have HB5 := Aside0.mk (below_then HB4.out hb5)
            have HM5 := Aside0.mk (cell_bl hb5 HM4.out)
            have HWM := Aside0.mk (show (setB wa nm (⟨#[]⟩ : ByteArray)).map plB = outQ 0 (qs ++ [(p.data.toList, ((⟨#[]⟩ : ByteArray)).data.toList)]) by
              rw [setB_map HDT.out.2.2.2.2, outQ_snoc, HNM.out, HDT.out.1, Nat.zero_add])
            have hwl : (setB wa nm (⟨#[]⟩ : ByteArray)).length ≤ i + 1 := by
              unfold setB
              split
              · omega
              · rw [List.length_append]; show wa.length + 1 ≤ i + 1; omega
            have HPD := Aside0.mk (show (pa ++ (⟨#[60]⟩ : ByteArray) ++ nm ++ (⟨#[62]⟩ : ByteArray) ++ p).data.toList = [60] ++ patC (psQ 0 (qs ++ [(p.data.toList, ((⟨#[]⟩ : ByteArray)).data.toList)])) by
              rw [psQ_snoc, patC_append, lk_app, lk_app, lk_app, lk_app, HDT.out.2.2.1, HNM.out, HDT.out.1, Nat.zero_add]
              simp [patC])
            have HLD := Aside0.mk (show (li ++ (⟨#[]⟩ : ByteArray) ++ p).data.toList = [60] ++ lineQ (qs ++ [(p.data.toList, ((⟨#[]⟩ : ByteArray)).data.toList)]) by
              rw [lineQ_snoc, lk_app, lk_app, HDT.out.2.2.2.1]
              simp)
            have HQS := Aside0.mk (show ∀ q ∈ qs ++ [(p.data.toList, ((⟨#[]⟩ : ByteArray)).data.toList)], OkQ q by
              intro q hq
              rcases List.mem_append.1 hq with hq | hq
              · exact HDT.out.2.1 q hq
              · rw [List.mem_singleton] at hq
                subst hq
                exact HOK2.out)
            clear hu5 hb5 hset
            go_wp2_with fail
            all_goals (first | (exfalso; omega) | skip)
            skip
            go_roundg (10 - (i + 1))
            case measure => have := HI.out; omega
            case rel => exact ⟨i + 1, qs ++ [(p.data.toList, ((⟨#[]⟩ : ByteArray)).data.toList)], _, _, setB wa nm (⟨#[]⟩ : ByteArray), A5, c5, by first | rfl | rw [e1], rfl, rfl, rfl, by omega, by omega, ⟨by have := HI.out; omega⟩, by (simp only [ByteArray.size_append]; show pa.size + 1 + nm.size + 1 + p.size ≤ _; omega), by (simp only [ByteArray.size_append]; first | (show li.size + t.size + p.size ≤ _; omega) | (show li.size + 0 + p.size ≤ _; omega) | (show li.size + p.size ≤ _; omega)), hwl, ⟨by rw [List.length_append, HDT.out.1]; rfl, HQS.out, HPD.out, HLD.out, HWM.out⟩, HR5, HB5, HM5⟩
        · have hz3 : ¬ (i : Int) < (np : Int) := by omega
          obtain ⟨ad0, rfl, hx0⟩ := Kd.at_string H0.out (i : Int) (by omega) (by have := HNL.out; omega)
          rw [Int.toNat_natCast] at hx0
          obtain ⟨x, hx⟩ : ∃ x, x = rdOf ByteArray.empty l (i : Int) := ⟨_, rfl⟩
          rw [← hx] at hx0
          clear hx
          have cx := cell_bl HB.out hx0
          obtain ⟨c, hc, hcs1, hcs2⟩ : ∃ c : Nat, (if (60 : Int) < (x.size : Int) then (60 : Int) else (x.size : Int)) = (c : Int) ∧ c ≤ x.size ∧ c ≤ 60 := by
            by_cases h : (60 : Int) < (x.size : Int)
            · exact ⟨60, by rw [if_pos h]; rfl, by omega, Nat.le_refl _⟩
            · exact ⟨x.size, by rw [if_neg h], Nat.le_refl _, by omega⟩
          clear hx0
          obtain ⟨p, hp⟩ : ∃ p : ByteArray, p = ⟨#[32, 124, 32]⟩ := ⟨_, rfl⟩
          have HP8 := Aside0.mk (show p.data.toList ∈ pieceL8 by rw [hp]; exact List.mem_cons_self)
          have HB2 := HB
          have HM2 := HM
          have HR2 := HR
          have cx2 := cx
          clear cx HB HM HR
          go_wp2_with fail
          have hps : p.size ≤ 3 := by
            have := (piece8_ok _ HP8.out).2.2
            rw [lk_size] at this
            exact this
          have hpne := (piece8_ok _ HP8.out).1
          go_quiet (fail)
          obtain ⟨t, ht⟩ : ∃ t, t = x.extract 0 c := ⟨_, rfl⟩
          rw [← ht]
          have htz : t.size ≤ 60 := by
            rw [ht, ← lk_size, ext_take, List.length_take]
            omega
          have HB3 := Aside0.mk (pw_below_drewN HB2.out nq)
          have HM3 := Aside0.mk (show (wr.drewN nq).cell? ⟨0, 0, none⟩ = some (.int .i64 m) from cell_bl (pw_below_drewN (Below.refl _ _) nq) HM2.out)
          have HR3 := Aside0.mk (RowP.kb HR2.out ((Kb.refl (fun _ => False) _).drewN nq) (fun _ _ h => h))
          clear ht cx2 hc hcs1 hcs2 HB2 HM2 HR2
          generalize wr.drewN nq = w3 at HB3 HM3 HR3 ⊢
          rw [← hp]
          clear hp
          obtain ⟨z, hz⟩ : ∃ z, z = index (t ++ p).data.toList p.data.toList := ⟨_, rfl⟩
          have hix := Try.strings_Index (t ++ p) p m w3 (by simp only [ByteArray.size_append]; omega) HM3.out
          rw [← hz] at hix
          have HZ := Aside0.mk hz
          clear hz
          go_wp2_with fail
          all_goals (first | (exfalso; omega) | skip)
          refine hix.mono ?_
          rintro e w4 ⟨rfl, hw⟩
          subst w4
          clear hix
          obtain ⟨nm, hnm⟩ : ∃ nm : ByteArray, nm = ⟨#[(97 + i).toUInt8]⟩ := ⟨_, rfl⟩
          have znm : nm.size = 1 := by rw [hnm]; rfl
          have e1 : IntKind.i64.wrap ((i : Int) + 1) = ((i + 1 : Nat) : Int) := (i64_w _).trans ((w64 (by omega) (by omega)).trans (by omega))
          have e2 : IntKind.i64.wrap (97 + (i : Int)) = ((97 + i : Nat) : Int) := (i64_w _).trans ((w64 (by omega) (by omega)).trans (by omega))
          have e3 : IntKind.u8.wrap (((97 + i : Nat) : Int)) = ((97 + i : Nat) : Int) := by simp [IntKind.wrap, IntKind.bits, IntKind.signed]; omega
          have hcv : Sem.run Try.prog (convert 52 9 (.slice (some ⟨w3.heap.size, 0, none⟩) 1 1)) (w3.alloc (.cells #[.int .u8 (97 + (i : Int))] 5)) = .ok (.string nm) (w3.alloc (.cells #[.int .u8 (97 + (i : Int))] 5)) := by
            rw [hnm]
            refine run_convert_bytes_back _ 52 9 5 ⟨w3.heap.size, 0, none⟩ 1 [(97 + i).toUInt8] Try.underlying52 Try.underlying5 Try.underlying9 (fun j hj => ?_)
            obtain rfl : j = 0 := by simp at hj; omega
            refine ((blk_cell (World.alloc_heap_new w3 _) 0).trans ?_)
            show some (Value.int .u8 (97 + (i : Int))) = some (Value.int .u8 (((97 + i).toUInt8.toNat : Nat) : Int))
            have : (97 + i).toUInt8.toNat = 97 + i := by
              show (97 + i) % 256 = 97 + i
              omega
            rw [this]
            rfl
          have HNM := Aside0.mk (show nm.data.toList = nmL i by rw [hnm]; rfl)
          clear hnm
          have HB4 := Aside0.mk (below_alloc HB3.out (.cells #[.int .u8 (97 + (i : Int))] 5))
          have HM4 := Aside0.mk (cell_bl (below_alloc (Below.refl _ _) (.cells #[.int .u8 (97 + (i : Int))] 5)) HM3.out)
          have HR4 := Aside0.mk (RowP.kb HR3.out ((Kb.refl (fun _ => False) _).alloc (.cells #[.int .u8 (97 + (i : Int))] 5)) (fun _ _ h => h))
          obtain ⟨hio, hjn⟩ := ino_q (by rw [HDT.out.1]; exact hi10) HDT.out.2.2.2.2
          have hlow : ∀ q ∈ wa, compareBytes q.1.data.toList nm.data.toList < 0 := by
            intro q hq
            obtain ⟨j, hj, he⟩ := hjn q hq
            rw [he, HNM.out]
            exact nm_lt i (by omega) j (by rw [HDT.out.1] at hj; exact hj)
          have HOK := Aside0.mk (okq_of (s := t.data.toList) HP8.out)
          have HIX := Aside0.mk (show index (t.data.toList ++ p.data.toList) p.data.toList = z by rw [HZ.out, lk_app])
          have HIO := Aside0.mk hio
          have HLW := Aside0.mk hlow
          clear hio hjn hlow HB3 HM3 HR3
          by_cases hzt : z = (t.size : Int)
          · have HOK2 := Aside0.mk (show OkQ (p.data.toList, t.data.toList) by have h := HOK.out; rw [HIX.out, if_pos (by rw [lk_size]; exact hzt)] at h; exact h)
            go_wp2_with fail
            all_goals (first | (exfalso; omega) | skip)
            have hset := set_calls wa nm t _ (.slice A9 wa.length c9) _ HR4.out (by omega) HIO.out HLW.out
            refine hset.mono ?_
            rintro e w5 ⟨u5, rfl, hu5, hb5⟩
            obtain ⟨A5, c5, rfl, hc5⟩ := own_slice hu5
            have HR5 := Aside0.mk (own_base (B' := w.heap.size) hu5 HB4.out.size)
            have HB5 := Aside0.mk (below_then HB4.out hb5)
            have HM5 := Aside0.mk (cell_bl hb5 HM4.out)
            have HWM := Aside0.mk (show (setB wa nm t).map plB = outQ 0 (qs ++ [(p.data.toList, (t).data.toList)]) by
              rw [setB_map HDT.out.2.2.2.2, outQ_snoc, HNM.out, HDT.out.1, Nat.zero_add])
            have hwl : (setB wa nm t).length ≤ i + 1 := by
              unfold setB
              split
              · omega
              · rw [List.length_append]; show wa.length + 1 ≤ i + 1; omega
            have HPD := Aside0.mk (show (pa ++ (⟨#[60]⟩ : ByteArray) ++ nm ++ (⟨#[62]⟩ : ByteArray) ++ p).data.toList = [60] ++ patC (psQ 0 (qs ++ [(p.data.toList, (t).data.toList)])) by
              rw [psQ_snoc, patC_append, lk_app, lk_app, lk_app, lk_app, HDT.out.2.2.1, HNM.out, HDT.out.1, Nat.zero_add]
              simp [patC])
            have HLD := Aside0.mk (show (li ++ t ++ p).data.toList = [60] ++ lineQ (qs ++ [(p.data.toList, (t).data.toList)]) by
              rw [lineQ_snoc, lk_app, lk_app, HDT.out.2.2.2.1]
              simp)
            have HQS := Aside0.mk (show ∀ q ∈ qs ++ [(p.data.toList, (t).data.toList)], OkQ q by
              intro q hq
              rcases List.mem_append.1 hq with hq | hq
              · exact HDT.out.2.1 q hq
              · rw [List.mem_singleton] at hq
                subst hq
                exact HOK2.out)
            clear hu5 hb5 hset
            go_wp2_with fail
            all_goals (first | (exfalso; omega) | skip)
            go_roundg (10 - (i + 1))
            case measure => have := HI.out; omega
            case rel => exact ⟨i + 1, qs ++ [(p.data.toList, (t).data.toList)], _, _, setB wa nm t, A5, c5, by first | rfl | rw [e1], rfl, rfl, rfl, by omega, by omega, ⟨by have := HI.out; omega⟩, by (simp only [ByteArray.size_append]; show pa.size + 1 + nm.size + 1 + p.size ≤ _; omega), by (simp only [ByteArray.size_append]; first | (show li.size + t.size + p.size ≤ _; omega) | (show li.size + 0 + p.size ≤ _; omega) | (show li.size + p.size ≤ _; omega)), hwl, ⟨by rw [List.length_append, HDT.out.1]; rfl, HQS.out, HPD.out, HLD.out, HWM.out⟩, HR5, HB5, HM5⟩
          · have HOK2 := Aside0.mk (show OkQ (p.data.toList, []) by have h := HOK.out; rw [HIX.out, if_neg (by rw [lk_size]; exact hzt)] at h; exact h)
            go_wp2_with fail
            all_goals (first | (exfalso; omega) | skip)
            have hset := set_calls wa nm (⟨#[]⟩ : ByteArray) _ (.slice A9 wa.length c9) _ HR4.out (by omega) HIO.out HLW.out
            refine hset.mono ?_
            rintro e w5 ⟨u5, rfl, hu5, hb5⟩
            obtain ⟨A5, c5, rfl, hc5⟩ := own_slice hu5
            have HR5 := Aside0.mk (own_base (B' := w.heap.size) hu5 HB4.out.size)
            have HB5 := Aside0.mk (below_then HB4.out hb5)
            have HM5 := Aside0.mk (cell_bl hb5 HM4.out)
            have HWM := Aside0.mk (show (setB wa nm (⟨#[]⟩ : ByteArray)).map plB = outQ 0 (qs ++ [(p.data.toList, ((⟨#[]⟩ : ByteArray)).data.toList)]) by
              rw [setB_map HDT.out.2.2.2.2, outQ_snoc, HNM.out, HDT.out.1, Nat.zero_add])
            have hwl : (setB wa nm (⟨#[]⟩ : ByteArray)).length ≤ i + 1 := by
              unfold setB
              split
              · omega
              · rw [List.length_append]; show wa.length + 1 ≤ i + 1; omega
            have HPD := Aside0.mk (show (pa ++ (⟨#[60]⟩ : ByteArray) ++ nm ++ (⟨#[62]⟩ : ByteArray) ++ p).data.toList = [60] ++ patC (psQ 0 (qs ++ [(p.data.toList, ((⟨#[]⟩ : ByteArray)).data.toList)])) by
              rw [psQ_snoc, patC_append, lk_app, lk_app, lk_app, lk_app, HDT.out.2.2.1, HNM.out, HDT.out.1, Nat.zero_add]
              simp [patC])
            have HLD := Aside0.mk (show (li ++ (⟨#[]⟩ : ByteArray) ++ p).data.toList = [60] ++ lineQ (qs ++ [(p.data.toList, ((⟨#[]⟩ : ByteArray)).data.toList)]) by
              rw [lineQ_snoc, lk_app, lk_app, HDT.out.2.2.2.1]
              simp)
            have HQS := Aside0.mk (show ∀ q ∈ qs ++ [(p.data.toList, ((⟨#[]⟩ : ByteArray)).data.toList)], OkQ q by
              intro q hq
              rcases List.mem_append.1 hq with hq | hq
              · exact HDT.out.2.1 q hq
              · rw [List.mem_singleton] at hq
                subst hq
                exact HOK2.out)
            clear hu5 hb5 hset
            go_wp2_with fail
            all_goals (first | (exfalso; omega) | skip)
            skip
            go_roundg (10 - (i + 1))
            case measure => have := HI.out; omega
            case rel => exact ⟨i + 1, qs ++ [(p.data.toList, ((⟨#[]⟩ : ByteArray)).data.toList)], _, _, setB wa nm (⟨#[]⟩ : ByteArray), A5, c5, by first | rfl | rw [e1], rfl, rfl, rfl, by omega, by omega, ⟨by have := HI.out; omega⟩, by (simp only [ByteArray.size_append]; show pa.size + 1 + nm.size + 1 + p.size ≤ _; omega), by (simp only [ByteArray.size_append]; first | (show li.size + t.size + p.size ≤ _; omega) | (show li.size + 0 + p.size ≤ _; omega) | (show li.size + p.size ≤ _; omega)), hwl, ⟨by rw [List.length_append, HDT.out.1]; rfl, HQS.out, HPD.out, HLD.out, HWM.out⟩, HR5, HB5, HM5⟩
      · have hz2 : ¬ (i : Int) < 10 := by omega
        have hz0 : ¬ (nl : Int) = 0 := by omega
        have hqne : qs ≠ [] := by
          intro h
          have := HDT.out.1
          rw [h] at this
          simp at this
          omega
        have hqs10 : qs.length ≤ 10 := by rw [HDT.out.1]; exact hi10
        have hc1' : cutP pa.data.toList (li ++ bh).data.toList = some (outQ 0 qs) := by
          rw [lk_app, HDT.out.2.2.1, HDT.out.2.2.2.1, List.append_assoc]
          exact cutP_back qs bh.data.toList hqs10 hqne HDT.out.2.1
        have hc2' : cutP (pa ++ (⟨#[60, 122, 62]⟩ : ByteArray)).data.toList (li ++ bh).data.toList = some (if bh.data.toList = [] then outQ 0 qs else outQ 0 qs ++ [([122], bh.data.toList)]) := by
          rw [lk_app, lk_app, HDT.out.2.2.1, HDT.out.2.2.2.1, List.append_assoc [60] (lineQ qs)]
          exact cutP_backz qs bh.data.toList hqs10 hqne HDT.out.2.1
        obtain ⟨hio, hjn⟩ := ino_q hqs10 HDT.out.2.2.2.2
        have hlow : ∀ q ∈ wa, compareBytes q.1.data.toList (⟨#[122]⟩ : ByteArray).data.toList < 0 := by
          intro q hq
          obtain ⟨j, hj, he⟩ := hjn q hq
          rw [he]
          exact z_lt j (by omega)
        have HIO := Aside0.mk hio
        have HLW := Aside0.mk hlow
        have HC1 := Aside0.mk hc1'
        have HC2 := Aside0.mk hc2'
        clear hio hjn hlow hc1' hc2' hqne hqs10
        go_wp2_with fail
        all_goals (first | (exfalso; omega) | skip)
        refine (cut_some pa (li ++ bh) wr (by omega) (by simp only [ByteArray.size_append]; omega) m HM.out _ HC1.out).mono ?_
        rintro e w5 ⟨u5, d5, hd5, rfl, hr5, hb⟩
        have hde : d5 = wa := plB_inj (by rw [← hd5]; exact HDT.out.2.2.2.2.symm)
        rw [hde] at hr5
        have HG5 := Aside0.mk hr5
        have HB5 := Aside0.mk (below_then HB.out hb)
        have HM5 := Aside0.mk (cell_bl hb HM.out)
        have HR5 := Aside0.mk (RowP.kb HR.out (Kb.of_below (S := fun _ => False) hb) (fun _ _ h => h))
        clear hb hd5 hr5 hde d5
        go_wp2_with fail
        all_goals (first | (exfalso; omega) | skip)
        refine (cut_some (pa ++ (⟨#[60, 122, 62]⟩ : ByteArray)) (li ++ bh) w5 (by simp only [ByteArray.size_append]; show pa.size + 3 < _; omega) (by simp only [ByteArray.size_append]; omega) m HM5.out _ HC2.out).mono ?_
        rintro e w6 ⟨u6, d6, hd6, rfl, hr6, hb⟩
        have hde : d6 = setB wa ⟨#[122]⟩ bh := plB_inj (by
          rw [← hd6, setB_map HDT.out.2.2.2.2]
          by_cases h0 : bh.data.toList = []
          · rw [if_pos h0, if_pos h0, List.append_nil]
          · rw [if_neg h0, if_neg h0])
        rw [hde] at hr6
        have HA6 := Aside0.mk hr6
        have HB6 := Aside0.mk (below_then HB5.out hb)
        have HG6 := Aside0.mk (RowP.kb HG5.out (Kb.of_below (S := fun _ => False) hb) (fun _ _ h => h))
        have HR6 := Aside0.mk (RowP.kb HR5.out (Kb.of_below (S := fun _ => False) hb) (fun _ _ h => h))
        clear hb hd6 hr6 hde d6
        go_wp2_with fail
        refine (same_true wa _ _ _ _ w6 HG6.out HR6.out (by omega)).mono ?_
        rintro e w7 ⟨rfl, hb⟩
        have HB7 := Aside0.mk (below_then HB6.out hb)
        have HA7 := Aside0.mk (RowP.kb HA6.out (Kb.of_below (S := fun _ => False) hb) (fun _ _ h => h))
        have HR7 := Aside0.mk (RowP.kb HR6.out (Kb.of_below (S := fun _ => False) hb) (fun _ _ h => h))
        clear hb
        go_wp2_with fail
        refine (set_calls wa ⟨#[122]⟩ bh _ _ w7 HR7.out (by omega) HIO.out HLW.out).mono ?_
        rintro e w8 ⟨u8, rfl, hu8, hb⟩
        have HU8 := Aside0.mk hu8
        have HB8 := Aside0.mk (below_then HB7.out hb)
        have HA8 := Aside0.mk (RowP.kb HA7.out (Kb.of_below (S := fun _ => False) hb) (fun _ _ h => h))
        have hsl : (setB wa ⟨#[122]⟩ bh).length ≤ 1000000 := by
          unfold setB
          split
          · omega
          · rw [List.length_append]; show wa.length + 1 ≤ _; omega
        clear hb hu8
        go_wp2_with fail
        refine (same_true (setB wa ⟨#[122]⟩ bh) _ _ _ _ w8 HA8.out HU8.out hsl).mono ?_
        rintro e w9 ⟨rfl, hb⟩
        have HB9 := Aside0.mk (below_then HB8.out hb)
        clear hb
        go_wp2_with fail
        go_ret
        exact ⟨rfl, HB9.out⟩
    · have hz1 : ¬ (i : Int) < (nl : Int) := by omega
      by_cases hn0 : nl = 0
      · have hz0 : (nl : Int) = 0 := by omega
        have hqe : qs = [] := List.eq_nil_of_length_eq_zero (by rw [HDT.out.1]; omega)
        have hf : failsP pa.data.toList = true := by
          rw [HDT.out.2.2.1, hqe]
          decide
        have hfc := fails_calls pa wr (by omega)
        rw [hf] at hfc
        clear hf hqe
        subst hn0
        go_wp2_with fail
        refine hfc.mono ?_
        rintro e w5 ⟨rfl, hb⟩
        have HB5 := Aside0.mk (below_then HB.out hb)
        clear hb hfc
        go_wp2_with fail
        go_ret
        exact ⟨rfl, HB5.out⟩
      · skip
        have hz0 : ¬ (nl : Int) = 0 := by omega
        have hqne : qs ≠ [] := by
          intro h
          have := HDT.out.1
          rw [h] at this
          simp at this
          omega
        have hqs10 : qs.length ≤ 10 := by rw [HDT.out.1]; exact hi10
        have hc1' : cutP pa.data.toList (li ++ bh).data.toList = some (outQ 0 qs) := by
          rw [lk_app, HDT.out.2.2.1, HDT.out.2.2.2.1, List.append_assoc]
          exact cutP_back qs bh.data.toList hqs10 hqne HDT.out.2.1
        have hc2' : cutP (pa ++ (⟨#[60, 122, 62]⟩ : ByteArray)).data.toList (li ++ bh).data.toList = some (if bh.data.toList = [] then outQ 0 qs else outQ 0 qs ++ [([122], bh.data.toList)]) := by
          rw [lk_app, lk_app, HDT.out.2.2.1, HDT.out.2.2.2.1, List.append_assoc [60] (lineQ qs)]
          exact cutP_backz qs bh.data.toList hqs10 hqne HDT.out.2.1
        obtain ⟨hio, hjn⟩ := ino_q hqs10 HDT.out.2.2.2.2
        have hlow : ∀ q ∈ wa, compareBytes q.1.data.toList (⟨#[122]⟩ : ByteArray).data.toList < 0 := by
          intro q hq
          obtain ⟨j, hj, he⟩ := hjn q hq
          rw [he]
          exact z_lt j (by omega)
        have HIO := Aside0.mk hio
        have HLW := Aside0.mk hlow
        have HC1 := Aside0.mk hc1'
        have HC2 := Aside0.mk hc2'
        clear hio hjn hlow hc1' hc2' hqne hqs10
        go_wp2_with fail
        all_goals (first | (exfalso; omega) | skip)
        refine (cut_some pa (li ++ bh) wr (by omega) (by simp only [ByteArray.size_append]; omega) m HM.out _ HC1.out).mono ?_
        rintro e w5 ⟨u5, d5, hd5, rfl, hr5, hb⟩
        have hde : d5 = wa := plB_inj (by rw [← hd5]; exact HDT.out.2.2.2.2.symm)
        rw [hde] at hr5
        have HG5 := Aside0.mk hr5
        have HB5 := Aside0.mk (below_then HB.out hb)
        have HM5 := Aside0.mk (cell_bl hb HM.out)
        have HR5 := Aside0.mk (RowP.kb HR.out (Kb.of_below (S := fun _ => False) hb) (fun _ _ h => h))
        clear hb hd5 hr5 hde d5
        go_wp2_with fail
        all_goals (first | (exfalso; omega) | skip)
        refine (cut_some (pa ++ (⟨#[60, 122, 62]⟩ : ByteArray)) (li ++ bh) w5 (by simp only [ByteArray.size_append]; show pa.size + 3 < _; omega) (by simp only [ByteArray.size_append]; omega) m HM5.out _ HC2.out).mono ?_
        rintro e w6 ⟨u6, d6, hd6, rfl, hr6, hb⟩
        have hde : d6 = setB wa ⟨#[122]⟩ bh := plB_inj (by
          rw [← hd6, setB_map HDT.out.2.2.2.2]
          by_cases h0 : bh.data.toList = []
          · rw [if_pos h0, if_pos h0, List.append_nil]
          · rw [if_neg h0, if_neg h0])
        rw [hde] at hr6
        have HA6 := Aside0.mk hr6
        have HB6 := Aside0.mk (below_then HB5.out hb)
        have HG6 := Aside0.mk (RowP.kb HG5.out (Kb.of_below (S := fun _ => False) hb) (fun _ _ h => h))
        have HR6 := Aside0.mk (RowP.kb HR5.out (Kb.of_below (S := fun _ => False) hb) (fun _ _ h => h))
        clear hb hd6 hr6 hde d6
        go_wp2_with fail
        refine (same_true wa _ _ _ _ w6 HG6.out HR6.out (by omega)).mono ?_
        rintro e w7 ⟨rfl, hb⟩
        have HB7 := Aside0.mk (below_then HB6.out hb)
        have HA7 := Aside0.mk (RowP.kb HA6.out (Kb.of_below (S := fun _ => False) hb) (fun _ _ h => h))
        have HR7 := Aside0.mk (RowP.kb HR6.out (Kb.of_below (S := fun _ => False) hb) (fun _ _ h => h))
        clear hb
        go_wp2_with fail
        refine (set_calls wa ⟨#[122]⟩ bh _ _ w7 HR7.out (by omega) HIO.out HLW.out).mono ?_
        rintro e w8 ⟨u8, rfl, hu8, hb⟩
        have HU8 := Aside0.mk hu8
        have HB8 := Aside0.mk (below_then HB7.out hb)
        have HA8 := Aside0.mk (RowP.kb HA7.out (Kb.of_below (S := fun _ => False) hb) (fun _ _ h => h))
        have hsl : (setB wa ⟨#[122]⟩ bh).length ≤ 1000000 := by
          unfold setB
          split
          · omega
          · rw [List.length_append]; show wa.length + 1 ≤ _; omega
        clear hb hu8
        go_wp2_with fail
        refine (same_true (setB wa ⟨#[122]⟩ bh) _ _ _ _ w8 HA8.out HU8.out hsl).mono ?_
        rintro e w9 ⟨rfl, hb⟩
        have HB9 := Aside0.mk (below_then HB8.out hb)
        clear hb
        go_wp2_with fail
        go_ret
        exact ⟨rfl, HB9.out⟩
end Go.Proofs.Ytpobgpfkohlokaa.PC
