/- The document's answer: Match, walked. -/
import Derived.Test.YtpobgpfkohlokaaRN
import Derived.Test.YtpobgpfkohlokaaRS
namespace Go.Proofs.Ytpobgpfkohlokaa.PC
open Go.RowKit Go.Lib Go.Shelf Go.Maps Go.Proofs.YtpobgpfkohlokaaW.PrintWords Go.Proofs.YtpobgpfkohlokaaW.PrintLast Go.Proofs.YtpobgpfkohlokaaW.PrintMore
set_option linter.unusedVariables false
set_option linter.unusedSimpArgs false
theorem pre_iff {s a : ByteArray} : hasPrefix s.data.toList a.data.toList = true ↔ (s.extract 0 a.size).data.toList = a.data.toList := by
  unfold hasPrefix
  rw [List.isPrefixOf_iff_prefix, List.prefix_iff_eq_take, ext_take, data_length]
  exact ⟨fun h => h.symm, fun h => h.symm⟩
theorem pre_len {s a : ByteArray} (h : hasPrefix s.data.toList a.data.toList = true) : a.size ≤ s.size := by
  unfold hasPrefix at h
  rw [List.isPrefixOf_iff_prefix] at h
  have := h.length_le
  rwa [data_length, data_length] at this
theorem mem_insB {p q : PB} : ∀ {l : List PB}, q ∈ insB p l → q = p ∨ q ∈ l
  | [], h => .inl (List.mem_singleton.1 h)
  | r :: l, h => by
    unfold insB at h
    split at h
    · rcases List.mem_cons.1 h with h | h
      · exact .inr (List.mem_cons.2 (.inl h))
      · rcases mem_insB h with h | h
        · exact .inl h
        · exact .inr (List.mem_cons_of_mem _ h)
    · exact List.mem_cons.1 h
theorem insB_len (p : PB) : ∀ l : List PB, (insB p l).length = l.length + 1
  | [] => rfl
  | r :: l => by
    unfold insB
    split
    · show (insB p l).length + 1 = _
      rw [insB_len p l]
      rfl
    · rfl
theorem setR_step {ou : List PB} {t : List (BL × BL)} {n v : ByteArray} (h : ou.map plB = sortM t) (hO : InO ou) (hN : (t.map (·.1)).Nodup) (hf : ∀ q ∈ t, q.1 ≠ n.data.toList) (hv : v.data.toList ≠ []) :
    (setR ou (n, v)).map plB = sortM (t ++ [(n.data.toList, v.data.toList)]) ∧ InO (setR ou (n, v)) ∧ (setR ou (n, v)).length = ou.length + 1 := by
  have e : setR ou (n, v) = insB (n, v) ou := if_neg hv
  have hup : Up (insM (plB (n, v)) (sortM t)) := insM_up _ _ (sortM_up t hN) (fun q hq => hf q ((sortM_perm t).mem_iff.1 hq))
  have hN2 : ((t ++ [(n.data.toList, v.data.toList)]).map (·.1)).Nodup := by
    rw [List.map_append]
    refine List.nodup_append.2 ⟨hN, by simp, fun x hx y hy => ?_⟩
    obtain ⟨q, hq, rfl⟩ := List.mem_map.1 hx
    rw [List.mem_singleton.1 hy]
    exact hf q hq
  have hm : (insB (n, v) ou).map plB = insM (plB (n, v)) (sortM t) := by rw [insB_map, h]
  rw [e]
  refine ⟨?_, ⟨?_, fun q hq => ?_⟩, insB_len _ _⟩
  · rw [hm]
    refine up_unique hup (sortM_up _ hN2) ?_
    exact ((insM_perm _ _).trans ((sortM_perm t).cons _)).trans ((List.perm_append_singleton _ t).symm.trans (sortM_perm _).symm)
  · have := hup
    rw [← hm] at this
    exact List.pairwise_map.1 this
  · rcases mem_insB hq with h | h
    · rw [h]; exact hv
    · exact hO.ne q h
theorem names_take {l : List PB} {k : Nat} {p : PB} (hp : l[k]? = some p) (hn : ¬ p.1.data.toList = [95]) : namesP ((l.take (k + 1)).map plB) = namesP ((l.take k).map plB) ++ [p.1.data.toList] := by
  rw [List.take_add_one, hp, List.map_append]
  unfold namesP
  rw [List.map_append, List.filter_append]
  congr 1
  show List.filter _ [p.1.data.toList] = _
  rw [List.filter_cons_of_pos (by simpa using hn)]
  rfl
theorem names_sub (l : List PB) (k : Nat) : (namesP ((l.take k).map plB)).Sublist (namesP (l.map plB)) := by
  unfold namesP
  exact (((List.take_sublist k l).map plB).map (·.1)).filter _
theorem fold_nodup {l : List PB} {k : Nat} {s0 sB : BL} {t : List (BL × BL)} (hnd : (namesP (l.map plB)).Nodup) (hf : foldM ((l.take k).map plB) (s0, []) = some (sB, t)) : (t.map (·.1)).Nodup := by
  obtain ⟨sub, h1, h2⟩ := foldM_names _ _ _ hf
  have e : t.map (·.1) = sub := by simpa using h1
  rw [e]
  exact h2.nodup ((names_sub l k).nodup hnd)
theorem fold_fresh {l : List PB} {k : Nat} {p : PB} {s0 sB : BL} {t : List (BL × BL)} (hnd : (namesP (l.map plB)).Nodup) (hp : l[k]? = some p) (hn : ¬ p.1.data.toList = [95]) (hf : foldM ((l.take k).map plB) (s0, []) = some (sB, t)) : ∀ q ∈ t, q.1 ≠ p.1.data.toList := by
  obtain ⟨sub, h1, h2⟩ := foldM_names _ _ _ hf
  have e : t.map (·.1) = sub := by simpa using h1
  intro q hq he
  have hq1 : p.1.data.toList ∈ namesP ((l.take k).map plB) := h2.subset (by rw [← e, ← he]; exact List.mem_map_of_mem hq)
  have hd := (names_sub l (k + 1)).nodup hnd
  rw [names_take hp hn] at hd
  exact (List.nodup_append.1 hd).2.2 _ hq1 _ (List.mem_singleton.2 rfl) rfl
set_option maxHeartbeats 16000000 in
set_option maxRecDepth 100000 in
theorem rmatch_calls (w : World) (B : Nat) (v : Value) (a : ByteArray) (l : List PB) (hc : RefAt B w v a l) (hl : l.length ≤ 300) (hl0 : l ≠ []) (hnd : (namesP (l.map plB)).Nodup) (hbs : ∀ p ∈ l, p.2.size ≤ 256) (s : ByteArray) (hs : s.size ≤ 100000) :
    Calls Try.prog 12 #[v, .string s] w fun e w' => ((matchP a.data.toList (l.map plB) s.data.toList = none ∧ e = .returned (.tuple #[.slice none 0 0, .bool false])) ∨ (∃ u ds, matchP a.data.toList (l.map plB) s.data.toList = some (ds.map plB) ∧ ds.length ≤ 300 ∧ e = .returned (.tuple #[u, .bool true]) ∧ RowP w.heap.size w' 74 u ds)) ∧ Below w.heap.size w w' := by
  obtain ⟨g, u, rfl, hBg, hg, hu⟩ := hc
  obtain ⟨Al, cl, rfl, hcl⟩ := own_slice hu
  have hc0 : w.cell? ⟨g, 0, none⟩ = some (.string a) := (blk_cell hg 0).trans rfl
  have hc1 : w.cell? ⟨g, 1, none⟩ = some (.slice Al l.length cl) := (blk_cell hg 1).trans rfl
  obtain ⟨nl, hnl⟩ : ∃ nl, nl = l.length := ⟨_, rfl⟩
  rw [← hnl] at hc1 hcl
  have HU := Aside0.mk (show RowP B w 70 (.slice Al nl cl) l by rw [hnl]; exact hu)
  have HN := Aside0.mk hnl
  have HND := Aside0.mk hnd
  have HBS := Aside0.mk hbs
  have hl2 : nl ≤ 300 := by omega
  have hu66 := Try.underlying66
  have hu70 := Try.underlying70
  have mixed : Try.prog.follows .mixedOrders = true := by kernel_rfl
  have HC1 := Aside0.mk hc1
  have HL0 := Aside0.mk (show ¬ l.map plB = [] from fun h => hl0 (List.map_eq_nil_iff.1 h))
  clear hu hnl hg hl hnd hbs hc1 hl0
  cases hp : hasPrefix s.data.toList a.data.toList with
  | false =>
    have HMN := Aside0.mk (show matchP a.data.toList (l.map plB) s.data.toList = none by
      unfold matchP
      rw [if_neg HL0.out, if_neg (by rw [hp]; decide)])
    by_cases hsz : s.size < a.size
    · have hsi : (s.size : Int) < (a.size : Int) := by omega
      clear hp
      go_enter Try.func12, Try.ntmps12
      go_wp2_with fail
      go_quiet (fail)
      go_wp2_with fail
      go_ret2
      exact ⟨.inl ⟨HMN.out, rfl⟩, pw_below_drewN (Below.refl _ _) _⟩
    · have hsi : ¬ (s.size : Int) < (a.size : Int) := by omega
      have hle : a.size ≤ s.size := by omega
      have hne : ((s.extract 0 a.size).toList == a.toList) = false := by
        refine beq_eq_false_iff_ne.2 (fun h => ?_)
        rw [ByteArray.toList_eq, ByteArray.toList_eq, ← pre_iff, hp] at h
        cases h
      clear hp
      go_enter Try.func12, Try.ntmps12
      go_wp2_with fail
      go_quiet (fail)
      go_wp2_with fail
      go_ret2
      exact ⟨.inl ⟨HMN.out, rfl⟩, pw_below_drewN (Below.refl _ _) _⟩
  | true =>
    have hle := pre_len hp
    have hsn : ¬ s.size < a.size := by omega
    have hsi : ¬ (s.size : Int) < (a.size : Int) := by omega
    have hlei : (a.size : Int) ≤ (s.size : Int) := by omega
    have heq : ((s.extract 0 a.size).toList == a.toList) = true := by
      refine beq_iff_eq.2 ?_
      rw [ByteArray.toList_eq, ByteArray.toList_eq, ← pre_iff, hp]
    have HMP := Aside0.mk (show matchP a.data.toList (l.map plB) s.data.toList = (foldM (l.map plB) ((s.extract a.size s.size).data.toList, [])).map (fun st => sortM st.2) by
      unfold matchP
      rw [if_neg HL0.out, if_pos hp]
      unfold trimPrefix
      rw [if_pos hp, ext_drop, data_length])
    have HSZ := Aside0.mk (show (s.extract a.size s.size).size ≤ 100000 by rw [size_drop_]; omega)
    clear hp
    go_enter Try.func12, Try.ntmps12
    go_wp2_with fail
    go_quiet (fail)
    have HB1 := Aside0.mk (pw_below_drewN (Below.refl w.heap.size w) nq)
    have hcd : (w.drewN nq).cell? ⟨g, 0, none⟩ = some (.string a) := cell_bl HB1.out hc0
    clear hc0
    generalize w.drewN nq = w1 at HB1 hcd ⊢
    go_wp2_with fail
    obtain ⟨s0, hs0⟩ : ∃ s0 : ByteArray, s0 = s.extract a.size s.size := ⟨_, rfl⟩
    rw [← hs0] at HMP HSZ ⊢
    have hs0z := HSZ.out
    clear hs0 hcd heq
    go_loopg [6, 7, 8] nl (fun g1 v6 v7 v8 wr => ∃ (k : Nat) (sB : ByteArray) (ou : List PB) (Ao : Option Addr) (co : Nat) (t : List (BL × BL)), v8 = .int .i64 k ∧ v7 = .string sB ∧ v6 = .slice Ao ou.length co ∧ sB.size ≤ 100000 ∧ Aside0 (k + g1 = nl ∧ ou.length ≤ k) ∧ Aside0 (RowP w.heap.size wr 74 (.slice Ao ou.length co) ou) ∧ Aside0 (foldM ((l.take k).map plB) (s0.data.toList, []) = some (sB.data.toList, t)) ∧ Aside0 (ou.map plB = sortM t ∧ InO ou) ∧ Aside0 (Below w.heap.size w wr))
    case atStart => exact ⟨0, s0, [], none, 0, [], rfl, rfl, rfl, hs0z, ⟨by omega, Nat.le_refl _⟩, ⟨⟨rfl, .inl ⟨rfl, rfl⟩⟩⟩, ⟨rfl⟩, ⟨rfl, .nil, fun p hp => by cases hp⟩, HB1⟩
    case round =>
      obtain ⟨k, sB, ou, Ao, co, t, rfl, rfl, rfl, hsB, HK, HR, HF, HO, HB⟩ := hrel
      have d1 := cell_bl HB.out HC1.out
      by_cases hlt : k < nl
      · have hz : (k : Int) < (nl : Int) := by omega
        have e1 : IntKind.i64.wrap ((k : Int) + 1) = ((k + 1 : Nat) : Int) := (i64_w _).trans ((w64 (by omega) (by omega)).trans (by omega))
        obtain ⟨p, hp⟩ : ∃ p, l[k]? = some p := ⟨l[k]'(by rw [← HN.out]; exact hlt), List.getElem?_eq_getElem _⟩
        obtain ⟨r, rfl, hBr, hr, hr0, hr1⟩ := rowP_get HU.out hp
        have c0 := cell_bl HB.out hr0
        have c1 := cell_bl HB.out hr1
        have hpb := HBS.out p (List.mem_of_getElem? hp)
        have HR0 := Aside0.mk hr0
        have HR1 := Aside0.mk hr1
        have HP := Aside0.mk hp
        clear hp hr0 hr1
        by_cases hb : p.2.toList = []
        · have hbt : (p.2.toList == []) = true := by simpa using hb
          have hb2 : p.2.data.toList = [] := by rw [← ByteArray.toList_eq]; exact hb
          have hbz : p.2.size = 0 := by rw [← data_length, hb2]; rfl
          have HPL := Aside0.mk (show placeM sB.data.toList p.2.data.toList = (sB.size : Int) by unfold placeM; rw [if_pos hb2, data_length])
          have hii : sB.size + p.2.size ≤ sB.size := by omega
          clear hb2 hb
          have e2 : IntKind.i64.wrap ((sB.size : Int) + (p.2.size : Int)) = ((sB.size + p.2.size : Nat) : Int) := (i64_w _).trans ((w64 (by omega) (by omega)).trans (by omega))
          have e3 : ¬ (sB.size : Int) < 0 := by omega
          have e5 : sB.size ≤ sB.size := by omega
          have e6 : sB.size + p.2.size ≤ sB.size := hii
          have e7 : ((sB.size + p.2.size : Nat) : Int) ≤ (sB.size : Int) := by omega
          have e8 : (sB.size : Int) ≤ (sB.size : Int) := by omega
          have HBX := HB
          have HRX := HR
          have HTK := Aside0.mk (show sB.data.toList = sB.data.toList.take sB.size from (List.take_of_length_le (by rw [data_length]; exact Nat.le_refl _)).symm)
          cases ho : odd1 p.1 with
          | true =>
            have ht : (p.1.toList == [95]) = true := ho
            have HOFF := Aside0.mk (show p.1.data.toList = [95] ∨ sB.size = 0 from .inl (by rw [← ByteArray.toList_eq]; exact eq_of_beq ho))
            clear ho
            have HNX := Aside0.mk (show foldM ((l.take (k + 1)).map plB) (s0.data.toList, []) = some (ByteArray.empty.data.toList, t) by
              rw [foldM_next HP.out HF.out]
              refine (stepM_off HPL.out HOFF.out).trans ?_
              show some (sB.data.toList.drop (sB.size + p.2.data.toList.length), _) = some ([], _)
              rw [List.drop_eq_nil_of_le (by rw [data_length, data_length]; omega)])
            go_wp2_with fail
            go_roundg (nl - (k + 1))
            case measure => have := HK.out; omega
            case rel => exact ⟨k + 1, _, ou, Ao, co, t, by first | rfl | rw [e1], rfl, rfl, by first | (rw [size_drop_]; omega) | exact Nat.zero_le _, ⟨by have := HK.out; omega, by (have := HK.out; omega)⟩, ⟨HRX.out⟩, HNX, HO, HBX⟩
          | false =>
            have ht : (p.1.toList == [95]) = false := ho
            have HOD := Aside0.mk (show ¬ p.1.data.toList = [95] from by rw [← ByteArray.toList_eq]; intro h; rw [show odd1 p.1 = true from beq_iff_eq.2 h] at ho; cases ho)
            clear ho
            have HFR0 := Aside0.mk (fold_fresh HND.out HP.out HOD.out HF.out)
            have HFR := Aside0.mk (show ∀ r ∈ ou, r.1.data.toList ≠ p.1.data.toList by
              intro r hr h
              have : plB r ∈ sortM t := by rw [← HO.out.1]; exact List.mem_map_of_mem hr
              exact HFR0.out _ ((sortM_perm t).mem_iff.1 this) h)
            have HIO := Aside0.mk HO.out.2
            go_wp2_with fail
            refine wp_region_any (by assumption) ?_
            try (change wpAny _ _ _ _ _ _ _ (World.drew _))
            have HB2 := Aside0.mk (below_drew1 HBX.out)
            have HR2 := Aside0.mk (HRX.out.kb ((Kb.refl (fun _ => False) _).drew) (fun _ _ h => h))
            have d1p := cell_bl HB2.out HC1.out
            have c0p := cell_bl HB2.out HR0.out
            clear d1 c0 c1 HBX HRX
            generalize World.drew _ = wa at HB2 HR2 d1p c0p ⊢
            refine wpAny_take (i := 0) (v := ?vR11) rfl (by kernel_rfl) (by kernel_rfl) (by kernel_rfl) (fun _ _ _ h => h) (Or.inl ⟨by rfl, ?hyR11⟩) ?_
            case hyR11 => intro w; go_simp; (first | done | (with_reducible rfl))
            refine wpAny_take (i := 1) (v := ?vR12) rfl (by kernel_rfl) (by kernel_rfl) (by kernel_rfl) (fun _ _ _ h => h) (Or.inl ⟨by rfl, ?hyR12⟩) ?_
            case hyR12 => intro w; go_simp; (first | done | (with_reducible rfl))
            refine wpAny_take (i := 2) (v := ?vR13) rfl (by kernel_rfl) (by kernel_rfl) (by kernel_rfl) (fun _ _ _ h => h) (Or.inl ⟨by rfl, ?hyR13⟩) ?_
            case hyR13 => intro w; go_simp; (first | done | (with_reducible rfl))
            refine wpAny_take (i := 3) (v := ?vR14) rfl (by kernel_rfl) (by kernel_rfl) (by kernel_rfl) (fun _ _ _ h => h) (Or.inl ⟨by rfl, ?hyR14⟩) ?_
            case hyR14 => intro w; go_simp; (first | done | (with_reducible rfl))
            refine wpAny_take (i := 5) (v := ?vR15) rfl (by kernel_rfl) (by kernel_rfl) (by kernel_rfl) (fun _ _ _ h => h) (Or.inl ⟨by rfl, ?hyR15⟩) ?_
            case hyR15 => intro w; go_simp; (first | done | (with_reducible rfl))
            refine wpAny_take (i := 9) (v := ?vR16) rfl (by kernel_rfl) (by kernel_rfl) (by kernel_rfl) (fun _ _ _ h => h) (Or.inl ⟨by rfl, ?hyR16⟩) ?_
            case hyR16 => intro w; go_simp; (first | done | (with_reducible rfl))
            refine wpAny_take (i := 10) (v := ?vR17) rfl (by kernel_rfl) (by kernel_rfl) (by kernel_rfl) (fun _ _ _ h => h) (Or.inl ⟨by rfl, ?hyR17⟩) ?_
            case hyR17 => intro w; go_simp; (first | done | (with_reducible rfl))
            refine wpAny_take (i := 11) (v := ?vR18) rfl (by kernel_rfl) (by kernel_rfl) (by kernel_rfl) (fun _ _ _ h => h) (Or.inl ⟨by rfl, ?hyR18⟩) ?_
            case hyR18 => intro w; go_simp; (first | done | (with_reducible rfl))
            refine wpAny_ready (rs := [4]) (by kernel_rfl) (by simp) ?_
            refine AllReady.cons rfl (fun K hK => ?_) ?_
            · go_simp
              refine hK _ _ ?_
              clear hK K
              skip
              refine wpAny_take (i := 6) (v := ?vR19) rfl (by kernel_rfl) (by kernel_rfl) (by kernel_rfl) (fun _ _ _ h => h) (Or.inl ⟨by rfl, ?hyR19⟩) ?_
              case hyR19 => intro w; go_simp; (first | done | (with_reducible rfl))
              refine wpAny_take (i := 7) (v := ?vR110) rfl (by kernel_rfl) (by kernel_rfl) (by kernel_rfl) (fun _ _ _ h => h) (Or.inl ⟨by rfl, ?hyR110⟩) ?_
              case hyR110 => intro w; go_simp; (first | done | (with_reducible rfl))
              refine wpAny_ready (rs := [8]) (by kernel_rfl) (by simp) ?_
              refine AllReady.cons rfl (fun K hK => ?_) ?_
              · go_simp
                refine hK _ _ ?_
                clear hK K
                skip
                refine wpAny_ready (rs := [12]) (by kernel_rfl) (by simp) ?_
                refine AllReady.cons rfl (fun K hK => ?_) ?_
                · go_simp
                  with_reducible refine (set_calls ou p.1 (sB) w.heap.size _ _ HR2.out HIO.out (by have := HK.out; omega) HFR.out).mono ?_
                  rintro e w3 ⟨⟨u3, rfl, hr3⟩, hb3⟩
                  refine hK _ _ ?_
                  clear hK K
                  have HR3 := Aside0.mk hr3
                  have HB3 := Aside0.mk (below_then HB2.out hb3)
                  have HS2 := Aside0.mk (HB2.out.size)
                  clear hr3 hb3 d1p c0p
                  have d1q := cell_bl HB3.out HC1.out
                  have c1q := cell_bl HB3.out HR1.out
                  refine wpAny_take (i := 13) (v := ?vR111) rfl (by kernel_rfl) (by kernel_rfl) (by kernel_rfl) (fun _ _ _ h => h) (Or.inl ⟨by rfl, ?hyR111⟩) ?_
                  case hyR111 => intro w; go_simp; (first | done | (with_reducible rfl))
                  refine wpAny_done (by kernel_rfl) ?_ _
                  obtain ⟨A3, c3, rfl, -⟩ := own_slice HR3.out
                  go_wp2_with fail
                  by_cases hi0 : sB.size = 0
                  · have HOFF := Aside0.mk (show p.1.data.toList = [95] ∨ sB.size = 0 from .inr hi0)
                    have HVE := Aside0.mk (show setR ou (p.1, sB) = ou from if_pos (by show (sB).data.toList = []; rw [HTK.out, hi0]; rfl))
                    have HNX := Aside0.mk (show foldM ((l.take (k + 1)).map plB) (s0.data.toList, []) = some (ByteArray.empty.data.toList, t) by
                      rw [foldM_next HP.out HF.out]
                      refine (stepM_off HPL.out HOFF.out).trans ?_
                      show some (sB.data.toList.drop (sB.size + p.2.data.toList.length), _) = some ([], _)
                      rw [List.drop_eq_nil_of_le (by rw [data_length, data_length]; omega)])
                    go_roundg (nl - (k + 1))
                    case measure => have := HK.out; omega
                    case rel => exact ⟨k + 1, _, ou, A3, c3, t, by first | rfl | rw [e1], rfl, by rw [HVE.out], by first | (rw [size_drop_]; omega) | exact Nat.zero_le _, ⟨by have := HK.out; omega, by (have := HK.out; omega)⟩, ⟨by have h := HR3.out; rw [HVE.out] at h; exact own_base h HS2.out⟩, HNX, HO, HB3⟩
                  · have HIP := Aside0.mk (show 0 < sB.size by omega)
                    have HVN := Aside0.mk (show (sB).data.toList ≠ [] by rw [HTK.out]; exact fun h => by have := congrArg List.length h; rw [List.length_take, data_length] at this; simp only [List.length_nil] at this; omega)
                    have HNX := Aside0.mk (show foldM ((l.take (k + 1)).map plB) (s0.data.toList, []) = some (ByteArray.empty.data.toList, t ++ [(p.1.data.toList, (sB).data.toList)]) by
                      rw [foldM_next HP.out HF.out]
                      refine (stepM_on HPL.out HOD.out HIP.out).trans ?_
                      rw [← HTK.out]
                      show some (sB.data.toList.drop (sB.size + p.2.data.toList.length), _) = some ([], _)
                      rw [List.drop_eq_nil_of_le (by rw [data_length, data_length]; omega)])
                    have HO2 := Aside0.mk (setR_step HO.out.1 HO.out.2 (fold_nodup HND.out HF.out) HFR0.out HVN.out)
                    go_roundg (nl - (k + 1))
                    case measure => have := HK.out; omega
                    case rel => exact ⟨k + 1, _, setR ou (p.1, sB), A3, c3, _, by first | rfl | rw [e1], rfl, rfl, by first | (rw [size_drop_]; omega) | exact Nat.zero_le _, ⟨by have := HK.out; omega, by (have := HK.out; have := HO2.out.2.2; omega)⟩, ⟨own_base HR3.out HS2.out⟩, HNX, ⟨HO2.out.1, HO2.out.2.1⟩, HB3⟩
                exact AllReady.nil
              exact AllReady.nil
            exact AllReady.nil
        · have hbt : (p.2.toList == []) = false := by simpa using hb
          have hb2 : ¬ p.2.data.toList = [] := by rw [← ByteArray.toList_eq]; exact hb
          have HBN := Aside0.mk hb2
          have HIX := Aside0.mk (show placeM sB.data.toList p.2.data.toList = index sB.data.toList p.2.data.toList by unfold placeM; rw [if_neg hb2])
          have hroom := index_room sB.data.toList p.2.data.toList
          have hge := index_ge sB.data.toList p.2.data.toList
          rw [data_length, data_length] at hroom
          clear hb hb2
          by_cases hneg : index sB.data.toList p.2.data.toList < 0
          · have HIE := Aside0.mk (show index sB.data.toList p.2.data.toList = -1 by omega)
            have HPL := Aside0.mk (show placeM sB.data.toList p.2.data.toList < 0 by rw [HIX.out]; exact hneg)
            clear hneg hge hroom
            go_wp2_with (first | (go_at_call 34; refine (find_calls sB p.2 HBN.out (by omega) (by omega) _).mono ?_; rintro e w4 ⟨rfl, hd4⟩; have HBX := Aside0.mk (below_then HB.out hd4.below); have HRX := Aside0.mk (HR.out.kb (Kb.of_below (S := fun _ => False) hd4.below) (fun _ _ h => h)); rw [HIE.out]; clear hd4 d1 c0 c1; have d1 := cell_bl HBX.out HC1.out; have c0 := cell_bl HBX.out HR0.out; have c1 := cell_bl HBX.out HR1.out))
            go_ret2
            refine ⟨.inl ⟨?_, rfl⟩, HBX.out⟩
            rw [HMP.out, foldM_stop HP.out HF.out (stepM_no HPL.out)]
            rfl
          · obtain ⟨i, hi⟩ : ∃ i : Nat, index sB.data.toList p.2.data.toList = (i : Int) := ⟨(index sB.data.toList p.2.data.toList).toNat, by omega⟩
            have HIE := Aside0.mk hi
            have HPL := Aside0.mk (show placeM sB.data.toList p.2.data.toList = (i : Int) by rw [HIX.out]; exact hi)
            rw [hi] at hroom
            have hii : i + p.2.size ≤ sB.size := by have := hroom (by omega); omega
            clear hi hneg hge hroom
            have e2 : IntKind.i64.wrap ((i : Int) + (p.2.size : Int)) = ((i + p.2.size : Nat) : Int) := (i64_w _).trans ((w64 (by omega) (by omega)).trans (by omega))
            have e3 : ¬ (i : Int) < 0 := by omega
            have e5 : i ≤ sB.size := by omega
            have e6 : i + p.2.size ≤ sB.size := hii
            have e7 : ((i + p.2.size : Nat) : Int) ≤ (sB.size : Int) := by omega
            have e8 : (i : Int) ≤ (sB.size : Int) := by omega
            have HTK := Aside0.mk (show (sB.extract 0 i).data.toList = sB.data.toList.take i from ext_take sB i)
            cases ho : odd1 p.1 with
            | true =>
              have ht : (p.1.toList == [95]) = true := ho
              have HOFF := Aside0.mk (show p.1.data.toList = [95] ∨ i = 0 from .inl (by rw [← ByteArray.toList_eq]; exact eq_of_beq ho))
              clear ho
              have HNX := Aside0.mk (show foldM ((l.take (k + 1)).map plB) (s0.data.toList, []) = some ((sB.extract (i + p.2.size) sB.size).data.toList, t) by
                rw [foldM_next HP.out HF.out, ext_drop]
                refine (stepM_off HPL.out HOFF.out).trans ?_
                rw [data_length])
              go_wp2_with (first | (go_at_call 34; refine (find_calls sB p.2 HBN.out (by omega) (by omega) _).mono ?_; rintro e w4 ⟨rfl, hd4⟩; have HBX := Aside0.mk (below_then HB.out hd4.below); have HRX := Aside0.mk (HR.out.kb (Kb.of_below (S := fun _ => False) hd4.below) (fun _ _ h => h)); rw [HIE.out]; clear hd4 d1 c0 c1; have d1 := cell_bl HBX.out HC1.out; have c0 := cell_bl HBX.out HR0.out; have c1 := cell_bl HBX.out HR1.out))
              go_roundg (nl - (k + 1))
              case measure => have := HK.out; omega
              case rel => exact ⟨k + 1, _, ou, Ao, co, t, by first | rfl | rw [e1], rfl, rfl, by first | (rw [size_drop_]; omega) | exact Nat.zero_le _, ⟨by have := HK.out; omega, by (have := HK.out; omega)⟩, ⟨HRX.out⟩, HNX, HO, HBX⟩
            | false =>
              have ht : (p.1.toList == [95]) = false := ho
              have HOD := Aside0.mk (show ¬ p.1.data.toList = [95] from by rw [← ByteArray.toList_eq]; intro h; rw [show odd1 p.1 = true from beq_iff_eq.2 h] at ho; cases ho)
              clear ho
              have HFR0 := Aside0.mk (fold_fresh HND.out HP.out HOD.out HF.out)
              have HFR := Aside0.mk (show ∀ r ∈ ou, r.1.data.toList ≠ p.1.data.toList by
                intro r hr h
                have : plB r ∈ sortM t := by rw [← HO.out.1]; exact List.mem_map_of_mem hr
                exact HFR0.out _ ((sortM_perm t).mem_iff.1 this) h)
              have HIO := Aside0.mk HO.out.2
              go_wp2_with (first | (go_at_call 34; refine (find_calls sB p.2 HBN.out (by omega) (by omega) _).mono ?_; rintro e w4 ⟨rfl, hd4⟩; have HBX := Aside0.mk (below_then HB.out hd4.below); have HRX := Aside0.mk (HR.out.kb (Kb.of_below (S := fun _ => False) hd4.below) (fun _ _ h => h)); rw [HIE.out]; clear hd4 d1 c0 c1; have d1 := cell_bl HBX.out HC1.out; have c0 := cell_bl HBX.out HR0.out; have c1 := cell_bl HBX.out HR1.out))
              refine wp_region_any (by assumption) ?_
              try (change wpAny _ _ _ _ _ _ _ (World.drew _))
              have HB2 := Aside0.mk (below_drew1 HBX.out)
              have HR2 := Aside0.mk (HRX.out.kb ((Kb.refl (fun _ => False) _).drew) (fun _ _ h => h))
              have d1p := cell_bl HB2.out HC1.out
              have c0p := cell_bl HB2.out HR0.out
              clear d1 c0 c1 HBX HRX
              generalize World.drew _ = wa at HB2 HR2 d1p c0p ⊢
              refine wpAny_take (i := 0) (v := ?vR21) rfl (by kernel_rfl) (by kernel_rfl) (by kernel_rfl) (fun _ _ _ h => h) (Or.inl ⟨by rfl, ?hyR21⟩) ?_
              case hyR21 => intro w; go_simp; (first | done | (with_reducible rfl))
              refine wpAny_take (i := 1) (v := ?vR22) rfl (by kernel_rfl) (by kernel_rfl) (by kernel_rfl) (fun _ _ _ h => h) (Or.inl ⟨by rfl, ?hyR22⟩) ?_
              case hyR22 => intro w; go_simp; (first | done | (with_reducible rfl))
              refine wpAny_take (i := 2) (v := ?vR23) rfl (by kernel_rfl) (by kernel_rfl) (by kernel_rfl) (fun _ _ _ h => h) (Or.inl ⟨by rfl, ?hyR23⟩) ?_
              case hyR23 => intro w; go_simp; (first | done | (with_reducible rfl))
              refine wpAny_take (i := 3) (v := ?vR24) rfl (by kernel_rfl) (by kernel_rfl) (by kernel_rfl) (fun _ _ _ h => h) (Or.inl ⟨by rfl, ?hyR24⟩) ?_
              case hyR24 => intro w; go_simp; (first | done | (with_reducible rfl))
              refine wpAny_take (i := 5) (v := ?vR25) rfl (by kernel_rfl) (by kernel_rfl) (by kernel_rfl) (fun _ _ _ h => h) (Or.inl ⟨by rfl, ?hyR25⟩) ?_
              case hyR25 => intro w; go_simp; (first | done | (with_reducible rfl))
              refine wpAny_take (i := 9) (v := ?vR26) rfl (by kernel_rfl) (by kernel_rfl) (by kernel_rfl) (fun _ _ _ h => h) (Or.inl ⟨by rfl, ?hyR26⟩) ?_
              case hyR26 => intro w; go_simp; (first | done | (with_reducible rfl))
              refine wpAny_take (i := 10) (v := ?vR27) rfl (by kernel_rfl) (by kernel_rfl) (by kernel_rfl) (fun _ _ _ h => h) (Or.inl ⟨by rfl, ?hyR27⟩) ?_
              case hyR27 => intro w; go_simp; (first | done | (with_reducible rfl))
              refine wpAny_take (i := 11) (v := ?vR28) rfl (by kernel_rfl) (by kernel_rfl) (by kernel_rfl) (fun _ _ _ h => h) (Or.inl ⟨by rfl, ?hyR28⟩) ?_
              case hyR28 => intro w; go_simp; (first | done | (with_reducible rfl))
              refine wpAny_ready (rs := [4]) (by kernel_rfl) (by simp) ?_
              refine AllReady.cons rfl (fun K hK => ?_) ?_
              · go_simp
                refine hK _ _ ?_
                clear hK K
                skip
                refine wpAny_take (i := 6) (v := ?vR29) rfl (by kernel_rfl) (by kernel_rfl) (by kernel_rfl) (fun _ _ _ h => h) (Or.inl ⟨by rfl, ?hyR29⟩) ?_
                case hyR29 => intro w; go_simp; (first | done | (with_reducible rfl))
                refine wpAny_take (i := 7) (v := ?vR210) rfl (by kernel_rfl) (by kernel_rfl) (by kernel_rfl) (fun _ _ _ h => h) (Or.inl ⟨by rfl, ?hyR210⟩) ?_
                case hyR210 => intro w; go_simp; (first | done | (with_reducible rfl))
                refine wpAny_ready (rs := [8]) (by kernel_rfl) (by simp) ?_
                refine AllReady.cons rfl (fun K hK => ?_) ?_
                · go_simp
                  refine hK _ _ ?_
                  clear hK K
                  skip
                  refine wpAny_ready (rs := [12]) (by kernel_rfl) (by simp) ?_
                  refine AllReady.cons rfl (fun K hK => ?_) ?_
                  · go_simp
                    with_reducible refine (set_calls ou p.1 (sB.extract 0 i) w.heap.size _ _ HR2.out HIO.out (by have := HK.out; omega) HFR.out).mono ?_
                    rintro e w3 ⟨⟨u3, rfl, hr3⟩, hb3⟩
                    refine hK _ _ ?_
                    clear hK K
                    have HR3 := Aside0.mk hr3
                    have HB3 := Aside0.mk (below_then HB2.out hb3)
                    have HS2 := Aside0.mk (HB2.out.size)
                    clear hr3 hb3 d1p c0p
                    have d1q := cell_bl HB3.out HC1.out
                    have c1q := cell_bl HB3.out HR1.out
                    refine wpAny_take (i := 13) (v := ?vR211) rfl (by kernel_rfl) (by kernel_rfl) (by kernel_rfl) (fun _ _ _ h => h) (Or.inl ⟨by rfl, ?hyR211⟩) ?_
                    case hyR211 => intro w; go_simp; (first | done | (with_reducible rfl))
                    refine wpAny_done (by kernel_rfl) ?_ _
                    obtain ⟨A3, c3, rfl, -⟩ := own_slice HR3.out
                    go_wp2_with fail
                    by_cases hi0 : i = 0
                    · have HOFF := Aside0.mk (show p.1.data.toList = [95] ∨ i = 0 from .inr hi0)
                      have HVE := Aside0.mk (show setR ou (p.1, sB.extract 0 i) = ou from if_pos (by show (sB.extract 0 i).data.toList = []; rw [HTK.out, hi0]; rfl))
                      have HNX := Aside0.mk (show foldM ((l.take (k + 1)).map plB) (s0.data.toList, []) = some ((sB.extract (i + p.2.size) sB.size).data.toList, t) by
                        rw [foldM_next HP.out HF.out, ext_drop]
                        refine (stepM_off HPL.out HOFF.out).trans ?_
                        rw [data_length])
                      go_roundg (nl - (k + 1))
                      case measure => have := HK.out; omega
                      case rel => exact ⟨k + 1, _, ou, A3, c3, t, by first | rfl | rw [e1], rfl, by rw [HVE.out], by first | (rw [size_drop_]; omega) | exact Nat.zero_le _, ⟨by have := HK.out; omega, by (have := HK.out; omega)⟩, ⟨by have h := HR3.out; rw [HVE.out] at h; exact own_base h HS2.out⟩, HNX, HO, HB3⟩
                    · have HIP := Aside0.mk (show 0 < i by omega)
                      have HVN := Aside0.mk (show (sB.extract 0 i).data.toList ≠ [] by rw [HTK.out]; exact fun h => by have := congrArg List.length h; rw [List.length_take, data_length] at this; simp only [List.length_nil] at this; omega)
                      have HNX := Aside0.mk (show foldM ((l.take (k + 1)).map plB) (s0.data.toList, []) = some ((sB.extract (i + p.2.size) sB.size).data.toList, t ++ [(p.1.data.toList, (sB.extract 0 i).data.toList)]) by
                        rw [foldM_next HP.out HF.out, ext_drop]
                        refine (stepM_on HPL.out HOD.out HIP.out).trans ?_
                        rw [← HTK.out]
                        rw [data_length])
                      have HO2 := Aside0.mk (setR_step HO.out.1 HO.out.2 (fold_nodup HND.out HF.out) HFR0.out HVN.out)
                      go_roundg (nl - (k + 1))
                      case measure => have := HK.out; omega
                      case rel => exact ⟨k + 1, _, setR ou (p.1, sB.extract 0 i), A3, c3, _, by first | rfl | rw [e1], rfl, rfl, by first | (rw [size_drop_]; omega) | exact Nat.zero_le _, ⟨by have := HK.out; omega, by (have := HK.out; have := HO2.out.2.2; omega)⟩, ⟨own_base HR3.out HS2.out⟩, HNX, ⟨HO2.out.1, HO2.out.2.1⟩, HB3⟩
                  exact AllReady.nil
                exact AllReady.nil
              exact AllReady.nil
      · have hz : ¬ (k : Int) < (nl : Int) := by omega
        have HKN := Aside0.mk (show l.take k = l from List.take_of_length_le (by rw [← HN.out]; omega))
        go_wp2_with fail
        go_ret2
        refine ⟨.inr ⟨_, ou, ?_, by have := HK.out; omega, rfl, HR.out⟩, HB.out⟩
        have hF := HF.out
        rw [HKN.out] at hF
        rw [HMP.out, hF]
        exact congrArg some HO.out.1.symm
end Go.Proofs.Ytpobgpfkohlokaa.PC
