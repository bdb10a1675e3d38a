/- cuts.Match. -/
import Derived.Test.YtpobgpfkohlokaaCG
import Derived.Test.YtpobgpfkohlokaaCN
namespace Go.Proofs.Ytpobgpfkohlokaa.PC
open Go.RowKit Go.Lib Go.Shelf Go.Maps Go.Proofs.YtpobgpfkohlokaaW.PrintWords Go.Proofs.YtpobgpfkohlokaaW.PrintLast Go.Proofs.YtpobgpfkohlokaaW.PrintMore
set_option linter.unusedVariables false
set_option linter.unusedSimpArgs false
theorem stepM_on {s b n : BL} {out : List (BL × BL)} {i : Nat} (hp : placeM s b = (i : Int)) (hn : ¬ n = [95]) (hi : 0 < i) : stepM (s, out) (n, b) = some (s.drop (i + b.length), out ++ [(n, s.take i)]) := by
  unfold stepM
  simp only [hp, Int.toNat_natCast]
  rw [if_neg (by omega), if_pos ⟨hn, by omega⟩]
theorem stepM_off {s b n : BL} {out : List (BL × BL)} {i : Nat} (hp : placeM s b = (i : Int)) (h : n = [95] ∨ i = 0) : stepM (s, out) (n, b) = some (s.drop (i + b.length), out) := by
  unfold stepM
  simp only [hp, Int.toNat_natCast]
  rw [if_neg (by omega), if_neg (by rintro ⟨h1, h2⟩; rcases h with h | h; exact h1 h; omega)]
theorem stepM_no {s b n : BL} {out : List (BL × BL)} (hp : placeM s b < 0) : stepM (s, out) (n, b) = none := if_pos hp
theorem foldM_next {l : List PB} {k : Nat} {p : PB} {st t : BL × List (BL × BL)} (h : l[k]? = some p) (hf : foldM ((l.take k).map plB) st = some t) : foldM ((l.take (k + 1)).map plB) st = stepM t (plB p) := by
  rw [List.take_add_one, h, List.map_append]
  exact foldM_snoc _ _ _ _ hf
theorem foldM_stop {l : List PB} {k : Nat} {p : PB} {st t : BL × List (BL × BL)} (h : l[k]? = some p) (hf : foldM ((l.take k).map plB) st = some t) (hn : stepM t (plB p) = none) : foldM (l.map plB) st = none := by
  rw [← List.take_append_drop (k + 1) l, List.map_append, foldM_append, foldM_next h hf, hn]
  rfl
theorem foldM_names : ∀ (l : List (BL × BL)) (st t : BL × List (BL × BL)), foldM l st = some t → ∃ sub, t.2.map (·.1) = st.2.map (·.1) ++ sub ∧ sub.Sublist (namesP l)
  | [], st, t, h => by cases h; exact ⟨[], by simp, List.Sublist.refl _⟩
  | p :: l, st, t, h => by
    have h : (stepM st p).bind (foldM l) = some t := h
    unfold stepM at h
    split at h
    · cases h
    · obtain ⟨sub, h1, h2⟩ := foldM_names l _ t h
      have e : namesP (p :: l) = (if p.1 == [95] then [] else [p.1]) ++ namesP l := by
        unfold namesP
        rw [List.map_cons, List.filter_cons]
        cases p.1 == [95] <;> rfl
      rw [e]
      by_cases hc : p.1 ≠ [95] ∧ 0 < placeM st.1 p.2
      · rw [if_pos hc] at h1
        refine ⟨p.1 :: sub, by rw [h1]; simp, ?_⟩
        rw [if_neg (by simpa using hc.1)]
        exact h2.cons_cons p.1
      · rw [if_neg hc] at h1
        exact ⟨sub, h1, h2.trans (List.sublist_append_right _ _)⟩
theorem own_block74 {w : World} {B : Nat} {v : Value} {l : List PB} (h : RowP B w 74 v l) {k : Nat} (hk : v.ownBlock = some k) : B ≤ k ∧ ∃ cs, w.heap[k]? = some (.cells cs 74 (0, 0)) := own_block h hk
theorem own_ne {w : World} {B g : Nat} {v : Value} {l : List PB} {cs : Array Value} (h : RowP B w 74 v l) (hb : w.heap[g]? = some (.cells cs 63 (0, 0))) (hk : v.ownBlock = some g) : False := by
  obtain ⟨-, cs', h2⟩ := own_block h hk
  rw [hb] at h2
  cases h2
theorem size_drop_ (s : ByteArray) (a : Nat) : (s.extract a s.size).size = s.size - a := by rw [← data_length, ext_drop, List.length_drop, data_length]
section
variable {ops : Array Oper} {o : Oper} {a : Act} {K : Act → World → Prop} {Q : Exit → Act → World → Prop} {w : World}
/-- out = append(out, label), in a region that draws. -/
theorem append_O (hw : Region.wanted o (yielded ops a.tmps) = true) (s x : Operand) (ho : o.op = .call { callee := .builtin .append, args := #[s, x], argTypes := #[31, 31] }) {B : Nat} {v : Value} {l : List PB} (hs : a.eval s = v) (hown : RowP B w 74 v l)
    {g c : Nat} (hx : a.eval x = .slice (some ⟨g, 0, none⟩) 1 c) {u u' : ByteArray} (hu : w.cell? ⟨g, 0, none⟩ = some (.string u)) (hu' : w.cell? ⟨g, 1, none⟩ = some (.string u')) (hl : l.length ≤ 1000000) (hB : B ≤ w.heap.size)
    (h : ∀ g' c' w', RowP B w' 74 (.slice (some ⟨g', 0, none⟩) (l.length + 1) c') (l ++ [(u, u')]) → Kb (fun k => v.ownBlock = some k) w w' → K (a.put o.dst (.slice (some ⟨g', 0, none⟩) (l.length + 1) c')) w') :
    if Region.wanted o (yielded ops a.tmps) = true then Oper.wp Try.prog o a w K Q else K (a.put o.dst undef) w := by
  rw [if_pos hw]
  obtain ⟨i, hi, hz, h4, h5⟩ := info_parts i74
  obtain ⟨v', w', hrun, h1, h2, h3⟩ := run_append_own (P := Try.prog) w B 31 o.type 74 i _ 2 32 Try.underlying31 hi hz h4 h5 rfl (by omega) v l.length _ hown ⟨g, 0, none⟩ 1 c [.string u, .string u'] rfl (fun j q hj => by
    match j, hj with
    | 0, hj => cases hj; exact hu
    | 1, hj => cases hj; exact hu'
    | j + 2, hj => cases hj) (fun q hq => by
    cases hq with
    | head => rfl
    | tail _ hq =>
      cases hq with
      | head => rfl
      | tail _ hq => cases hq) (by simp only [maxLen]; omega) (by omega) hB
  have hk : Kb (fun k => v.ownBlock = some k) w w' := (Kb.refl _ w).grown h2 (fun k e => .inl e)
  rcases h1.2 with ⟨-, h0⟩ | ⟨g', c', cur, h6, -⟩
  · omega
  · subst h6
    have hfin := h g' c' w' (by unfold RowP; rw [cellsB_append, List.length_append]; exact h1) hk
    unfold Oper.wp
    simp [execOp, ho, resolve, invoke, builtin, hs, hx, hrun, Result.andThen]
    exact hfin
end
set_option maxHeartbeats 16000000 in
set_option maxRecDepth 100000 in
theorem match_calls (w : World) (B : Nat) (v : Value) (a : ByteArray) (l : List PB) (hc : CutsAt B w v a l) (hl : l.length ≤ 300) (hnd : (namesP (l.map plB)).Nodup) (s : ByteArray) (hs : s.size < 4294967281) (m : Int) (hm : w.cell? ⟨0, 0, none⟩ = some (.int .i64 m)) :
    Calls Try.prog 11 #[v, .string s] w fun e w' => ((matchP a.data.toList (l.map plB) s.data.toList = none ∧ e = .returned (.tuple #[.slice none 0 0, .bool false])) ∨ (∃ u ds, matchP a.data.toList (l.map plB) s.data.toList = some (ds.map plB) ∧ e = .returned (.tuple #[u, .bool true]) ∧ RowP w.heap.size w' 74 u ds)) ∧ Below w.heap.size w w' := by
  obtain ⟨g, u, rfl, hBg, hg, hu⟩ := hc
  obtain ⟨Al, cl, rfl, hcl⟩ := own_slice hu
  have hc0 : w.cell? ⟨g, 0, none⟩ = some (.string a) := (blk_cell hg 0).trans rfl
  have hc1 : w.cell? ⟨g, 1, none⟩ = some (.slice Al l.length cl) := (blk_cell hg 1).trans rfl
  obtain ⟨nl, hnl⟩ : ∃ nl, nl = l.length := ⟨_, rfl⟩
  rw [← hnl] at hc1 hcl
  have HU := Aside0.mk (show RowP B w 63 (.slice Al nl cl) l by rw [hnl]; exact hu)
  have HN := Aside0.mk hnl
  have HG := Aside0.mk hg
  have HND := Aside0.mk hnd
  have hl2 : nl ≤ 300 := by omega
  have hu63 := Try.underlying63
  have mixed : Try.prog.follows .mixedOrders = true := by kernel_rfl
  have HMX := Aside0.mk hm
  clear hu hnl hg hl hnd hm
  by_cases h0 : nl = 0
  · subst h0
    go_enter Try.func11, Try.ntmps11
    go_wp2
    go_ret2
    refine ⟨.inl ⟨?_, rfl⟩, Below.refl _ _⟩
    have : l = [] := List.eq_nil_of_length_eq_zero HN.out.symm
    unfold matchP
    rw [this]
    rfl
  · have hz0 : ¬ (nl : Int) = 0 := by omega
    have HL0 := Aside0.mk (show ¬ l.map plB = [] from fun h => h0 (by rw [HN.out, List.map_eq_nil_iff.1 h]; rfl))
    clear h0
    have hcut := fun W => Try.strings_CutPrefix s a W
    cases hp : hasPrefix s.data.toList a.data.toList with
    | false =>
      rw [hp] at hcut
      have HP := Aside0.mk hp
      clear hp
      generalize (⟨(trimPrefix s.data.toList a.data.toList).toArray⟩ : ByteArray) = s0 at hcut
      go_enter Try.func11, Try.ntmps11
      go_wp2_with (first | (go_at_call 30; refine (hcut _).mono ?_; rintro e w' ⟨rfl, hw⟩; subst w'))
      go_ret2
      refine ⟨.inl ⟨?_, rfl⟩, Below.refl _ _⟩
      unfold matchP
      rw [if_neg HL0.out, HP.out]
      rfl
    | true =>
      rw [hp] at hcut
      have HP := Aside0.mk hp
      clear hp
      obtain ⟨s0, hs0⟩ : ∃ s0 : ByteArray, s0 = ⟨(trimPrefix s.data.toList a.data.toList).toArray⟩ := ⟨_, rfl⟩
      rw [← hs0] at hcut
      have hs0d : s0.data.toList = trimPrefix s.data.toList a.data.toList := by rw [hs0]
      have hs0z : s0.size ≤ s.size := by
        have h1 := trimPrefix_le s.data.toList a.data.toList
        rw [← hs0d, data_length, data_length] at h1
        exact h1
      have HMP := Aside0.mk (show matchP a.data.toList (l.map plB) s.data.toList = (foldM (l.map plB) (s0.data.toList, [])).map (fun st => sortM st.2) by
        unfold matchP
        rw [if_neg HL0.out, if_pos HP.out, hs0d])
      clear hs0 hs0d
      go_enter Try.func11, Try.ntmps11
      go_wp2_with (first | (go_at_call 30; refine (hcut _).mono ?_; rintro e w' ⟨rfl, hw⟩; subst w'))
      clear hcut
      go_loopg [6, 8, 38] nl (fun g1 v6 v8 v38 wr => ∃ (k : Nat) (sB : ByteArray) (ou : List PB) (Ao : Option Addr) (co : Nat), v38 = .int .i64 k ∧ v6 = .string sB ∧ v8 = .slice Ao ou.length co ∧ sB.size ≤ s.size ∧ Aside0 (k + g1 = nl ∧ ou.length ≤ k) ∧ Aside0 (RowP w.heap.size wr 74 (.slice Ao ou.length co) ou) ∧ Aside0 (foldM ((l.take k).map plB) (s0.data.toList, []) = some (sB.data.toList, ou.map plB)) ∧ Aside0 (Below w.heap.size w wr))
      case atStart => exact ⟨0, s0, [], none, 0, rfl, rfl, rfl, hs0z, ⟨by omega, Nat.le_refl _⟩, ⟨⟨rfl, .inl ⟨rfl, rfl⟩⟩⟩, ⟨rfl⟩, ⟨Below.refl _ _⟩⟩
      case round =>
        obtain ⟨k, sB, ou, Ao, co, rfl, rfl, rfl, hsB, HK, HR, HF, HB⟩ := hrel
        by_cases hlt : k < nl
        · have hz : (k : Int) < (nl : Int) := by omega
          have e1 : IntKind.i64.wrap ((k : Int) + 1) = ((k + 1 : Nat) : Int) := (i64_w _).trans ((w64 (by omega) (by omega)).trans (by omega))
          obtain ⟨p, hp⟩ : ∃ p, l[k]? = some p := ⟨l[k]'(by rw [← HN.out]; exact hlt), List.getElem?_eq_getElem _⟩
          obtain ⟨r, rfl, hBr, hr, hr0, hr1⟩ := rowP_get HU.out hp
          have c0 := cell_bl HB.out hr0
          have c1 := cell_bl HB.out hr1
          have HP := Aside0.mk hp
          clear hp hr0 hr1
          by_cases hb : p.2.toList = []
          · have hbt : (p.2.toList == []) = true := by simpa using hb
            have hb2 : p.2.data.toList = [] := by rw [← ByteArray.toList_eq]; exact hb
            have hbz : p.2.size = 0 := by rw [← data_length, hb2]; rfl
            have HPL := Aside0.mk (show placeM sB.data.toList p.2.data.toList = (sB.size : Int) by unfold placeM; rw [if_pos hb2, data_length])
            have hii : sB.size + p.2.size ≤ sB.size := by omega
            clear hb2
            have e2 : IntKind.i64.wrap ((sB.size : Int) + (p.2.size : Int)) = ((sB.size + p.2.size : Nat) : Int) := (i64_w _).trans ((w64 (by omega) (by omega)).trans (by omega))
            have e3 : ¬ (sB.size : Int) < 0 := by omega
            have e5 : sB.size ≤ sB.size := by omega
            cases ho : odd1 p.1 with
            | true =>
              have ht : (p.1.toList == [95]) = true := ho
              have HOFF := Aside0.mk (show p.1.data.toList = [95] ∨ sB.size = 0 from .inl (by rw [← ByteArray.toList_eq]; exact eq_of_beq ho))
              have HNX := Aside0.mk (show foldM ((l.take (k + 1)).map plB) (s0.data.toList, []) = some (ByteArray.empty.data.toList, ou.map plB) by
                rw [foldM_next HP.out HF.out]
                refine (stepM_off HPL.out HOFF.out).trans ?_
                show some (sB.data.toList.drop (sB.size + p.2.data.toList.length), _) = some ([], _)
                rw [List.drop_eq_nil_of_le (by rw [data_length, data_length]; omega)]
                try rfl)
              go_wp2_with fail
              go_roundg (nl - (k + 1))
              case measure => have := HK.out; omega
              case rel => exact ⟨k + 1, _, ou, Ao, co, by first | rfl | rw [e1], rfl, rfl, by first | (rw [size_drop_]; omega) | exact Nat.zero_le _, ⟨by have := HK.out; omega⟩, ⟨HR.out.alloc⟩, ⟨HNX.out⟩, ⟨below_alloc HB.out _⟩⟩
            | false =>
              have ht : (p.1.toList == [95]) = false := ho
              have HOD := Aside0.mk (show ¬ p.1.data.toList = [95] from by rw [← ByteArray.toList_eq]; intro h; rw [show odd1 p.1 = true from beq_iff_eq.2 h] at ho; cases ho)
              clear ho
              by_cases hi0 : sB.size = 0
              · have e4 : ¬ (0 : Int) < (sB.size : Int) := by omega
                have HOFF := Aside0.mk (show p.1.data.toList = [95] ∨ sB.size = 0 from .inr hi0)
                clear hi0
                have HNX := Aside0.mk (show foldM ((l.take (k + 1)).map plB) (s0.data.toList, []) = some (ByteArray.empty.data.toList, ou.map plB) by
                  rw [foldM_next HP.out HF.out]
                  refine (stepM_off HPL.out HOFF.out).trans ?_
                  show some (sB.data.toList.drop (sB.size + p.2.data.toList.length), _) = some ([], _)
                  rw [List.drop_eq_nil_of_le (by rw [data_length, data_length]; omega)]
                  try rfl)
                go_wp2_with fail
                go_roundg (nl - (k + 1))
                case measure => have := HK.out; omega
                case rel => exact ⟨k + 1, _, ou, Ao, co, by first | rfl | rw [e1], rfl, rfl, by first | (rw [size_drop_]; omega) | exact Nat.zero_le _, ⟨by have := HK.out; omega⟩, ⟨HR.out.alloc⟩, ⟨HNX.out⟩, ⟨below_alloc HB.out _⟩⟩
              · have e4 : (0 : Int) < (sB.size : Int) := by omega
                have HIP := Aside0.mk (show 0 < sB.size by omega)
                clear hi0
                have HNX := Aside0.mk (show foldM ((l.take (k + 1)).map plB) (s0.data.toList, []) = some (ByteArray.empty.data.toList, (ou ++ [(p.1, sB)]).map plB) by
                  rw [foldM_next HP.out HF.out]
                  refine (stepM_on HPL.out HOD.out HIP.out).trans ?_
                  rw [List.map_append, show sB.data.toList.take sB.size = sB.data.toList from List.take_of_length_le (by rw [data_length]; exact Nat.le_refl _)]
                  show some (sB.data.toList.drop (sB.size + p.2.data.toList.length), _) = some ([], _)
                  rw [List.drop_eq_nil_of_le (by rw [data_length, data_length]; omega)]
                  try rfl)
                go_wp2_with fail
                refine wp_region_any (by assumption) ?_
                try (change wpAny _ _ _ _ _ _ _ (World.drew _))
                have HB1 := Aside0.mk (below_drew1 (below_alloc HB.out (.cells #[.string p.1, .string p.2] 63)))
                have hbox := World.alloc_heap_new wr (.cells #[.string p.1, .string p.2] 63)
                have HR1 := Aside0.mk (HR.out.kb (((Kb.refl (fun _ => False) wr).alloc (.cells #[.string p.1, .string p.2] 63)).drew) (fun _ _ h => h))
                have HRL := Aside0.mk HB.out.size
                clear HR
                have hbox2 : (wr.alloc (.cells #[.string p.1, .string p.2] 63)).drew.heap[wr.heap.size]? = some (.cells #[.string p.1, .string p.2] 63) := hbox
                generalize (wr.alloc (.cells #[.string p.1, .string p.2] 63)).drew = wa at HB1 HR1 hbox2 ⊢
                have d0 := (blk_cell hbox2 0).trans rfl
                have d1 := (blk_cell hbox2 1).trans rfl
                have HBX := Aside0.mk hbox2
                clear hbox hbox2
                refine wpAny_take (i := 0) (v := ?vA1) rfl (by kernel_rfl) (by kernel_rfl) (by kernel_rfl) (fun _ _ _ h => h) (Or.inl ⟨by rfl, ?hyA1⟩) ?_
                case hyA1 => intro w; go_simp; (first | done | (with_reducible rfl))
                refine wpAny_take (i := 1) (v := ?vA2) rfl (by kernel_rfl) (by kernel_rfl) (by kernel_rfl) (fun _ _ _ h => h) (Or.inl ⟨by rfl, ?hyA2⟩) ?_
                case hyA2 => intro w; go_simp; (first | done | (with_reducible rfl))
                refine wpAny_take (i := 3) (v := ?vA3) rfl (by kernel_rfl) (by kernel_rfl) (by kernel_rfl) (fun _ _ _ h => h) (Or.inl ⟨by rfl, ?hyA3⟩) ?_
                case hyA3 => intro w; go_simp; (first | done | (with_reducible rfl))
                refine wpAny_take (i := 4) (v := ?vA4) rfl (by kernel_rfl) (by kernel_rfl) (by kernel_rfl) (fun _ _ _ h => h) (Or.inl ⟨by rfl, ?hyA4⟩) ?_
                case hyA4 => intro w; go_simp; (first | done | (with_reducible rfl))
                refine wpAny_take (i := 5) (v := ?vA5) rfl (by kernel_rfl) (by kernel_rfl) (by kernel_rfl) (fun _ _ _ h => h) (Or.inl ⟨by rfl, ?hyA5⟩) ?_
                case hyA5 => intro w; go_simp; (first | done | (with_reducible rfl))
                refine wpAny_ready (rs := [2]) (by kernel_rfl) (by simp) ?_
                refine AllReady.cons rfl (fun K hK => ?_) ?_
                · go_simp
                  refine hK _ _ ?_
                  clear hK K
                  skip
                  refine wpAny_take (i := 6) (v := ?vA6) rfl (by kernel_rfl) (by kernel_rfl) (by kernel_rfl) (fun _ _ _ h => h) (Or.inl ⟨by rfl, ?hyA6⟩) ?_
                  case hyA6 => intro w; go_simp; (first | done | (with_reducible rfl))
                  refine wpAny_ready (rs := [7]) (by kernel_rfl) (by simp) ?_
                  refine AllReady.cons rfl (fun K hK => ?_) ?_
                  · go_simp
                    refine hK _ _ ?_
                    clear hK K
                    have k7 := (Kb.refl (fun _ => False) wa).alloc (.cells #[.string p.1, .string (sB)] 74)
                    have hnew := World.alloc_heap_new wa (.cells #[.string p.1, .string (sB)] 74)
                    have HR2 := Aside0.mk (HR1.out.kb k7 (fun _ _ h => h))
                    have HB2 := Aside0.mk (below_alloc HB1.out (.cells #[.string p.1, .string (sB)] 74))
                    have d1p := Kb.cell d1 k7 (fun h => h)
                    have HBX2 := Aside0.mk (Kb.blk HBX.out k7 (fun h => h))
                    clear k7 HR1 HB1 d0 d1 HBX
                    generalize wa.alloc _ = wb at hnew HR2 HB2 HBX2 d1p ⊢
                    have HR1 := HR2
                    clear HR2
                    have HB1 := HB2
                    clear HB2
                    have d1 := d1p
                    clear d1p
                    have HBX := HBX2
                    clear HBX2
                    have HU0 := Aside0.mk ((blk_cell hnew 0).trans rfl)
                    have HU1 := Aside0.mk ((blk_cell hnew 1).trans rfl)
                    clear hnew
                    refine wpAny_ready (rs := [8]) (by kernel_rfl) (by simp) ?_
                    refine AllReady.cons rfl (fun K hK => ?_) ?_
                    · refine append_O (by rfl) (.tmp 60) (.tmp 67) rfl rfl HR1.out rfl (u := p.1) (u' := sB) HU0.out HU1.out (by have := HK.out; omega) HB1.out.size ?_
                      intro g3 c3 w3 hr3 hk3
                      refine hK _ _ ?_
                      clear hK K
                      have HR3 := Aside0.mk hr3
                      have HB3 := Aside0.mk (below_kb HB1.out (hk3.mono (fun j h => (own_block74 HR1.out h).1)))
                      have d1p := Kb.cell d1 hk3 (fun h => own_ne HR1.out HBX.out h)
                      clear hr3 hk3 d1
                      have d1 := d1p
                      clear d1p
                      refine wpAny_take (i := 9) (v := ?vA7) rfl (by kernel_rfl) (by kernel_rfl) (by kernel_rfl) (fun _ _ _ h => h) (Or.inl ⟨by rfl, ?hyA7⟩) ?_
                      case hyA7 => intro w; go_simp; (first | done | (with_reducible rfl))
                      refine wpAny_done (by kernel_rfl) ?_ _
                      go_wp2_with fail
                      go_roundg (nl - (k + 1))
                      case measure => have := HK.out; omega
                      case rel => exact ⟨k + 1, _, ou ++ [(p.1, sB)], _, c3, by first | rfl | rw [e1], rfl, by rw [List.length_append]; rfl, by first | (rw [size_drop_]; omega) | exact Nat.zero_le _, ⟨by have := HK.out; simp only [List.length_append, List.length_singleton]; omega⟩, ⟨by rw [List.length_append]; exact HR3.out⟩, ⟨HNX.out⟩, ⟨HB3.out⟩⟩
                    exact AllReady.nil
                  exact AllReady.nil
                exact AllReady.nil
          · have hbt : (p.2.toList == []) = false := by simpa using hb
            have hb2 : ¬ p.2.data.toList = [] := by rw [← ByteArray.toList_eq]; exact hb
            have hix := fun W (hm : W.cell? ⟨0, 0, none⟩ = some (.int .i64 m)) => Try.strings_Index sB p.2 m W (by omega) hm
            have HIX := Aside0.mk (show placeM sB.data.toList p.2.data.toList = index sB.data.toList p.2.data.toList by unfold placeM; rw [if_neg hb2])
            have hroom := index_room sB.data.toList p.2.data.toList
            have hge := index_ge sB.data.toList p.2.data.toList
            rw [data_length, data_length] at hroom
            by_cases hneg : index sB.data.toList p.2.data.toList < 0
            · have hn1 : index sB.data.toList p.2.data.toList = -1 := by omega
              have HPL := Aside0.mk (show placeM sB.data.toList p.2.data.toList < 0 by rw [HIX.out]; exact hneg)
              rw [hn1] at hix
              clear hn1 hneg hge hroom
              go_wp2_with (first | (go_at_call 19; refine (hix _ (cell_bl (below_alloc HB.out _) HMX.out)).mono ?_; rintro e w' ⟨rfl, rfl⟩))
              go_ret2
              refine ⟨.inl ⟨?_, rfl⟩, below_alloc HB.out _⟩
              rw [HMP.out, foldM_stop HP.out HF.out (stepM_no HPL.out)]
              rfl
            · obtain ⟨i, hi⟩ : ∃ i : Nat, index sB.data.toList p.2.data.toList = (i : Int) := ⟨(index sB.data.toList p.2.data.toList).toNat, by omega⟩
              have HPL := Aside0.mk (show placeM sB.data.toList p.2.data.toList = (i : Int) by rw [HIX.out]; exact hi)
              rw [hi] at hix hroom
              have hii : i + p.2.size ≤ sB.size := by have := hroom (by omega); omega
              clear hi hneg hge hroom hb2
              have e2 : IntKind.i64.wrap ((i : Int) + (p.2.size : Int)) = ((i + p.2.size : Nat) : Int) := (i64_w _).trans ((w64 (by omega) (by omega)).trans (by omega))
              have e3 : ¬ (i : Int) < 0 := by omega
              have e5 : i ≤ sB.size := by omega
              cases ho : odd1 p.1 with
              | true =>
                have ht : (p.1.toList == [95]) = true := ho
                have HOFF := Aside0.mk (show p.1.data.toList = [95] ∨ i = 0 from .inl (by rw [← ByteArray.toList_eq]; exact eq_of_beq ho))
                have HNX := Aside0.mk (show foldM ((l.take (k + 1)).map plB) (s0.data.toList, []) = some ((sB.extract (i + p.2.size) sB.size).data.toList, ou.map plB) by
                  rw [foldM_next HP.out HF.out]
                  refine (stepM_off HPL.out HOFF.out).trans ?_
                  rw [ext_drop]
                  show some (sB.data.toList.drop (i + p.2.data.toList.length), _) = _
                  rw [data_length]
                  try rfl)
                go_wp2_with (first | (go_at_call 19; refine (hix _ (cell_bl (below_alloc HB.out _) HMX.out)).mono ?_; rintro e w' ⟨rfl, rfl⟩))
                go_roundg (nl - (k + 1))
                case measure => have := HK.out; omega
                case rel => exact ⟨k + 1, _, ou, Ao, co, by first | rfl | rw [e1], rfl, rfl, by first | (rw [size_drop_]; omega) | exact Nat.zero_le _, ⟨by have := HK.out; omega⟩, ⟨HR.out.alloc⟩, ⟨HNX.out⟩, ⟨below_alloc HB.out _⟩⟩
              | false =>
                have ht : (p.1.toList == [95]) = false := ho
                have HOD := Aside0.mk (show ¬ p.1.data.toList = [95] from by rw [← ByteArray.toList_eq]; intro h; rw [show odd1 p.1 = true from beq_iff_eq.2 h] at ho; cases ho)
                clear ho
                by_cases hi0 : i = 0
                · have e4 : ¬ (0 : Int) < (i : Int) := by omega
                  have HOFF := Aside0.mk (show p.1.data.toList = [95] ∨ i = 0 from .inr hi0)
                  clear hi0
                  have HNX := Aside0.mk (show foldM ((l.take (k + 1)).map plB) (s0.data.toList, []) = some ((sB.extract (i + p.2.size) sB.size).data.toList, ou.map plB) by
                    rw [foldM_next HP.out HF.out]
                    refine (stepM_off HPL.out HOFF.out).trans ?_
                    rw [ext_drop]
                    show some (sB.data.toList.drop (i + p.2.data.toList.length), _) = _
                    rw [data_length]
                    try rfl)
                  go_wp2_with (first | (go_at_call 19; refine (hix _ (cell_bl (below_alloc HB.out _) HMX.out)).mono ?_; rintro e w' ⟨rfl, rfl⟩))
                  go_roundg (nl - (k + 1))
                  case measure => have := HK.out; omega
                  case rel => exact ⟨k + 1, _, ou, Ao, co, by first | rfl | rw [e1], rfl, rfl, by first | (rw [size_drop_]; omega) | exact Nat.zero_le _, ⟨by have := HK.out; omega⟩, ⟨HR.out.alloc⟩, ⟨HNX.out⟩, ⟨below_alloc HB.out _⟩⟩
                · have e4 : (0 : Int) < (i : Int) := by omega
                  have HIP := Aside0.mk (show 0 < i by omega)
                  clear hi0
                  have HNX := Aside0.mk (show foldM ((l.take (k + 1)).map plB) (s0.data.toList, []) = some ((sB.extract (i + p.2.size) sB.size).data.toList, (ou ++ [(p.1, sB.extract 0 i)]).map plB) by
                    rw [foldM_next HP.out HF.out]
                    refine (stepM_on HPL.out HOD.out HIP.out).trans ?_
                    rw [List.map_append]
                    show some (_, _ ++ [(_, _)]) = some (_, _ ++ [(_, (sB.extract 0 i).data.toList)])
                    rw [ext_take]
                    rw [ext_drop]
                    show some (sB.data.toList.drop (i + p.2.data.toList.length), _) = _
                    rw [data_length]
                    try rfl)
                  go_wp2_with (first | (go_at_call 19; refine (hix _ (cell_bl (below_alloc HB.out _) HMX.out)).mono ?_; rintro e w' ⟨rfl, rfl⟩))
                  refine wp_region_any (by assumption) ?_
                  try (change wpAny _ _ _ _ _ _ _ (World.drew _))
                  have HB1 := Aside0.mk (below_drew1 (below_alloc HB.out (.cells #[.string p.1, .string p.2] 63)))
                  have hbox := World.alloc_heap_new wr (.cells #[.string p.1, .string p.2] 63)
                  have HR1 := Aside0.mk (HR.out.kb (((Kb.refl (fun _ => False) wr).alloc (.cells #[.string p.1, .string p.2] 63)).drew) (fun _ _ h => h))
                  have HRL := Aside0.mk HB.out.size
                  clear HR
                  have hbox2 : (wr.alloc (.cells #[.string p.1, .string p.2] 63)).drew.heap[wr.heap.size]? = some (.cells #[.string p.1, .string p.2] 63) := hbox
                  generalize (wr.alloc (.cells #[.string p.1, .string p.2] 63)).drew = wa at HB1 HR1 hbox2 ⊢
                  have d0 := (blk_cell hbox2 0).trans rfl
                  have d1 := (blk_cell hbox2 1).trans rfl
                  have HBX := Aside0.mk hbox2
                  clear hbox hbox2
                  refine wpAny_take (i := 0) (v := ?vB1) rfl (by kernel_rfl) (by kernel_rfl) (by kernel_rfl) (fun _ _ _ h => h) (Or.inl ⟨by rfl, ?hyB1⟩) ?_
                  case hyB1 => intro w; go_simp; (first | done | (with_reducible rfl))
                  refine wpAny_take (i := 1) (v := ?vB2) rfl (by kernel_rfl) (by kernel_rfl) (by kernel_rfl) (fun _ _ _ h => h) (Or.inl ⟨by rfl, ?hyB2⟩) ?_
                  case hyB2 => intro w; go_simp; (first | done | (with_reducible rfl))
                  refine wpAny_take (i := 3) (v := ?vB3) rfl (by kernel_rfl) (by kernel_rfl) (by kernel_rfl) (fun _ _ _ h => h) (Or.inl ⟨by rfl, ?hyB3⟩) ?_
                  case hyB3 => intro w; go_simp; (first | done | (with_reducible rfl))
                  refine wpAny_take (i := 4) (v := ?vB4) rfl (by kernel_rfl) (by kernel_rfl) (by kernel_rfl) (fun _ _ _ h => h) (Or.inl ⟨by rfl, ?hyB4⟩) ?_
                  case hyB4 => intro w; go_simp; (first | done | (with_reducible rfl))
                  refine wpAny_take (i := 5) (v := ?vB5) rfl (by kernel_rfl) (by kernel_rfl) (by kernel_rfl) (fun _ _ _ h => h) (Or.inl ⟨by rfl, ?hyB5⟩) ?_
                  case hyB5 => intro w; go_simp; (first | done | (with_reducible rfl))
                  refine wpAny_ready (rs := [2]) (by kernel_rfl) (by simp) ?_
                  refine AllReady.cons rfl (fun K hK => ?_) ?_
                  · go_simp
                    refine hK _ _ ?_
                    clear hK K
                    skip
                    refine wpAny_take (i := 6) (v := ?vB6) rfl (by kernel_rfl) (by kernel_rfl) (by kernel_rfl) (fun _ _ _ h => h) (Or.inl ⟨by rfl, ?hyB6⟩) ?_
                    case hyB6 => intro w; go_simp; (first | done | (with_reducible rfl))
                    refine wpAny_ready (rs := [7]) (by kernel_rfl) (by simp) ?_
                    refine AllReady.cons rfl (fun K hK => ?_) ?_
                    · go_simp
                      refine hK _ _ ?_
                      clear hK K
                      have k7 := (Kb.refl (fun _ => False) wa).alloc (.cells #[.string p.1, .string (sB.extract 0 i)] 74)
                      have hnew := World.alloc_heap_new wa (.cells #[.string p.1, .string (sB.extract 0 i)] 74)
                      have HR2 := Aside0.mk (HR1.out.kb k7 (fun _ _ h => h))
                      have HB2 := Aside0.mk (below_alloc HB1.out (.cells #[.string p.1, .string (sB.extract 0 i)] 74))
                      have d1p := Kb.cell d1 k7 (fun h => h)
                      have HBX2 := Aside0.mk (Kb.blk HBX.out k7 (fun h => h))
                      clear k7 HR1 HB1 d0 d1 HBX
                      generalize wa.alloc _ = wb at hnew HR2 HB2 HBX2 d1p ⊢
                      have HR1 := HR2
                      clear HR2
                      have HB1 := HB2
                      clear HB2
                      have d1 := d1p
                      clear d1p
                      have HBX := HBX2
                      clear HBX2
                      have HU0 := Aside0.mk ((blk_cell hnew 0).trans rfl)
                      have HU1 := Aside0.mk ((blk_cell hnew 1).trans rfl)
                      clear hnew
                      refine wpAny_ready (rs := [8]) (by kernel_rfl) (by simp) ?_
                      refine AllReady.cons rfl (fun K hK => ?_) ?_
                      · refine append_O (by rfl) (.tmp 60) (.tmp 67) rfl rfl HR1.out rfl (u := p.1) (u' := sB.extract 0 i) HU0.out HU1.out (by have := HK.out; omega) HB1.out.size ?_
                        intro g3 c3 w3 hr3 hk3
                        refine hK _ _ ?_
                        clear hK K
                        have HR3 := Aside0.mk hr3
                        have HB3 := Aside0.mk (below_kb HB1.out (hk3.mono (fun j h => (own_block74 HR1.out h).1)))
                        have d1p := Kb.cell d1 hk3 (fun h => own_ne HR1.out HBX.out h)
                        clear hr3 hk3 d1
                        have d1 := d1p
                        clear d1p
                        refine wpAny_take (i := 9) (v := ?vB7) rfl (by kernel_rfl) (by kernel_rfl) (by kernel_rfl) (fun _ _ _ h => h) (Or.inl ⟨by rfl, ?hyB7⟩) ?_
                        case hyB7 => intro w; go_simp; (first | done | (with_reducible rfl))
                        refine wpAny_done (by kernel_rfl) ?_ _
                        go_wp2_with fail
                        go_roundg (nl - (k + 1))
                        case measure => have := HK.out; omega
                        case rel => exact ⟨k + 1, _, ou ++ [(p.1, sB.extract 0 i)], _, c3, by first | rfl | rw [e1], rfl, by rw [List.length_append]; rfl, by first | (rw [size_drop_]; omega) | exact Nat.zero_le _, ⟨by have := HK.out; simp only [List.length_append, List.length_singleton]; omega⟩, ⟨by rw [List.length_append]; exact HR3.out⟩, ⟨HNX.out⟩, ⟨HB3.out⟩⟩
                      exact AllReady.nil
                    exact AllReady.nil
                  exact AllReady.nil
        · have hz : ¬ (k : Int) < (nl : Int) := by omega
          have HKN := Aside0.mk (show l.take k = l from List.take_of_length_le (by rw [← HN.out]; omega))
          go_wp2_with (first | (go_at_call 31; refine (sort_rows w wr _ ou HR.out HB.out (by have := HK.out; omega)).mono ?_; rintro e w' ⟨rfl, ds, hd1, hd2, hd3, hd4⟩; have HD := Aside0.mk (And.intro hd1 (And.intro hd2 (And.intro hd3 hd4))); clear hd1 hd2 hd3 hd4))
          go_ret2
          refine ⟨.inr ⟨_, ds, ?_, rfl, HD.out.2.2.1⟩, HD.out.2.2.2⟩
          have hF := HF.out
          rw [HKN.out] at hF
          rw [HMP.out, hF]
          obtain ⟨sub, hs1, hs2⟩ := foldM_names _ _ _ hF
          have hnn : ((ou.map plB).map (·.1)).Nodup := by
            have : (ou.map plB).map (·.1) = sub := by simpa using hs1
            rw [this]
            exact hs2.nodup HND.out
          exact congrArg some (sortM_unique (HD.out.1.map plB) (List.pairwise_map.2 (HD.out.2.1.imp (fun h => by first | exact h | exact Int.not_lt.2 h))) hnn).symm
end Go.Proofs.Ytpobgpfkohlokaa.PC
