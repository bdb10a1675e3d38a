/- CutsMatch, walked. -/
import Derived.Test.YtpobgpfkohlokaaRM
import Derived.Test.YtpobgpfkohlokaaRW
import Derived.Test.YtpobgpfkohlokaaLK
import Derived.Deep.QuietTactic
namespace Go.Proofs.Ytpobgpfkohlokaa.PC
open Go.RowKit Go.Lib Go.Shelf Go.Maps Go.Proofs.YtpobgpfkohlokaaW.PrintWords Go.Proofs.YtpobgpfkohlokaaW.PrintLast Go.Proofs.YtpobgpfkohlokaaW.PrintMore
attribute [local go_sem] max2_int min2_int max_two min_two
set_option linter.unusedVariables false
set_option linter.unusedSimpArgs false
theorem newP_ne {s : BL} {c : BL × List (BL × BL)} (h : newP s = some c) : c.2 ≠ [] := by
  intro hc
  unfold newP at h
  split at h
  · cases hf : foldN (partsA s) ([], [], []) with
    | none => rw [hf] at h; cases h
    | some st =>
      rw [hf] at h
      have h : (if namesP st.2.2 = [] then none else some st.2) = some c := h
      split at h
      · cases h
      · rename_i hn
        cases h
        exact hn (by rw [hc]; rfl)
  · cases h
theorem ml_ba {a b : ByteArray} (h : a.data.toList = b.data.toList) : a = b := by
  cases a; cases b
  congr 1
  exact Array.toList_inj.1 h
theorem ml_inj {l m : List PB} (h : l.map plB = m.map plB) : l = m := by
  induction l generalizing m with
  | nil => cases m with
    | nil => rfl
    | cons b m => cases h
  | cons a l ih => cases m with
    | nil => cases h
    | cons b m =>
      have h1 : plB a = plB b := (List.cons.inj h).1
      have h2 := ih (List.cons.inj h).2
      have h3 : a = b := Prod.ext (ml_ba (congrArg Prod.fst h1)) (ml_ba (congrArg Prod.snd h1))
      rw [h2, h3]
theorem rnew_none (s : ByteArray) (w : World) (h : newP s.data.toList = none) : Calls Try.prog 9 #[.string s] w fun e w' => e = .returned (.tuple #[.pointer none, .int .i64 180]) ∧ Below w.heap.size w w' :=
  (rnew_calls s w).mono (by
    rintro e w' ⟨⟨-, h1⟩ | ⟨a, l, v, h1, -⟩, hb⟩
    · exact ⟨h1, hb⟩
    · rw [rnewP_eq, h] at h1; cases h1)
theorem rnew_some (s : ByteArray) (w : World) (a : ByteArray) (l : List PB) (h : newP s.data.toList = some (a.data.toList, l.map plB)) : Calls Try.prog 9 #[.string s] w fun e w' => ∃ v, (∀ p ∈ l, p.2.size ≤ 256) ∧ e = .returned (.tuple #[v, .int .i64 0]) ∧ RefAt w.heap.size w' v a l ∧ Below w.heap.size w w' :=
  (rnew_calls s w).mono (by
    rintro e w' ⟨⟨h1, -⟩ | ⟨a', l', v, h1, h2, h3, h4⟩, hb⟩
    · rw [rnewP_eq, h] at h1; cases h1
    · rw [rnewP_eq, h] at h1
      have h5 := Option.some.inj h1
      have e1 : a' = a := ml_ba (congrArg Prod.fst h5).symm
      have e2 : l' = l := ml_inj (congrArg Prod.snd h5).symm
      subst e1; subst e2
      exact ⟨v, h2.2.2, h3, h4, hb⟩)
theorem rmatch_none (w : World) (B : Nat) (v : Value) (a : ByteArray) (l : List PB) (hc : RefAt B w v a l) (hl : l.length ≤ 300) (hl0 : l ≠ []) (hnd : (namesP (l.map plB)).Nodup) (hbs : ∀ p ∈ l, p.2.size ≤ 256) (s : ByteArray) (hs : s.size ≤ 100000) (h : matchP a.data.toList (l.map plB) s.data.toList = none) :
    Calls Try.prog 12 #[v, .string s] w fun e w' => e = .returned (.tuple #[.slice none 0 0, .bool false]) ∧ Below w.heap.size w w' :=
  (rmatch_calls w B v a l hc hl hl0 hnd hbs s hs).mono (by
    rintro e w' ⟨⟨-, h1⟩ | ⟨u, ds, h1, -⟩, hb⟩
    · exact ⟨h1, hb⟩
    · rw [h] at h1; cases h1)
theorem rmatch_some (w : World) (B : Nat) (v : Value) (a : ByteArray) (l : List PB) (hc : RefAt B w v a l) (hl : l.length ≤ 300) (hl0 : l ≠ []) (hnd : (namesP (l.map plB)).Nodup) (hbs : ∀ p ∈ l, p.2.size ≤ 256) (s : ByteArray) (hs : s.size ≤ 100000) (ds : List PB) (h : matchP a.data.toList (l.map plB) s.data.toList = some (ds.map plB)) :
    Calls Try.prog 12 #[v, .string s] w fun e w' => ∃ u, ds.length ≤ 300 ∧ e = .returned (.tuple #[u, .bool true]) ∧ RowP w.heap.size w' 74 u ds ∧ Below w.heap.size w w' :=
  (rmatch_calls w B v a l hc hl hl0 hnd hbs s hs).mono (by
    rintro e w' ⟨⟨h1, -⟩ | ⟨u, ds', h1, h2, h3, h4⟩, hb⟩
    · rw [h] at h1; cases h1
    · rw [h] at h1
      have e2 : ds' = ds := ml_inj (Option.some.inj h1).symm
      subst e2
      exact ⟨u, h2, h3, h4, hb⟩)
/-- The pattern at both sides, and all that is known of it. -/
structure Both (B0 B1 : Nat) (W : World) (v v' : Value) (a : ByteArray) (l : List PB) : Prop where
  c : CutsAt B0 W v a l
  r : RefAt B1 W v' a l
  len : l.length ≤ 300
  ne : l ≠ []
  nd : (namesP (l.map plB)).Nodup
  bs : ∀ p ∈ l, p.2.size ≤ 256
theorem Both.kb {W W' : World} {B0 B1 : Nat} {v v' : Value} {a : ByteArray} {l : List PB} (h : Both B0 B1 W v v' a l) (hk : Kb (fun _ => False) W W') : Both B0 B1 W' v v' a l :=
  ⟨h.c.kb hk (fun _ _ h => h), h.r.kb hk (fun _ _ h => h), h.len, h.ne, h.nd, h.bs⟩
theorem Both.bl {W W' : World} {B0 B1 : Nat} {v v' : Value} {a : ByteArray} {l : List PB} (h : Both B0 B1 W v v' a l) (hb : Below W.heap.size W W') : Both B0 B1 W' v v' a l :=
  h.kb (Kb.of_below (S := fun _ => False) hb)
theorem Both.drw {W : World} {B0 B1 : Nat} {v v' : Value} {a : ByteArray} {l : List PB} (h : Both B0 B1 W v v' a l) : Both B0 B1 W.drew v v' a l := h.kb ((Kb.refl (fun _ => False) W).drew)
theorem RowP.drw {w : World} {B : Nat} {e : TypeId} {v : Value} {l : List PB} (h : RowP B w e v l) : RowP B w.drew e v l := h.kb ((Kb.refl (fun _ => False) w).drew) (fun _ _ h => h)
set_option maxHeartbeats 32000000 in
set_option maxRecDepth 100000 in
theorem match_law (l : List ByteArray) (s : ByteArray) (A0 : Option Addr) (c0 : Nat) (w : World) (h0 : Kd.string.C w A0 l.length l) (hc0 : l.length ≤ c0) (hs : s.size ≤ 140737488355328) (m : Int) (hm : w.cell? ⟨0, 0, none⟩ = some (.int .i64 m)) :
    Calls Try.prog 3 #[.string s, .slice A0 l.length c0] w fun e w' => e = .returned (.bool true) ∧ Below w.heap.size w w' := by
  have HM0 := Aside0.mk hm
  have H0 := Aside0.mk h0
  obtain ⟨nl, hnl⟩ : ∃ nl, nl = l.length := ⟨_, rfl⟩
  rw [← hnl] at hc0 ⊢
  have HNL := Aside0.mk hnl
  clear hm h0 hnl
  have mixed : Try.prog.follows .mixedOrders = true := by kernel_rfl
  obtain ⟨c, hc, hcs1, hcs2⟩ : ∃ c : Nat, (if (400 : Int) < (s.size : Int) then (400 : Int) else (s.size : Int)) = (c : Int) ∧ c ≤ s.size ∧ c ≤ 400 := by
    by_cases h : (400 : Int) < (s.size : Int)
    · exact ⟨400, by rw [if_pos h]; rfl, by omega, Nat.le_refl _⟩
    · exact ⟨s.size, by rw [if_neg h], Nat.le_refl _, by omega⟩
  go_enter Try.func3, Try.ntmps3
  go_wp2_with fail
  obtain ⟨t, ht⟩ : ∃ t, t = s.extract 0 c := ⟨_, rfl⟩
  rw [← ht]
  have htz : t.size ≤ 400 := by
    rw [ht, ← lk_size, ext_take, List.length_take]
    omega
  clear ht hc hcs1 hcs2
  cases hP : newP t.data.toList with
  | none =>
    have HP := Aside0.mk hP
    clear hP
    refine (new_none t w (by omega) HP.out).mono ?_
    rintro e w1 ⟨rfl, hb⟩
    have HB1 := Aside0.mk hb
    have HM1 := Aside0.mk (cell_bl hb HM0.out)
    clear hb
    go_wp2_with fail
    refine (rnew_none t w1 HP.out).mono ?_
    rintro e w2 ⟨rfl, hb⟩
    have HB2 := Aside0.mk (below_then HB1.out hb)
    have HM2 := Aside0.mk (cell_bl hb HM1.out)
    clear hb
    go_wp2_with fail
    refine (works_calls w2 m HM2.out).mono ?_
    rintro e w3 ⟨rfl, hb⟩
    have HB3 := Aside0.mk (below_then HB2.out hb)
    clear hb
    go_wp2_with fail
    go_ret
    exact ⟨rfl, HB3.out⟩
  | some cp =>
    have HP := Aside0.mk hP
    clear hP
    refine (new_some t w (by omega) cp HP.out).mono ?_
    rintro e w1 ⟨a, pl, v, hcp, hnd, hpl, rfl, hca, hb⟩
    have HP1 := Aside0.mk (show newP t.data.toList = some (a.data.toList, pl.map plB) by rw [← hcp]; exact HP.out)
    have HNE := Aside0.mk (show pl ≠ [] from fun h => newP_ne HP1.out (by rw [h]; rfl))
    have HB1 := Aside0.mk hb
    have HM1 := Aside0.mk (cell_bl hb HM0.out)
    have HCA := Aside0.mk (And.intro hca (And.intro hnd hpl))
    obtain ⟨g0, u0, rfl, -, -, -⟩ := hca
    clear hb hcp hnd hpl HP
    go_wp2_with fail
    refine (rnew_some t w1 a pl HP1.out).mono ?_
    rintro e w2 ⟨v', hbs, rfl, hra, hb⟩
    have HB2 := Aside0.mk (below_then HB1.out hb)
    have HM2 := Aside0.mk (cell_bl hb HM1.out)
    have HX2 := Aside0.mk (show Both w.heap.size w1.heap.size w2 _ _ a pl from ⟨HCA.out.1.kb (Kb.of_below (S := fun _ => False) hb) (fun _ _ h => h), hra, HCA.out.2.2, HNE.out, HCA.out.2.1, hbs⟩)
    obtain ⟨g1, u1, rfl, -, -, -⟩ := hra
    clear hb hbs HCA HNE HP1
    obtain ⟨B1, hB1⟩ : ∃ B1, B1 = w1.heap.size := ⟨_, rfl⟩
    rw [← hB1] at HX2
    clear hB1 HB1 HM1
    go_wp2_with fail
    go_loopg [9] 10 (fun g2 v9 wr => ∃ i : Nat, v9 = .int .i64 i ∧ i ≤ 10 ∧ Aside0 (i + g2 = 10) ∧ Aside0 (Both w.heap.size B1 wr (.pointer (some ⟨g0, 0, none⟩)) (.pointer (some ⟨g1, 0, none⟩)) a pl) ∧ Aside0 (Below w.heap.size w wr) ∧ Aside0 (wr.cell? ⟨0, 0, none⟩ = some (.int .i64 m)))
    case atStart => exact ⟨0, rfl, by omega, ⟨rfl⟩, HX2, HB2, HM2⟩
    case round =>
      obtain ⟨i, rfl, hi10, HI, HX, HB, HM⟩ := hrel
      clear HX2 HB2 HM2
      by_cases h1 : i < nl
      · have hz1 : (i : Int) < (nl : Int) := by omega
        by_cases h2 : i < 10
        · have hz2 : (i : Int) < 10 := by omega
          obtain ⟨ad0, rfl, hx0⟩ := Kd.at_string H0.out (i : Int) (by omega) (by have := HNL.out; omega)
          rw [Int.toNat_natCast] at hx0
          obtain ⟨x, hx⟩ : ∃ x, x = rdOf ByteArray.empty l (i : Int) := ⟨_, rfl⟩
          rw [← hx] at hx0
          clear hx
          have cx := cell_bl HB.out hx0
          obtain ⟨c, hc, hcs1, hcs2⟩ : ∃ c : Nat, (if (2000 : Int) < (x.size : Int) then (2000 : Int) else (x.size : Int)) = (c : Int) ∧ c ≤ x.size ∧ c ≤ 2000 := by
            by_cases h : (2000 : Int) < (x.size : Int)
            · exact ⟨2000, by rw [if_pos h]; rfl, by omega, Nat.le_refl _⟩
            · exact ⟨x.size, by rw [if_neg h], Nat.le_refl _, by omega⟩
          clear hx0
          have HTZ := Aside0.mk (show (x.extract 0 c).size ≤ 2000 by
            rw [← lk_size, ext_take, List.length_take]
            omega)
          have e1 : IntKind.i64.wrap ((i : Int) + 1) = ((i + 1 : Nat) : Int) := (i64_w _).trans ((w64 (by omega) (by omega)).trans (by omega))
          cases hQ : matchP a.data.toList (pl.map plB) (x.extract 0 c).data.toList with
          | none =>
            have HQ := Aside0.mk hQ
            clear hQ
            go_wp2_with fail
            go_region_held3 (fun w' => w'.cell? (ad0.add i) = some (.string x)) (first | assumption | simp [*]) ((first | (go_at_call 11; (with_reducible refine (match_none _ _ _ _ _ (HX.out.drw.c) HX.out.len HX.out.nd _ (by have := HTZ.out; omega) m (by with_unfolding_all exact HM.out) HQ.out).mono ?_); rintro y w3 ⟨rfl, hb⟩; have hcx3 : w3.cell? (ad0.add i) = some (.string x) := (pw_cell_below hb (by with_unfolding_all exact cx)); have HB3 := Aside0.mk (below_then (w := w) (below_drew1 HB.out) hb); have HM3 := Aside0.mk (cell_bl hb (by with_unfolding_all exact HM.out)); have HX3 := Aside0.mk (Both.bl (Both.drw HX.out) hb); clear hb)))
            clear HX HB HM cx
            go_wp2_with fail
            go_region_held3 (fun w' => w'.cell? (ad0.add i) = some (.string x)) (first | assumption | simp [*]) ((first | (go_at_call 12; (with_reducible refine (rmatch_none _ _ _ _ _ (HX3.out.drw.r) HX3.out.len HX3.out.ne HX3.out.nd HX3.out.bs _ (by have := HTZ.out; omega) HQ.out).mono ?_); rintro y w4 ⟨rfl, hb⟩; have hcx4 : w4.cell? (ad0.add i) = some (.string x) := (pw_cell_below hb (by with_unfolding_all exact hcx3)); have HB4 := Aside0.mk (below_then (w := w) (below_drew1 HB3.out) hb); have HM4 := Aside0.mk (cell_bl hb (by with_unfolding_all exact HM3.out)); have HX4 := Aside0.mk (Both.bl (Both.drw HX3.out) hb); clear hb)))
            clear HX3 HB3 HM3 hcx3 hcx4
            go_wp2_with fail
            refine (same_true [] 0 0 (.slice none 0 0) (.slice none 0 0) w4 ⟨rfl, .inl ⟨rfl, rfl⟩⟩ ⟨rfl, .inl ⟨rfl, rfl⟩⟩ (by decide)).mono ?_
            rintro e w5 ⟨rfl, hb⟩
            have HB5 := Aside0.mk (below_then HB4.out hb)
            have HM5 := Aside0.mk (cell_bl hb HM4.out)
            have HX5 := Aside0.mk (HX4.out.bl hb)
            clear hb HB4 HM4 HX4
            go_wp2_with fail
            go_roundg (10 - (i + 1))
            case measure => have := HI.out; omega
            case rel => exact ⟨i + 1, by first | rfl | rw [e1], by omega, ⟨by have := HI.out; omega⟩, HX5, HB5, HM5⟩
          | some oo =>
            have HQ := Aside0.mk hQ
            clear hQ
            go_wp2_with fail
            go_region_held3 (fun w' => w'.cell? (ad0.add i) = some (.string x)) (first | assumption | simp [*]) ((first | (go_at_call 11; (with_reducible refine (match_some _ _ _ _ _ (HX.out.drw.c) HX.out.len HX.out.nd _ (by have := HTZ.out; omega) m (by with_unfolding_all exact HM.out) oo HQ.out).mono ?_); rintro y w3 ⟨u3, ds, hds, rfl, hu3, hb⟩; have HQ3 := Aside0.mk (show matchP a.data.toList (pl.map plB) (x.extract 0 c).data.toList = some (ds.map plB) from (by rw [← hds]; exact HQ.out)); have HU3 := Aside0.mk hu3; have hcx3 : w3.cell? (ad0.add i) = some (.string x) := (pw_cell_below hb (by with_unfolding_all exact cx)); have HB3 := Aside0.mk (below_then (w := w) (below_drew1 HB.out) hb); have HM3 := Aside0.mk (cell_bl hb (by with_unfolding_all exact HM.out)); have HX3 := Aside0.mk (Both.bl (Both.drw HX.out) hb); clear hb hu3 hds)))
            clear HX HB HM cx HQ
            go_wp2_with fail
            go_region_held3 (fun w' => w'.cell? (ad0.add i) = some (.string x)) (first | assumption | simp [*]) ((first | (go_at_call 12; (with_reducible refine (rmatch_some _ _ _ _ _ (HX3.out.drw.r) HX3.out.len HX3.out.ne HX3.out.nd HX3.out.bs _ (by have := HTZ.out; omega) ds HQ3.out).mono ?_); rintro y w4 ⟨u4, hdl, rfl, hu4, hb⟩; have HU4 := Aside0.mk hu4; have HV4 := Aside0.mk (RowP.kb (RowP.drw HU3.out) (Kb.of_below (S := fun _ => False) hb) (fun _ _ h => h)); have hcx4 : w4.cell? (ad0.add i) = some (.string x) := (pw_cell_below hb (by with_unfolding_all exact hcx3)); have HB4 := Aside0.mk (below_then (w := w) (below_drew1 HB3.out) hb); have HM4 := Aside0.mk (cell_bl hb (by with_unfolding_all exact HM3.out)); have HX4 := Aside0.mk (Both.bl (Both.drw HX3.out) hb); clear hb hu4)))
            clear HX3 HB3 HM3 hcx3 hcx4 HU3
            go_wp2_with fail
            refine (same_true ds _ _ _ _ w4 HV4.out HU4.out (by omega)).mono ?_
            rintro e w5 ⟨rfl, hb⟩
            have HB5 := Aside0.mk (below_then HB4.out hb)
            have HM5 := Aside0.mk (cell_bl hb HM4.out)
            have HX5 := Aside0.mk (HX4.out.bl hb)
            clear hb HB4 HM4 HX4
            go_wp2_with fail
            go_roundg (10 - (i + 1))
            case measure => have := HI.out; omega
            case rel => exact ⟨i + 1, by first | rfl | rw [e1], by omega, ⟨by have := HI.out; omega⟩, HX5, HB5, HM5⟩
        · have hz2 : ¬ (i : Int) < 10 := by omega
          go_wp2_with fail
          refine (names_calls wr _ _ a pl HX.out.c HX.out.len).mono ?_
          rintro e w3 ⟨⟨u3, rfl, hu3⟩, hb⟩
          have HB3 := Aside0.mk (below_then HB.out hb)
          have HM3 := Aside0.mk (cell_bl hb HM.out)
          have HX3 := Aside0.mk (HX.out.bl hb)
          have HU3 := Aside0.mk hu3
          clear hb hu3
          go_wp2_with fail
          refine (rnames_calls w3 _ _ a pl HX3.out.r HX3.out.len).mono ?_
          rintro e w4 ⟨⟨u4, rfl, hu4⟩, hb⟩
          have HB4 := Aside0.mk (below_then HB3.out hb)
          have HM4 := Aside0.mk (cell_bl hb HM3.out)
          have HV4 := Aside0.mk (HU3.out.kb (Kb.of_below (S := fun _ => False) hb) (fun _ _ h => h))
          have HU4 := Aside0.mk hu4
          have hz : (namesB pl).length ≤ 1000000 := by
            have h1 : (namesB pl).length ≤ pl.length := by
              unfold namesB
              exact Nat.le_trans (List.length_filter_le _ _) (by rw [List.length_map]; exact Nat.le_refl _)
            have := HX3.out.len
            omega
          clear hb hu4
          go_wp2_with fail
          refine (texts_true (namesB pl) _ _ _ _ w4 HV4.out HU4.out hz).mono ?_
          rintro e w5 ⟨rfl, hb⟩
          have HB5 := Aside0.mk (below_then HB4.out hb)
          have HM5 := Aside0.mk (cell_bl hb HM4.out)
          clear hb
          go_wp2_with fail
          refine (works_calls w5 m HM5.out).mono ?_
          rintro e w6 ⟨rfl, hb⟩
          have HB6 := Aside0.mk (below_then HB5.out hb)
          clear hb
          go_wp2_with fail
          go_ret
          exact ⟨rfl, HB6.out⟩
      · have hz1 : ¬ (i : Int) < (nl : Int) := by omega
        go_wp2_with fail
        refine (names_calls wr _ _ a pl HX.out.c HX.out.len).mono ?_
        rintro e w3 ⟨⟨u3, rfl, hu3⟩, hb⟩
        have HB3 := Aside0.mk (below_then HB.out hb)
        have HM3 := Aside0.mk (cell_bl hb HM.out)
        have HX3 := Aside0.mk (HX.out.bl hb)
        have HU3 := Aside0.mk hu3
        clear hb hu3
        go_wp2_with fail
        refine (rnames_calls w3 _ _ a pl HX3.out.r HX3.out.len).mono ?_
        rintro e w4 ⟨⟨u4, rfl, hu4⟩, hb⟩
        have HB4 := Aside0.mk (below_then HB3.out hb)
        have HM4 := Aside0.mk (cell_bl hb HM3.out)
        have HV4 := Aside0.mk (HU3.out.kb (Kb.of_below (S := fun _ => False) hb) (fun _ _ h => h))
        have HU4 := Aside0.mk hu4
        have hz : (namesB pl).length ≤ 1000000 := by
          have h1 : (namesB pl).length ≤ pl.length := by
            unfold namesB
            exact Nat.le_trans (List.length_filter_le _ _) (by rw [List.length_map]; exact Nat.le_refl _)
          have := HX3.out.len
          omega
        clear hb hu4
        go_wp2_with fail
        refine (texts_true (namesB pl) _ _ _ _ w4 HV4.out HU4.out hz).mono ?_
        rintro e w5 ⟨rfl, hb⟩
        have HB5 := Aside0.mk (below_then HB4.out hb)
        have HM5 := Aside0.mk (cell_bl hb HM4.out)
        clear hb
        go_wp2_with fail
        refine (works_calls w5 m HM5.out).mono ?_
        rintro e w6 ⟨rfl, hb⟩
        have HB6 := Aside0.mk (below_then HB5.out hb)
        clear hb
        go_wp2_with fail
        go_ret
        exact ⟨rfl, HB6.out⟩
end Go.Proofs.Ytpobgpfkohlokaa.PC
