import Derived.Test.YtgdkgahbmfhgcaaQ13
set_option linter.unusedVariables false
set_option linter.unusedSimpArgs false
set_option maxHeartbeats 4000000
set_option maxRecDepth 100000
namespace Go.Proofs.Ytgdkgahbmfhgcaa.PN
open Go.RowKit Go.Proofs.Ytgdkgahbmfhgcaa.NS Go.Proofs.Ytgdkgahbmfhgcaa.Limbs Go.Proofs.YtgdkgahbmfhgcaaW.PrintWords Go.Proofs.YtgdkgahbmfhgcaaW.PrintLast Go.Proofs.YtgdkgahbmfhgcaaW.PrintMore
theorem ValS.take {ss : List Smp} {qs : List Rat} (h : ValS ss qs) (k : Nat) : ValS (ss.take k) (qs.take k) := by
 refine ⟨by rw [List.length_take, List.length_take, h.1], fun i hi => ?_⟩
 rw [List.length_take] at hi
 have h2 := h.2 i (by omega)
 rw [List.getD_eq_getElem?_getD, List.getD_eq_getElem?_getD] at h2 ⊢
 rw [List.getElem?_take_of_lt (by omega), List.getElem?_take_of_lt (by omega)]
 exact h2
theorem ValS.drop {ss : List Smp} {qs : List Rat} (h : ValS ss qs) (k : Nat) : ValS (ss.drop k) (qs.drop k) := by
 refine ⟨by rw [List.length_drop, List.length_drop, h.1], fun i hi => ?_⟩
 rw [List.length_drop] at hi
 have h2 := h.2 (k + i) (by omega)
 rw [List.getD_eq_getElem?_getD, List.getD_eq_getElem?_getD] at h2 ⊢
 rw [List.getElem?_drop, List.getElem?_drop]
 exact h2
def psum (qs : List Rat) (k : Nat) : Nat → Rat
 | 0 => 0
 | 1 => rsum (qs.take k)
 | _ + 2 => rsum qs
theorem psum_fit (qs : List Rat) (hq : ∀ x ∈ qs, Part x) (hl : qs.length ≤ 30) (k i : Nat) : fit (psum qs k i) = some (psum qs k i) := by
 have key : ∀ l : List Rat, (∀ x ∈ l, Part x) → l.length ≤ 30 → fit (rsum l) = some (rsum l) := fun l h1 h2 => by
  obtain ⟨_, t, h3, h4⟩ := sum0_part l h1 h2
  rw [h3]
  unfold fit
  rw [if_pos (fit_mk _ _ (by decide) (big16 _ (by omega)) (big16 _ (by decide)))]
 match i with
 | 0 => exact key [] (fun x h => by cases h) (by decide)
 | 1 => exact key _ (fun x h => hq x (List.mem_of_mem_take h)) (by rw [List.length_take]; omega)
 | _ + 2 => exact key _ hq hl
theorem RowS.le {ok : Nat → Prop} {w : World} {A : Option Addr} {c : Nat} {ss : List Smp} (h : RowS ok w (.slice A ss.length c) ss) : ss.length ≤ c := (Kd.V_at h).2.1
theorem info39_ : (Try.prog.info? 39).map (fun i => (i.zero, i.size, i.bytes)) = some (some (.agg #[.int .i64 0, .int .i64 0, .bool false, .slice none 0 0, .slice none 0 0]), 5, 72) := by kernel_rfl
theorem told_nil (fn : Int) (w : World) (tq : Bool) (Aq : Option Addr) (nq cq : Nat) (Dq : Option Addr) (kq zq : Nat) (Al : Option Addr) (nl cl : Nat) (hrun2 : ∀ W, Kb (fun k => False) w W → Calls Try.prog 16 #[.int .i64 fn, .int .i64 1000, .agg #[.bool tq, .slice Aq nq cq, .slice Dq kq zq], .slice Al nl cl] W fun e w' => e = .returned (.tuple #[.agg #[.bool false, .slice none 0 0, .slice none 0 0], .bool false, .int .i64 0]) ∧ Below W.heap.size W w') :
 Calls Try.prog 11 #[.int .i64 fn, .agg #[.bool tq, .slice Aq nq cq, .slice Dq kq zq], .slice Al nl cl] w fun e w' => e = .returned (.tuple #[.agg #[.bool false, .slice none 0 0, .slice none 0 0], .bool false]) ∧ Below w.heap.size w w' := by
 have hu30 := Try.underlying30
 have HR := Aside0.mk hrun2
 clear hrun2
 have HB := Aside0.mk (Kb.refl (fun k => False) w)
 go_enter Try.func11, Try.ntmps11
 go_wp2_with (first | ((with_reducible refine gate_dst (N := 4) rfl ?_); refine bx_ (N := 4) #[.bool tq, .slice Aq nq cq, .slice Dq kq zq] 30 ?_; intro g_q hg w101 hbox hb; have G_q := kb_g HB hg; replace HB := kb_b HB hb; clear hb; have V_q := Aside0.mk hbox; have B_q := Aside0.mk (Kb.refl (fun k => False) w101); have N_q : Aside0 (¬ (fun k => False) g_q) := ⟨by have := G_q; exact fun h => h⟩; clear hbox hg) | ((with_reducible refine gate_dst (N := 6) rfl ?_); refine bx_ (N := 6) #[.bool false, .slice none 0 0, .slice none 0 0] 30 ?_; intro g_r hg w102 hbox hb; have G_r := kb_g HB hg; have O_r_q := kb_g B_q hg; replace HB := kb_b HB hb; replace B_q := kb_b B_q hb; clear hb; have V_r := Aside0.mk hbox; have B_r := Aside0.mk (Kb.refl (fun k => False) w102); have N_r : Aside0 (¬ (fun k => False) g_r) := ⟨by have := G_r; exact fun h => h⟩; clear hbox hg) | ((with_reducible refine gate_dst (N := 13) rfl ?_); refine load_ev rfl rfl (g := g_q) rfl (Kb.blk V_q.out B_q.out N_q.out) ?_))
 with_reducible refine (HR.out _ HB.out).mono ?_
 rintro e w103 ⟨rfl, hb⟩
 replace HB := kb_b HB hb
 replace B_q := kb_b B_q hb
 replace B_r := kb_b B_r hb
 clear hb
 clear V_q B_q
 go_wp2_with (first | ((with_reducible refine gate_dst (N := 8) rfl ?_); refine bx_ (N := 8) #[.bool false, .slice none 0 0, .slice none 0 0] 30 ?_; intro g_p hg w104 hbox hb; have G_p := kb_g HB hg; have O_p_r := kb_g B_r hg; replace HB := kb_b HB hb; replace B_r := kb_b B_r hb; clear hb; have V_p := Aside0.mk hbox; have B_p := Aside0.mk (Kb.refl (fun k => False) w104); have N_p : Aside0 (¬ (fun k => False) g_p) := ⟨by have := G_p; exact fun h => h⟩; clear hbox hg) | ((with_reducible refine gate_store (t := 30) (p := 8) (v := .tmp 16) rfl ?_); refine store_ev (p := .tmp 8) (v := .tmp 16) rfl rfl rfl (g := g_p) rfl rfl (Kb.blk V_p.out B_p.out N_p.out) ?_; intro w105 hbox hk; replace HB := kb_t HB hk (fun i hi => by exact hi ▸ Or.inr G_p.out); replace B_r := kb_t B_r hk (fun i hi => by exact hi ▸ Or.inr O_p_r.out); clear V_p B_p; have V_p := Aside0.mk hbox; have B_p := Aside0.mk (Kb.refl (fun k => False) w105); clear hbox hk) | ((with_reducible refine gate_dst (N := 19) rfl ?_); refine load_ev rfl rfl (g := g_p) rfl (Kb.blk V_p.out B_p.out N_p.out) ?_) | ((with_reducible refine gate_store (t := 30) (p := 6) (v := .tmp 19) rfl ?_); refine store_ev (p := .tmp 6) (v := .tmp 19) rfl rfl rfl (g := g_r) rfl rfl (Kb.blk V_r.out B_r.out N_r.out) ?_; intro w106 hbox hk; replace HB := kb_t HB hk (fun i hi => by exact hi ▸ Or.inr G_r.out); clear V_r B_r; have V_r := Aside0.mk hbox; have B_r := Aside0.mk (Kb.refl (fun k => False) w106); clear hbox hk))
 refine bodyPost_ret (results_ct rfl _ _ g_r 30 #[.bool false, .slice none 0 0, .slice none 0 0] (0, 0) _ rfl (Kb.blk V_r.out B_r.out N_r.out) Try.underlying30 rfl (by kernel_rfl)) rfl ?_
 exact ⟨rfl, (Kb.to_below HB.out (fun _ h => h.elim))⟩
theorem told6_nil {okl : Nat → Prop} (w : World) (tq : Bool) (Aq : Option Addr) (nq cq : Nat) (Dq : Option Addr) (kq zq : Nat) (Al : Option Addr) (nl cl : Nat) (hz : nl = 0) (ss : List Smp) (hl : RowS okl w (.slice Al nl cl) ss) :
 Calls Try.prog 11 #[.int .i64 6, .agg #[.bool tq, .slice Aq nq cq, .slice Dq kq zq], .slice Al nl cl] w fun e w' => e = .returned (.tuple #[.agg #[.bool false, .slice none 0 0, .slice none 0 0], .bool false]) ∧ Below w.heap.size w w' := by
 subst hz
 have hs : ss = [] := List.eq_nil_of_length_eq_zero (Kd.V_at hl).1.symm
 subst hs
 exact told_nil 6 w tq Aq nq cq Dq kq zq Al 0 cl (fun W hW => wrun6_nil 1000 (by omega) (by omega) W _ _ _ _ _ _ _ _ _ (RowS.kb hl hW (fun _ _ h => h)))
theorem told6_all {okl : Nat → Prop} (ss : List Smp) (qs : List Rat) (hby : ∀ s ∈ ss, 0 ≤ s.by_ ∧ s.by_ < 5000) (hvs : ValS ss qs) (hp : ∀ x ∈ qs, Part x) (w : World) (tq : Bool) (Aq : Option Addr) (nq cq : Nat) (Dq : Option Addr) (kq zq : Nat) (Al : Option Addr) (nl cl : Nat) (h30 : nl ≤ 30) (h0 : 0 < nl) (hl : RowS okl w (.slice Al nl cl) ss) :
 Calls Try.prog 11 #[.int .i64 6, .agg #[.bool tq, .slice Aq nq cq, .slice Dq kq zq], .slice Al nl cl] w fun e w' => (∃ v, e = .returned (.tuple #[v, .bool true]) ∧ IsR (fun k => w.heap.size ≤ k) w' v (rsum qs)) ∧ Below w.heap.size w w' := by
 have hnl : nl = ss.length := (Kd.V_at hl).1
 subst hnl
 obtain ⟨hsm, _⟩ := sum0_part qs hp (by rw [ValS.len hvs]; exact h30)
 refine (told_calls (fun a => a = some (rsum qs)) 6 w tq Aq nq cq Dq kq zq Al ss.length cl (fun W hW => (wrun6 1000 (by omega) (by omega) ss (bys_of ss hby) qs hvs h0 (by omega) W _ _ _ _ _ _ _ _ _ (RowS.kb hl hW (fun _ _ h => h))).mono (fun e w' h => ?_))).mono ?_
 · obtain ⟨⟨v, ans, ha, he, hr⟩, hb⟩ := h
   exact ⟨⟨v, ans, (show ans = _ from ha).trans hsm, he, hr⟩, hb⟩
 · rintro e w' ⟨⟨v, ans, rfl, rfl, hv⟩, hb⟩
   exact ⟨⟨v, rfl, hv⟩, hb⟩
def Rates12.T12 : Bool × List (List Nat × List Nat) := (true, [([], []), ([], []), ([1], [1]), ([0, 2, 2], [0, 2]), ([3], [3]), ([4], [4]), ([4], [4]), ([], []), ([7, 5, 3, 0, 1, 2, 3, 4, 5, 7], [5, 7]), ([6, 8, 0, 1, 2, 3, 4, 5, 6, 7, 8], [6])])
def Rates12.B12 : List Nat := [0, 0, 2, 7, 15, 31, 31, 0, 191, 511]
theorem Rates12.tab12 : rtab .any (opsOf Try.f6 12) = Rates12.T12 := by kernel_rfl
theorem Rates12.bits12 : waitsOk Rates12.T12.2 Rates12.B12 = true := by kernel_rfl
theorem rates_calls (l : List (Int × Int × Int)) (hsz : l.length ≤ 140737488351232) (over cut : Int) (w : World) (Al : Option Addr) (cl : Nat) (hl : Kd.C k3 w Al l.length l) :
 Calls Try.prog 6 #[.slice Al l.length cl, .int .i64 over, .int .i64 cut] w fun e w' => e = .returned (.bool true) ∧ Below w.heap.size w w' := by
 have hu30 := Try.underlying30
 have hu25 := Try.underlying25
 obtain ⟨nl, hnl⟩ : ∃ nl, nl = l.length := ⟨_, rfl⟩
 rw [← hnl] at hl hsz ⊢
 have HL0 := Aside0.mk (And.intro hnl (And.intro hsz hl))
 clear hnl hsz hl
 have HB := Aside0.mk (Kb.refl (fun k => False) w)
 go_enter Try.func6, Try.ntmps6
 go_wp2_with fail
 with_reducible refine (works_calls _).mono ?_
 rintro e w101 ⟨rfl, hb⟩
 replace HB := kb_b HB hb
 clear hb
 go_wp2_with fail
 have hcl : Kd.C k3 w101 Al l.length l := by rw [← HL0.out.1]; exact Kd.C_below HL0.out.2.2 (Kb.to_below HB.out (fun _ h => h.elim))
 rw [HL0.out.1]
 with_reducible refine (some_calls l (by rw [← HL0.out.1]; exact HL0.out.2.1) _ Al cl hcl).mono ?_
 rintro e w102 ⟨⟨v, rfl, hv⟩, hb⟩
 clear hcl
 rw [← HL0.out.1]
 obtain ⟨As, cs, rfl⟩ := RowS.slice hv
 have hv := RowS.mono hv (ok' := fun _ => True) (fun _ _ => trivial)
 replace HB := kb_b HB hb
 clear hb
 obtain ⟨ss, hss⟩ : ∃ s, s = someS l := ⟨_, rfl⟩
 obtain ⟨qs, hqs⟩ : ∃ s, s = someV l := ⟨_, rfl⟩
 rw [← hss] at hv
 rw [← hss]
 have HS := Aside0.mk (show ss.length ≤ 30 ∧ (∀ s ∈ ss, 0 ≤ s.by_ ∧ s.by_ < 5000) ∧ ValS ss qs ∧ (∀ x ∈ qs, Part x) from by rw [hss, hqs]; exact ⟨by rw [someS_len]; omega, someS_by l, someV_val l, someV_part l⟩)
 obtain ⟨ns, hns⟩ : ∃ n, n = ss.length := ⟨_, rfl⟩
 have HNS := Aside0.mk hns
 clear hss hqs
 have V_s := Aside0.mk hv
 clear hv
 have B_s := Aside0.mk (Kb.refl (fun k => False) w102)
 rw [← hns]
 clear hns
 go_wp2_with fail
 with_reducible refine (bring_calls over 1000000 (by decide) (by decide) _).mono ?_
 rintro e w103 ⟨rfl, hb⟩
 obtain ⟨ro, hro⟩ : ∃ r, r = over % 1000000 := ⟨_, rfl⟩
 rw [← hro]
 obtain ⟨nn, hnn⟩ : ∃ n, n = 1 + ro := ⟨_, rfl⟩
 have e1 : IntKind.i64.wrap (1 + ro) = nn := by rw [hnn]; exact (i64_w _).trans (w64 (by omega) (by omega))
 have HN := Aside0.mk (show 0 < nn ∧ nn ≤ 1000000 from by omega)
 clear hro hnn
 replace HB := kb_b HB hb
 replace B_s := kb_b B_s hb
 clear hb
 by_cases hz : ns = 0
 · have hz1 : ((ns : Int) == 0) = true := by rw [hz]; rfl
   have hz2 : decide ((ns : Int) = 0) = true := decide_eq_true (by omega)
   have hz3 : (ns : Int) = 0 := by omega
   clear hz
   go_wp2_with fail
   go_ret
   exact ⟨rfl, (Kb.to_below HB.out (fun _ h => h.elim))⟩
 have HZ : Aside0 (0 < ns) := ⟨by omega⟩
 have hz1 : ((ns : Int) == 0) = false := beq_eq_false_iff_ne.mpr (by omega)
 have hz3 : ¬ (ns : Int) = 0 := by omega
 have hz4 : decide ((ns : Int) = 0) = false := decide_eq_false hz3
 clear hz
 go_wp2_with fail
 obtain ⟨mb, hmb, hmb0, hmb1⟩ := sum_by ss HS.out.2.1 0 (by omega) (by have := HS.out.1; omega)
 have HMB := Aside0.mk (show sumO (some 0) (bytesQ ss) = some (mb : Rat) ∧ 0 ≤ mb ∧ mb ≤ 150000 from ⟨hmb, hmb0, by have := HS.out.1; omega⟩)
 clear hmb hmb0 hmb1
 go_loopg [9] 3 (fun kg v9 wr => ∃ fn : Int, v9 = .int .i64 fn ∧ Aside0 ((fn = 1 ∧ kg = 3) ∨ (fn = 3 ∧ kg = 2) ∨ (fn = 5 ∧ kg = 1)) ∧ Aside0 (Kb (fun k => False) w wr) ∧ Aside0 (Kb (fun k => False) w102 wr))
 case atStart => exact ⟨1, rfl, ⟨Or.inl ⟨rfl, rfl⟩⟩, HB, B_s⟩
 case round =>
  obtain ⟨fn, rfl, HK, HB2, HBS⟩ := hrel
  clear HB B_s
  have HB := HB2
  clear HB2
  have B_s := HBS
  clear HBS
  have hfn := HK.out
  rcases hfn with ⟨rfl, hk⟩ | ⟨rfl, hk⟩ | ⟨rfl, hk⟩
  · skip
    have hms : (0 : Int) ≤ (ns : Int) ∧ (ns : Int) ≤ 1000000 := by have := HS.out.1; have := HNS.out; omega
    have HMS := Aside0.mk hms
    clear hms
    go_wp2_with fail
    with_reducible refine (qof_calls 0 (by omega) (by omega) _).mono ?_
    rintro e w105 ⟨⟨v, rfl, hv⟩, hb⟩
    obtain ⟨tu, Au, nu, cu, Du, ku, zu, rfl⟩ := hv.agg
    have hle := Kb.size HB.out
    have hv_ := IsR.mono' (ok' := fun k => True) hv (fun k hk _ => by trivial)
    clear hv hle
    replace HB := kb_b HB hb
    replace B_s := kb_b B_s hb
    clear hb
    have V_u := Aside0.mk hv_
    clear hv_
    have B_u := Aside0.mk (Kb.refl (fun k => False) w105)
    go_wp2_with fail
    rw [HNS.out]
    with_reducible refine (told_calls (fun a => a = some ((ns : Int) : Rat)) 1 _ _ _ _ _ _ _ _ _ _ _ (fun W hW => (wrun1 1000 (by omega) (by omega) ss (bys_of ss HS.out.2.1) (by rw [← HNS.out]; exact HZ.out) (by have := HS.out.1; omega) W _ _ _ _ _ _ _ _ _ (RowS.kb (RowS.kb V_s.out B_s.out (fun _ _ h => h)) hW (fun _ _ h => h))).mono (fun e w' h => by obtain ⟨⟨v, ans, ha, he, hr⟩, hb⟩ := h; exact ⟨⟨v, ans, (show ans = _ from ha).trans (by rw [← HNS.out, Rat.intCast_natCast]), he, hr⟩, hb⟩))).mono ?_
    rintro e w106 ⟨⟨v, ans, rfl, rfl, hv⟩, hb⟩
    rw [← HNS.out]
    have hv := Res.isR hv
    obtain ⟨ta, Aa, na, ca, Da, ka, za, rfl⟩ := hv.agg
    have hle := Kb.size HB.out
    have hv_ := IsR.mono' (ok' := fun k => True) hv (fun k hk _ => by trivial)
    clear hv hle
    replace HB := kb_b HB hb
    replace B_s := kb_b B_s hb
    replace B_u := kb_b B_u hb
    clear hb
    have V_a := Aside0.mk hv_
    clear hv_
    have B_a := Aside0.mk (Kb.refl (fun k => False) w106)
    go_wp2_with (first | ((with_reducible refine gate_dst (N := 10) rfl ?_); refine bx_ (N := 10) #[.bool false, .slice none 0 0, .slice none 0 0] 30 ?_; intro g_all hg w107 hbox hb; have G_all := kb_g HB hg; have O_all_s := kb_g B_s hg; have O_all_u := kb_g B_u hg; have O_all_a := kb_g B_a hg; replace HB := kb_b HB hb; replace B_s := kb_b B_s hb; replace B_u := kb_b B_u hb; replace B_a := kb_b B_a hb; clear hb; have V_all := Aside0.mk hbox; have B_all := Aside0.mk (Kb.refl (fun k => False) w107); have N_all : Aside0 (¬ (fun k => False) g_all) := ⟨by have := G_all; exact fun h => h⟩; clear hbox hg) | ((with_reducible refine gate_store (t := 30) (p := 10) (v := .tmp 46) rfl ?_); refine store_ev (p := .tmp 10) (v := .tmp 46) rfl rfl rfl (g := g_all) rfl rfl (Kb.blk V_all.out B_all.out N_all.out) ?_; intro w108 hbox hk; replace HB := kb_t HB hk (fun i hi => by exact hi ▸ Or.inr G_all.out); replace B_s := kb_t B_s hk (fun i hi => by exact hi ▸ Or.inr O_all_s.out); replace B_u := kb_t B_u hk (fun i hi => by exact hi ▸ Or.inr O_all_u.out); replace B_a := kb_t B_a hk (fun i hi => by exact hi ▸ Or.inr O_all_a.out); clear V_all B_all; have V_all := Aside0.mk hbox; have B_all := Aside0.mk (Kb.refl (fun k => False) w108); clear hbox hk))
    go_wp2_with fail
    with_reducible refine (qof_calls 0 (by omega) (by omega) _).mono ?_
    rintro e w109 ⟨⟨v, rfl, hv⟩, hb⟩
    obtain ⟨tu2, Au2, nu2, cu2, Du2, ku2, zu2, rfl⟩ := hv.agg
    have hle := Kb.size HB.out
    have hv_ := IsR.mono' (ok' := fun k => True) hv (fun k hk _ => by trivial)
    clear hv hle
    replace HB := kb_b HB hb
    replace B_s := kb_b B_s hb
    replace B_u := kb_b B_u hb
    replace B_a := kb_b B_a hb
    replace B_all := kb_b B_all hb
    clear hb
    have V_u2 := Aside0.mk hv_
    clear hv_
    have B_u2 := Aside0.mk (Kb.refl (fun k => False) w109)
    go_wp2_with fail
    rw [HNS.out]
    with_reducible refine (wrun2 nn (by have := HN.out.1; omega) (by have := HN.out.2; omega) ss (bys_of ss HS.out.2.1) (by rw [← HNS.out]; exact HZ.out) (by have := HS.out.1; omega) _ _ _ _ _ _ _ _ _ _ (RowS.kb V_s.out B_s.out (fun _ _ h => h))).mono ?_
    rintro e w110 ⟨⟨v, ans, ha, rfl, hv⟩, hb⟩
    rw [← HNS.out]
    have ha2 : ans = some (((((ns : Int)) * 1000 : Int) : Rat) / (nn : Rat)) := by
     rw [ha, ← HNS.out, ← Rat.intCast_natCast]
     exact rate_int _ _ HMS.out.1 HMS.out.2 HN.out.1 HN.out.2
    subst ha2
    clear ha
    have hv := Res.isR hv
    obtain ⟨tb, Ab, nb, cb, Db, kb, zb, rfl⟩ := hv.agg
    have hle := Kb.size HB.out
    have hv_ := IsR.mono' (ok' := fun k => True) hv (fun k hk _ => by trivial)
    clear hv hle
    replace HB := kb_b HB hb
    replace B_s := kb_b B_s hb
    replace B_u := kb_b B_u hb
    replace B_a := kb_b B_a hb
    replace B_all := kb_b B_all hb
    replace B_u2 := kb_b B_u2 hb
    clear hb
    have V_b := Aside0.mk hv_
    clear hv_
    have B_b := Aside0.mk (Kb.refl (fun k => False) w110)
    go_wp2_with (first | ((with_reducible refine gate_dst (N := 12) rfl ?_); refine bx_ (N := 12) #[.bool false, .slice none 0 0, .slice none 0 0] 30 ?_; intro g_rate hg w111 hbox hb; have G_rate := kb_g HB hg; have O_rate_s := kb_g B_s hg; have O_rate_u := kb_g B_u hg; have O_rate_a := kb_g B_a hg; have O_rate_all := kb_g B_all hg; have O_rate_u2 := kb_g B_u2 hg; have O_rate_b := kb_g B_b hg; replace HB := kb_b HB hb; replace B_s := kb_b B_s hb; replace B_u := kb_b B_u hb; replace B_a := kb_b B_a hb; replace B_all := kb_b B_all hb; replace B_u2 := kb_b B_u2 hb; replace B_b := kb_b B_b hb; clear hb; have V_rate := Aside0.mk hbox; have B_rate := Aside0.mk (Kb.refl (fun k => False) w111); have N_rate : Aside0 (¬ (fun k => False) g_rate) := ⟨by have := G_rate; exact fun h => h⟩; clear hbox hg) | ((with_reducible refine gate_store (t := 30) (p := 12) (v := .tmp 55) rfl ?_); refine store_ev (p := .tmp 12) (v := .tmp 55) rfl rfl rfl (g := g_rate) rfl rfl (Kb.blk V_rate.out B_rate.out N_rate.out) ?_; intro w112 hbox hk; replace HB := kb_t HB hk (fun i hi => by exact hi ▸ Or.inr G_rate.out); replace B_s := kb_t B_s hk (fun i hi => by exact hi ▸ Or.inr O_rate_s.out); replace B_u := kb_t B_u hk (fun i hi => by exact hi ▸ Or.inr O_rate_u.out); replace B_a := kb_t B_a hk (fun i hi => by exact hi ▸ Or.inr O_rate_a.out); replace B_all := kb_t B_all hk (fun i hi => by exact hi ▸ Or.inr O_rate_all.out); replace B_u2 := kb_t B_u2 hk (fun i hi => by exact hi ▸ Or.inr O_rate_u2.out); replace B_b := kb_t B_b hk (fun i hi => by exact hi ▸ Or.inr O_rate_b.out); clear V_rate B_rate; have V_rate := Aside0.mk hbox; have B_rate := Aside0.mk (Kb.refl (fun k => False) w112); clear hbox hk))
    have hb : Below w112.heap.size w112 w112.drew := below_drew1 (Below.refl _ _)
    replace HB := kb_b HB hb
    replace B_s := kb_b B_s hb
    replace B_u := kb_b B_u hb
    replace B_a := kb_b B_a hb
    replace B_all := kb_b B_all hb
    replace B_u2 := kb_b B_u2 hb
    replace B_b := kb_b B_b hb
    replace B_rate := kb_b B_rate hb
    clear hb
    refine start_ (n := 10) (S := fun w' => w'.heap[g_rate]? = some (.cells #[.bool tb, .slice Ab nb cb, .slice Db kb zb] 30 (0, 0))) (ds := []) (tB_ 10 0) (by kernel_rfl) rfl (by kernel_rfl) (Kb.blk V_rate.out B_rate.out N_rate.out) (fun hHeld => ?_)
    refine with_tabW Rates12.tab12 Rates12.bits12 (fun HT_ HW_ => ?_)
    generalize w112.drew = w113 at HB B_s B_u B_a B_all B_u2 B_b B_rate hHeld ⊢
    refine tk_ 0 (some 59) 1 HT_ HW_ hHeld ?_ ?_ ?_ ?_ ?_
    rotate_left
    · intro w' hs
      have hb_ := hs
      have c0_ := (blk_cell hb_ 0).trans rfl
      have c1_ := (blk_cell hb_ 1).trans rfl
      have c2_ := (blk_cell hb_ 2).trans rfl
      clear hb_ hs
      go_simp
      with_reducible rfl
    rotate_left
    · simp only [PU]
      rfl
    refine pu_ 1 (some 60) 3 HT_ ?_
    have B_z0 := Aside0.mk (Kb.refl (fun k => False) w113)
    refine join_ (σ := Value × Value × Value × Value × Value × Value) 2 (tB_ 10 255) (fun s => [(61, s.1), (62, s.2.1), (15, s.2.2.1), (58, s.2.2.2.1), (63, s.2.2.2.2.1), (64, s.2.2.2.2.2)]) (fun s w' => (∃ (ty : Bool) (Ay : Option Addr) (ny cy : Nat) (Dy : Option Addr) (ky zy : Nat) (g_x : Nat), (s.2.1 = .tuple #[.agg #[.bool ty, .slice Ay ny cy, .slice Dy ky zy], .int .i64 0] ∧ s.2.2.2.1 = .tuple #[.agg #[.bool ty, .slice Ay ny cy, .slice Dy ky zy], .int .i64 0] ∧ s.2.2.2.2.1 = .agg #[.bool ty, .slice Ay ny cy, .slice Dy ky zy] ∧ s.2.2.2.2.2 = .int .i64 0) ∧ s.2.2.1 = .pointer (some ⟨g_x, 0, none⟩) ∧ w'.heap[g_x]? = some (.cells #[.bool false, .slice none 0 0, .slice none 0 0] 30 (0, 0)) ∧ w113.heap.size ≤ g_x ∧ IsR (fun k => True ∧ k ≠ g_x) w' (.agg #[.bool ty, .slice Ay ny cy, .slice Dy ky zy]) ((ns : Int) : Rat)) ∧ Kb (fun k => False) w113 w' ∧ (w'.heap[g_rate]? = some (.cells #[.bool tb, .slice Ab nb cb, .slice Db kb zb] 30 (0, 0)))) ?hcont1 ?hord1
    rotate_left
    · intro HC
      refine tw_ 2 7 (some 61) (some 15) 7 131 HT_ (fun K hK => ?_) (fun K hK => ?_)
      · skip
        refine gs_ Try.func13 #[.int .i64 nn, .int .i64 1000] ?_
        refine (part_calls nn 1000 (by have := HN.out; omega) (by have := HN.out; omega) (by omega) (by omega) (fit_div _ _ (by omega) (by have := HN.out; omega) (by omega)) _).mono ?_
        rintro e w114 ⟨⟨v61, rfl, hv⟩, hb⟩
        obtain ⟨tp, Ap, np, cp, Dp, kp, zp, rfl⟩ := hv.agg
        refine ⟨_, rfl, ?_⟩
        refine hK.out _ _ (by exact blk_below hHeld hb) (fun hHeld => ?_)
        clear hK K
        refine nm_ (some 61) ?_
        have hle := Kb.size HB.out
        have hv_ := IsR.mono' (ok' := fun k => True) hv (fun k hk _ => by trivial)
        clear hv hle
        replace HB := kb_b HB hb
        replace B_s := kb_b B_s hb
        replace B_u := kb_b B_u hb
        replace B_a := kb_b B_a hb
        replace B_all := kb_b B_all hb
        replace B_u2 := kb_b B_u2 hb
        replace B_b := kb_b B_b hb
        replace B_rate := kb_b B_rate hb
        replace B_z0 := kb_b B_z0 hb
        clear hb
        have V_p := Aside0.mk hv_
        clear hv_
        have B_p := Aside0.mk (Kb.refl (fun k => False) w114)
        refine tw_ 3 7 (some 62) (some 15) 15 135 HT_ (fun K hK => ?_) (fun K hK => ?_)
        · skip
          refine gs_ Try.func19 #[.agg #[.bool tb, .slice Ab nb cb, .slice Db kb zb], .agg #[.bool tp, .slice Ap np cp, .slice Dp kp zp]] ?_
          refine (Op2.calls qmul_op (x := (((((ns : Int)) * 1000 : Int) : Rat) / (nn : Rat))) (y := ((nn : Rat) / ((1000 : Int) : Rat))) trivial (IsR.kb (S := fun k => False) V_b.out B_b.out (fun _ _ h => h)) (IsR.kb (S := fun k => False) V_p.out B_p.out (fun _ _ h => h))).mono ?_
          rintro e w115 ⟨⟨v62, rfl, hv⟩, hb⟩
          have hfm : fit ((((((ns : Int)) * 1000 : Int) : Rat) / (nn : Rat)) * ((nn : Rat) / ((1000 : Int) : Rat))) = some ((ns : Int) : Rat) := by
           rw [rate_back _ _ HN.out.1]
           unfold fit
           rw [if_pos (fit_int _ (by have := HMS.out; omega) (by have := HMS.out; omega))]
          rw [hfm] at hv ⊢
          clear hfm
          have hv := Res.isR hv
          obtain ⟨ty, Ay, ny, cy, Dy, ky, zy, rfl⟩ := hv.agg
          refine ⟨_, rfl, ?_⟩
          refine hK.out _ _ (by exact blk_below hHeld hb) (fun hHeld => ?_)
          clear hK K
          refine nm_ (some 62) ?_
          have hle := Kb.size HB.out
          have hv_ := IsR.mono' (ok' := fun k => True) hv (fun k hk _ => by trivial)
          clear hv hle
          replace HB := kb_b HB hb
          replace B_s := kb_b B_s hb
          replace B_u := kb_b B_u hb
          replace B_a := kb_b B_a hb
          replace B_all := kb_b B_all hb
          replace B_u2 := kb_b B_u2 hb
          replace B_b := kb_b B_b hb
          replace B_rate := kb_b B_rate hb
          replace B_z0 := kb_b B_z0 hb
          replace B_p := kb_b B_p hb
          clear hb
          have V_xv := Aside0.mk hv_
          clear hv_
          have B_xv := Aside0.mk (Kb.refl (fun k => False) w115)
          refine pu_ 4 (some 58) 31 HT_ ?_
          refine pu_ 5 (some 63) 63 HT_ ?_
          refine pu_ 6 (some 64) 127 HT_ ?_
          refine on_ 7 (some 15) 255 HT_ (fun K hK => ?_)
          refine vl_ ?_
          refine hK.out _ _ (by exact blk_below hHeld (below_alloc (Below.refl _ _) _)) (fun hHeld => ?_)
          clear hK K
          refine nm_ (some 15) ?_
          have hb : Below w115.heap.size w115 (w115.alloc (.cells #[.bool false, .slice none 0 0, .slice none 0 0] 30 (0, 0))) := below_alloc (Below.refl _ _) _
          have hbox : (w115.alloc (.cells #[.bool false, .slice none 0 0, .slice none 0 0] 30 (0, 0))).heap[w115.heap.size]? = some (.cells #[.bool false, .slice none 0 0, .slice none 0 0] 30 (0, 0)) := blk_new w115 _
          obtain ⟨w116, hw_⟩ : ∃ x, x = w115.alloc (.cells #[.bool false, .slice none 0 0, .slice none 0 0] 30 (0, 0)) := ⟨_, rfl⟩
          rw [← hw_] at hb hbox hHeld ⊢
          clear hw_
          obtain ⟨g_x, hg⟩ : ∃ x, x = w115.heap.size := ⟨_, rfl⟩
          rw [← hg] at hbox ⊢
          have G_x := kb_g HB hg
          have O_x_s := kb_g B_s hg
          have O_x_u := kb_g B_u hg
          have O_x_a := kb_g B_a hg
          have O_x_all := kb_g B_all hg
          have O_x_u2 := kb_g B_u2 hg
          have O_x_b := kb_g B_b hg
          have O_x_rate := kb_g B_rate hg
          have O_x_z0 := kb_g B_z0 hg
          have O_x_p := kb_g B_p hg
          have O_x_xv := kb_g B_xv hg
          replace HB := kb_b HB hb
          replace B_s := kb_b B_s hb
          replace B_u := kb_b B_u hb
          replace B_a := kb_b B_a hb
          replace B_all := kb_b B_all hb
          replace B_u2 := kb_b B_u2 hb
          replace B_b := kb_b B_b hb
          replace B_rate := kb_b B_rate hb
          replace B_z0 := kb_b B_z0 hb
          replace B_p := kb_b B_p hb
          replace B_xv := kb_b B_xv hb
          clear hb
          have V_x := Aside0.mk hbox
          have B_x := Aside0.mk (Kb.refl (fun k => False) w116)
          have N_x : Aside0 (¬ (fun k => False) g_x) := ⟨by have := G_x; exact fun h => h⟩
          clear hbox hg
          exact HC (.agg #[.bool tp, .slice Ap np cp, .slice Dp kp zp], .tuple #[.agg #[.bool ty, .slice Ay ny cy, .slice Dy ky zy], .int .i64 0], .pointer (some ⟨g_x, 0, none⟩), .tuple #[.agg #[.bool ty, .slice Ay ny cy, .slice Dy ky zy], .int .i64 0], .agg #[.bool ty, .slice Ay ny cy, .slice Dy ky zy], .int .i64 0) _ ⟨⟨_, _, _, _, _, _, _, g_x, ⟨rfl, rfl, rfl, rfl⟩, rfl, Kb.blk V_x.out B_x.out N_x.out, O_x_z0.out, IsR.kb (S := fun k => False) (IsR.mono' (ok' := fun k => True ∧ k ≠ g_x) V_xv.out (fun k h hl => ⟨trivial, fun e => by have := O_x_xv.out; omega⟩)) B_xv.out (fun _ _ h => h)⟩, B_z0.out, hHeld⟩
        · skip
          refine vl_ ?_
          refine hK.out _ _ (by exact blk_below hHeld (below_alloc (Below.refl _ _) _)) (fun hHeld => ?_)
          clear hK K
          refine nm_ (some 15) ?_
          have hb : Below w114.heap.size w114 (w114.alloc (.cells #[.bool false, .slice none 0 0, .slice none 0 0] 30 (0, 0))) := below_alloc (Below.refl _ _) _
          have hbox : (w114.alloc (.cells #[.bool false, .slice none 0 0, .slice none 0 0] 30 (0, 0))).heap[w114.heap.size]? = some (.cells #[.bool false, .slice none 0 0, .slice none 0 0] 30 (0, 0)) := blk_new w114 _
          obtain ⟨w115, hw_⟩ : ∃ x, x = w114.alloc (.cells #[.bool false, .slice none 0 0, .slice none 0 0] 30 (0, 0)) := ⟨_, rfl⟩
          rw [← hw_] at hb hbox hHeld ⊢
          clear hw_
          obtain ⟨g_x, hg⟩ : ∃ x, x = w114.heap.size := ⟨_, rfl⟩
          rw [← hg] at hbox ⊢
          have G_x := kb_g HB hg
          have O_x_s := kb_g B_s hg
          have O_x_u := kb_g B_u hg
          have O_x_a := kb_g B_a hg
          have O_x_all := kb_g B_all hg
          have O_x_u2 := kb_g B_u2 hg
          have O_x_b := kb_g B_b hg
          have O_x_rate := kb_g B_rate hg
          have O_x_z0 := kb_g B_z0 hg
          have O_x_p := kb_g B_p hg
          replace HB := kb_b HB hb
          replace B_s := kb_b B_s hb
          replace B_u := kb_b B_u hb
          replace B_a := kb_b B_a hb
          replace B_all := kb_b B_all hb
          replace B_u2 := kb_b B_u2 hb
          replace B_b := kb_b B_b hb
          replace B_rate := kb_b B_rate hb
          replace B_z0 := kb_b B_z0 hb
          replace B_p := kb_b B_p hb
          clear hb
          have V_x := Aside0.mk hbox
          have B_x := Aside0.mk (Kb.refl (fun k => False) w115)
          have N_x : Aside0 (¬ (fun k => False) g_x) := ⟨by have := G_x; exact fun h => h⟩
          clear hbox hg
          refine on_ 3 (some 62) 143 HT_ (fun K hK => ?_)
          refine gs_ Try.func19 #[.agg #[.bool tb, .slice Ab nb cb, .slice Db kb zb], .agg #[.bool tp, .slice Ap np cp, .slice Dp kp zp]] ?_
          refine (Op2.calls qmul_op (x := (((((ns : Int)) * 1000 : Int) : Rat) / (nn : Rat))) (y := ((nn : Rat) / ((1000 : Int) : Rat))) trivial (IsR.kb (S := fun k => False) V_b.out B_b.out (fun _ _ h => h)) (IsR.kb (S := fun k => False) V_p.out B_p.out (fun _ _ h => h))).mono ?_
          rintro e w116 ⟨⟨v62, rfl, hv⟩, hb⟩
          have hfm : fit ((((((ns : Int)) * 1000 : Int) : Rat) / (nn : Rat)) * ((nn : Rat) / ((1000 : Int) : Rat))) = some ((ns : Int) : Rat) := by
           rw [rate_back _ _ HN.out.1]
           unfold fit
           rw [if_pos (fit_int _ (by have := HMS.out; omega) (by have := HMS.out; omega))]
          rw [hfm] at hv ⊢
          clear hfm
          have hv := Res.isR hv
          obtain ⟨ty, Ay, ny, cy, Dy, ky, zy, rfl⟩ := hv.agg
          refine ⟨_, rfl, ?_⟩
          refine hK.out _ _ (by exact blk_below hHeld hb) (fun hHeld => ?_)
          clear hK K
          refine nm_ (some 62) ?_
          have hle := Kb.size HB.out
          have hl_x := blk_lt (Kb.blk V_x.out B_x.out N_x.out)
          have hv_ := IsR.mono' (ok' := fun k => True ∧ k ≠ g_x) hv (fun k hk _ => by refine ⟨?_, ?_⟩ <;> first | trivial | omega)
          clear hv hle hl_x
          replace HB := kb_b HB hb
          replace B_s := kb_b B_s hb
          replace B_u := kb_b B_u hb
          replace B_a := kb_b B_a hb
          replace B_all := kb_b B_all hb
          replace B_u2 := kb_b B_u2 hb
          replace B_b := kb_b B_b hb
          replace B_rate := kb_b B_rate hb
          replace B_z0 := kb_b B_z0 hb
          replace B_p := kb_b B_p hb
          replace B_x := kb_b B_x hb
          clear hb
          have V_xv := Aside0.mk hv_
          clear hv_
          have B_xv := Aside0.mk (Kb.refl (fun k => False ∨ k = g_x) w116)
          refine pu_ 4 (some 58) 159 HT_ ?_
          refine pu_ 5 (some 63) 191 HT_ ?_
          refine pu_ 6 (some 64) 255 HT_ ?_
          exact HC (.agg #[.bool tp, .slice Ap np cp, .slice Dp kp zp], .tuple #[.agg #[.bool ty, .slice Ay ny cy, .slice Dy ky zy], .int .i64 0], .pointer (some ⟨g_x, 0, none⟩), .tuple #[.agg #[.bool ty, .slice Ay ny cy, .slice Dy ky zy], .int .i64 0], .agg #[.bool ty, .slice Ay ny cy, .slice Dy ky zy], .int .i64 0) _ ⟨⟨_, _, _, _, _, _, _, g_x, ⟨rfl, rfl, rfl, rfl⟩, rfl, Kb.blk V_x.out B_x.out N_x.out, O_x_z0.out, IsR.kb (S := fun k => False ∨ k = g_x) V_xv.out B_xv.out (fun k h hs => hs.elim (fun f => f) h.2)⟩, B_z0.out, hHeld⟩
      · skip
        refine vl_ ?_
        refine hK.out _ _ (by exact blk_below hHeld (below_alloc (Below.refl _ _) _)) (fun hHeld => ?_)
        clear hK K
        refine nm_ (some 15) ?_
        have hb : Below w113.heap.size w113 (w113.alloc (.cells #[.bool false, .slice none 0 0, .slice none 0 0] 30 (0, 0))) := below_alloc (Below.refl _ _) _
        have hbox : (w113.alloc (.cells #[.bool false, .slice none 0 0, .slice none 0 0] 30 (0, 0))).heap[w113.heap.size]? = some (.cells #[.bool false, .slice none 0 0, .slice none 0 0] 30 (0, 0)) := blk_new w113 _
        obtain ⟨w114, hw_⟩ : ∃ x, x = w113.alloc (.cells #[.bool false, .slice none 0 0, .slice none 0 0] 30 (0, 0)) := ⟨_, rfl⟩
        rw [← hw_] at hb hbox hHeld ⊢
        clear hw_
        obtain ⟨g_x, hg⟩ : ∃ x, x = w113.heap.size := ⟨_, rfl⟩
        rw [← hg] at hbox ⊢
        have G_x := kb_g HB hg
        have O_x_s := kb_g B_s hg
        have O_x_u := kb_g B_u hg
        have O_x_a := kb_g B_a hg
        have O_x_all := kb_g B_all hg
        have O_x_u2 := kb_g B_u2 hg
        have O_x_b := kb_g B_b hg
        have O_x_rate := kb_g B_rate hg
        have O_x_z0 := kb_g B_z0 hg
        replace HB := kb_b HB hb
        replace B_s := kb_b B_s hb
        replace B_u := kb_b B_u hb
        replace B_a := kb_b B_a hb
        replace B_all := kb_b B_all hb
        replace B_u2 := kb_b B_u2 hb
        replace B_b := kb_b B_b hb
        replace B_rate := kb_b B_rate hb
        replace B_z0 := kb_b B_z0 hb
        clear hb
        have V_x := Aside0.mk hbox
        have B_x := Aside0.mk (Kb.refl (fun k => False) w114)
        have N_x : Aside0 (¬ (fun k => False) g_x) := ⟨by have := G_x; exact fun h => h⟩
        clear hbox hg
        refine on_ 2 (some 61) 135 HT_ (fun K hK => ?_)
        refine gs_ Try.func13 #[.int .i64 nn, .int .i64 1000] ?_
        refine (part_calls nn 1000 (by have := HN.out; omega) (by have := HN.out; omega) (by omega) (by omega) (fit_div _ _ (by omega) (by have := HN.out; omega) (by omega)) _).mono ?_
        rintro e w115 ⟨⟨v61, rfl, hv⟩, hb⟩
        obtain ⟨tp, Ap, np, cp, Dp, kp, zp, rfl⟩ := hv.agg
        refine ⟨_, rfl, ?_⟩
        refine hK.out _ _ (by exact blk_below hHeld hb) (fun hHeld => ?_)
        clear hK K
        refine nm_ (some 61) ?_
        have hle := Kb.size HB.out
        have hv_ := IsR.mono' (ok' := fun k => True) hv (fun k hk _ => by trivial)
        clear hv hle
        replace HB := kb_b HB hb
        replace B_s := kb_b B_s hb
        replace B_u := kb_b B_u hb
        replace B_a := kb_b B_a hb
        replace B_all := kb_b B_all hb
        replace B_u2 := kb_b B_u2 hb
        replace B_b := kb_b B_b hb
        replace B_rate := kb_b B_rate hb
        replace B_z0 := kb_b B_z0 hb
        replace B_x := kb_b B_x hb
        clear hb
        have V_p := Aside0.mk hv_
        clear hv_
        have B_p := Aside0.mk (Kb.refl (fun k => False) w115)
        refine on_ 3 (some 62) 143 HT_ (fun K hK => ?_)
        refine gs_ Try.func19 #[.agg #[.bool tb, .slice Ab nb cb, .slice Db kb zb], .agg #[.bool tp, .slice Ap np cp, .slice Dp kp zp]] ?_
        refine (Op2.calls qmul_op (x := (((((ns : Int)) * 1000 : Int) : Rat) / (nn : Rat))) (y := ((nn : Rat) / ((1000 : Int) : Rat))) trivial (IsR.kb (S := fun k => False) V_b.out B_b.out (fun _ _ h => h)) (IsR.kb (S := fun k => False) V_p.out B_p.out (fun _ _ h => h))).mono ?_
        rintro e w116 ⟨⟨v62, rfl, hv⟩, hb⟩
        have hfm : fit ((((((ns : Int)) * 1000 : Int) : Rat) / (nn : Rat)) * ((nn : Rat) / ((1000 : Int) : Rat))) = some ((ns : Int) : Rat) := by
         rw [rate_back _ _ HN.out.1]
         unfold fit
         rw [if_pos (fit_int _ (by have := HMS.out; omega) (by have := HMS.out; omega))]
        rw [hfm] at hv ⊢
        clear hfm
        have hv := Res.isR hv
        obtain ⟨ty, Ay, ny, cy, Dy, ky, zy, rfl⟩ := hv.agg
        refine ⟨_, rfl, ?_⟩
        refine hK.out _ _ (by exact blk_below hHeld hb) (fun hHeld => ?_)
        clear hK K
        refine nm_ (some 62) ?_
        have hle := Kb.size HB.out
        have hl_x := blk_lt (Kb.blk V_x.out B_x.out N_x.out)
        have hv_ := IsR.mono' (ok' := fun k => True ∧ k ≠ g_x) hv (fun k hk _ => by refine ⟨?_, ?_⟩ <;> first | trivial | omega)
        clear hv hle hl_x
        replace HB := kb_b HB hb
        replace B_s := kb_b B_s hb
        replace B_u := kb_b B_u hb
        replace B_a := kb_b B_a hb
        replace B_all := kb_b B_all hb
        replace B_u2 := kb_b B_u2 hb
        replace B_b := kb_b B_b hb
        replace B_rate := kb_b B_rate hb
        replace B_z0 := kb_b B_z0 hb
        replace B_x := kb_b B_x hb
        replace B_p := kb_b B_p hb
        clear hb
        have V_xv := Aside0.mk hv_
        clear hv_
        have B_xv := Aside0.mk (Kb.refl (fun k => False ∨ k = g_x) w116)
        refine pu_ 4 (some 58) 159 HT_ ?_
        refine pu_ 5 (some 63) 191 HT_ ?_
        refine pu_ 6 (some 64) 255 HT_ ?_
        exact HC (.agg #[.bool tp, .slice Ap np cp, .slice Dp kp zp], .tuple #[.agg #[.bool ty, .slice Ay ny cy, .slice Dy ky zy], .int .i64 0], .pointer (some ⟨g_x, 0, none⟩), .tuple #[.agg #[.bool ty, .slice Ay ny cy, .slice Dy ky zy], .int .i64 0], .agg #[.bool ty, .slice Ay ny cy, .slice Dy ky zy], .int .i64 0) _ ⟨⟨_, _, _, _, _, _, _, g_x, ⟨rfl, rfl, rfl, rfl⟩, rfl, Kb.blk V_x.out B_x.out N_x.out, O_x_z0.out, IsR.kb (S := fun k => False ∨ k = g_x) V_xv.out B_xv.out (fun k h hs => hs.elim (fun f => f) h.2)⟩, B_z0.out, hHeld⟩
    rintro ⟨v61, v62, v15, v58, v63, v64⟩ w134 ⟨⟨ty, Ay, ny, cy, Dy, ky, zy, g_x, ⟨rfl, rfl, rfl, rfl⟩, rfl, hbox, hO, hres⟩, hk, hHeld⟩
    refine norm_ (a' := ?_) ?_ ?_
    rotate_left
    · simp only [putAll, PU]
      rfl
    have O_x_s : Aside0 (w102.heap.size ≤ g_x) := ⟨Nat.le_trans (Kb.size B_s.out) hO⟩
    have O_x_u : Aside0 (w105.heap.size ≤ g_x) := ⟨Nat.le_trans (Kb.size B_u.out) hO⟩
    have O_x_a : Aside0 (w106.heap.size ≤ g_x) := ⟨Nat.le_trans (Kb.size B_a.out) hO⟩
    have O_x_all : Aside0 (w108.heap.size ≤ g_x) := ⟨Nat.le_trans (Kb.size B_all.out) hO⟩
    have O_x_u2 : Aside0 (w109.heap.size ≤ g_x) := ⟨Nat.le_trans (Kb.size B_u2.out) hO⟩
    have O_x_b : Aside0 (w110.heap.size ≤ g_x) := ⟨Nat.le_trans (Kb.size B_b.out) hO⟩
    have O_x_rate : Aside0 (w112.heap.size ≤ g_x) := ⟨Nat.le_trans (Kb.size B_rate.out) hO⟩
    have G_x : Aside0 (w.heap.size ≤ g_x) := ⟨Nat.le_trans (Kb.size HB.out) hO⟩
    clear B_z0 hO
    replace HB := kb_t HB hk (fun i hi => Or.inl hi)
    replace B_s := kb_t B_s hk (fun i hi => Or.inl hi)
    replace B_u := kb_t B_u hk (fun i hi => Or.inl hi)
    replace B_a := kb_t B_a hk (fun i hi => Or.inl hi)
    replace B_all := kb_t B_all hk (fun i hi => Or.inl hi)
    replace B_u2 := kb_t B_u2 hk (fun i hi => Or.inl hi)
    replace B_b := kb_t B_b hk (fun i hi => Or.inl hi)
    replace B_rate := kb_t B_rate hk (fun i hi => Or.inl hi)
    clear hk
    have V_x := Aside0.mk hbox
    have B_x := Aside0.mk (Kb.refl (fun k => False) w134)
    have N_x : Aside0 (¬ (fun k => False) g_x) := ⟨fun h => h⟩
    clear hbox
    have V_xv := Aside0.mk hres
    clear hres
    have B_xv := Aside0.mk (Kb.refl (fun k => False ∨ k = g_x) w134)
    refine on_ 8 none 511 HT_ (fun K hK => ?_)
    have bk_x := Kb.blk V_x.out B_x.out N_x.out
    have hz_x_0 : w134.cell? ⟨g_x, 0, none⟩ = some (.bool false) := (blk_cell bk_x 0).trans rfl
    have hf_x_0 := blk_frozen bk_x 0
    have hz_x_1 : w134.cell? ⟨g_x, 1, none⟩ = some (.slice none 0 0) := (blk_cell bk_x 1).trans rfl
    have hf_x_1 := blk_frozen bk_x 1
    have hz_x_2 : w134.cell? ⟨g_x, 2, none⟩ = some (.slice none 0 0) := (blk_cell bk_x 2).trans rfl
    have hf_x_2 := blk_frozen bk_x 2
    clear bk_x
    refine skip_ (w1 := ((w134.setCell ⟨g_x, 0, none⟩ (.bool ty)).setCell ⟨g_x, 1, none⟩ (.slice Ay ny cy)).setCell ⟨g_x, 2, none⟩ (.slice Dy ky zy)) (by rfl) rfl ?_ ?_
    · first | (go_simp; done) | (go_simp; rfl)
    clear hz_x_0 hf_x_0 hz_x_1 hf_x_1 hz_x_2 hf_x_2
    have hbox : (((w134.setCell ⟨g_x, 0, none⟩ (.bool ty)).setCell ⟨g_x, 1, none⟩ (.slice Ay ny cy)).setCell ⟨g_x, 2, none⟩ (.slice Dy ky zy)).heap[g_x]? = some (.cells #[.bool ty, .slice Ay ny cy, .slice Dy ky zy] 30 (0, 0)) := blk_put (blk_put (blk_put (Kb.blk V_x.out B_x.out N_x.out) 0 _ rfl) 1 _ rfl) 2 _ rfl
    have hk : Kb (fun k => k = g_x) w134 (((w134.setCell ⟨g_x, 0, none⟩ (.bool ty)).setCell ⟨g_x, 1, none⟩ (.slice Ay ny cy)).setCell ⟨g_x, 2, none⟩ (.slice Dy ky zy)) := (((Kb.refl (fun k => k = g_x) w134).setCell (p := ⟨g_x, 0, none⟩) (Or.inl rfl) _).setCell (p := ⟨g_x, 1, none⟩) (Or.inl rfl) _).setCell (p := ⟨g_x, 2, none⟩) (Or.inl rfl) _
    refine hK.out _ _ (by have q_ := hHeld; exact Kb.blk q_ hk (show ¬ (g_rate = g_x) from fun e => by have := blk_lt V_rate.out; have := O_x_rate.out; omega)) (fun hHeld => ?_)
    clear hK K
    obtain ⟨w135, hw_⟩ : ∃ x, x = ((w134.setCell ⟨g_x, 0, none⟩ (.bool ty)).setCell ⟨g_x, 1, none⟩ (.slice Ay ny cy)).setCell ⟨g_x, 2, none⟩ (.slice Dy ky zy) := ⟨_, rfl⟩
    rw [← hw_] at hk hbox hHeld ⊢
    clear hw_
    replace HB := kb_t HB hk (fun i hi => by exact hi ▸ Or.inr G_x.out)
    replace B_s := kb_t B_s hk (fun i hi => by exact hi ▸ Or.inr O_x_s.out)
    replace B_u := kb_t B_u hk (fun i hi => by exact hi ▸ Or.inr O_x_u.out)
    replace B_a := kb_t B_a hk (fun i hi => by exact hi ▸ Or.inr O_x_a.out)
    replace B_all := kb_t B_all hk (fun i hi => by exact hi ▸ Or.inr O_x_all.out)
    replace B_u2 := kb_t B_u2 hk (fun i hi => by exact hi ▸ Or.inr O_x_u2.out)
    replace B_b := kb_t B_b hk (fun i hi => by exact hi ▸ Or.inr O_x_b.out)
    replace B_rate := kb_t B_rate hk (fun i hi => by exact hi ▸ Or.inr O_x_rate.out)
    replace B_xv := kb_t B_xv hk (fun i hi => by exact Or.inl (Or.inr hi))
    clear V_x B_x
    have V_x := Aside0.mk hbox
    have B_x := Aside0.mk (Kb.refl (fun k => False) w135)
    clear hbox hk
    refine pu_ 9 (some 16) 1023 HT_ ?_
    refine do_ HT_ ?_
    clear HT_ HW_ hHeld
    go_wp2_with (first | ((with_reducible refine gate_dst (N := 80) rfl ?_); refine gate_guard (by rfl) ?_; dsimp only; refine load_ev rfl rfl (g := g_all) rfl (Kb.blk V_all.out B_all.out N_all.out) ?_) | ((with_reducible refine gate_dst (N := 81) rfl ?_); refine gate_guard (by rfl) ?_; dsimp only; refine load_ev rfl rfl (g := g_x) rfl (Kb.blk V_x.out B_x.out N_x.out) ?_))
    with_reducible refine (qsame_calls ((ns : Int) : Rat) ((ns : Int) : Rat) _ _ _ (IsR.kb (S := fun k => False) V_a.out B_a.out (fun _ _ h => h)) (IsR.mono (IsR.kb (S := fun k => False ∨ k = g_x) V_xv.out B_xv.out (fun k h hs => hs.elim (fun f => f) h.2)) (fun k h => h.1))).mono ?_
    rintro e w136 ⟨rfl, hb⟩
    rw [decide_eq_true (show ((ns : Int) : Rat) = ((ns : Int) : Rat) from rfl)]
    replace HB := kb_b HB hb
    replace B_s := kb_b B_s hb
    replace B_u := kb_b B_u hb
    replace B_a := kb_b B_a hb
    replace B_all := kb_b B_all hb
    replace B_u2 := kb_b B_u2 hb
    replace B_b := kb_b B_b hb
    replace B_rate := kb_b B_rate hb
    replace B_x := kb_b B_x hb
    replace B_xv := kb_b B_xv hb
    clear hb
    go_wp2_with fail
    go_roundg 2
    case measure => omega
    case rel => exact ⟨3, rfl, ⟨Or.inr (Or.inl ⟨rfl, rfl⟩)⟩, HB, B_s⟩
  · skip
    have hms : (0 : Int) ≤ mb ∧ mb ≤ 1000000 := by have := HMB.out; omega
    have HMS := Aside0.mk hms
    clear hms
    go_wp2_with fail
    with_reducible refine (qof_calls 0 (by omega) (by omega) _).mono ?_
    rintro e w105 ⟨⟨v, rfl, hv⟩, hb⟩
    obtain ⟨tu, Au, nu, cu, Du, ku, zu, rfl⟩ := hv.agg
    have hle := Kb.size HB.out
    have hv_ := IsR.mono' (ok' := fun k => True) hv (fun k hk _ => by trivial)
    clear hv hle
    replace HB := kb_b HB hb
    replace B_s := kb_b B_s hb
    clear hb
    have V_u := Aside0.mk hv_
    clear hv_
    have B_u := Aside0.mk (Kb.refl (fun k => False) w105)
    go_wp2_with fail
    rw [HNS.out]
    with_reducible refine (told_calls (fun a => a = some (mb : Rat)) 3 _ _ _ _ _ _ _ _ _ _ _ (fun W hW => (wrun3 1000 (by omega) (by omega) ss (bys_of ss HS.out.2.1) (by rw [← HNS.out]; exact HZ.out) (by have := HS.out.1; omega) W _ _ _ _ _ _ _ _ _ (RowS.kb (RowS.kb V_s.out B_s.out (fun _ _ h => h)) hW (fun _ _ h => h))).mono (fun e w' h => by obtain ⟨⟨v, ans, ha, he, hr⟩, hb⟩ := h; exact ⟨⟨v, ans, (show ans = _ from ha).trans HMB.out.1, he, hr⟩, hb⟩))).mono ?_
    rintro e w106 ⟨⟨v, ans, rfl, rfl, hv⟩, hb⟩
    rw [← HNS.out]
    have hv := Res.isR hv
    obtain ⟨ta, Aa, na, ca, Da, ka, za, rfl⟩ := hv.agg
    have hle := Kb.size HB.out
    have hv_ := IsR.mono' (ok' := fun k => True) hv (fun k hk _ => by trivial)
    clear hv hle
    replace HB := kb_b HB hb
    replace B_s := kb_b B_s hb
    replace B_u := kb_b B_u hb
    clear hb
    have V_a := Aside0.mk hv_
    clear hv_
    have B_a := Aside0.mk (Kb.refl (fun k => False) w106)
    go_wp2_with (first | ((with_reducible refine gate_dst (N := 10) rfl ?_); refine bx_ (N := 10) #[.bool false, .slice none 0 0, .slice none 0 0] 30 ?_; intro g_all hg w107 hbox hb; have G_all := kb_g HB hg; have O_all_s := kb_g B_s hg; have O_all_u := kb_g B_u hg; have O_all_a := kb_g B_a hg; replace HB := kb_b HB hb; replace B_s := kb_b B_s hb; replace B_u := kb_b B_u hb; replace B_a := kb_b B_a hb; clear hb; have V_all := Aside0.mk hbox; have B_all := Aside0.mk (Kb.refl (fun k => False) w107); have N_all : Aside0 (¬ (fun k => False) g_all) := ⟨by have := G_all; exact fun h => h⟩; clear hbox hg) | ((with_reducible refine gate_store (t := 30) (p := 10) (v := .tmp 46) rfl ?_); refine store_ev (p := .tmp 10) (v := .tmp 46) rfl rfl rfl (g := g_all) rfl rfl (Kb.blk V_all.out B_all.out N_all.out) ?_; intro w108 hbox hk; replace HB := kb_t HB hk (fun i hi => by exact hi ▸ Or.inr G_all.out); replace B_s := kb_t B_s hk (fun i hi => by exact hi ▸ Or.inr O_all_s.out); replace B_u := kb_t B_u hk (fun i hi => by exact hi ▸ Or.inr O_all_u.out); replace B_a := kb_t B_a hk (fun i hi => by exact hi ▸ Or.inr O_all_a.out); clear V_all B_all; have V_all := Aside0.mk hbox; have B_all := Aside0.mk (Kb.refl (fun k => False) w108); clear hbox hk))
    go_wp2_with fail
    with_reducible refine (qof_calls 0 (by omega) (by omega) _).mono ?_
    rintro e w109 ⟨⟨v, rfl, hv⟩, hb⟩
    obtain ⟨tu2, Au2, nu2, cu2, Du2, ku2, zu2, rfl⟩ := hv.agg
    have hle := Kb.size HB.out
    have hv_ := IsR.mono' (ok' := fun k => True) hv (fun k hk _ => by trivial)
    clear hv hle
    replace HB := kb_b HB hb
    replace B_s := kb_b B_s hb
    replace B_u := kb_b B_u hb
    replace B_a := kb_b B_a hb
    replace B_all := kb_b B_all hb
    clear hb
    have V_u2 := Aside0.mk hv_
    clear hv_
    have B_u2 := Aside0.mk (Kb.refl (fun k => False) w109)
    go_wp2_with fail
    rw [HNS.out]
    with_reducible refine (wrun4 nn (by have := HN.out.1; omega) (by have := HN.out.2; omega) ss (bys_of ss HS.out.2.1) (by rw [← HNS.out]; exact HZ.out) (by have := HS.out.1; omega) _ _ _ _ _ _ _ _ _ _ (RowS.kb V_s.out B_s.out (fun _ _ h => h))).mono ?_
    rintro e w110 ⟨⟨v, ans, ha, rfl, hv⟩, hb⟩
    rw [← HNS.out]
    have ha2 : ans = some ((((mb) * 1000 : Int) : Rat) / (nn : Rat)) := by
     rw [ha, HMB.out.1]
     exact rate_int _ _ HMS.out.1 HMS.out.2 HN.out.1 HN.out.2
    subst ha2
    clear ha
    have hv := Res.isR hv
    obtain ⟨tb, Ab, nb, cb, Db, kb, zb, rfl⟩ := hv.agg
    have hle := Kb.size HB.out
    have hv_ := IsR.mono' (ok' := fun k => True) hv (fun k hk _ => by trivial)
    clear hv hle
    replace HB := kb_b HB hb
    replace B_s := kb_b B_s hb
    replace B_u := kb_b B_u hb
    replace B_a := kb_b B_a hb
    replace B_all := kb_b B_all hb
    replace B_u2 := kb_b B_u2 hb
    clear hb
    have V_b := Aside0.mk hv_
    clear hv_
    have B_b := Aside0.mk (Kb.refl (fun k => False) w110)
    go_wp2_with (first | ((with_reducible refine gate_dst (N := 12) rfl ?_); refine bx_ (N := 12) #[.bool false, .slice none 0 0, .slice none 0 0] 30 ?_; intro g_rate hg w111 hbox hb; have G_rate := kb_g HB hg; have O_rate_s := kb_g B_s hg; have O_rate_u := kb_g B_u hg; have O_rate_a := kb_g B_a hg; have O_rate_all := kb_g B_all hg; have O_rate_u2 := kb_g B_u2 hg; have O_rate_b := kb_g B_b hg; replace HB := kb_b HB hb; replace B_s := kb_b B_s hb; replace B_u := kb_b B_u hb; replace B_a := kb_b B_a hb; replace B_all := kb_b B_all hb; replace B_u2 := kb_b B_u2 hb; replace B_b := kb_b B_b hb; clear hb; have V_rate := Aside0.mk hbox; have B_rate := Aside0.mk (Kb.refl (fun k => False) w111); have N_rate : Aside0 (¬ (fun k => False) g_rate) := ⟨by have := G_rate; exact fun h => h⟩; clear hbox hg) | ((with_reducible refine gate_store (t := 30) (p := 12) (v := .tmp 55) rfl ?_); refine store_ev (p := .tmp 12) (v := .tmp 55) rfl rfl rfl (g := g_rate) rfl rfl (Kb.blk V_rate.out B_rate.out N_rate.out) ?_; intro w112 hbox hk; replace HB := kb_t HB hk (fun i hi => by exact hi ▸ Or.inr G_rate.out); replace B_s := kb_t B_s hk (fun i hi => by exact hi ▸ Or.inr O_rate_s.out); replace B_u := kb_t B_u hk (fun i hi => by exact hi ▸ Or.inr O_rate_u.out); replace B_a := kb_t B_a hk (fun i hi => by exact hi ▸ Or.inr O_rate_a.out); replace B_all := kb_t B_all hk (fun i hi => by exact hi ▸ Or.inr O_rate_all.out); replace B_u2 := kb_t B_u2 hk (fun i hi => by exact hi ▸ Or.inr O_rate_u2.out); replace B_b := kb_t B_b hk (fun i hi => by exact hi ▸ Or.inr O_rate_b.out); clear V_rate B_rate; have V_rate := Aside0.mk hbox; have B_rate := Aside0.mk (Kb.refl (fun k => False) w112); clear hbox hk))
    have hb : Below w112.heap.size w112 w112.drew := below_drew1 (Below.refl _ _)
    replace HB := kb_b HB hb
    replace B_s := kb_b B_s hb
    replace B_u := kb_b B_u hb
    replace B_a := kb_b B_a hb
    replace B_all := kb_b B_all hb
    replace B_u2 := kb_b B_u2 hb
    replace B_b := kb_b B_b hb
    replace B_rate := kb_b B_rate hb
    clear hb
    refine start_ (n := 10) (S := fun w' => w'.heap[g_rate]? = some (.cells #[.bool tb, .slice Ab nb cb, .slice Db kb zb] 30 (0, 0))) (ds := []) (tB_ 10 0) (by kernel_rfl) rfl (by kernel_rfl) (Kb.blk V_rate.out B_rate.out N_rate.out) (fun hHeld => ?_)
    refine with_tabW Rates12.tab12 Rates12.bits12 (fun HT_ HW_ => ?_)
    generalize w112.drew = w113 at HB B_s B_u B_a B_all B_u2 B_b B_rate hHeld ⊢
    refine tk_ 0 (some 59) 1 HT_ HW_ hHeld ?_ ?_ ?_ ?_ ?_
    rotate_left
    · intro w' hs
      have hb_ := hs
      have c0_ := (blk_cell hb_ 0).trans rfl
      have c1_ := (blk_cell hb_ 1).trans rfl
      have c2_ := (blk_cell hb_ 2).trans rfl
      clear hb_ hs
      go_simp
      with_reducible rfl
    rotate_left
    · simp only [PU]
      rfl
    refine pu_ 1 (some 60) 3 HT_ ?_
    have B_z0 := Aside0.mk (Kb.refl (fun k => False) w113)
    refine join_ (σ := Value × Value × Value × Value × Value × Value) 2 (tB_ 10 255) (fun s => [(61, s.1), (62, s.2.1), (15, s.2.2.1), (58, s.2.2.2.1), (63, s.2.2.2.2.1), (64, s.2.2.2.2.2)]) (fun s w' => (∃ (ty : Bool) (Ay : Option Addr) (ny cy : Nat) (Dy : Option Addr) (ky zy : Nat) (g_x : Nat), (s.2.1 = .tuple #[.agg #[.bool ty, .slice Ay ny cy, .slice Dy ky zy], .int .i64 0] ∧ s.2.2.2.1 = .tuple #[.agg #[.bool ty, .slice Ay ny cy, .slice Dy ky zy], .int .i64 0] ∧ s.2.2.2.2.1 = .agg #[.bool ty, .slice Ay ny cy, .slice Dy ky zy] ∧ s.2.2.2.2.2 = .int .i64 0) ∧ s.2.2.1 = .pointer (some ⟨g_x, 0, none⟩) ∧ w'.heap[g_x]? = some (.cells #[.bool false, .slice none 0 0, .slice none 0 0] 30 (0, 0)) ∧ w113.heap.size ≤ g_x ∧ IsR (fun k => True ∧ k ≠ g_x) w' (.agg #[.bool ty, .slice Ay ny cy, .slice Dy ky zy]) (mb : Rat)) ∧ Kb (fun k => False) w113 w' ∧ (w'.heap[g_rate]? = some (.cells #[.bool tb, .slice Ab nb cb, .slice Db kb zb] 30 (0, 0)))) ?hcont2 ?hord2
    rotate_left
    · intro HC
      refine tw_ 2 7 (some 61) (some 15) 7 131 HT_ (fun K hK => ?_) (fun K hK => ?_)
      · skip
        refine gs_ Try.func13 #[.int .i64 nn, .int .i64 1000] ?_
        refine (part_calls nn 1000 (by have := HN.out; omega) (by have := HN.out; omega) (by omega) (by omega) (fit_div _ _ (by omega) (by have := HN.out; omega) (by omega)) _).mono ?_
        rintro e w114 ⟨⟨v61, rfl, hv⟩, hb⟩
        obtain ⟨tp, Ap, np, cp, Dp, kp, zp, rfl⟩ := hv.agg
        refine ⟨_, rfl, ?_⟩
        refine hK.out _ _ (by exact blk_below hHeld hb) (fun hHeld => ?_)
        clear hK K
        refine nm_ (some 61) ?_
        have hle := Kb.size HB.out
        have hv_ := IsR.mono' (ok' := fun k => True) hv (fun k hk _ => by trivial)
        clear hv hle
        replace HB := kb_b HB hb
        replace B_s := kb_b B_s hb
        replace B_u := kb_b B_u hb
        replace B_a := kb_b B_a hb
        replace B_all := kb_b B_all hb
        replace B_u2 := kb_b B_u2 hb
        replace B_b := kb_b B_b hb
        replace B_rate := kb_b B_rate hb
        replace B_z0 := kb_b B_z0 hb
        clear hb
        have V_p := Aside0.mk hv_
        clear hv_
        have B_p := Aside0.mk (Kb.refl (fun k => False) w114)
        refine tw_ 3 7 (some 62) (some 15) 15 135 HT_ (fun K hK => ?_) (fun K hK => ?_)
        · skip
          refine gs_ Try.func19 #[.agg #[.bool tb, .slice Ab nb cb, .slice Db kb zb], .agg #[.bool tp, .slice Ap np cp, .slice Dp kp zp]] ?_
          refine (Op2.calls qmul_op (x := ((((mb) * 1000 : Int) : Rat) / (nn : Rat))) (y := ((nn : Rat) / ((1000 : Int) : Rat))) trivial (IsR.kb (S := fun k => False) V_b.out B_b.out (fun _ _ h => h)) (IsR.kb (S := fun k => False) V_p.out B_p.out (fun _ _ h => h))).mono ?_
          rintro e w115 ⟨⟨v62, rfl, hv⟩, hb⟩
          have hfm : fit (((((mb) * 1000 : Int) : Rat) / (nn : Rat)) * ((nn : Rat) / ((1000 : Int) : Rat))) = some (mb : Rat) := by
           rw [rate_back _ _ HN.out.1]
           unfold fit
           rw [if_pos (fit_int _ (by have := HMS.out; omega) (by have := HMS.out; omega))]
          rw [hfm] at hv ⊢
          clear hfm
          have hv := Res.isR hv
          obtain ⟨ty, Ay, ny, cy, Dy, ky, zy, rfl⟩ := hv.agg
          refine ⟨_, rfl, ?_⟩
          refine hK.out _ _ (by exact blk_below hHeld hb) (fun hHeld => ?_)
          clear hK K
          refine nm_ (some 62) ?_
          have hle := Kb.size HB.out
          have hv_ := IsR.mono' (ok' := fun k => True) hv (fun k hk _ => by trivial)
          clear hv hle
          replace HB := kb_b HB hb
          replace B_s := kb_b B_s hb
          replace B_u := kb_b B_u hb
          replace B_a := kb_b B_a hb
          replace B_all := kb_b B_all hb
          replace B_u2 := kb_b B_u2 hb
          replace B_b := kb_b B_b hb
          replace B_rate := kb_b B_rate hb
          replace B_z0 := kb_b B_z0 hb
          replace B_p := kb_b B_p hb
          clear hb
          have V_xv := Aside0.mk hv_
          clear hv_
          have B_xv := Aside0.mk (Kb.refl (fun k => False) w115)
          refine pu_ 4 (some 58) 31 HT_ ?_
          refine pu_ 5 (some 63) 63 HT_ ?_
          refine pu_ 6 (some 64) 127 HT_ ?_
          refine on_ 7 (some 15) 255 HT_ (fun K hK => ?_)
          refine vl_ ?_
          refine hK.out _ _ (by exact blk_below hHeld (below_alloc (Below.refl _ _) _)) (fun hHeld => ?_)
          clear hK K
          refine nm_ (some 15) ?_
          have hb : Below w115.heap.size w115 (w115.alloc (.cells #[.bool false, .slice none 0 0, .slice none 0 0] 30 (0, 0))) := below_alloc (Below.refl _ _) _
          have hbox : (w115.alloc (.cells #[.bool false, .slice none 0 0, .slice none 0 0] 30 (0, 0))).heap[w115.heap.size]? = some (.cells #[.bool false, .slice none 0 0, .slice none 0 0] 30 (0, 0)) := blk_new w115 _
          obtain ⟨w116, hw_⟩ : ∃ x, x = w115.alloc (.cells #[.bool false, .slice none 0 0, .slice none 0 0] 30 (0, 0)) := ⟨_, rfl⟩
          rw [← hw_] at hb hbox hHeld ⊢
          clear hw_
          obtain ⟨g_x, hg⟩ : ∃ x, x = w115.heap.size := ⟨_, rfl⟩
          rw [← hg] at hbox ⊢
          have G_x := kb_g HB hg
          have O_x_s := kb_g B_s hg
          have O_x_u := kb_g B_u hg
          have O_x_a := kb_g B_a hg
          have O_x_all := kb_g B_all hg
          have O_x_u2 := kb_g B_u2 hg
          have O_x_b := kb_g B_b hg
          have O_x_rate := kb_g B_rate hg
          have O_x_z0 := kb_g B_z0 hg
          have O_x_p := kb_g B_p hg
          have O_x_xv := kb_g B_xv hg
          replace HB := kb_b HB hb
          replace B_s := kb_b B_s hb
          replace B_u := kb_b B_u hb
          replace B_a := kb_b B_a hb
          replace B_all := kb_b B_all hb
          replace B_u2 := kb_b B_u2 hb
          replace B_b := kb_b B_b hb
          replace B_rate := kb_b B_rate hb
          replace B_z0 := kb_b B_z0 hb
          replace B_p := kb_b B_p hb
          replace B_xv := kb_b B_xv hb
          clear hb
          have V_x := Aside0.mk hbox
          have B_x := Aside0.mk (Kb.refl (fun k => False) w116)
          have N_x : Aside0 (¬ (fun k => False) g_x) := ⟨by have := G_x; exact fun h => h⟩
          clear hbox hg
          exact HC (.agg #[.bool tp, .slice Ap np cp, .slice Dp kp zp], .tuple #[.agg #[.bool ty, .slice Ay ny cy, .slice Dy ky zy], .int .i64 0], .pointer (some ⟨g_x, 0, none⟩), .tuple #[.agg #[.bool ty, .slice Ay ny cy, .slice Dy ky zy], .int .i64 0], .agg #[.bool ty, .slice Ay ny cy, .slice Dy ky zy], .int .i64 0) _ ⟨⟨_, _, _, _, _, _, _, g_x, ⟨rfl, rfl, rfl, rfl⟩, rfl, Kb.blk V_x.out B_x.out N_x.out, O_x_z0.out, IsR.kb (S := fun k => False) (IsR.mono' (ok' := fun k => True ∧ k ≠ g_x) V_xv.out (fun k h hl => ⟨trivial, fun e => by have := O_x_xv.out; omega⟩)) B_xv.out (fun _ _ h => h)⟩, B_z0.out, hHeld⟩
        · skip
          refine vl_ ?_
          refine hK.out _ _ (by exact blk_below hHeld (below_alloc (Below.refl _ _) _)) (fun hHeld => ?_)
          clear hK K
          refine nm_ (some 15) ?_
          have hb : Below w114.heap.size w114 (w114.alloc (.cells #[.bool false, .slice none 0 0, .slice none 0 0] 30 (0, 0))) := below_alloc (Below.refl _ _) _
          have hbox : (w114.alloc (.cells #[.bool false, .slice none 0 0, .slice none 0 0] 30 (0, 0))).heap[w114.heap.size]? = some (.cells #[.bool false, .slice none 0 0, .slice none 0 0] 30 (0, 0)) := blk_new w114 _
          obtain ⟨w115, hw_⟩ : ∃ x, x = w114.alloc (.cells #[.bool false, .slice none 0 0, .slice none 0 0] 30 (0, 0)) := ⟨_, rfl⟩
          rw [← hw_] at hb hbox hHeld ⊢
          clear hw_
          obtain ⟨g_x, hg⟩ : ∃ x, x = w114.heap.size := ⟨_, rfl⟩
          rw [← hg] at hbox ⊢
          have G_x := kb_g HB hg
          have O_x_s := kb_g B_s hg
          have O_x_u := kb_g B_u hg
          have O_x_a := kb_g B_a hg
          have O_x_all := kb_g B_all hg
          have O_x_u2 := kb_g B_u2 hg
          have O_x_b := kb_g B_b hg
          have O_x_rate := kb_g B_rate hg
          have O_x_z0 := kb_g B_z0 hg
          have O_x_p := kb_g B_p hg
          replace HB := kb_b HB hb
          replace B_s := kb_b B_s hb
          replace B_u := kb_b B_u hb
          replace B_a := kb_b B_a hb
          replace B_all := kb_b B_all hb
          replace B_u2 := kb_b B_u2 hb
          replace B_b := kb_b B_b hb
          replace B_rate := kb_b B_rate hb
          replace B_z0 := kb_b B_z0 hb
          replace B_p := kb_b B_p hb
          clear hb
          have V_x := Aside0.mk hbox
          have B_x := Aside0.mk (Kb.refl (fun k => False) w115)
          have N_x : Aside0 (¬ (fun k => False) g_x) := ⟨by have := G_x; exact fun h => h⟩
          clear hbox hg
          refine on_ 3 (some 62) 143 HT_ (fun K hK => ?_)
          refine gs_ Try.func19 #[.agg #[.bool tb, .slice Ab nb cb, .slice Db kb zb], .agg #[.bool tp, .slice Ap np cp, .slice Dp kp zp]] ?_
          refine (Op2.calls qmul_op (x := ((((mb) * 1000 : Int) : Rat) / (nn : Rat))) (y := ((nn : Rat) / ((1000 : Int) : Rat))) trivial (IsR.kb (S := fun k => False) V_b.out B_b.out (fun _ _ h => h)) (IsR.kb (S := fun k => False) V_p.out B_p.out (fun _ _ h => h))).mono ?_
          rintro e w116 ⟨⟨v62, rfl, hv⟩, hb⟩
          have hfm : fit (((((mb) * 1000 : Int) : Rat) / (nn : Rat)) * ((nn : Rat) / ((1000 : Int) : Rat))) = some (mb : Rat) := by
           rw [rate_back _ _ HN.out.1]
           unfold fit
           rw [if_pos (fit_int _ (by have := HMS.out; omega) (by have := HMS.out; omega))]
          rw [hfm] at hv ⊢
          clear hfm
          have hv := Res.isR hv
          obtain ⟨ty, Ay, ny, cy, Dy, ky, zy, rfl⟩ := hv.agg
          refine ⟨_, rfl, ?_⟩
          refine hK.out _ _ (by exact blk_below hHeld hb) (fun hHeld => ?_)
          clear hK K
          refine nm_ (some 62) ?_
          have hle := Kb.size HB.out
          have hl_x := blk_lt (Kb.blk V_x.out B_x.out N_x.out)
          have hv_ := IsR.mono' (ok' := fun k => True ∧ k ≠ g_x) hv (fun k hk _ => by refine ⟨?_, ?_⟩ <;> first | trivial | omega)
          clear hv hle hl_x
          replace HB := kb_b HB hb
          replace B_s := kb_b B_s hb
          replace B_u := kb_b B_u hb
          replace B_a := kb_b B_a hb
          replace B_all := kb_b B_all hb
          replace B_u2 := kb_b B_u2 hb
          replace B_b := kb_b B_b hb
          replace B_rate := kb_b B_rate hb
          replace B_z0 := kb_b B_z0 hb
          replace B_p := kb_b B_p hb
          replace B_x := kb_b B_x hb
          clear hb
          have V_xv := Aside0.mk hv_
          clear hv_
          have B_xv := Aside0.mk (Kb.refl (fun k => False ∨ k = g_x) w116)
          refine pu_ 4 (some 58) 159 HT_ ?_
          refine pu_ 5 (some 63) 191 HT_ ?_
          refine pu_ 6 (some 64) 255 HT_ ?_
          exact HC (.agg #[.bool tp, .slice Ap np cp, .slice Dp kp zp], .tuple #[.agg #[.bool ty, .slice Ay ny cy, .slice Dy ky zy], .int .i64 0], .pointer (some ⟨g_x, 0, none⟩), .tuple #[.agg #[.bool ty, .slice Ay ny cy, .slice Dy ky zy], .int .i64 0], .agg #[.bool ty, .slice Ay ny cy, .slice Dy ky zy], .int .i64 0) _ ⟨⟨_, _, _, _, _, _, _, g_x, ⟨rfl, rfl, rfl, rfl⟩, rfl, Kb.blk V_x.out B_x.out N_x.out, O_x_z0.out, IsR.kb (S := fun k => False ∨ k = g_x) V_xv.out B_xv.out (fun k h hs => hs.elim (fun f => f) h.2)⟩, B_z0.out, hHeld⟩
      · skip
        refine vl_ ?_
        refine hK.out _ _ (by exact blk_below hHeld (below_alloc (Below.refl _ _) _)) (fun hHeld => ?_)
        clear hK K
        refine nm_ (some 15) ?_
        have hb : Below w113.heap.size w113 (w113.alloc (.cells #[.bool false, .slice none 0 0, .slice none 0 0] 30 (0, 0))) := below_alloc (Below.refl _ _) _
        have hbox : (w113.alloc (.cells #[.bool false, .slice none 0 0, .slice none 0 0] 30 (0, 0))).heap[w113.heap.size]? = some (.cells #[.bool false, .slice none 0 0, .slice none 0 0] 30 (0, 0)) := blk_new w113 _
        obtain ⟨w114, hw_⟩ : ∃ x, x = w113.alloc (.cells #[.bool false, .slice none 0 0, .slice none 0 0] 30 (0, 0)) := ⟨_, rfl⟩
        rw [← hw_] at hb hbox hHeld ⊢
        clear hw_
        obtain ⟨g_x, hg⟩ : ∃ x, x = w113.heap.size := ⟨_, rfl⟩
        rw [← hg] at hbox ⊢
        have G_x := kb_g HB hg
        have O_x_s := kb_g B_s hg
        have O_x_u := kb_g B_u hg
        have O_x_a := kb_g B_a hg
        have O_x_all := kb_g B_all hg
        have O_x_u2 := kb_g B_u2 hg
        have O_x_b := kb_g B_b hg
        have O_x_rate := kb_g B_rate hg
        have O_x_z0 := kb_g B_z0 hg
        replace HB := kb_b HB hb
        replace B_s := kb_b B_s hb
        replace B_u := kb_b B_u hb
        replace B_a := kb_b B_a hb
        replace B_all := kb_b B_all hb
        replace B_u2 := kb_b B_u2 hb
        replace B_b := kb_b B_b hb
        replace B_rate := kb_b B_rate hb
        replace B_z0 := kb_b B_z0 hb
        clear hb
        have V_x := Aside0.mk hbox
        have B_x := Aside0.mk (Kb.refl (fun k => False) w114)
        have N_x : Aside0 (¬ (fun k => False) g_x) := ⟨by have := G_x; exact fun h => h⟩
        clear hbox hg
        refine on_ 2 (some 61) 135 HT_ (fun K hK => ?_)
        refine gs_ Try.func13 #[.int .i64 nn, .int .i64 1000] ?_
        refine (part_calls nn 1000 (by have := HN.out; omega) (by have := HN.out; omega) (by omega) (by omega) (fit_div _ _ (by omega) (by have := HN.out; omega) (by omega)) _).mono ?_
        rintro e w115 ⟨⟨v61, rfl, hv⟩, hb⟩
        obtain ⟨tp, Ap, np, cp, Dp, kp, zp, rfl⟩ := hv.agg
        refine ⟨_, rfl, ?_⟩
        refine hK.out _ _ (by exact blk_below hHeld hb) (fun hHeld => ?_)
        clear hK K
        refine nm_ (some 61) ?_
        have hle := Kb.size HB.out
        have hv_ := IsR.mono' (ok' := fun k => True) hv (fun k hk _ => by trivial)
        clear hv hle
        replace HB := kb_b HB hb
        replace B_s := kb_b B_s hb
        replace B_u := kb_b B_u hb
        replace B_a := kb_b B_a hb
        replace B_all := kb_b B_all hb
        replace B_u2 := kb_b B_u2 hb
        replace B_b := kb_b B_b hb
        replace B_rate := kb_b B_rate hb
        replace B_z0 := kb_b B_z0 hb
        replace B_x := kb_b B_x hb
        clear hb
        have V_p := Aside0.mk hv_
        clear hv_
        have B_p := Aside0.mk (Kb.refl (fun k => False) w115)
        refine on_ 3 (some 62) 143 HT_ (fun K hK => ?_)
        refine gs_ Try.func19 #[.agg #[.bool tb, .slice Ab nb cb, .slice Db kb zb], .agg #[.bool tp, .slice Ap np cp, .slice Dp kp zp]] ?_
        refine (Op2.calls qmul_op (x := ((((mb) * 1000 : Int) : Rat) / (nn : Rat))) (y := ((nn : Rat) / ((1000 : Int) : Rat))) trivial (IsR.kb (S := fun k => False) V_b.out B_b.out (fun _ _ h => h)) (IsR.kb (S := fun k => False) V_p.out B_p.out (fun _ _ h => h))).mono ?_
        rintro e w116 ⟨⟨v62, rfl, hv⟩, hb⟩
        have hfm : fit (((((mb) * 1000 : Int) : Rat) / (nn : Rat)) * ((nn : Rat) / ((1000 : Int) : Rat))) = some (mb : Rat) := by
         rw [rate_back _ _ HN.out.1]
         unfold fit
         rw [if_pos (fit_int _ (by have := HMS.out; omega) (by have := HMS.out; omega))]
        rw [hfm] at hv ⊢
        clear hfm
        have hv := Res.isR hv
        obtain ⟨ty, Ay, ny, cy, Dy, ky, zy, rfl⟩ := hv.agg
        refine ⟨_, rfl, ?_⟩
        refine hK.out _ _ (by exact blk_below hHeld hb) (fun hHeld => ?_)
        clear hK K
        refine nm_ (some 62) ?_
        have hle := Kb.size HB.out
        have hl_x := blk_lt (Kb.blk V_x.out B_x.out N_x.out)
        have hv_ := IsR.mono' (ok' := fun k => True ∧ k ≠ g_x) hv (fun k hk _ => by refine ⟨?_, ?_⟩ <;> first | trivial | omega)
        clear hv hle hl_x
        replace HB := kb_b HB hb
        replace B_s := kb_b B_s hb
        replace B_u := kb_b B_u hb
        replace B_a := kb_b B_a hb
        replace B_all := kb_b B_all hb
        replace B_u2 := kb_b B_u2 hb
        replace B_b := kb_b B_b hb
        replace B_rate := kb_b B_rate hb
        replace B_z0 := kb_b B_z0 hb
        replace B_x := kb_b B_x hb
        replace B_p := kb_b B_p hb
        clear hb
        have V_xv := Aside0.mk hv_
        clear hv_
        have B_xv := Aside0.mk (Kb.refl (fun k => False ∨ k = g_x) w116)
        refine pu_ 4 (some 58) 159 HT_ ?_
        refine pu_ 5 (some 63) 191 HT_ ?_
        refine pu_ 6 (some 64) 255 HT_ ?_
        exact HC (.agg #[.bool tp, .slice Ap np cp, .slice Dp kp zp], .tuple #[.agg #[.bool ty, .slice Ay ny cy, .slice Dy ky zy], .int .i64 0], .pointer (some ⟨g_x, 0, none⟩), .tuple #[.agg #[.bool ty, .slice Ay ny cy, .slice Dy ky zy], .int .i64 0], .agg #[.bool ty, .slice Ay ny cy, .slice Dy ky zy], .int .i64 0) _ ⟨⟨_, _, _, _, _, _, _, g_x, ⟨rfl, rfl, rfl, rfl⟩, rfl, Kb.blk V_x.out B_x.out N_x.out, O_x_z0.out, IsR.kb (S := fun k => False ∨ k = g_x) V_xv.out B_xv.out (fun k h hs => hs.elim (fun f => f) h.2)⟩, B_z0.out, hHeld⟩
    rintro ⟨v61, v62, v15, v58, v63, v64⟩ w134 ⟨⟨ty, Ay, ny, cy, Dy, ky, zy, g_x, ⟨rfl, rfl, rfl, rfl⟩, rfl, hbox, hO, hres⟩, hk, hHeld⟩
    refine norm_ (a' := ?_) ?_ ?_
    rotate_left
    · simp only [putAll, PU]
      rfl
    have O_x_s : Aside0 (w102.heap.size ≤ g_x) := ⟨Nat.le_trans (Kb.size B_s.out) hO⟩
    have O_x_u : Aside0 (w105.heap.size ≤ g_x) := ⟨Nat.le_trans (Kb.size B_u.out) hO⟩
    have O_x_a : Aside0 (w106.heap.size ≤ g_x) := ⟨Nat.le_trans (Kb.size B_a.out) hO⟩
    have O_x_all : Aside0 (w108.heap.size ≤ g_x) := ⟨Nat.le_trans (Kb.size B_all.out) hO⟩
    have O_x_u2 : Aside0 (w109.heap.size ≤ g_x) := ⟨Nat.le_trans (Kb.size B_u2.out) hO⟩
    have O_x_b : Aside0 (w110.heap.size ≤ g_x) := ⟨Nat.le_trans (Kb.size B_b.out) hO⟩
    have O_x_rate : Aside0 (w112.heap.size ≤ g_x) := ⟨Nat.le_trans (Kb.size B_rate.out) hO⟩
    have G_x : Aside0 (w.heap.size ≤ g_x) := ⟨Nat.le_trans (Kb.size HB.out) hO⟩
    clear B_z0 hO
    replace HB := kb_t HB hk (fun i hi => Or.inl hi)
    replace B_s := kb_t B_s hk (fun i hi => Or.inl hi)
    replace B_u := kb_t B_u hk (fun i hi => Or.inl hi)
    replace B_a := kb_t B_a hk (fun i hi => Or.inl hi)
    replace B_all := kb_t B_all hk (fun i hi => Or.inl hi)
    replace B_u2 := kb_t B_u2 hk (fun i hi => Or.inl hi)
    replace B_b := kb_t B_b hk (fun i hi => Or.inl hi)
    replace B_rate := kb_t B_rate hk (fun i hi => Or.inl hi)
    clear hk
    have V_x := Aside0.mk hbox
    have B_x := Aside0.mk (Kb.refl (fun k => False) w134)
    have N_x : Aside0 (¬ (fun k => False) g_x) := ⟨fun h => h⟩
    clear hbox
    have V_xv := Aside0.mk hres
    clear hres
    have B_xv := Aside0.mk (Kb.refl (fun k => False ∨ k = g_x) w134)
    refine on_ 8 none 511 HT_ (fun K hK => ?_)
    have bk_x := Kb.blk V_x.out B_x.out N_x.out
    have hz_x_0 : w134.cell? ⟨g_x, 0, none⟩ = some (.bool false) := (blk_cell bk_x 0).trans rfl
    have hf_x_0 := blk_frozen bk_x 0
    have hz_x_1 : w134.cell? ⟨g_x, 1, none⟩ = some (.slice none 0 0) := (blk_cell bk_x 1).trans rfl
    have hf_x_1 := blk_frozen bk_x 1
    have hz_x_2 : w134.cell? ⟨g_x, 2, none⟩ = some (.slice none 0 0) := (blk_cell bk_x 2).trans rfl
    have hf_x_2 := blk_frozen bk_x 2
    clear bk_x
    refine skip_ (w1 := ((w134.setCell ⟨g_x, 0, none⟩ (.bool ty)).setCell ⟨g_x, 1, none⟩ (.slice Ay ny cy)).setCell ⟨g_x, 2, none⟩ (.slice Dy ky zy)) (by rfl) rfl ?_ ?_
    · first | (go_simp; done) | (go_simp; rfl)
    clear hz_x_0 hf_x_0 hz_x_1 hf_x_1 hz_x_2 hf_x_2
    have hbox : (((w134.setCell ⟨g_x, 0, none⟩ (.bool ty)).setCell ⟨g_x, 1, none⟩ (.slice Ay ny cy)).setCell ⟨g_x, 2, none⟩ (.slice Dy ky zy)).heap[g_x]? = some (.cells #[.bool ty, .slice Ay ny cy, .slice Dy ky zy] 30 (0, 0)) := blk_put (blk_put (blk_put (Kb.blk V_x.out B_x.out N_x.out) 0 _ rfl) 1 _ rfl) 2 _ rfl
    have hk : Kb (fun k => k = g_x) w134 (((w134.setCell ⟨g_x, 0, none⟩ (.bool ty)).setCell ⟨g_x, 1, none⟩ (.slice Ay ny cy)).setCell ⟨g_x, 2, none⟩ (.slice Dy ky zy)) := (((Kb.refl (fun k => k = g_x) w134).setCell (p := ⟨g_x, 0, none⟩) (Or.inl rfl) _).setCell (p := ⟨g_x, 1, none⟩) (Or.inl rfl) _).setCell (p := ⟨g_x, 2, none⟩) (Or.inl rfl) _
    refine hK.out _ _ (by have q_ := hHeld; exact Kb.blk q_ hk (show ¬ (g_rate = g_x) from fun e => by have := blk_lt V_rate.out; have := O_x_rate.out; omega)) (fun hHeld => ?_)
    clear hK K
    obtain ⟨w135, hw_⟩ : ∃ x, x = ((w134.setCell ⟨g_x, 0, none⟩ (.bool ty)).setCell ⟨g_x, 1, none⟩ (.slice Ay ny cy)).setCell ⟨g_x, 2, none⟩ (.slice Dy ky zy) := ⟨_, rfl⟩
    rw [← hw_] at hk hbox hHeld ⊢
    clear hw_
    replace HB := kb_t HB hk (fun i hi => by exact hi ▸ Or.inr G_x.out)
    replace B_s := kb_t B_s hk (fun i hi => by exact hi ▸ Or.inr O_x_s.out)
    replace B_u := kb_t B_u hk (fun i hi => by exact hi ▸ Or.inr O_x_u.out)
    replace B_a := kb_t B_a hk (fun i hi => by exact hi ▸ Or.inr O_x_a.out)
    replace B_all := kb_t B_all hk (fun i hi => by exact hi ▸ Or.inr O_x_all.out)
    replace B_u2 := kb_t B_u2 hk (fun i hi => by exact hi ▸ Or.inr O_x_u2.out)
    replace B_b := kb_t B_b hk (fun i hi => by exact hi ▸ Or.inr O_x_b.out)
    replace B_rate := kb_t B_rate hk (fun i hi => by exact hi ▸ Or.inr O_x_rate.out)
    replace B_xv := kb_t B_xv hk (fun i hi => by exact Or.inl (Or.inr hi))
    clear V_x B_x
    have V_x := Aside0.mk hbox
    have B_x := Aside0.mk (Kb.refl (fun k => False) w135)
    clear hbox hk
    refine pu_ 9 (some 16) 1023 HT_ ?_
    refine do_ HT_ ?_
    clear HT_ HW_ hHeld
    go_wp2_with (first | ((with_reducible refine gate_dst (N := 80) rfl ?_); refine gate_guard (by rfl) ?_; dsimp only; refine load_ev rfl rfl (g := g_all) rfl (Kb.blk V_all.out B_all.out N_all.out) ?_) | ((with_reducible refine gate_dst (N := 81) rfl ?_); refine gate_guard (by rfl) ?_; dsimp only; refine load_ev rfl rfl (g := g_x) rfl (Kb.blk V_x.out B_x.out N_x.out) ?_))
    with_reducible refine (qsame_calls (mb : Rat) (mb : Rat) _ _ _ (IsR.kb (S := fun k => False) V_a.out B_a.out (fun _ _ h => h)) (IsR.mono (IsR.kb (S := fun k => False ∨ k = g_x) V_xv.out B_xv.out (fun k h hs => hs.elim (fun f => f) h.2)) (fun k h => h.1))).mono ?_
    rintro e w136 ⟨rfl, hb⟩
    rw [decide_eq_true (show (mb : Rat) = (mb : Rat) from rfl)]
    replace HB := kb_b HB hb
    replace B_s := kb_b B_s hb
    replace B_u := kb_b B_u hb
    replace B_a := kb_b B_a hb
    replace B_all := kb_b B_all hb
    replace B_u2 := kb_b B_u2 hb
    replace B_b := kb_b B_b hb
    replace B_rate := kb_b B_rate hb
    replace B_x := kb_b B_x hb
    replace B_xv := kb_b B_xv hb
    clear hb
    go_wp2_with fail
    go_roundg 1
    case measure => omega
    case rel => exact ⟨5, rfl, ⟨Or.inr (Or.inr ⟨rfl, rfl⟩)⟩, HB, B_s⟩
  · skip
    have e2 : IntKind.i64.wrap ((ns : Int) + 1) = (ns : Int) + 1 := (i64_w _).trans (w64 (by omega) (by have := HS.out.1; have := HNS.out; omega))
    obtain ⟨k, hk0, hkn⟩ : ∃ k : Nat, cut % ((ns : Int) + 1) = (k : Int) ∧ k ≤ ns := ⟨(cut % ((ns : Int) + 1)).toNat, by have := Int.emod_nonneg cut (show (ns : Int) + 1 ≠ 0 by omega); omega, by have := Int.emod_nonneg cut (show (ns : Int) + 1 ≠ 0 by omega); have := Int.emod_lt_of_pos cut (show (0 : Int) < (ns : Int) + 1 by omega); omega⟩
    have HKN := Aside0.mk hkn
    have HK0 := Aside0.mk hk0
    clear hk0 hkn
    go_wp2_with fail
    with_reducible refine (bring_calls cut ((ns : Int) + 1) (by omega) (by have := HS.out.1; have := HNS.out; omega) _).mono ?_
    rintro e w105 ⟨rfl, hb⟩
    rw [HK0.out]
    clear e2
    replace HB := kb_b HB hb
    replace B_s := kb_b B_s hb
    clear hb
    go_wp2_with fail
    with_reducible refine (qof_calls 0 (by omega) (by omega) _).mono ?_
    rintro e w106 ⟨⟨v, rfl, hv⟩, hb⟩
    obtain ⟨tu, Au, nu, cu, Du, ku, zu, rfl⟩ := hv.agg
    have hle := Kb.size HB.out
    have hv_ := IsR.mono' (ok' := fun k => True) hv (fun k hk _ => by trivial)
    clear hv hle
    replace HB := kb_b HB hb
    replace B_s := kb_b B_s hb
    clear hb
    have V_u := Aside0.mk hv_
    clear hv_
    have B_u := Aside0.mk (Kb.refl (fun k => False) w106)
    go_wp2_with fail
    obtain ⟨hall, ta, hta, hta2⟩ := sum0_part qs HS.out.2.2.2 (by rw [ValS.len HS.out.2.2.1]; exact HS.out.1)
    have HALL := Aside0.mk hall
    clear hall hta hta2 ta
    rw [HNS.out]
    with_reducible refine (told_calls (fun a => a = some (rsum qs)) 6 _ _ _ _ _ _ _ _ _ _ _ (fun W hW => (wrun6 1000 (by omega) (by omega) ss (bys_of ss HS.out.2.1) qs HS.out.2.2.1 (by rw [← HNS.out]; exact HZ.out) (by have := HS.out.1; omega) W _ _ _ _ _ _ _ _ _ (RowS.kb (RowS.kb V_s.out B_s.out (fun _ _ h => h)) hW (fun _ _ h => h))).mono (fun e w' h => by obtain ⟨⟨v, ans, ha, he, hr⟩, hb⟩ := h; exact ⟨⟨v, ans, (show ans = _ from ha).trans HALL.out, he, hr⟩, hb⟩))).mono ?_
    rintro e w107 ⟨⟨v, ans, rfl, rfl, hv⟩, hb⟩
    rw [← HNS.out]
    have hv := Res.isR hv
    obtain ⟨ta, Aa, na, ca, Da, ka, za, rfl⟩ := hv.agg
    have hle := Kb.size HB.out
    have hv_ := IsR.mono' (ok' := fun k => True) hv (fun k hk _ => by trivial)
    clear hv hle
    replace HB := kb_b HB hb
    replace B_s := kb_b B_s hb
    replace B_u := kb_b B_u hb
    clear hb
    have V_a := Aside0.mk hv_
    clear hv_
    have B_a := Aside0.mk (Kb.refl (fun k => False) w107)
    go_wp2_with (first | ((with_reducible refine gate_dst (N := 18) rfl ?_); refine bx_ (N := 18) #[.bool false, .slice none 0 0, .slice none 0 0] 30 ?_; intro g_all hg w108 hbox hb; have G_all := kb_g HB hg; have O_all_s := kb_g B_s hg; have O_all_u := kb_g B_u hg; have O_all_a := kb_g B_a hg; replace HB := kb_b HB hb; replace B_s := kb_b B_s hb; replace B_u := kb_b B_u hb; replace B_a := kb_b B_a hb; clear hb; have V_all := Aside0.mk hbox; have B_all := Aside0.mk (Kb.refl (fun k => False) w108); have N_all : Aside0 (¬ (fun k => False) g_all) := ⟨by have := G_all; exact fun h => h⟩; clear hbox hg) | ((with_reducible refine gate_store (t := 30) (p := 18) (v := .tmp 94) rfl ?_); refine store_ev (p := .tmp 18) (v := .tmp 94) rfl rfl rfl (g := g_all) rfl rfl (Kb.blk V_all.out B_all.out N_all.out) ?_; intro w109 hbox hk; replace HB := kb_t HB hk (fun i hi => by exact hi ▸ Or.inr G_all.out); replace B_s := kb_t B_s hk (fun i hi => by exact hi ▸ Or.inr O_all_s.out); replace B_u := kb_t B_u hk (fun i hi => by exact hi ▸ Or.inr O_all_u.out); replace B_a := kb_t B_a hk (fun i hi => by exact hi ▸ Or.inr O_all_a.out); clear V_all B_all; have V_all := Aside0.mk hbox; have B_all := Aside0.mk (Kb.refl (fun k => False) w109); clear hbox hk))
    go_wp2_with fail
    with_reducible refine (qof_calls 0 (by omega) (by omega) _).mono ?_
    rintro e w110 ⟨⟨v, rfl, hv⟩, hb⟩
    obtain ⟨tz, Az, nz, cz, Dz, kz, zz, rfl⟩ := hv.agg
    have hle := Kb.size HB.out
    have hv_ := IsR.mono' (ok' := fun k => True) hv (fun k hk _ => by trivial)
    clear hv hle
    replace HB := kb_b HB hb
    replace B_s := kb_b B_s hb
    replace B_u := kb_b B_u hb
    replace B_a := kb_b B_a hb
    replace B_all := kb_b B_all hb
    clear hb
    have V_z := Aside0.mk hv_
    clear hv_
    have B_z := Aside0.mk (Kb.refl (fun k => False) w110)
    go_wp2_with (first | ((with_reducible refine gate_dst (N := 20) rfl ?_); refine bx_ (N := 20) #[.bool false, .slice none 0 0, .slice none 0 0] 30 ?_; intro g_sum hg w111 hbox hb; have G_sum := kb_g HB hg; have O_sum_s := kb_g B_s hg; have O_sum_u := kb_g B_u hg; have O_sum_a := kb_g B_a hg; have O_sum_all := kb_g B_all hg; have O_sum_z := kb_g B_z hg; replace HB := kb_b HB hb; replace B_s := kb_b B_s hb; replace B_u := kb_b B_u hb; replace B_a := kb_b B_a hb; replace B_all := kb_b B_all hb; replace B_z := kb_b B_z hb; clear hb; have V_sum := Aside0.mk hbox; have B_sum := Aside0.mk (Kb.refl (fun k => False) w111); have N_sum : Aside0 (¬ (fun k => False) g_sum) := ⟨by have := G_sum; exact fun h => h⟩; clear hbox hg) | ((with_reducible refine gate_store (t := 30) (p := 20) (v := .tmp 96) rfl ?_); refine store_ev (p := .tmp 20) (v := .tmp 96) rfl rfl rfl (g := g_sum) rfl rfl (Kb.blk V_sum.out B_sum.out N_sum.out) ?_; intro w112 hbox hk; replace HB := kb_t HB hk (fun i hi => by exact hi ▸ Or.inr G_sum.out); replace B_s := kb_t B_s hk (fun i hi => by exact hi ▸ Or.inr O_sum_s.out); replace B_u := kb_t B_u hk (fun i hi => by exact hi ▸ Or.inr O_sum_u.out); replace B_a := kb_t B_a hk (fun i hi => by exact hi ▸ Or.inr O_sum_a.out); replace B_all := kb_t B_all hk (fun i hi => by exact hi ▸ Or.inr O_sum_all.out); replace B_z := kb_t B_z hk (fun i hi => by exact hi ▸ Or.inr O_sum_z.out); clear V_sum B_sum; have V_sum := Aside0.mk hbox; have B_sum := Aside0.mk (Kb.refl (fun k => False) w112); clear hbox hk))
    go_loopg [21] 2 (fun kg v21 wr => ∃ (i : Nat) (x : Rat) (tx : Bool) (Ax : Option Addr) (nx cx : Nat) (Dx : Option Addr) (kx zx : Nat), v21 = .int .i64 i ∧ Aside0 (i + kg = 2 ∧ x = psum qs k i) ∧ Aside0 (wr.heap[g_sum]? = some (.cells #[.bool tx, .slice Ax nx cx, .slice Dx kx zx] 30 (0, 0))) ∧ Aside0 (IsR (fun k => True ∧ k ≠ g_sum) wr (.agg #[.bool tx, .slice Ax nx cx, .slice Dx kx zx]) x) ∧ Aside0 (Kb (fun k => False) w wr) ∧ Aside0 (Kb (fun k => False) w102 wr) ∧ Aside0 (Kb (fun k => False) w109 wr) ∧ Aside0 (Kb (fun k => False) w107 wr) ∧ Aside0 (Kb (fun k => False) w106 wr))
    case atStart => exact ⟨0, 0, tz, Az, nz, cz, Dz, kz, zz, rfl, ⟨by omega, rfl⟩, V_sum, ⟨IsR.kb (S := fun k => False) (IsR.mono' (ok' := fun k => True ∧ k ≠ g_sum) V_z.out (fun k _ hl => ⟨trivial, fun e => by have := O_sum_z.out; omega⟩)) B_z.out (fun _ _ h => h)⟩, HB, B_s, B_all, B_a, B_u⟩
    case round =>
     obtain ⟨i, x, tx, Ax, nx, cx, Dx, kx, zx, rfl, HI, VS, VX, HB2, HBS, HBA, HBV, HBU⟩ := hrel
     clear HB B_s B_all B_a B_u V_sum B_sum V_z B_z
     have HB := HB2
     have B_s := HBS
     have B_all := HBA
     have B_a := HBV
     have B_u := HBU
     clear HB2 HBS HBA HBV HBU
     have V_sum := VS
     have B_sum := Aside0.mk (Kb.refl (fun k => False) wr)
     have V_x := VX
     have B_x := Aside0.mk (Kb.refl (fun k => False ∨ k = g_sum) wr)
     clear VS VX
     have hi := HI.out.1
     have hi3 : i = 0 ∨ i = 1 ∨ i = 2 := by omega
     rcases hi3 with rfl | rfl | rfl
     · skip
       have hx := HI.out.2
       obtain ⟨i39, hi39, _, hs39, _⟩ := info_parts info39_
       have hcut := cut_to (P := Try.prog) 25 39 .i64 Try.underlying25 hi39 As ns cs (k : Int) (by omega) (by have := HKN.out; omega) (by rw [HNS.out]; exact RowS.le V_s.out)
       rw [Int.toNat_natCast] at hcut
       have hrow0 : RowS (fun _ => True) wr (.slice As k cs) (ss.take k) := by
        have h := RowS.take (RowS.kb V_s.out B_s.out (fun _ _ h => h)) k (by rw [← HNS.out]; exact HKN.out)
        rw [show (ss.take k).length = k from by rw [List.length_take]; have := HKN.out; have := HNS.out; omega] at h
        exact h
       obtain ⟨hs, hhs⟩ : ∃ h, h = ss.take k := ⟨_, rfl⟩
       obtain ⟨hq, hhq⟩ : ∃ h, h = qs.take k := ⟨_, rfl⟩
       rw [← hhs] at hrow0
       obtain ⟨hn, hhn⟩ : ∃ h, h = k := ⟨_, rfl⟩
       rw [← hhn] at hrow0
       have hA : As = As := rfl
       obtain ⟨Ah, hAh⟩ : ∃ a, a = As := ⟨_, rfl⟩
       obtain ⟨ch, hch⟩ : ∃ a, a = cs := ⟨_, rfl⟩
       rw [← hAh, ← hch] at hrow0
       have HH := Aside0.mk (show hn = hs.length ∧ (∀ s ∈ hs, 0 ≤ s.by_ ∧ s.by_ < 5000) ∧ ValS hs hq ∧ (∀ x ∈ hq, Part x) ∧ hn ≤ 30 ∧ psum qs k 1 = x + rsum hq from by
        rw [hhs, hhq]
        exact ⟨by rw [List.length_take, hhn]; have := HKN.out; have := HNS.out; omega, fun s h => HS.out.2.1 s (List.mem_of_mem_take h), ValS.take HS.out.2.2.1 k, fun x h => HS.out.2.2.2 x (List.mem_of_mem_take h), by have := HKN.out; have := HNS.out; have := HS.out.1; omega, by rw [hx]; exact (Rat.zero_add _).symm⟩)
       clear hi39 hs39 hhs hhq hx hA
       have V_h := Aside0.mk hrow0
       clear hrow0
       have B_h := Aside0.mk (Kb.refl (fun k => False) wr)
       by_cases hz : hn = 0
       · skip
         subst hAh
         subst hch
         subst hhn
         have HZ0 := Aside0.mk hz
         have hn2 : ¬ (0 : Int) < (hn : Int) := by omega
         have hn3 : decide ((0 : Int) < (hn : Int)) = false := decide_eq_false hn2
         clear hz
         go_wp2_with fail
         with_reducible refine (qof_calls 0 (by omega) (by omega) _).mono ?_
         rintro e w114 ⟨⟨v, rfl, hv⟩, hb⟩
         obtain ⟨tv0, Av0, nv0, cv0, Dv0, kv0, zv0, rfl⟩ := hv.agg
         have hle := Kb.size HB.out
         have hv_ := IsR.mono' (ok' := fun k => True) hv (fun k hk _ => by trivial)
         clear hv hle
         replace HB := kb_b HB hb
         replace B_s := kb_b B_s hb
         replace B_all := kb_b B_all hb
         replace B_a := kb_b B_a hb
         replace B_u := kb_b B_u hb
         replace B_sum := kb_b B_sum hb
         replace B_x := kb_b B_x hb
         replace B_h := kb_b B_h hb
         clear hb
         have V_v0 := Aside0.mk hv_
         clear hv_
         have B_v0 := Aside0.mk (Kb.refl (fun k => False) w114)
         go_wp2_with fail
         with_reducible refine (told6_nil _ _ _ _ _ _ _ _ _ _ _ HZ0.out hs (RowS.kb V_h.out B_h.out (fun _ _ h => h))).mono ?_
         rintro e w115 ⟨rfl, hb⟩
         replace HB := kb_b HB hb
         replace B_s := kb_b B_s hb
         replace B_all := kb_b B_all hb
         replace B_a := kb_b B_a hb
         replace B_u := kb_b B_u hb
         replace B_sum := kb_b B_sum hb
         replace B_x := kb_b B_x hb
         replace B_h := kb_b B_h hb
         replace B_v0 := kb_b B_v0 hb
         clear hb
         go_wp2_with (first | ((with_reducible refine gate_dst (N := 23) rfl ?_); refine bx_ (N := 23) #[.bool false, .slice none 0 0, .slice none 0 0] 30 ?_; intro g_v hg w116 hbox hb; have G_v := kb_g HB hg; have O_v_s := kb_g B_s hg; have O_v_all := kb_g B_all hg; have O_v_a := kb_g B_a hg; have O_v_u := kb_g B_u hg; have O_v_sum := kb_g B_sum hg; have O_v_x := kb_g B_x hg; have O_v_h := kb_g B_h hg; have O_v_v0 := kb_g B_v0 hg; replace HB := kb_b HB hb; replace B_s := kb_b B_s hb; replace B_all := kb_b B_all hb; replace B_a := kb_b B_a hb; replace B_u := kb_b B_u hb; replace B_sum := kb_b B_sum hb; replace B_x := kb_b B_x hb; replace B_h := kb_b B_h hb; replace B_v0 := kb_b B_v0 hb; clear hb; have V_v := Aside0.mk hbox; have B_v := Aside0.mk (Kb.refl (fun k => False) w116); have N_v : Aside0 (¬ (fun k => False) g_v) := ⟨by have := G_v; exact fun h => h⟩; clear hbox hg) | ((with_reducible refine gate_store (t := 30) (p := 23) (v := .tmp 113) rfl ?_); refine store_ev (p := .tmp 23) (v := .tmp 113) rfl rfl rfl (g := g_v) rfl rfl (Kb.blk V_v.out B_v.out N_v.out) ?_; intro w117 hbox hk; replace HB := kb_t HB hk (fun i hi => by exact hi ▸ Or.inr G_v.out); replace B_s := kb_t B_s hk (fun i hi => by exact hi ▸ Or.inr O_v_s.out); replace B_all := kb_t B_all hk (fun i hi => by exact hi ▸ Or.inr O_v_all.out); replace B_a := kb_t B_a hk (fun i hi => by exact hi ▸ Or.inr O_v_a.out); replace B_u := kb_t B_u hk (fun i hi => by exact hi ▸ Or.inr O_v_u.out); replace B_sum := kb_t B_sum hk (fun i hi => by exact hi ▸ Or.inr O_v_sum.out); replace B_x := kb_t B_x hk (fun i hi => by exact hi ▸ Or.inr O_v_x.out); replace B_h := kb_t B_h hk (fun i hi => by exact hi ▸ Or.inr O_v_h.out); replace B_v0 := kb_t B_v0 hk (fun i hi => by exact hi ▸ Or.inr O_v_v0.out); clear V_v B_v; have V_v := Aside0.mk hbox; have B_v := Aside0.mk (Kb.refl (fun k => False) w117); clear hbox hk))
         go_roundg 1
         case measure => omega
         case rel => exact ⟨1, x, tx, Ax, nx, cx, Dx, kx, zx, rfl, ⟨by omega, by rw [HH.out.2.2.2.2.2, show hq = [] from List.eq_nil_of_length_eq_zero (by rw [ValS.len HH.out.2.2.1, ← HH.out.1]; exact HZ0.out)]; exact (Rat.add_zero _).symm⟩, ⟨Kb.blk V_sum.out B_sum.out N_sum.out⟩, ⟨IsR.kb V_x.out B_x.out (fun k h hs => hs.elim (fun f => f) h.2)⟩, HB, B_s, B_all, B_a, B_u⟩
       · skip
         subst hAh
         subst hch
         subst hhn
         have hn1 : 0 < hn := by omega
         have hn2 : (0 : Int) < (hn : Int) := by omega
         have hn3 : decide ((0 : Int) < (hn : Int)) = true := decide_eq_true hn2
         obtain ⟨hsm, ta, hta, hta2⟩ := sum0_part hq HH.out.2.2.2.1 (by rw [ValS.len HH.out.2.2.1, ← HH.out.1]; exact HH.out.2.2.2.2.1)
         have HSM := Aside0.mk hsm
         have HN1 := Aside0.mk hn1
         have hn4 : decide (0 < hn) = true := decide_eq_true hn1
         have hn5 : ¬ hn = 0 := hz
         have hn6 : hn ≠ 0 := hz
         clear hsm hta hta2 ta hz
         go_wp2_with fail
         with_reducible refine (qof_calls 0 (by omega) (by omega) _).mono ?_
         rintro e w114 ⟨⟨v, rfl, hv⟩, hb⟩
         obtain ⟨tv0, Av0, nv0, cv0, Dv0, kv0, zv0, rfl⟩ := hv.agg
         have hle := Kb.size HB.out
         have hv_ := IsR.mono' (ok' := fun k => True) hv (fun k hk _ => by trivial)
         clear hv hle
         replace HB := kb_b HB hb
         replace B_s := kb_b B_s hb
         replace B_all := kb_b B_all hb
         replace B_a := kb_b B_a hb
         replace B_u := kb_b B_u hb
         replace B_sum := kb_b B_sum hb
         replace B_x := kb_b B_x hb
         replace B_h := kb_b B_h hb
         clear hb
         have V_v0 := Aside0.mk hv_
         clear hv_
         have B_v0 := Aside0.mk (Kb.refl (fun k => False) w114)
         go_wp2_with fail
         with_reducible refine (told6_all hs hq HH.out.2.1 HH.out.2.2.1 HH.out.2.2.2.1 _ _ _ _ _ _ _ _ _ _ _ HH.out.2.2.2.2.1 HN1.out (RowS.kb V_h.out B_h.out (fun _ _ h => h))).mono ?_
         rintro e w115 ⟨⟨v, rfl, hv⟩, hb⟩
         obtain ⟨ty, Ay, ny, cy, Dy, ky, zy, rfl⟩ := hv.agg
         have hle := Kb.size HB.out
         have hv_ := IsR.mono' (ok' := fun k => True) hv (fun k hk _ => by trivial)
         clear hv hle
         replace HB := kb_b HB hb
         replace B_s := kb_b B_s hb
         replace B_all := kb_b B_all hb
         replace B_a := kb_b B_a hb
         replace B_u := kb_b B_u hb
         replace B_sum := kb_b B_sum hb
         replace B_x := kb_b B_x hb
         replace B_h := kb_b B_h hb
         replace B_v0 := kb_b B_v0 hb
         clear hb
         have V_y := Aside0.mk hv_
         clear hv_
         have B_y := Aside0.mk (Kb.refl (fun k => False) w115)
         go_wp2_with (first | ((with_reducible refine gate_dst (N := 23) rfl ?_); refine bx_ (N := 23) #[.bool false, .slice none 0 0, .slice none 0 0] 30 ?_; intro g_v hg w116 hbox hb; have G_v := kb_g HB hg; have O_v_s := kb_g B_s hg; have O_v_all := kb_g B_all hg; have O_v_a := kb_g B_a hg; have O_v_u := kb_g B_u hg; have O_v_sum := kb_g B_sum hg; have O_v_x := kb_g B_x hg; have O_v_h := kb_g B_h hg; have O_v_v0 := kb_g B_v0 hg; have O_v_y := kb_g B_y hg; replace HB := kb_b HB hb; replace B_s := kb_b B_s hb; replace B_all := kb_b B_all hb; replace B_a := kb_b B_a hb; replace B_u := kb_b B_u hb; replace B_sum := kb_b B_sum hb; replace B_x := kb_b B_x hb; replace B_h := kb_b B_h hb; replace B_v0 := kb_b B_v0 hb; replace B_y := kb_b B_y hb; clear hb; have V_v := Aside0.mk hbox; have B_v := Aside0.mk (Kb.refl (fun k => False) w116); have N_v : Aside0 (¬ (fun k => False) g_v) := ⟨by have := G_v; exact fun h => h⟩; clear hbox hg) | ((with_reducible refine gate_store (t := 30) (p := 23) (v := .tmp 113) rfl ?_); refine store_ev (p := .tmp 23) (v := .tmp 113) rfl rfl rfl (g := g_v) rfl rfl (Kb.blk V_v.out B_v.out N_v.out) ?_; intro w117 hbox hk; replace HB := kb_t HB hk (fun i hi => by exact hi ▸ Or.inr G_v.out); replace B_s := kb_t B_s hk (fun i hi => by exact hi ▸ Or.inr O_v_s.out); replace B_all := kb_t B_all hk (fun i hi => by exact hi ▸ Or.inr O_v_all.out); replace B_a := kb_t B_a hk (fun i hi => by exact hi ▸ Or.inr O_v_a.out); replace B_u := kb_t B_u hk (fun i hi => by exact hi ▸ Or.inr O_v_u.out); replace B_sum := kb_t B_sum hk (fun i hi => by exact hi ▸ Or.inr O_v_sum.out); replace B_x := kb_t B_x hk (fun i hi => by exact hi ▸ Or.inr O_v_x.out); replace B_h := kb_t B_h hk (fun i hi => by exact hi ▸ Or.inr O_v_h.out); replace B_v0 := kb_t B_v0 hk (fun i hi => by exact hi ▸ Or.inr O_v_v0.out); replace B_y := kb_t B_y hk (fun i hi => by exact hi ▸ Or.inr O_v_y.out); clear V_v B_v; have V_v := Aside0.mk hbox; have B_v := Aside0.mk (Kb.refl (fun k => False) w117); clear hbox hk) | ((with_reducible refine gate_dst (N := 122) rfl ?_); refine load_ev rfl rfl (g := g_sum) rfl (Kb.blk V_sum.out B_sum.out N_sum.out) ?_) | ((with_reducible refine gate_dst (N := 123) rfl ?_); refine load_ev rfl rfl (g := g_v) rfl (Kb.blk V_v.out B_v.out N_v.out) ?_))
         have hfs : fit (x + rsum hq) = some (psum qs hn 1) := by
          rw [← HH.out.2.2.2.2.2]
          exact psum_fit qs HS.out.2.2.2 (by rw [ValS.len HS.out.2.2.1]; exact HS.out.1) hn 1
         with_reducible refine (Op2.calls qadd_op (x := x) (y := rsum hq) trivial (IsR.mono (IsR.kb (S := fun k => False ∨ k = g_sum) V_x.out B_x.out (fun k h hs => hs.elim (fun f => f) h.2)) (fun k h => h.1)) (IsR.kb (S := fun k => False) V_y.out B_y.out (fun _ _ h => h))).mono ?_
         rw [hfs]
         rintro e w118 ⟨⟨v, rfl, hv⟩, hb⟩
         have hv := Res.isR hv
         clear hfs
         obtain ⟨tt, At, nt, ct, Dt, kt, zt, rfl⟩ := hv.agg
         have hle := Kb.size HB.out
         have hl_sum := blk_lt (Kb.blk V_sum.out B_sum.out N_sum.out)
         have hv_ := IsR.mono' (ok' := fun k => True ∧ k ≠ g_sum) hv (fun k hk _ => by refine ⟨?_, ?_⟩ <;> first | trivial | omega)
         clear hv hle hl_sum
         replace HB := kb_b HB hb
         replace B_s := kb_b B_s hb
         replace B_all := kb_b B_all hb
         replace B_a := kb_b B_a hb
         replace B_u := kb_b B_u hb
         replace B_sum := kb_b B_sum hb
         replace B_x := kb_b B_x hb
         replace B_h := kb_b B_h hb
         replace B_v0 := kb_b B_v0 hb
         replace B_y := kb_b B_y hb
         replace B_v := kb_b B_v hb
         clear hb
         have V_t := Aside0.mk hv_
         clear hv_
         have B_t := Aside0.mk (Kb.refl (fun k => False ∨ k = g_sum) w118)
         go_wp2_with (first | ((with_reducible refine gate_dst (N := 25) rfl ?_); refine bx_ (N := 25) #[.bool false, .slice none 0 0, .slice none 0 0] 30 ?_; intro g_o hg w119 hbox hb; have G_o := kb_g HB hg; have O_o_s := kb_g B_s hg; have O_o_all := kb_g B_all hg; have O_o_a := kb_g B_a hg; have O_o_u := kb_g B_u hg; have O_o_sum := kb_g B_sum hg; have O_o_x := kb_g B_x hg; have O_o_h := kb_g B_h hg; have O_o_v0 := kb_g B_v0 hg; have O_o_y := kb_g B_y hg; have O_o_v := kb_g B_v hg; have O_o_t := kb_g B_t hg; replace HB := kb_b HB hb; replace B_s := kb_b B_s hb; replace B_all := kb_b B_all hb; replace B_a := kb_b B_a hb; replace B_u := kb_b B_u hb; replace B_sum := kb_b B_sum hb; replace B_x := kb_b B_x hb; replace B_h := kb_b B_h hb; replace B_v0 := kb_b B_v0 hb; replace B_y := kb_b B_y hb; replace B_v := kb_b B_v hb; replace B_t := kb_b B_t hb; clear hb; have V_o := Aside0.mk hbox; have B_o := Aside0.mk (Kb.refl (fun k => False) w119); have N_o : Aside0 (¬ (fun k => False) g_o) := ⟨by have := G_o; exact fun h => h⟩; clear hbox hg) | ((with_reducible refine gate_store (t := 30) (p := 25) (v := .tmp 125) rfl ?_); refine store_ev (p := .tmp 25) (v := .tmp 125) rfl rfl rfl (g := g_o) rfl rfl (Kb.blk V_o.out B_o.out N_o.out) ?_; intro w120 hbox hk; replace HB := kb_t HB hk (fun i hi => by exact hi ▸ Or.inr G_o.out); replace B_s := kb_t B_s hk (fun i hi => by exact hi ▸ Or.inr O_o_s.out); replace B_all := kb_t B_all hk (fun i hi => by exact hi ▸ Or.inr O_o_all.out); replace B_a := kb_t B_a hk (fun i hi => by exact hi ▸ Or.inr O_o_a.out); replace B_u := kb_t B_u hk (fun i hi => by exact hi ▸ Or.inr O_o_u.out); replace B_sum := kb_t B_sum hk (fun i hi => by exact hi ▸ Or.inr O_o_sum.out); replace B_x := kb_t B_x hk (fun i hi => by exact hi ▸ Or.inr O_o_x.out); replace B_h := kb_t B_h hk (fun i hi => by exact hi ▸ Or.inr O_o_h.out); replace B_v0 := kb_t B_v0 hk (fun i hi => by exact hi ▸ Or.inr O_o_v0.out); replace B_y := kb_t B_y hk (fun i hi => by exact hi ▸ Or.inr O_o_y.out); replace B_v := kb_t B_v hk (fun i hi => by exact hi ▸ Or.inr O_o_v.out); replace B_t := kb_t B_t hk (fun i hi => by exact hi ▸ Or.inr O_o_t.out); clear V_o B_o; have V_o := Aside0.mk hbox; have B_o := Aside0.mk (Kb.refl (fun k => False) w120); clear hbox hk) | ((with_reducible refine gate_dst (N := 129) rfl ?_); refine load_ev rfl rfl (g := g_o) rfl (Kb.blk V_o.out B_o.out N_o.out) ?_) | ((with_reducible refine gate_store (t := 30) (p := 20) (v := .tmp 129) rfl ?_); refine store_ev (p := .tmp 20) (v := .tmp 129) rfl rfl rfl (g := g_sum) rfl rfl (Kb.blk V_sum.out B_sum.out N_sum.out) ?_; intro w121 hbox hk; replace HB := kb_t HB hk (fun i hi => by exact hi ▸ Or.inr G_sum.out); replace B_s := kb_t B_s hk (fun i hi => by exact hi ▸ Or.inr O_sum_s.out); replace B_all := kb_t B_all hk (fun i hi => by exact hi ▸ Or.inr O_sum_all.out); replace B_a := kb_t B_a hk (fun i hi => by exact hi ▸ Or.inr O_sum_a.out); replace B_u := kb_t B_u hk (fun i hi => by exact hi ▸ Or.inr O_sum_u.out); replace B_t := kb_t B_t hk (fun i hi => by exact Or.inl (Or.inr hi)); clear V_sum B_sum; have V_sum := Aside0.mk hbox; have B_sum := Aside0.mk (Kb.refl (fun k => False) w121); clear hbox hk))
         go_roundg 1
         case measure => omega
         case rel => exact ⟨1, psum qs hn 1, tt, At, nt, ct, Dt, kt, zt, rfl, ⟨by omega, rfl⟩, V_sum, ⟨IsR.kb V_t.out B_t.out (fun k h hs => hs.elim (fun f => f) h.2)⟩, HB, B_s, B_all, B_a, B_u⟩
     · skip
       have hx := HI.out.2
       obtain ⟨i39, hi39, _, hs39, _⟩ := info_parts info39_
       have hcut := cut_to (P := Try.prog) 25 39 .i64 Try.underlying25 hi39 As ns cs (k : Int) (by omega) (by have := HKN.out; omega) (by rw [HNS.out]; exact RowS.le V_s.out)
       rw [Int.toNat_natCast] at hcut
       have hcutf := cut_from (P := Try.prog) 25 39 .i64 Try.underlying25 hi39 5 hs39 As ns cs (k : Int) (by omega) (by have := HKN.out; omega)
       rw [Int.toNat_natCast] at hcutf
       have hrow0 : RowS (fun _ => True) wr (.slice (if cs = k then As else As.map (·.add (k * 5))) (ns - k) (cs - k)) (ss.drop k) := by
        have h := RowS.drop (RowS.kb V_s.out B_s.out (fun _ _ h => h)) k (by rw [← HNS.out]; exact HKN.out)
        rw [show (ss.drop k).length = ns - k from by rw [List.length_drop, HNS.out]] at h
        exact h
       obtain ⟨hs, hhs⟩ : ∃ h, h = ss.drop k := ⟨_, rfl⟩
       obtain ⟨hq, hhq⟩ : ∃ h, h = qs.drop k := ⟨_, rfl⟩
       rw [← hhs] at hrow0
       obtain ⟨hn, hhn⟩ : ∃ h, h = ns - k := ⟨_, rfl⟩
       obtain ⟨Ah, hAh⟩ : ∃ a, a = (if cs = k then As else As.map (·.add (k * 5))) := ⟨_, rfl⟩
       obtain ⟨ch, hch⟩ : ∃ a, a = cs - k := ⟨_, rfl⟩
       rw [← hAh, ← hch, ← hhn] at hrow0 hcutf
       have HH := Aside0.mk (show hn = hs.length ∧ (∀ s ∈ hs, 0 ≤ s.by_ ∧ s.by_ < 5000) ∧ ValS hs hq ∧ (∀ x ∈ hq, Part x) ∧ hn ≤ 30 ∧ psum qs k 2 = x + rsum hq from by
        rw [hhs, hhq]
        exact ⟨by rw [List.length_drop, hhn, HNS.out], fun s h => HS.out.2.1 s (List.mem_of_mem_drop h), ValS.drop HS.out.2.2.1 k, fun x h => HS.out.2.2.2 x (List.mem_of_mem_drop h), by have := HNS.out; have := HS.out.1; omega, by rw [hx]; show rsum qs = rsum (qs.take k) + rsum (qs.drop k); rw [← rsum_append, List.take_append_drop]⟩)
       clear hhn
       clear hi39 hs39 hhs hhq hx hAh hch
       have V_h := Aside0.mk hrow0
       clear hrow0
       have B_h := Aside0.mk (Kb.refl (fun k => False) wr)
       by_cases hz : hn = 0
       · skip
         have HZ0 := Aside0.mk hz
         have hn2 : ¬ (0 : Int) < (hn : Int) := by omega
         have hn3 : decide ((0 : Int) < (hn : Int)) = false := decide_eq_false hn2
         clear hz
         go_wp2_with fail
         with_reducible refine (qof_calls 0 (by omega) (by omega) _).mono ?_
         rintro e w114 ⟨⟨v, rfl, hv⟩, hb⟩
         obtain ⟨tv0, Av0, nv0, cv0, Dv0, kv0, zv0, rfl⟩ := hv.agg
         have hle := Kb.size HB.out
         have hv_ := IsR.mono' (ok' := fun k => True) hv (fun k hk _ => by trivial)
         clear hv hle
         replace HB := kb_b HB hb
         replace B_s := kb_b B_s hb
         replace B_all := kb_b B_all hb
         replace B_a := kb_b B_a hb
         replace B_u := kb_b B_u hb
         replace B_sum := kb_b B_sum hb
         replace B_x := kb_b B_x hb
         replace B_h := kb_b B_h hb
         clear hb
         have V_v0 := Aside0.mk hv_
         clear hv_
         have B_v0 := Aside0.mk (Kb.refl (fun k => False) w114)
         go_wp2_with fail
         with_reducible refine (told6_nil _ _ _ _ _ _ _ _ _ _ _ HZ0.out hs (RowS.kb V_h.out B_h.out (fun _ _ h => h))).mono ?_
         rintro e w115 ⟨rfl, hb⟩
         replace HB := kb_b HB hb
         replace B_s := kb_b B_s hb
         replace B_all := kb_b B_all hb
         replace B_a := kb_b B_a hb
         replace B_u := kb_b B_u hb
         replace B_sum := kb_b B_sum hb
         replace B_x := kb_b B_x hb
         replace B_h := kb_b B_h hb
         replace B_v0 := kb_b B_v0 hb
         clear hb
         go_wp2_with (first | ((with_reducible refine gate_dst (N := 23) rfl ?_); refine bx_ (N := 23) #[.bool false, .slice none 0 0, .slice none 0 0] 30 ?_; intro g_v hg w116 hbox hb; have G_v := kb_g HB hg; have O_v_s := kb_g B_s hg; have O_v_all := kb_g B_all hg; have O_v_a := kb_g B_a hg; have O_v_u := kb_g B_u hg; have O_v_sum := kb_g B_sum hg; have O_v_x := kb_g B_x hg; have O_v_h := kb_g B_h hg; have O_v_v0 := kb_g B_v0 hg; replace HB := kb_b HB hb; replace B_s := kb_b B_s hb; replace B_all := kb_b B_all hb; replace B_a := kb_b B_a hb; replace B_u := kb_b B_u hb; replace B_sum := kb_b B_sum hb; replace B_x := kb_b B_x hb; replace B_h := kb_b B_h hb; replace B_v0 := kb_b B_v0 hb; clear hb; have V_v := Aside0.mk hbox; have B_v := Aside0.mk (Kb.refl (fun k => False) w116); have N_v : Aside0 (¬ (fun k => False) g_v) := ⟨by have := G_v; exact fun h => h⟩; clear hbox hg) | ((with_reducible refine gate_store (t := 30) (p := 23) (v := .tmp 113) rfl ?_); refine store_ev (p := .tmp 23) (v := .tmp 113) rfl rfl rfl (g := g_v) rfl rfl (Kb.blk V_v.out B_v.out N_v.out) ?_; intro w117 hbox hk; replace HB := kb_t HB hk (fun i hi => by exact hi ▸ Or.inr G_v.out); replace B_s := kb_t B_s hk (fun i hi => by exact hi ▸ Or.inr O_v_s.out); replace B_all := kb_t B_all hk (fun i hi => by exact hi ▸ Or.inr O_v_all.out); replace B_a := kb_t B_a hk (fun i hi => by exact hi ▸ Or.inr O_v_a.out); replace B_u := kb_t B_u hk (fun i hi => by exact hi ▸ Or.inr O_v_u.out); replace B_sum := kb_t B_sum hk (fun i hi => by exact hi ▸ Or.inr O_v_sum.out); replace B_x := kb_t B_x hk (fun i hi => by exact hi ▸ Or.inr O_v_x.out); replace B_h := kb_t B_h hk (fun i hi => by exact hi ▸ Or.inr O_v_h.out); replace B_v0 := kb_t B_v0 hk (fun i hi => by exact hi ▸ Or.inr O_v_v0.out); clear V_v B_v; have V_v := Aside0.mk hbox; have B_v := Aside0.mk (Kb.refl (fun k => False) w117); clear hbox hk))
         go_roundg 0
         case measure => omega
         case rel => exact ⟨2, x, tx, Ax, nx, cx, Dx, kx, zx, rfl, ⟨by omega, by rw [HH.out.2.2.2.2.2, show hq = [] from List.eq_nil_of_length_eq_zero (by rw [ValS.len HH.out.2.2.1, ← HH.out.1]; exact HZ0.out)]; exact (Rat.add_zero _).symm⟩, ⟨Kb.blk V_sum.out B_sum.out N_sum.out⟩, ⟨IsR.kb V_x.out B_x.out (fun k h hs => hs.elim (fun f => f) h.2)⟩, HB, B_s, B_all, B_a, B_u⟩
       · skip
         have hn1 : 0 < hn := by omega
         have hn2 : (0 : Int) < (hn : Int) := by omega
         have hn3 : decide ((0 : Int) < (hn : Int)) = true := decide_eq_true hn2
         obtain ⟨hsm, ta, hta, hta2⟩ := sum0_part hq HH.out.2.2.2.1 (by rw [ValS.len HH.out.2.2.1, ← HH.out.1]; exact HH.out.2.2.2.2.1)
         have HSM := Aside0.mk hsm
         have HN1 := Aside0.mk hn1
         have hn4 : decide (0 < hn) = true := decide_eq_true hn1
         have hn5 : ¬ hn = 0 := hz
         have hn6 : hn ≠ 0 := hz
         clear hsm hta hta2 ta hz
         go_wp2_with fail
         with_reducible refine (qof_calls 0 (by omega) (by omega) _).mono ?_
         rintro e w114 ⟨⟨v, rfl, hv⟩, hb⟩
         obtain ⟨tv0, Av0, nv0, cv0, Dv0, kv0, zv0, rfl⟩ := hv.agg
         have hle := Kb.size HB.out
         have hv_ := IsR.mono' (ok' := fun k => True) hv (fun k hk _ => by trivial)
         clear hv hle
         replace HB := kb_b HB hb
         replace B_s := kb_b B_s hb
         replace B_all := kb_b B_all hb
         replace B_a := kb_b B_a hb
         replace B_u := kb_b B_u hb
         replace B_sum := kb_b B_sum hb
         replace B_x := kb_b B_x hb
         replace B_h := kb_b B_h hb
         clear hb
         have V_v0 := Aside0.mk hv_
         clear hv_
         have B_v0 := Aside0.mk (Kb.refl (fun k => False) w114)
         go_wp2_with fail
         with_reducible refine (told6_all hs hq HH.out.2.1 HH.out.2.2.1 HH.out.2.2.2.1 _ _ _ _ _ _ _ _ _ _ _ HH.out.2.2.2.2.1 HN1.out (RowS.kb V_h.out B_h.out (fun _ _ h => h))).mono ?_
         rintro e w115 ⟨⟨v, rfl, hv⟩, hb⟩
         obtain ⟨ty, Ay, ny, cy, Dy, ky, zy, rfl⟩ := hv.agg
         have hle := Kb.size HB.out
         have hv_ := IsR.mono' (ok' := fun k => True) hv (fun k hk _ => by trivial)
         clear hv hle
         replace HB := kb_b HB hb
         replace B_s := kb_b B_s hb
         replace B_all := kb_b B_all hb
         replace B_a := kb_b B_a hb
         replace B_u := kb_b B_u hb
         replace B_sum := kb_b B_sum hb
         replace B_x := kb_b B_x hb
         replace B_h := kb_b B_h hb
         replace B_v0 := kb_b B_v0 hb
         clear hb
         have V_y := Aside0.mk hv_
         clear hv_
         have B_y := Aside0.mk (Kb.refl (fun k => False) w115)
         go_wp2_with (first | ((with_reducible refine gate_dst (N := 23) rfl ?_); refine bx_ (N := 23) #[.bool false, .slice none 0 0, .slice none 0 0] 30 ?_; intro g_v hg w116 hbox hb; have G_v := kb_g HB hg; have O_v_s := kb_g B_s hg; have O_v_all := kb_g B_all hg; have O_v_a := kb_g B_a hg; have O_v_u := kb_g B_u hg; have O_v_sum := kb_g B_sum hg; have O_v_x := kb_g B_x hg; have O_v_h := kb_g B_h hg; have O_v_v0 := kb_g B_v0 hg; have O_v_y := kb_g B_y hg; replace HB := kb_b HB hb; replace B_s := kb_b B_s hb; replace B_all := kb_b B_all hb; replace B_a := kb_b B_a hb; replace B_u := kb_b B_u hb; replace B_sum := kb_b B_sum hb; replace B_x := kb_b B_x hb; replace B_h := kb_b B_h hb; replace B_v0 := kb_b B_v0 hb; replace B_y := kb_b B_y hb; clear hb; have V_v := Aside0.mk hbox; have B_v := Aside0.mk (Kb.refl (fun k => False) w116); have N_v : Aside0 (¬ (fun k => False) g_v) := ⟨by have := G_v; exact fun h => h⟩; clear hbox hg) | ((with_reducible refine gate_store (t := 30) (p := 23) (v := .tmp 113) rfl ?_); refine store_ev (p := .tmp 23) (v := .tmp 113) rfl rfl rfl (g := g_v) rfl rfl (Kb.blk V_v.out B_v.out N_v.out) ?_; intro w117 hbox hk; replace HB := kb_t HB hk (fun i hi => by exact hi ▸ Or.inr G_v.out); replace B_s := kb_t B_s hk (fun i hi => by exact hi ▸ Or.inr O_v_s.out); replace B_all := kb_t B_all hk (fun i hi => by exact hi ▸ Or.inr O_v_all.out); replace B_a := kb_t B_a hk (fun i hi => by exact hi ▸ Or.inr O_v_a.out); replace B_u := kb_t B_u hk (fun i hi => by exact hi ▸ Or.inr O_v_u.out); replace B_sum := kb_t B_sum hk (fun i hi => by exact hi ▸ Or.inr O_v_sum.out); replace B_x := kb_t B_x hk (fun i hi => by exact hi ▸ Or.inr O_v_x.out); replace B_h := kb_t B_h hk (fun i hi => by exact hi ▸ Or.inr O_v_h.out); replace B_v0 := kb_t B_v0 hk (fun i hi => by exact hi ▸ Or.inr O_v_v0.out); replace B_y := kb_t B_y hk (fun i hi => by exact hi ▸ Or.inr O_v_y.out); clear V_v B_v; have V_v := Aside0.mk hbox; have B_v := Aside0.mk (Kb.refl (fun k => False) w117); clear hbox hk) | ((with_reducible refine gate_dst (N := 122) rfl ?_); refine load_ev rfl rfl (g := g_sum) rfl (Kb.blk V_sum.out B_sum.out N_sum.out) ?_) | ((with_reducible refine gate_dst (N := 123) rfl ?_); refine load_ev rfl rfl (g := g_v) rfl (Kb.blk V_v.out B_v.out N_v.out) ?_))
         have hfs : fit (x + rsum hq) = some (psum qs k 2) := by
          rw [← HH.out.2.2.2.2.2]
          exact psum_fit qs HS.out.2.2.2 (by rw [ValS.len HS.out.2.2.1]; exact HS.out.1) k 2
         with_reducible refine (Op2.calls qadd_op (x := x) (y := rsum hq) trivial (IsR.mono (IsR.kb (S := fun k => False ∨ k = g_sum) V_x.out B_x.out (fun k h hs => hs.elim (fun f => f) h.2)) (fun k h => h.1)) (IsR.kb (S := fun k => False) V_y.out B_y.out (fun _ _ h => h))).mono ?_
         rw [hfs]
         rintro e w118 ⟨⟨v, rfl, hv⟩, hb⟩
         have hv := Res.isR hv
         clear hfs
         obtain ⟨tt, At, nt, ct, Dt, kt, zt, rfl⟩ := hv.agg
         have hle := Kb.size HB.out
         have hl_sum := blk_lt (Kb.blk V_sum.out B_sum.out N_sum.out)
         have hv_ := IsR.mono' (ok' := fun k => True ∧ k ≠ g_sum) hv (fun k hk _ => by refine ⟨?_, ?_⟩ <;> first | trivial | omega)
         clear hv hle hl_sum
         replace HB := kb_b HB hb
         replace B_s := kb_b B_s hb
         replace B_all := kb_b B_all hb
         replace B_a := kb_b B_a hb
         replace B_u := kb_b B_u hb
         replace B_sum := kb_b B_sum hb
         replace B_x := kb_b B_x hb
         replace B_h := kb_b B_h hb
         replace B_v0 := kb_b B_v0 hb
         replace B_y := kb_b B_y hb
         replace B_v := kb_b B_v hb
         clear hb
         have V_t := Aside0.mk hv_
         clear hv_
         have B_t := Aside0.mk (Kb.refl (fun k => False ∨ k = g_sum) w118)
         go_wp2_with (first | ((with_reducible refine gate_dst (N := 25) rfl ?_); refine bx_ (N := 25) #[.bool false, .slice none 0 0, .slice none 0 0] 30 ?_; intro g_o hg w119 hbox hb; have G_o := kb_g HB hg; have O_o_s := kb_g B_s hg; have O_o_all := kb_g B_all hg; have O_o_a := kb_g B_a hg; have O_o_u := kb_g B_u hg; have O_o_sum := kb_g B_sum hg; have O_o_x := kb_g B_x hg; have O_o_h := kb_g B_h hg; have O_o_v0 := kb_g B_v0 hg; have O_o_y := kb_g B_y hg; have O_o_v := kb_g B_v hg; have O_o_t := kb_g B_t hg; replace HB := kb_b HB hb; replace B_s := kb_b B_s hb; replace B_all := kb_b B_all hb; replace B_a := kb_b B_a hb; replace B_u := kb_b B_u hb; replace B_sum := kb_b B_sum hb; replace B_x := kb_b B_x hb; replace B_h := kb_b B_h hb; replace B_v0 := kb_b B_v0 hb; replace B_y := kb_b B_y hb; replace B_v := kb_b B_v hb; replace B_t := kb_b B_t hb; clear hb; have V_o := Aside0.mk hbox; have B_o := Aside0.mk (Kb.refl (fun k => False) w119); have N_o : Aside0 (¬ (fun k => False) g_o) := ⟨by have := G_o; exact fun h => h⟩; clear hbox hg) | ((with_reducible refine gate_store (t := 30) (p := 25) (v := .tmp 125) rfl ?_); refine store_ev (p := .tmp 25) (v := .tmp 125) rfl rfl rfl (g := g_o) rfl rfl (Kb.blk V_o.out B_o.out N_o.out) ?_; intro w120 hbox hk; replace HB := kb_t HB hk (fun i hi => by exact hi ▸ Or.inr G_o.out); replace B_s := kb_t B_s hk (fun i hi => by exact hi ▸ Or.inr O_o_s.out); replace B_all := kb_t B_all hk (fun i hi => by exact hi ▸ Or.inr O_o_all.out); replace B_a := kb_t B_a hk (fun i hi => by exact hi ▸ Or.inr O_o_a.out); replace B_u := kb_t B_u hk (fun i hi => by exact hi ▸ Or.inr O_o_u.out); replace B_sum := kb_t B_sum hk (fun i hi => by exact hi ▸ Or.inr O_o_sum.out); replace B_x := kb_t B_x hk (fun i hi => by exact hi ▸ Or.inr O_o_x.out); replace B_h := kb_t B_h hk (fun i hi => by exact hi ▸ Or.inr O_o_h.out); replace B_v0 := kb_t B_v0 hk (fun i hi => by exact hi ▸ Or.inr O_o_v0.out); replace B_y := kb_t B_y hk (fun i hi => by exact hi ▸ Or.inr O_o_y.out); replace B_v := kb_t B_v hk (fun i hi => by exact hi ▸ Or.inr O_o_v.out); replace B_t := kb_t B_t hk (fun i hi => by exact hi ▸ Or.inr O_o_t.out); clear V_o B_o; have V_o := Aside0.mk hbox; have B_o := Aside0.mk (Kb.refl (fun k => False) w120); clear hbox hk) | ((with_reducible refine gate_dst (N := 129) rfl ?_); refine load_ev rfl rfl (g := g_o) rfl (Kb.blk V_o.out B_o.out N_o.out) ?_) | ((with_reducible refine gate_store (t := 30) (p := 20) (v := .tmp 129) rfl ?_); refine store_ev (p := .tmp 20) (v := .tmp 129) rfl rfl rfl (g := g_sum) rfl rfl (Kb.blk V_sum.out B_sum.out N_sum.out) ?_; intro w121 hbox hk; replace HB := kb_t HB hk (fun i hi => by exact hi ▸ Or.inr G_sum.out); replace B_s := kb_t B_s hk (fun i hi => by exact hi ▸ Or.inr O_sum_s.out); replace B_all := kb_t B_all hk (fun i hi => by exact hi ▸ Or.inr O_sum_all.out); replace B_a := kb_t B_a hk (fun i hi => by exact hi ▸ Or.inr O_sum_a.out); replace B_u := kb_t B_u hk (fun i hi => by exact hi ▸ Or.inr O_sum_u.out); replace B_t := kb_t B_t hk (fun i hi => by exact Or.inl (Or.inr hi)); clear V_sum B_sum; have V_sum := Aside0.mk hbox; have B_sum := Aside0.mk (Kb.refl (fun k => False) w121); clear hbox hk))
         go_roundg 0
         case measure => omega
         case rel => exact ⟨2, psum qs k 2, tt, At, nt, ct, Dt, kt, zt, rfl, ⟨by omega, rfl⟩, V_sum, ⟨IsR.kb V_t.out B_t.out (fun k h hs => hs.elim (fun f => f) h.2)⟩, HB, B_s, B_all, B_a, B_u⟩
     · skip
       have hx : x = rsum qs := HI.out.2
       subst hx
       go_wp2_with (first | ((with_reducible refine gate_dst (N := 132) rfl ?_); refine gate_guard (by rfl) ?_; dsimp only; refine load_ev rfl rfl (g := g_all) rfl (Kb.blk V_all.out B_all.out N_all.out) ?_) | ((with_reducible refine gate_dst (N := 133) rfl ?_); refine gate_guard (by rfl) ?_; dsimp only; refine load_ev rfl rfl (g := g_sum) rfl (Kb.blk V_sum.out B_sum.out N_sum.out) ?_))
       with_reducible refine (qsame_calls (rsum qs) (rsum qs) _ _ _ (IsR.kb (S := fun k => False) V_a.out B_a.out (fun _ _ h => h)) (IsR.mono (IsR.kb (S := fun k => False ∨ k = g_sum) V_x.out B_x.out (fun k h hs => hs.elim (fun f => f) h.2)) (fun k h => h.1))).mono ?_
       rintro e w114 ⟨rfl, hb⟩
       rw [decide_eq_true (show rsum qs = rsum qs from rfl)]
       replace HB := kb_b HB hb
       replace B_s := kb_b B_s hb
       replace B_all := kb_b B_all hb
       replace B_a := kb_b B_a hb
       replace B_u := kb_b B_u hb
       replace B_sum := kb_b B_sum hb
       replace B_x := kb_b B_x hb
       clear hb
       go_wp2_with fail
       go_ret
       exact ⟨rfl, (Kb.to_below HB.out (fun _ h => h.elim))⟩
end Go.Proofs.Ytgdkgahbmfhgcaa.PN
