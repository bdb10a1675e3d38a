/- What the statement rests on, part 12: WK WL WM. -/
import Derived.Test.YtgdkgahbmfhgcaaB11
set_option linter.unusedVariables false
set_option linter.unusedSimpArgs false
set_option maxHeartbeats 4000000
set_option maxRecDepth 100000
namespace Go.Proofs.Ytgdkgahbmfhgcaa.PN
open Go.RowKit Go.Proofs.Ytgdkgahbmfhgcaa.NS Go.Proofs.Ytgdkgahbmfhgcaa.Limbs Go.Proofs.YtgdkgahbmfhgcaaW.PrintWords Go.Proofs.YtgdkgahbmfhgcaaW.PrintLast Go.Proofs.YtgdkgahbmfhgcaaW.PrintMore
def ValS (ss : List Smp) (qs : List Rat) : Prop := qs.length = ss.length ∧ ∀ i, i < ss.length → (ss.getD i ⟨0, 0, none⟩).q = some (qs.getD i 0)
theorem ValS.len {ss : List Smp} {qs : List Rat} (h : ValS ss qs) : qs.length = ss.length := h.1
def ByS (ss : List Smp) : Prop := ∀ i, i < ss.length → 0 ≤ (ss.getD i ⟨0, 0, none⟩).by_ ∧ (ss.getD i ⟨0, 0, none⟩).by_ ≤ 9007199254740991
def bytesQ (ss : List Smp) : List Rat := ss.map (fun s => (s.by_ : Rat))
theorem each_value {ok : Nat → Prop} (ss : List Smp) (qs : List Rat) (hv : ValS ss qs) (hsz : ss.length ≤ 1000000) (w : World) (vl : Value) (hl : RowS ok w vl ss) :
 Calls Try.prog 42 #[vl, .func (.func 44) #[] #[]] w fun e w' => (∃ v, e = .returned v ∧ RowQ (fun k => ok k ∨ w.heap.size ≤ k) w' v qs) ∧ Below w.heap.size w w' := by
 refine each_calls 44 ss qs hv.1 hsz (enters_run (enters_of (P := Try.prog) Try.func44 (by kernel_rfl) rfl)) w (fun ok' i hi W t A0 n0 c0 A1 n1 c1 h => ?_) vl hl
 refine (value_calls _ _ _ _ _ _ _ _ _ W).mono ?_
 rintro e w' ⟨rfl, hb⟩
 exact ⟨⟨_, rfl, IsR.mono (IsR.below (h _ (hv.2 i hi)) hb) (fun k hk => .inl hk)⟩, hb⟩
theorem each_size {ok : Nat → Prop} (ss : List Smp) (hb0 : ByS ss) (hsz : ss.length ≤ 1000000) (w : World) (vl : Value) (hl : RowS ok w vl ss) :
 Calls Try.prog 42 #[vl, .func (.func 43) #[] #[]] w fun e w' => (∃ v, e = .returned v ∧ RowQ (fun k => ok k ∨ w.heap.size ≤ k) w' v (bytesQ ss)) ∧ Below w.heap.size w w' := by
 refine each_calls 43 ss (bytesQ ss) (by unfold bytesQ; rw [List.length_map]) hsz (enters_run (enters_of (P := Try.prog) Try.func43 (by kernel_rfl) rfl)) w (fun ok' i hi W t A0 n0 c0 A1 n1 c1 h => ?_) vl hl
 have hbi := hb0 i hi
 refine (size_calls _ _ _ _ _ _ _ _ _ (by omega) (by omega) W).mono ?_
 rintro e w' ⟨⟨v, rfl, hv⟩, hb⟩
 have e1 : (bytesQ ss).getD i 0 = (((ss.getD i ⟨0, 0, none⟩).by_ : Int) : Rat) := by
  unfold bytesQ
  simp [hi]
 rw [e1]
 exact ⟨⟨_, rfl, IsR.mono hv (fun k hk => .inr hk)⟩, hb⟩
theorem run2_calls {okl : Nat → Prop} (rb : Nat) (over : Int) (ss : List Smp) (h0 : 0 < over) (h1 : over ≤ 9223372036854775807) (hn0 : 0 < ss.length) (hsz : ss.length ≤ 1000000) (w : World) (tq : Bool) (Aq : Option Addr) (nq cq : Nat) (Dq : Option Addr) (kq zq : Nat) (vl : Value) (hr : Rk w rb false) (hl : RowS okl w vl ss) (hok : ∀ k, okl k → k ≠ rb)  :
 Calls Try.prog 30 #[.pointer (some ⟨rb, 0, none⟩), .int .i64 2, .int .i64 over, .agg #[.bool tq, .slice Aq nq cq, .slice Dq kq zq], vl] w fun e w' => ∃ v, e = .returned v ∧ Res (fun k => okl k ∨ w.heap.size ≤ k) w' v (rateO (some (ss.length : Rat)) (over : Rat)) ∧ Rk w' rb (rateO (some (ss.length : Rat)) (over : Rat)).isNone ∧ Kb (fun k => k = rb) w w' := by
 obtain ⟨ans, hans⟩ : ∃ a, a = rateO (some (ss.length : Rat)) (over : Rat) := ⟨_, rfl⟩
 rw [← hans]
 have HANS := a0_ hans
 clear hans
 have hu30 := Try.underlying30
 have hu39 := Try.underlying39
 obtain ⟨Al, cl, rfl⟩ := hl.slice
 obtain ⟨nl, hnl⟩ : ∃ nl, nl = ss.length := ⟨_, rfl⟩
 rw [← hnl] at hl hn0 hsz ⊢
 have HNL := a0_ (And.intro hnl (And.intro hn0 hsz))
 have hl2 : RowS (fun k => k ≠ rb ∧ (okl k ∧ k < w.heap.size)) w (.slice Al nl cl) ss := RowS.mono' hl (fun k h1 h2 => ⟨hok k h1, h1, h2⟩)
 have HOKL := a0_ hok
 clear hnl hl hok
 have HB := kr_ rb w
 have HL := a0_ (Rk.lt hr)
 have RK := a0_ hr
 clear hr
 have V_l := a0_ hl2
 clear hl2
 have B_l := kr_ rb w
 clear hn0 hsz
 go_enter Try.func30, Try.ntmps30
 go_wp2_with (first | ((with_reducible refine gd_ 8 rfl ?_); refine bx_ (N := 8) #[.bool tq, .slice Aq nq cq, .slice Dq kq zq] 30 ?_; intro g_q hg w101 hbox hb; have G_q := kb_g HB hg; replace HB := kb_b HB hb; replace B_l := kb_b B_l hb; replace RK := rk_b RK hb; clear hb; have V_q := a0_ hbox; have B_q := kr_ rb w101; have N_q : Aside0 (¬ (fun k => k = rb) g_q) := ⟨by show ¬ (_ = _); have := HL.out; have := G_q.out; omega⟩; clear hbox hg) | ((with_reducible refine gd_ 10 rfl ?_); refine bx_ (N := 10) #[.bool false, .slice none 0 0, .slice none 0 0] 30 ?_; intro g_r hg w102 hbox hb; have G_r := kb_g HB hg; replace HB := kb_b HB hb; replace B_l := kb_b B_l hb; replace B_q := kb_b B_q hb; replace RK := rk_b RK hb; clear hb; have V_r := a0_ hbox; have B_r := kr_ rb w102; have N_r : Aside0 (¬ (fun k => k = rb) g_r) := ⟨by show ¬ (_ = _); have := HL.out; have := G_r.out; omega⟩; clear hbox hg))
 with_reducible refine (qofn_calls nl HNL.out.2.2 _).mono ?_
 rintro e w103 ⟨⟨v, rfl, hv⟩, hb⟩
 obtain ⟨tn, An, nn, cn, Dn, kn, zn, rfl⟩ := hv.agg
 have hle := Kb.size HB.out
 have hl_r := blk_lt (bk_ V_r B_r N_r)
 have hv_ := IsR.mono' (ok' := fun k => k ≠ rb ∧ k ≠ g_r ∧ w.heap.size ≤ k) hv (fun k hk _ => by have := HL.out; refine ⟨?_, ?_, ?_⟩ <;> omega)
 clear hv hle hl_r
 replace HB := kb_b HB hb
 replace B_l := kb_b B_l hb
 replace B_q := kb_b B_q hb
 replace B_r := kb_b B_r hb
 replace RK := rk_b RK hb
 clear hb
 have V_vn := a0_ hv_
 clear hv_
 have B_vn := a0_ (Kb.refl (fun k => k = rb ∨ k = g_r) w103)
 go_wp2_with (first | ((with_reducible refine gd_ 11 rfl ?_); refine bx_ (N := 11) #[.bool false, .slice none 0 0, .slice none 0 0] 30 ?_; intro g_n hg w104 hbox hb; have G_n := kb_g HB hg; have O_n_l := kb_g B_l hg; have O_n_q := kb_g B_q hg; have O_n_r := kb_g B_r hg; have O_n_vn := kb_g B_vn hg; replace HB := kb_b HB hb; replace B_l := kb_b B_l hb; replace B_q := kb_b B_q hb; replace B_r := kb_b B_r hb; replace B_vn := kb_b B_vn hb; replace RK := rk_b RK hb; clear hb; have V_n := a0_ hbox; have B_n := kr_ rb w104; have N_n : Aside0 (¬ (fun k => k = rb) g_n) := ⟨by show ¬ (_ = _); have := HL.out; have := G_n.out; omega⟩; clear hbox hg) | ((with_reducible refine gt_ 30 11 14 rfl ?_); refine store_ev (p := .tmp 11) (v := .tmp 14) rfl rfl rfl (g := g_n) rfl rfl (bk_ V_n B_n N_n) ?_; intro w105 hbox hk; replace HB := kb_o HB hk G_n; replace B_l := kb_o B_l hk O_n_l; replace B_q := kb_o B_q hk O_n_q; replace B_r := kb_o B_r hk O_n_r; replace B_vn := kb_o B_vn hk O_n_vn; have Z_ := a0_ (Rk.kb RK.out hk (by have := HL.out; have := G_n.out; omega)); clear RK; have RK := Z_; clear Z_; clear V_n B_n; have V_n := a0_ hbox; have B_n := kr_ rb w105; clear hbox hk) | ((with_reducible refine gd_ 22 rfl ?_); refine load_ev rfl rfl (g := g_n) rfl (bk_ V_n B_n N_n) ?_))
 have RK2 : Aside0 (Rk w105 rb (some (nl : Rat)).isNone) := ⟨RK.out⟩
 clear RK
 have RK := RK2
 clear RK2
 with_reducible refine (rate_calls rb (some (nl : Rat)) over h0 h1 _ _ RK.out (IsR.res (IsR.mono (IsR.kb (S := fun k => k = rb ∨ k = g_r) V_vn.out B_vn.out (fun k h hs => hs.elim h.1 h.2.1)) (fun k h => h.1)))).mono ?_
 rintro e w106 ⟨v, rfl, hv, hrk, hk⟩
 obtain ⟨tv, Av, nv, cv, Dv, kv, zv, rfl⟩ := hv.agg
 have h9 := HANS.out
 rw [← HNL.out.1] at h9
 rw [← h9] at hv hrk
 clear h9 RK
 have RK := a0_ hrk
 clear hrk
 clear V_vn B_vn
 clear V_l B_l
 clear V_q B_q
 clear V_n B_n
 have hle := Kb.size HB.out
 have hl_r := blk_lt (bk_ V_r B_r N_r)
 have hv_ := Res.mono' (ok' := fun k => k ≠ rb ∧ k ≠ g_r ∧ w.heap.size ≤ k) hv (fun k hk _ => by have := HL.out; refine ⟨?_, ?_, ?_⟩ <;> omega)
 clear hv hle hl_r
 replace HB := kb_t HB hk (fun i hi => Or.inl hi)
 replace B_r := kb_t B_r hk (fun i hi => Or.inl hi)
 clear hk
 have V_v := a0_ hv_
 clear hv_
 have B_v := a0_ (Kb.refl (fun k => k = rb ∨ k = g_r) w106)
 go_wp2_with (first | ((with_reducible refine gt_ 30 10 24 rfl ?_); refine store_ev (p := .tmp 10) (v := .tmp 24) rfl rfl rfl (g := g_r) rfl rfl (bk_ V_r B_r N_r) ?_; intro w107 hbox hk; replace HB := kb_o HB hk G_r; replace B_v := kb_t B_v hk (fun i hi => by exact Or.inl (Or.inr hi)); have Z_ := a0_ (Rk.kb RK.out hk (by have := HL.out; have := G_r.out; omega)); clear RK; have RK := Z_; clear Z_; clear V_r B_r; have V_r := a0_ hbox; have B_r := kr_ rb w107; clear hbox hk))
 refine bodyPost_ret (results_cell_row rfl _ _ g_r 30 #[.bool tv, .slice Av nv cv, .slice Dv kv zv] (0, 0) _ rfl (bk_ V_r B_r N_r) Try.underlying30 rfl (by kernel_rfl)) rfl ?_
 exact ⟨_, rfl, ((Res.mono (Res.kb (S := fun k => k = rb ∨ k = g_r) V_v.out B_v.out (fun k h hs => hs.elim h.1 h.2.1)) (fun k h => Or.inr h.2.2))), RK.out, HB.out⟩
theorem run4_calls {okl : Nat → Prop} (rb : Nat) (over : Int) (ss : List Smp) (h0 : 0 < over) (h1 : over ≤ 9223372036854775807) (hn0 : 0 < ss.length) (hsz : ss.length ≤ 1000000) (w : World) (tq : Bool) (Aq : Option Addr) (nq cq : Nat) (Dq : Option Addr) (kq zq : Nat) (vl : Value) (hr : Rk w rb false) (hl : RowS okl w vl ss) (hok : ∀ k, okl k → k ≠ rb) (hby : ByS ss) :
 Calls Try.prog 30 #[.pointer (some ⟨rb, 0, none⟩), .int .i64 4, .int .i64 over, .agg #[.bool tq, .slice Aq nq cq, .slice Dq kq zq], vl] w fun e w' => ∃ v, e = .returned v ∧ Res (fun k => okl k ∨ w.heap.size ≤ k) w' v (rateO (sumO (some 0) (bytesQ ss)) (over : Rat)) ∧ Rk w' rb (rateO (sumO (some 0) (bytesQ ss)) (over : Rat)).isNone ∧ Kb (fun k => k = rb) w w' := by
 obtain ⟨ans, hans⟩ : ∃ a, a = rateO (sumO (some 0) (bytesQ ss)) (over : Rat) := ⟨_, rfl⟩
 rw [← hans]
 have HANS := a0_ hans
 clear hans
 have hu30 := Try.underlying30
 have hu39 := Try.underlying39
 obtain ⟨Al, cl, rfl⟩ := hl.slice
 obtain ⟨nl, hnl⟩ : ∃ nl, nl = ss.length := ⟨_, rfl⟩
 rw [← hnl] at hl hn0 hsz ⊢
 have HNL := a0_ (And.intro hnl (And.intro hn0 hsz))
 have hl2 : RowS (fun k => k ≠ rb ∧ (okl k ∧ k < w.heap.size)) w (.slice Al nl cl) ss := RowS.mono' hl (fun k h1 h2 => ⟨hok k h1, h1, h2⟩)
 have HOKL := a0_ hok
 clear hnl hl hok
 have HB := kr_ rb w
 have HL := a0_ (Rk.lt hr)
 have RK := a0_ hr
 clear hr
 have V_l := a0_ hl2
 clear hl2
 have B_l := kr_ rb w
 clear hn0 hsz
 go_enter Try.func30, Try.ntmps30
 go_wp2_with (first | ((with_reducible refine gd_ 8 rfl ?_); refine bx_ (N := 8) #[.bool tq, .slice Aq nq cq, .slice Dq kq zq] 30 ?_; intro g_q hg w101 hbox hb; have G_q := kb_g HB hg; replace HB := kb_b HB hb; replace B_l := kb_b B_l hb; replace RK := rk_b RK hb; clear hb; have V_q := a0_ hbox; have B_q := kr_ rb w101; have N_q : Aside0 (¬ (fun k => k = rb) g_q) := ⟨by show ¬ (_ = _); have := HL.out; have := G_q.out; omega⟩; clear hbox hg) | ((with_reducible refine gd_ 10 rfl ?_); refine bx_ (N := 10) #[.bool false, .slice none 0 0, .slice none 0 0] 30 ?_; intro g_r hg w102 hbox hb; have G_r := kb_g HB hg; replace HB := kb_b HB hb; replace B_l := kb_b B_l hb; replace B_q := kb_b B_q hb; replace RK := rk_b RK hb; clear hb; have V_r := a0_ hbox; have B_r := kr_ rb w102; have N_r : Aside0 (¬ (fun k => k = rb) g_r) := ⟨by show ¬ (_ = _); have := HL.out; have := G_r.out; omega⟩; clear hbox hg))
 with_reducible refine (qofn_calls nl HNL.out.2.2 _).mono ?_
 rintro e w103 ⟨⟨v, rfl, hv⟩, hb⟩
 obtain ⟨tn, An, nn, cn, Dn, kn, zn, rfl⟩ := hv.agg
 have hle := Kb.size HB.out
 have hl_r := blk_lt (bk_ V_r B_r N_r)
 have hv_ := IsR.mono' (ok' := fun k => k ≠ rb ∧ k ≠ g_r ∧ w.heap.size ≤ k) hv (fun k hk _ => by have := HL.out; refine ⟨?_, ?_, ?_⟩ <;> omega)
 clear hv hle hl_r
 replace HB := kb_b HB hb
 replace B_l := kb_b B_l hb
 replace B_q := kb_b B_q hb
 replace B_r := kb_b B_r hb
 replace RK := rk_b RK hb
 clear hb
 have V_vn := a0_ hv_
 clear hv_
 have B_vn := a0_ (Kb.refl (fun k => k = rb ∨ k = g_r) w103)
 go_wp2_with (first | ((with_reducible refine gd_ 11 rfl ?_); refine bx_ (N := 11) #[.bool false, .slice none 0 0, .slice none 0 0] 30 ?_; intro g_n hg w104 hbox hb; have G_n := kb_g HB hg; have O_n_l := kb_g B_l hg; have O_n_q := kb_g B_q hg; have O_n_r := kb_g B_r hg; have O_n_vn := kb_g B_vn hg; replace HB := kb_b HB hb; replace B_l := kb_b B_l hb; replace B_q := kb_b B_q hb; replace B_r := kb_b B_r hb; replace B_vn := kb_b B_vn hb; replace RK := rk_b RK hb; clear hb; have V_n := a0_ hbox; have B_n := kr_ rb w104; have N_n : Aside0 (¬ (fun k => k = rb) g_n) := ⟨by show ¬ (_ = _); have := HL.out; have := G_n.out; omega⟩; clear hbox hg) | ((with_reducible refine gt_ 30 11 14 rfl ?_); refine store_ev (p := .tmp 11) (v := .tmp 14) rfl rfl rfl (g := g_n) rfl rfl (bk_ V_n B_n N_n) ?_; intro w105 hbox hk; replace HB := kb_o HB hk G_n; replace B_l := kb_o B_l hk O_n_l; replace B_q := kb_o B_q hk O_n_q; replace B_r := kb_o B_r hk O_n_r; replace B_vn := kb_o B_vn hk O_n_vn; have Z_ := a0_ (Rk.kb RK.out hk (by have := HL.out; have := G_n.out; omega)); clear RK; have RK := Z_; clear Z_; clear V_n B_n; have V_n := a0_ hbox; have B_n := kr_ rb w105; clear hbox hk))
 clear V_vn B_vn
 with_reducible refine (each_size ss hby (by rw [← HNL.out.1]; exact HNL.out.2.2) _ _ (RowS.kb (S := fun k => k = rb) V_l.out B_l.out (fun k h hs => absurd hs h.1))).mono ?_
 rintro e w106 ⟨⟨v, rfl, hv⟩, hb⟩
 obtain ⟨Ae, ce, rfl⟩ := RowQ.slice hv
 have hle := Kb.size HB.out
 have hlr := blk_lt (bk_ V_r B_r N_r)
 have hv_ := RowQ.mono' (ok' := fun k => k ≠ rb ∧ k ≠ g_r ∧ (okl k ∨ w.heap.size ≤ k)) hv (fun k hk _ => by
  have := HL.out
  have h3 := G_r.out
  rcases hk with hk | hk
  · exact ⟨hk.1, fun e => by have := hk.2.2; omega, Or.inl hk.2.1⟩
  · exact ⟨by omega, by omega, Or.inr (by omega)⟩)
 clear hv hle hlr
 replace HB := kb_b HB hb
 replace B_l := kb_b B_l hb
 replace B_q := kb_b B_q hb
 replace B_r := kb_b B_r hb
 replace B_n := kb_b B_n hb
 replace RK := rk_b RK hb
 clear hb
 have V_e := a0_ hv_
 clear hv_
 have B_e := a0_ (Kb.refl (fun k => k = rb ∨ k = g_r) w106)
 go_wp2_with fail
 with_reducible refine (rsum_calls rb (bytesQ ss) _ _ RK.out (RowQ.mono (RowQ.kb (S := fun k => k = rb ∨ k = g_r) V_e.out B_e.out (fun k h hs => hs.elim h.1 h.2.1)) (fun k h => h.1)) (by unfold bytesQ; rw [List.length_map, ← HNL.out.1]; have := HNL.out.2.2; omega)).mono ?_
 rintro e w107 ⟨v, rfl, hv, hrk, hk⟩
 obtain ⟨tv, Av, nv, cv, Dv, kv, zv, rfl⟩ := hv.agg
 clear RK
 have RK := a0_ hrk
 clear hrk
 have hle := Kb.size HB.out
 have hl_r := blk_lt (bk_ V_r B_r N_r)
 have hv_ := Res.mono' (ok' := fun k => k ≠ rb ∧ k ≠ g_r ∧ w.heap.size ≤ k) hv (fun k hk _ => by have := HL.out; refine ⟨?_, ?_, ?_⟩ <;> omega)
 clear hv hle hl_r
 replace HB := kb_t HB hk (fun i hi => Or.inl hi)
 replace B_l := kb_t B_l hk (fun i hi => Or.inl hi)
 replace B_q := kb_t B_q hk (fun i hi => Or.inl hi)
 replace B_r := kb_t B_r hk (fun i hi => Or.inl hi)
 replace B_n := kb_t B_n hk (fun i hi => Or.inl hi)
 replace B_e := kb_t B_e hk (fun i hi => Or.inl (Or.inl hi))
 clear hk
 have V_v := a0_ hv_
 clear hv_
 have B_v := a0_ (Kb.refl (fun k => k = rb ∨ k = g_r) w107)
 go_wp2_with fail
 with_reducible refine (rate_calls rb (sumO (some 0) (bytesQ ss)) over h0 h1 _ _ RK.out (Res.mono (Res.kb (S := fun k => k = rb ∨ k = g_r) V_v.out B_v.out (fun k h hs => hs.elim h.1 h.2.1)) (fun k h => h.1))).mono ?_
 rw [← HANS.out]
 rintro e w108 ⟨v, rfl, hv, hrk, hk⟩
 obtain ⟨tu, Au, nu, cu, Du, ku, zu, rfl⟩ := hv.agg
 clear RK
 have RK := a0_ hrk
 clear hrk
 clear V_l B_l
 clear V_e B_e
 clear V_v B_v
 clear V_q B_q
 clear V_n B_n
 have hle := Kb.size HB.out
 have hl_r := blk_lt (bk_ V_r B_r N_r)
 have hv_ := Res.mono' (ok' := fun k => k ≠ rb ∧ k ≠ g_r ∧ w.heap.size ≤ k) hv (fun k hk _ => by have := HL.out; refine ⟨?_, ?_, ?_⟩ <;> omega)
 clear hv hle hl_r
 replace HB := kb_t HB hk (fun i hi => Or.inl hi)
 replace B_r := kb_t B_r hk (fun i hi => Or.inl hi)
 clear hk
 have V_u := a0_ hv_
 clear hv_
 have B_u := a0_ (Kb.refl (fun k => k = rb ∨ k = g_r) w108)
 go_wp2_with (first | ((with_reducible refine gt_ 30 10 39 rfl ?_); refine store_ev (p := .tmp 10) (v := .tmp 39) rfl rfl rfl (g := g_r) rfl rfl (bk_ V_r B_r N_r) ?_; intro w109 hbox hk; replace HB := kb_o HB hk G_r; replace B_u := kb_t B_u hk (fun i hi => by exact Or.inl (Or.inr hi)); have Z_ := a0_ (Rk.kb RK.out hk (by have := HL.out; have := G_r.out; omega)); clear RK; have RK := Z_; clear Z_; clear V_r B_r; have V_r := a0_ hbox; have B_r := kr_ rb w109; clear hbox hk))
 refine bodyPost_ret (results_cell_row rfl _ _ g_r 30 #[.bool tu, .slice Au nu cu, .slice Du ku zu] (0, 0) _ rfl (bk_ V_r B_r N_r) Try.underlying30 rfl (by kernel_rfl)) rfl ?_
 exact ⟨_, rfl, ((Res.mono (Res.kb (S := fun k => k = rb ∨ k = g_r) V_u.out B_u.out (fun k h hs => hs.elim h.1 h.2.1)) (fun k h => Or.inr h.2.2))), RK.out, HB.out⟩
def Run7.T14 : Bool × List (List Nat × List Nat) := (true, [([], []), ([], []), ([], []), ([2], [2]), ([1, 3, 3], [1, 3]), ([], []), ([0, 4, 5, 4], [0, 4, 5]), ([6, 6, 0, 1, 2, 3, 4, 5, 6], [6])])
def Run7.B14 : List Nat := [0, 0, 0, 4, 14, 0, 63, 127]
theorem Run7.tab14 : rtab .any (opsOf Try.f30 14) = Run7.T14 := by kernel_rfl
theorem Run7.bits14 : waitsOk Run7.T14.2 Run7.B14 = true := by kernel_rfl
theorem run7_calls {okl : Nat → Prop} (rb : Nat) (over : Int) (ss : List Smp) (qs : List Rat) (hn0 : 0 < ss.length) (hsz : ss.length ≤ 1000000) (w : World) (tq : Bool) (Aq : Option Addr) (nq cq : Nat) (Dq : Option Addr) (kq zq : Nat) (vl : Value) (hr : Rk w rb false) (hl : RowS okl w vl ss) (hok : ∀ k, okl k → k ≠ rb) (hvs : ValS ss qs) :
 Calls Try.prog 30 #[.pointer (some ⟨rb, 0, none⟩), .int .i64 7, .int .i64 over, .agg #[.bool tq, .slice Aq nq cq, .slice Dq kq zq], vl] w fun e w' => ∃ v, e = .returned v ∧ Res (fun k => okl k ∨ w.heap.size ≤ k) w' v (doO (sumO (some 0) qs).isNone (fun x y => x / y) (sumO (some 0) qs) (some (ss.length : Rat))) ∧ Rk w' rb (doO (sumO (some 0) qs).isNone (fun x y => x / y) (sumO (some 0) qs) (some (ss.length : Rat))).isNone ∧ Kb (fun k => k = rb) w w' := by
 obtain ⟨ans, hans⟩ : ∃ a, a = doO (sumO (some 0) qs).isNone (fun x y => x / y) (sumO (some 0) qs) (some (ss.length : Rat)) := ⟨_, rfl⟩
 rw [← hans]
 have HANS := a0_ hans
 clear hans
 have hu30 := Try.underlying30
 have hu39 := Try.underlying39
 obtain ⟨Al, cl, rfl⟩ := hl.slice
 obtain ⟨nl, hnl⟩ : ∃ nl, nl = ss.length := ⟨_, rfl⟩
 rw [← hnl] at hl hn0 hsz ⊢
 have HNL := a0_ (And.intro hnl (And.intro hn0 hsz))
 have hl2 : RowS (fun k => k ≠ rb ∧ (okl k ∧ k < w.heap.size)) w (.slice Al nl cl) ss := RowS.mono' hl (fun k h1 h2 => ⟨hok k h1, h1, h2⟩)
 have HOKL := a0_ hok
 clear hnl hl hok
 have HVS := a0_ hvs
 have HB := kr_ rb w
 have HL := a0_ (Rk.lt hr)
 have RK := a0_ hr
 clear hr
 have V_l := a0_ hl2
 clear hl2
 have B_l := kr_ rb w
 clear hn0 hsz
 go_enter Try.func30, Try.ntmps30
 go_wp2_with (first | ((with_reducible refine gd_ 8 rfl ?_); refine bx_ (N := 8) #[.bool tq, .slice Aq nq cq, .slice Dq kq zq] 30 ?_; intro g_q hg w101 hbox hb; have G_q := kb_g HB hg; replace HB := kb_b HB hb; replace B_l := kb_b B_l hb; replace RK := rk_b RK hb; clear hb; have V_q := a0_ hbox; have B_q := kr_ rb w101; have N_q : Aside0 (¬ (fun k => k = rb) g_q) := ⟨by show ¬ (_ = _); have := HL.out; have := G_q.out; omega⟩; clear hbox hg) | ((with_reducible refine gd_ 10 rfl ?_); refine bx_ (N := 10) #[.bool false, .slice none 0 0, .slice none 0 0] 30 ?_; intro g_r hg w102 hbox hb; have G_r := kb_g HB hg; replace HB := kb_b HB hb; replace B_l := kb_b B_l hb; replace B_q := kb_b B_q hb; replace RK := rk_b RK hb; clear hb; have V_r := a0_ hbox; have B_r := kr_ rb w102; have N_r : Aside0 (¬ (fun k => k = rb) g_r) := ⟨by show ¬ (_ = _); have := HL.out; have := G_r.out; omega⟩; clear hbox hg))
 with_reducible refine (qofn_calls nl HNL.out.2.2 _).mono ?_
 rintro e w103 ⟨⟨v, rfl, hv⟩, hb⟩
 obtain ⟨tn, An, nn, cn, Dn, kn, zn, rfl⟩ := hv.agg
 have hle := Kb.size HB.out
 have hl_r := blk_lt (bk_ V_r B_r N_r)
 have hv_ := IsR.mono' (ok' := fun k => k ≠ rb ∧ k ≠ g_r ∧ w.heap.size ≤ k) hv (fun k hk _ => by have := HL.out; refine ⟨?_, ?_, ?_⟩ <;> omega)
 clear hv hle hl_r
 replace HB := kb_b HB hb
 replace B_l := kb_b B_l hb
 replace B_q := kb_b B_q hb
 replace B_r := kb_b B_r hb
 replace RK := rk_b RK hb
 clear hb
 have V_vn := a0_ hv_
 clear hv_
 have B_vn := a0_ (Kb.refl (fun k => k = rb ∨ k = g_r) w103)
 go_wp2_with (first | ((with_reducible refine gd_ 11 rfl ?_); refine bx_ (N := 11) #[.bool false, .slice none 0 0, .slice none 0 0] 30 ?_; intro g_n hg w104 hbox hb; have G_n := kb_g HB hg; have O_n_l := kb_g B_l hg; have O_n_q := kb_g B_q hg; have O_n_r := kb_g B_r hg; have O_n_vn := kb_g B_vn hg; replace HB := kb_b HB hb; replace B_l := kb_b B_l hb; replace B_q := kb_b B_q hb; replace B_r := kb_b B_r hb; replace B_vn := kb_b B_vn hb; replace RK := rk_b RK hb; clear hb; have V_n := a0_ hbox; have B_n := kr_ rb w104; have N_n : Aside0 (¬ (fun k => k = rb) g_n) := ⟨by show ¬ (_ = _); have := HL.out; have := G_n.out; omega⟩; clear hbox hg) | ((with_reducible refine gt_ 30 11 14 rfl ?_); refine store_ev (p := .tmp 11) (v := .tmp 14) rfl rfl rfl (g := g_n) rfl rfl (bk_ V_n B_n N_n) ?_; intro w105 hbox hk; replace HB := kb_o HB hk G_n; replace B_l := kb_o B_l hk O_n_l; replace B_q := kb_o B_q hk O_n_q; replace B_r := kb_o B_r hk O_n_r; replace B_vn := kb_o B_vn hk O_n_vn; have Z_ := a0_ (Rk.kb RK.out hk (by have := HL.out; have := G_n.out; omega)); clear RK; have RK := Z_; clear Z_; clear V_n B_n; have V_n := a0_ hbox; have B_n := kr_ rb w105; clear hbox hk))
 have hb : Below w105.heap.size w105 w105.drew := below_drew1 (Below.refl _ _)
 replace HB := kb_b HB hb
 replace B_l := kb_b B_l hb
 replace B_q := kb_b B_q hb
 replace B_r := kb_b B_r hb
 replace B_vn := kb_b B_vn hb
 replace B_n := kb_b B_n hb
 replace RK := rk_b RK hb
 clear hb
 refine start_ (n := 8) (S := fun w' => w'.heap[g_n]? = some (.cells #[.bool tn, .slice An nn cn, .slice Dn kn zn] 30 (0, 0))) (ds := []) (tB_ 8 0) (by kernel_rfl) rfl (by kernel_rfl) (bk_ V_n B_n N_n) (fun hHeld => ?_)
 refine with_tabW Run7.tab14 Run7.bits14 (fun HT_ HW_ => ?_)
 generalize w105.drew = w106 at HB RK B_l B_q B_r B_vn B_n hHeld ⊢
 refine pu_ 0 (some 48) 1 HT_ ?_
 refine pu_ 1 (some 49) 3 HT_ ?_
 refine pu_ 2 (some 50) 7 HT_ ?_
 refine tk_ 5 (some 53) 39 HT_ HW_ hHeld ?_ ?_ ?_ ?_ ?_
 rotate_left
 · intro w' hs
   have hb_ := hs
   obtain ⟨c0_, c1_, c2_⟩ := b3_ hb_
   clear hb_ hs
   go_simp
   with_reducible rfl
 rotate_left
 · simp only [PU]
   rfl
 refine on_ 3 (some 51) 47 HT_ (fun K hK => ?_)
 refine gs_ Try.func42 #[.slice Al nl cl, .func (.func 44) #[] #[]] ?_
 refine (each_value ss qs hvs (by rw [← HNL.out.1]; exact HNL.out.2.2) _ _ (RowS.kb (S := fun k => k = rb) V_l.out B_l.out (fun k h hs => absurd hs h.1))).mono ?_
 rintro e w107 ⟨⟨v51, rfl, hv⟩, hb⟩
 obtain ⟨Ae, ce, rfl⟩ := RowQ.slice hv
 refine ⟨_, rfl, ?_⟩
 refine hK.out _ _ (by exact blk_below hHeld hb) (fun hHeld => ?_)
 clear hK K
 refine nm_ (some 51) ?_
 have hle := Kb.size HB.out
 have hlr := blk_lt (bk_ V_r B_r N_r)
 have hv_ := RowQ.mono' (ok' := fun k => k ≠ rb ∧ k ≠ g_r ∧ (okl k ∨ w.heap.size ≤ k)) hv (fun k hk _ => by
  have := HL.out
  have h3 := G_r.out
  rcases hk with hk | hk
  · exact ⟨hk.1, fun e => by have := hk.2.2; omega, Or.inl hk.2.1⟩
  · exact ⟨by omega, by omega, Or.inr (by omega)⟩)
 clear hv hle hlr
 replace HB := kb_b HB hb
 replace B_l := kb_b B_l hb
 replace B_q := kb_b B_q hb
 replace B_r := kb_b B_r hb
 replace B_vn := kb_b B_vn hb
 replace B_n := kb_b B_n hb
 replace RK := rk_b RK hb
 clear hb
 have V_e := a0_ hv_
 clear hv_
 have B_e := a0_ (Kb.refl (fun k => k = rb ∨ k = g_r) w107)
 refine on_ 4 (some 52) 63 HT_ (fun K hK => ?_)
 refine gs_ Try.func41 #[.pointer (some ⟨rb, 0, none⟩), .slice Ae qs.length ce] ?_
 refine (rsum_calls rb qs _ _ RK.out (RowQ.mono (RowQ.kb (S := fun k => k = rb ∨ k = g_r) V_e.out B_e.out (fun k h hs => hs.elim h.1 h.2.1)) (fun k h => h.1)) (by rw [ValS.len hvs, ← HNL.out.1]; have := HNL.out.2.2; omega)).mono ?_
 rintro e w108 ⟨v52, rfl, hv, hrk, hk⟩
 obtain ⟨tv, Av, nv, cv, Dv, kv, zv, rfl⟩ := hv.agg
 refine ⟨_, rfl, ?_⟩
 refine hK.out _ _ (by exact Kb.blk hHeld hk N_n.out) (fun hHeld => ?_)
 clear hK K
 refine nm_ (some 52) ?_
 clear RK
 have RK := a0_ hrk
 clear hrk
 have hle := Kb.size HB.out
 have hl_r := blk_lt (bk_ V_r B_r N_r)
 have hv_ := Res.mono' (ok' := fun k => k ≠ rb ∧ k ≠ g_r ∧ w.heap.size ≤ k) hv (fun k hk _ => by have := HL.out; refine ⟨?_, ?_, ?_⟩ <;> omega)
 clear hv hle hl_r
 replace HB := kb_t HB hk (fun i hi => Or.inl hi)
 replace B_l := kb_t B_l hk (fun i hi => Or.inl hi)
 replace B_q := kb_t B_q hk (fun i hi => Or.inl hi)
 replace B_r := kb_t B_r hk (fun i hi => Or.inl hi)
 replace B_vn := kb_t B_vn hk (fun i hi => Or.inl (Or.inl hi))
 replace B_n := kb_t B_n hk (fun i hi => Or.inl hi)
 replace B_e := kb_t B_e hk (fun i hi => Or.inl (Or.inl hi))
 clear hk
 have V_v := a0_ hv_
 clear hv_
 have B_v := a0_ (Kb.refl (fun k => k = rb ∨ k = g_r) w108)
 refine on_ 6 (some 54) 127 HT_ (fun K hK => ?_)
 refine gs_ Try.func45 #[.pointer (some ⟨rb, 0, none⟩), .func (.func 27) #[] #[], .agg #[.bool tv, .slice Av nv cv, .slice Dv kv zv], .agg #[.bool tn, .slice An nn cn, .slice Dn kn zn]] ?_
 refine (do_any qdiv_op (enters_run (enters_of (P := Try.prog) Try.func27 (by kernel_rfl) rfl)) rb (sumO (some 0) qs).isNone (sumO (some 0) qs) (some (nl : Rat)) _ _ _ RK.out (Res.mono (Res.kb (S := fun k => k = rb ∨ k = g_r) V_v.out B_v.out (fun k h hs => hs.elim h.1 h.2.1)) (fun k h => h.1)) (IsR.res (IsR.mono (IsR.kb (S := fun k => k = rb ∨ k = g_r) V_vn.out B_vn.out (fun k h hs => hs.elim h.1 h.2.1)) (fun k h => h.1))) (one_dom _ _ (fun _ => by show (nl : Rat).num ≠ 0; rw [Rat.num_natCast]; have := HNL.out.2.1; omega))).mono ?_
 rintro e w109 ⟨v54, rfl, hv, hrk, hk⟩
 obtain ⟨tu, Au, nu, cu, Du, ku, zu, rfl⟩ := hv.agg
 refine ⟨_, rfl, ?_⟩
 refine hK.out _ _ (by exact Kb.blk hHeld hk N_n.out) (fun hHeld => ?_)
 clear hK K
 refine nm_ (some 54) ?_
 have h9 := HANS.out
 rw [← HNL.out.1] at h9
 rw [doO_er] at hrk
 rw [← h9] at hv hrk
 clear h9 RK
 have RK := a0_ hrk
 clear hrk
 have hle := Kb.size HB.out
 have hl_r := blk_lt (bk_ V_r B_r N_r)
 have hv_ := Res.mono' (ok' := fun k => k ≠ rb ∧ k ≠ g_r ∧ w.heap.size ≤ k) hv (fun k hk _ => by have := HL.out; refine ⟨?_, ?_, ?_⟩ <;> omega)
 clear hv hle hl_r
 replace HB := kb_t HB hk (fun i hi => Or.inl hi)
 replace B_l := kb_t B_l hk (fun i hi => Or.inl hi)
 replace B_q := kb_t B_q hk (fun i hi => Or.inl hi)
 replace B_r := kb_t B_r hk (fun i hi => Or.inl hi)
 replace B_vn := kb_t B_vn hk (fun i hi => Or.inl (Or.inl hi))
 replace B_n := kb_t B_n hk (fun i hi => Or.inl hi)
 replace B_e := kb_t B_e hk (fun i hi => Or.inl (Or.inl hi))
 replace B_v := kb_t B_v hk (fun i hi => Or.inl (Or.inl hi))
 clear hk
 have V_u := a0_ hv_
 clear hv_
 have B_u := a0_ (Kb.refl (fun k => k = rb ∨ k = g_r) w109)
 clear V_l B_l
 clear V_e B_e
 clear V_v B_v
 clear V_vn B_vn
 clear B_n V_q B_q
 refine on_ 7 none 255 HT_ (fun K hK => ?_)
 have bk_r := bk_ V_r B_r N_r
 have hz_r_0 : w109.cell? ⟨g_r, 0, none⟩ = some (.bool false) := (blk_cell bk_r 0).trans rfl
 have hf_r_0 := blk_frozen bk_r 0
 have hz_r_1 : w109.cell? ⟨g_r, 1, none⟩ = some (.slice none 0 0) := (blk_cell bk_r 1).trans rfl
 have hf_r_1 := blk_frozen bk_r 1
 have hz_r_2 : w109.cell? ⟨g_r, 2, none⟩ = some (.slice none 0 0) := (blk_cell bk_r 2).trans rfl
 have hf_r_2 := blk_frozen bk_r 2
 clear bk_r
 refine skip_ (w1 := ((w109.setCell ⟨g_r, 0, none⟩ (.bool tu)).setCell ⟨g_r, 1, none⟩ (.slice Au nu cu)).setCell ⟨g_r, 2, none⟩ (.slice Du ku zu)) (by rfl) rfl ?_ ?_
 · first | (go_simp; done) | (go_simp; rfl)
 clear hz_r_0 hf_r_0 hz_r_1 hf_r_1 hz_r_2 hf_r_2
 have hbox : (((w109.setCell ⟨g_r, 0, none⟩ (.bool tu)).setCell ⟨g_r, 1, none⟩ (.slice Au nu cu)).setCell ⟨g_r, 2, none⟩ (.slice Du ku zu)).heap[g_r]? = some (.cells #[.bool tu, .slice Au nu cu, .slice Du ku zu] 30 (0, 0)) := blk_put (blk_put (blk_put (bk_ V_r B_r N_r) 0 _ rfl) 1 _ rfl) 2 _ rfl
 have hk : Kb (fun k => k = g_r) w109 (((w109.setCell ⟨g_r, 0, none⟩ (.bool tu)).setCell ⟨g_r, 1, none⟩ (.slice Au nu cu)).setCell ⟨g_r, 2, none⟩ (.slice Du ku zu)) := (((Kb.refl (fun k => k = g_r) w109).setCell (p := ⟨g_r, 0, none⟩) (Or.inl rfl) _).setCell (p := ⟨g_r, 1, none⟩) (Or.inl rfl) _).setCell (p := ⟨g_r, 2, none⟩) (Or.inl rfl) _
 refine hK.out _ _ (by have q_ := hHeld; exact Kb.blk q_ hk (show ¬ (g_n = g_r) from fun e => by have := blk_lt V_r.out; have := O_n_r.out; omega)) (fun hHeld => ?_)
 clear hK K
 obtain ⟨w110, hw_⟩ : ∃ x, x = ((w109.setCell ⟨g_r, 0, none⟩ (.bool tu)).setCell ⟨g_r, 1, none⟩ (.slice Au nu cu)).setCell ⟨g_r, 2, none⟩ (.slice Du ku zu) := ⟨_, rfl⟩
 rw [← hw_] at hk hbox hHeld ⊢
 clear hw_
 replace HB := kb_o HB hk G_r
 replace B_u := kb_t B_u hk (fun i hi => by exact Or.inl (Or.inr hi))
 have Z_ := a0_ (Rk.kb RK.out hk (by have := HL.out; have := G_r.out; omega))
 clear RK
 have RK := Z_
 clear Z_
 clear V_r B_r
 have V_r := a0_ hbox
 have B_r := kr_ rb w110
 clear hbox hk
 refine do_ HT_ ?_
 clear HT_ HW_ hHeld
 go_wp2_with fail
 refine bodyPost_ret (results_cell_row rfl _ _ g_r 30 #[.bool tu, .slice Au nu cu, .slice Du ku zu] (0, 0) _ rfl (bk_ V_r B_r N_r) Try.underlying30 rfl (by kernel_rfl)) rfl ?_
 exact ⟨_, rfl, ((Res.mono (Res.kb (S := fun k => k = rb ∨ k = g_r) V_u.out B_u.out (fun k h hs => hs.elim h.1 h.2.1)) (fun k h => Or.inr h.2.2))), RK.out, HB.out⟩
def Run12.T23 : Bool × List (List Nat × List Nat) := (true, [([], []), ([], []), ([], []), ([2], [2]), ([3, 3], [3]), ([0, 1, 4, 4], [0, 1, 4]), ([5, 5, 0, 1, 2, 3, 4, 5], [5])])
def Run12.B23 : List Nat := [0, 0, 0, 4, 12, 31, 63]
theorem Run12.tab23 : rtab .any (opsOf Try.f30 23) = Run12.T23 := by kernel_rfl
theorem Run12.bits23 : waitsOk Run12.T23.2 Run12.B23 = true := by kernel_rfl
theorem run12_calls {okl : Nat → Prop} (rb : Nat) (over : Int) (ss : List Smp) (qs : List Rat) (q : Rat) (hq0 : 0 ≤ q) (hq1 : q ≤ 1) (hn0 : 0 < ss.length) (hsz : ss.length ≤ 1000000) (w : World) (vq : Value) (vl : Value) (hr : Rk w rb false) (hl : RowS okl w vl ss) (hok : ∀ k, okl k → k ≠ rb) (hvs : ValS ss qs) (h20 : ss.length ≤ 1000000) (hq : IsR (fun k => k ≠ rb) w vq q) :
 Calls Try.prog 30 #[.pointer (some ⟨rb, 0, none⟩), .int .i64 12, .int .i64 over, vq, vl] w fun e w' => ∃ v qs', e = .returned v ∧ qs'.Perm qs ∧ qs'.Pairwise (· ≤ ·) ∧ Res (fun k => okl k ∨ w.heap.size ≤ k) w' v (quantO q qs') ∧ Rk w' rb (quantO q qs').isNone ∧ Kb (fun k => k = rb) w w' := by
 have hu30 := Try.underlying30
 have hu39 := Try.underlying39
 obtain ⟨Al, cl, rfl⟩ := hl.slice
 obtain ⟨nl, hnl⟩ : ∃ nl, nl = ss.length := ⟨_, rfl⟩
 rw [← hnl] at hl hn0 hsz ⊢
 have HNL := a0_ (And.intro hnl (And.intro hn0 hsz))
 have hl2 : RowS (fun k => k ≠ rb ∧ (okl k ∧ k < w.heap.size)) w (.slice Al nl cl) ss := RowS.mono' hl (fun k h1 h2 => ⟨hok k h1, h1, h2⟩)
 have HOKL := a0_ hok
 clear hnl hl hok
 have HVS := a0_ hvs
 have H20 := a0_ h20
 have HQ01 := a0_ (And.intro hq0 hq1)
 clear h20 hq0 hq1
 obtain ⟨tq, Aq, nq, cq, Dq, kq, zq, rfl⟩ := hq.agg
 have HB := kr_ rb w
 have HL := a0_ (Rk.lt hr)
 have RK := a0_ hr
 clear hr
 have V_l := a0_ hl2
 clear hl2
 have B_l := kr_ rb w
 have V_vq := a0_ hq
 clear hq
 have B_vq := kr_ rb w
 clear hn0 hsz
 go_enter Try.func30, Try.ntmps30
 go_wp2_with (first | ((with_reducible refine gd_ 8 rfl ?_); refine bx_ (N := 8) #[.bool tq, .slice Aq nq cq, .slice Dq kq zq] 30 ?_; intro g_q hg w101 hbox hb; have G_q := kb_g HB hg; replace HB := kb_b HB hb; replace B_l := kb_b B_l hb; replace B_vq := kb_b B_vq hb; replace RK := rk_b RK hb; clear hb; have V_q := a0_ hbox; have B_q := kr_ rb w101; have N_q : Aside0 (¬ (fun k => k = rb) g_q) := ⟨by show ¬ (_ = _); have := HL.out; have := G_q.out; omega⟩; clear hbox hg) | ((with_reducible refine gd_ 10 rfl ?_); refine bx_ (N := 10) #[.bool false, .slice none 0 0, .slice none 0 0] 30 ?_; intro g_r hg w102 hbox hb; have G_r := kb_g HB hg; have O_r_q := kb_g B_q hg; replace HB := kb_b HB hb; replace B_l := kb_b B_l hb; replace B_vq := kb_b B_vq hb; replace B_q := kb_b B_q hb; replace RK := rk_b RK hb; clear hb; have V_r := a0_ hbox; have B_r := kr_ rb w102; have N_r : Aside0 (¬ (fun k => k = rb) g_r) := ⟨by show ¬ (_ = _); have := HL.out; have := G_r.out; omega⟩; clear hbox hg))
 with_reducible refine (qofn_calls nl HNL.out.2.2 _).mono ?_
 rintro e w103 ⟨⟨v, rfl, hv⟩, hb⟩
 obtain ⟨tn, An, nn, cn, Dn, kn, zn, rfl⟩ := hv.agg
 have hle := Kb.size HB.out
 have hl_r := blk_lt (bk_ V_r B_r N_r)
 have hv_ := IsR.mono' (ok' := fun k => k ≠ rb ∧ k ≠ g_r ∧ w.heap.size ≤ k) hv (fun k hk _ => by have := HL.out; refine ⟨?_, ?_, ?_⟩ <;> omega)
 clear hv hle hl_r
 replace HB := kb_b HB hb
 replace B_l := kb_b B_l hb
 replace B_vq := kb_b B_vq hb
 replace B_q := kb_b B_q hb
 replace B_r := kb_b B_r hb
 replace RK := rk_b RK hb
 clear hb
 have V_vn := a0_ hv_
 clear hv_
 have B_vn := a0_ (Kb.refl (fun k => k = rb ∨ k = g_r) w103)
 go_wp2_with (first | ((with_reducible refine gd_ 11 rfl ?_); refine bx_ (N := 11) #[.bool false, .slice none 0 0, .slice none 0 0] 30 ?_; intro g_n hg w104 hbox hb; have G_n := kb_g HB hg; have O_n_l := kb_g B_l hg; have O_n_vq := kb_g B_vq hg; have O_n_q := kb_g B_q hg; have O_n_r := kb_g B_r hg; have O_n_vn := kb_g B_vn hg; replace HB := kb_b HB hb; replace B_l := kb_b B_l hb; replace B_vq := kb_b B_vq hb; replace B_q := kb_b B_q hb; replace B_r := kb_b B_r hb; replace B_vn := kb_b B_vn hb; replace RK := rk_b RK hb; clear hb; have V_n := a0_ hbox; have B_n := kr_ rb w104; have N_n : Aside0 (¬ (fun k => k = rb) g_n) := ⟨by show ¬ (_ = _); have := HL.out; have := G_n.out; omega⟩; clear hbox hg) | ((with_reducible refine gt_ 30 11 14 rfl ?_); refine store_ev (p := .tmp 11) (v := .tmp 14) rfl rfl rfl (g := g_n) rfl rfl (bk_ V_n B_n N_n) ?_; intro w105 hbox hk; replace HB := kb_o HB hk G_n; replace B_l := kb_o B_l hk O_n_l; replace B_vq := kb_o B_vq hk O_n_vq; replace B_q := kb_o B_q hk O_n_q; replace B_r := kb_o B_r hk O_n_r; replace B_vn := kb_o B_vn hk O_n_vn; have Z_ := a0_ (Rk.kb RK.out hk (by have := HL.out; have := G_n.out; omega)); clear RK; have RK := Z_; clear Z_; clear V_n B_n; have V_n := a0_ hbox; have B_n := kr_ rb w105; clear hbox hk))
 clear V_vn B_vn
 have hb : Below w105.heap.size w105 w105.drew := below_drew1 (Below.refl _ _)
 replace HB := kb_b HB hb
 replace B_l := kb_b B_l hb
 replace B_vq := kb_b B_vq hb
 replace B_q := kb_b B_q hb
 replace B_r := kb_b B_r hb
 replace B_n := kb_b B_n hb
 replace RK := rk_b RK hb
 clear hb
 refine start_ (n := 7) (S := fun w' => w'.heap[g_q]? = some (.cells #[.bool tq, .slice Aq nq cq, .slice Dq kq zq] 30 (0, 0))) (ds := []) (tB_ 7 0) (by kernel_rfl) rfl (by kernel_rfl) (bk_ V_q B_q N_q) (fun hHeld => ?_)
 refine with_tabW Run12.tab23 Run12.bits23 (fun HT_ HW_ => ?_)
 generalize w105.drew = w106 at HB RK B_l B_vq B_q B_r B_n hHeld ⊢
 refine pu_ 0 (some 80) 1 HT_ ?_
 refine tk_ 1 (some 81) 3 HT_ HW_ hHeld ?_ ?_ ?_ ?_ ?_
 rotate_left
 · intro w' hs
   have hb_ := hs
   obtain ⟨c0_, c1_, c2_⟩ := b3_ hb_
   clear hb_ hs
   go_simp
   with_reducible rfl
 rotate_left
 · simp only [PU]
   rfl
 refine pu_ 2 (some 82) 7 HT_ ?_
 refine on_ 3 (some 83) 15 HT_ (fun K hK => ?_)
 refine gs_ Try.func42 #[.slice Al nl cl, .func (.func 44) #[] #[]] ?_
 refine (each_value ss qs hvs (by rw [← HNL.out.1]; exact HNL.out.2.2) _ _ (RowS.kb (S := fun k => k = rb) V_l.out B_l.out (fun k h hs => absurd hs h.1))).mono ?_
 rintro e w107 ⟨⟨v83, rfl, hv⟩, hb⟩
 obtain ⟨Ae, ce, rfl⟩ := RowQ.slice hv
 refine ⟨_, rfl, ?_⟩
 refine hK.out _ _ (by exact blk_below hHeld hb) (fun hHeld => ?_)
 clear hK K
 refine nm_ (some 83) ?_
 have hle := Kb.size HB.out
 have hlr := blk_lt (bk_ V_r B_r N_r)
 have hv_ := RowQ.mono' (ok' := fun k => k ≠ rb ∧ k ≠ g_r ∧ (okl k ∨ w.heap.size ≤ k)) hv (fun k hk _ => by
  have := HL.out
  have h3 := G_r.out
  rcases hk with hk | hk
  · exact ⟨hk.1, fun e => by have := hk.2.2; omega, Or.inl hk.2.1⟩
  · exact ⟨by omega, by omega, Or.inr (by omega)⟩)
 clear hv hle hlr
 replace HB := kb_b HB hb
 replace B_l := kb_b B_l hb
 replace B_vq := kb_b B_vq hb
 replace B_q := kb_b B_q hb
 replace B_r := kb_b B_r hb
 replace B_n := kb_b B_n hb
 replace RK := rk_b RK hb
 clear hb
 have V_e := a0_ hv_
 clear hv_
 have B_e := a0_ (Kb.refl (fun k => k = rb ∨ k = g_r) w107)
 refine on_ 4 (some 84) 31 HT_ (fun K hK => ?_)
 refine gs_ Try.func49 #[.slice Ae qs.length ce, .func (.func 39) #[] #[]] ?_
 refine (sorted_calls (ok := fun k => k ≠ rb ∧ k ≠ g_r ∧ (okl k ∨ w.heap.size ≤ k)) qs (by rw [hvs.1, ← HNL.out.1]; exact HNL.out.2.1) (by rw [hvs.1]; exact H20.out) _ _ (RowQ.kb (S := fun k => k = rb ∨ k = g_r) V_e.out B_e.out (fun k h hs => hs.elim h.1 h.2.1))).mono ?_
 rintro e w108 ⟨⟨v84, qs', rfl, hpm, hpw, hv⟩, hb⟩
 have HPM := a0_ (And.intro hpm hpw)
 clear hpm hpw
 obtain ⟨Ag, cg, rfl⟩ := RowQ.slice hv
 refine ⟨_, rfl, ?_⟩
 refine hK.out _ _ (by exact blk_below hHeld hb) (fun hHeld => ?_)
 clear hK K
 refine nm_ (some 84) ?_
 have hle := Kb.size HB.out
 have hlr := blk_lt (bk_ V_r B_r N_r)
 have hv_ := RowQ.mono' (ok' := fun k => k ≠ rb ∧ k ≠ g_r ∧ (okl k ∨ w.heap.size ≤ k)) hv (fun k hk _ => by
  have := HL.out
  rcases hk with hk | hk
  · exact hk
  · exact ⟨by omega, by omega, Or.inr (by omega)⟩)
 clear hv hle hlr
 replace HB := kb_b HB hb
 replace B_l := kb_b B_l hb
 replace B_vq := kb_b B_vq hb
 replace B_q := kb_b B_q hb
 replace B_r := kb_b B_r hb
 replace B_n := kb_b B_n hb
 replace B_e := kb_b B_e hb
 replace RK := rk_b RK hb
 clear hb
 have V_g := a0_ hv_
 clear hv_
 have B_g := a0_ (Kb.refl (fun k => k = rb ∨ k = g_r) w108)
 refine on_ 5 (some 85) 63 HT_ (fun K hK => ?_)
 refine gs_ Try.func48 #[.pointer (some ⟨rb, 0, none⟩), .agg #[.bool tq, .slice Aq nq cq, .slice Dq kq zq], .slice Ag qs'.length cg] ?_
 refine (quantile_calls (okl := fun k => k ≠ rb ∧ k ≠ g_r ∧ (okl k ∨ w.heap.size ≤ k)) rb q qs' HQ01.out.1 HQ01.out.2 (by rw [HPM.out.1.length_eq, hvs.1, ← HNL.out.1]; exact HNL.out.2.1) (by rw [HPM.out.1.length_eq, hvs.1, ← HNL.out.1]; exact HNL.out.2.2) _ _ _ RK.out (IsR.kb (S := fun k => k = rb) V_vq.out B_vq.out (fun _ h => h)) (RowQ.kb (S := fun k => k = rb ∨ k = g_r) V_g.out B_g.out (fun k h hs => hs.elim h.1 h.2.1)) (fun k h => h.1)).mono ?_
 rintro e w109 ⟨v85, rfl, hv, hrk, hk⟩
 obtain ⟨tu, Au, nu, cu, Du, ku, zu, rfl⟩ := hv.agg
 refine ⟨_, rfl, ?_⟩
 refine hK.out _ _ (by exact Kb.blk hHeld hk N_q.out) (fun hHeld => ?_)
 clear hK K
 refine nm_ (some 85) ?_
 clear RK
 have RK := a0_ hrk
 clear hrk
 have hle := Kb.size HB.out
 have hlr := blk_lt (bk_ V_r B_r N_r)
 have hv_ := Res.mono' (ok' := fun k => k ≠ rb ∧ k ≠ g_r ∧ (okl k ∨ w.heap.size ≤ k)) hv (fun k hk _ => by
  have := HL.out
  rcases hk with hk | hk
  · exact hk
  · exact ⟨by omega, by omega, Or.inr (by omega)⟩)
 clear hv hle hlr
 replace HB := kb_t HB hk (fun i hi => Or.inl hi)
 replace B_l := kb_t B_l hk (fun i hi => Or.inl hi)
 replace B_vq := kb_t B_vq hk (fun i hi => Or.inl hi)
 replace B_q := kb_t B_q hk (fun i hi => Or.inl hi)
 replace B_r := kb_t B_r hk (fun i hi => Or.inl hi)
 replace B_n := kb_t B_n hk (fun i hi => Or.inl hi)
 replace B_e := kb_t B_e hk (fun i hi => Or.inl (Or.inl hi))
 replace B_g := kb_t B_g hk (fun i hi => Or.inl (Or.inl hi))
 clear hk
 have V_u := a0_ hv_
 clear hv_
 have B_u := a0_ (Kb.refl (fun k => k = rb ∨ k = g_r) w109)
 clear V_l B_l
 clear V_e B_e
 clear V_g B_g
 clear V_vq B_vq
 clear B_q V_n B_n
 refine on_ 6 none 127 HT_ (fun K hK => ?_)
 have bk_r := bk_ V_r B_r N_r
 have hz_r_0 : w109.cell? ⟨g_r, 0, none⟩ = some (.bool false) := (blk_cell bk_r 0).trans rfl
 have hf_r_0 := blk_frozen bk_r 0
 have hz_r_1 : w109.cell? ⟨g_r, 1, none⟩ = some (.slice none 0 0) := (blk_cell bk_r 1).trans rfl
 have hf_r_1 := blk_frozen bk_r 1
 have hz_r_2 : w109.cell? ⟨g_r, 2, none⟩ = some (.slice none 0 0) := (blk_cell bk_r 2).trans rfl
 have hf_r_2 := blk_frozen bk_r 2
 clear bk_r
 refine skip_ (w1 := ((w109.setCell ⟨g_r, 0, none⟩ (.bool tu)).setCell ⟨g_r, 1, none⟩ (.slice Au nu cu)).setCell ⟨g_r, 2, none⟩ (.slice Du ku zu)) (by rfl) rfl ?_ ?_
 · first | (go_simp; done) | (go_simp; rfl)
 clear hz_r_0 hf_r_0 hz_r_1 hf_r_1 hz_r_2 hf_r_2
 have hbox : (((w109.setCell ⟨g_r, 0, none⟩ (.bool tu)).setCell ⟨g_r, 1, none⟩ (.slice Au nu cu)).setCell ⟨g_r, 2, none⟩ (.slice Du ku zu)).heap[g_r]? = some (.cells #[.bool tu, .slice Au nu cu, .slice Du ku zu] 30 (0, 0)) := blk_put (blk_put (blk_put (bk_ V_r B_r N_r) 0 _ rfl) 1 _ rfl) 2 _ rfl
 have hk : Kb (fun k => k = g_r) w109 (((w109.setCell ⟨g_r, 0, none⟩ (.bool tu)).setCell ⟨g_r, 1, none⟩ (.slice Au nu cu)).setCell ⟨g_r, 2, none⟩ (.slice Du ku zu)) := (((Kb.refl (fun k => k = g_r) w109).setCell (p := ⟨g_r, 0, none⟩) (Or.inl rfl) _).setCell (p := ⟨g_r, 1, none⟩) (Or.inl rfl) _).setCell (p := ⟨g_r, 2, none⟩) (Or.inl rfl) _
 refine hK.out _ _ (by have q_ := hHeld; exact Kb.blk q_ hk (show ¬ (g_q = g_r) from fun e => by have := blk_lt V_q.out; have := O_r_q.out; omega)) (fun hHeld => ?_)
 clear hK K
 obtain ⟨w110, hw_⟩ : ∃ x, x = ((w109.setCell ⟨g_r, 0, none⟩ (.bool tu)).setCell ⟨g_r, 1, none⟩ (.slice Au nu cu)).setCell ⟨g_r, 2, none⟩ (.slice Du ku zu) := ⟨_, rfl⟩
 rw [← hw_] at hk hbox hHeld ⊢
 clear hw_
 replace HB := kb_o HB hk G_r
 replace B_u := kb_t B_u hk (fun i hi => by exact Or.inl (Or.inr hi))
 have Z_ := a0_ (Rk.kb RK.out hk (by have := HL.out; have := G_r.out; omega))
 clear RK
 have RK := Z_
 clear Z_
 clear V_r B_r
 have V_r := a0_ hbox
 have B_r := kr_ rb w110
 clear hbox hk
 refine do_ HT_ ?_
 clear HT_ HW_ hHeld
 go_wp2_with fail
 refine bodyPost_ret (results_cell_row rfl _ _ g_r 30 #[.bool tu, .slice Au nu cu, .slice Du ku zu] (0, 0) _ rfl (bk_ V_r B_r N_r) Try.underlying30 rfl (by kernel_rfl)) rfl ?_
 exact ⟨_, qs', rfl, HPM.out.1, HPM.out.2, ((Res.mono (Res.kb (S := fun k => k = rb ∨ k = g_r) V_u.out B_u.out (fun k h hs => hs.elim h.1 h.2.1)) (fun k h => h.2.2))), RK.out, HB.out⟩
theorem IsR.sign {ok : Nat → Prop} {w : World} {t : Bool} {a b : Value} {x : Rat} (h : IsR ok w (.agg #[.bool t, a, b]) x) : t = decide (x.num < 0) := by
 obtain ⟨_, v1, v2, e, _⟩ := h
 injection e with e
 have h0 := congrArg (fun l => l[0]?) e
 simpa using h0
theorem cmp_as {F : Nat} {args : Array Value} {w : World} {c d : Int} (h : Calls Try.prog F args w fun e w' => e = .returned (.int .i64 d) ∧ Below w.heap.size w w') (e : c = d) : Calls Try.prog F args w fun e w' => e = .returned (.int .i64 c) ∧ Below w.heap.size w w' := by rw [e]; exact h
def May1.T9 : Bool × List (List Nat × List Nat) := (true, [([], []), ([0], [0]), ([1], [1]), ([2], [2]), ([3, 2, 2], [2, 3]), ([4, 2], [2, 4]), ([5, 4, 2], [2, 5]), ([6], [6]), ([7, 6], [6, 7]), ([8, 6], [6, 8]), ([6, 9, 2], [2, 6, 9]), ([10, 6, 2], [2, 10]), ([11], [11]), ([11, 11], [11]), ([12, 13, 13, 11], [11, 12, 13]), ([14, 11], [11, 14]), ([11, 15, 2], [2, 11, 15]), ([2, 16], [2, 16]), ([17, 14, 0, 1, 2, 3, 4, 5, 6, 7, 8, 9, 10, 11, 12, 13, 14, 15, 16, 17], [17])])
def May1.B9 : List Nat := [0, 1, 3, 7, 15, 31, 63, 127, 255, 511, 1023, 2047, 4095, 4095, 16383, 32767, 65535, 131071, 262143]
theorem May1.tab9 : rtab .any (opsOf Try.f29 9) = May1.T9 := by kernel_rfl
theorem May1.bits9 : waitsOk May1.T9.2 May1.B9 = true := by kernel_rfl
theorem may1_calls {okl : Nat → Prop} (over : Int) (h0 : 1 ≤ over) (h1 : over ≤ 9007199254740991) (ss : List Smp) (hby : ByS ss) (hsz : ss.length ≤ 1000000) (w : World) (tq : Bool) (Aq : Option Addr) (nq cq : Nat) (Dq : Option Addr) (kq zq : Nat) (vl : Value) (hl : RowS okl w vl ss) :
 Calls Try.prog 29 #[.int .i64 1, .int .i64 over, .agg #[.bool tq, .slice Aq nq cq, .slice Dq kq zq], vl] w fun e w' => e = .returned (.bool true) ∧ Below w.heap.size w w' := by
 have hu30 := Try.underlying30
 have hu39 := Try.underlying39
 obtain ⟨Al, cl, rfl⟩ := hl.slice
 obtain ⟨nl, hnl⟩ : ∃ nl, nl = ss.length := ⟨_, rfl⟩
 rw [← hnl] at hl hsz ⊢
 have HNL := a0_ (And.intro hnl hsz)
 have HBY := a0_ hby
 have e3 : ¬ over < 1 := by omega
 have e4 : ¬ 9007199254740991 < over := by omega
 clear hnl hby hsz h0 h1
 have HB := kf_ w
 have V_l := a0_ hl
 clear hl
 have B_l := kf_ w
 go_enter Try.func29, Try.ntmps29
 go_wp2_with (first | ((with_reducible refine gd_ 6 rfl ?_); refine bx_ (N := 6) #[.bool tq, .slice Aq nq cq, .slice Dq kq zq] 30 ?_; intro g_q hg w101 hbox hb; have G_q := kb_g HB hg; replace HB := kb_b HB hb; replace B_l := kb_b B_l hb; clear hb; have V_q := a0_ hbox; have B_q := kf_ w101; have N_q := nf_ g_q; clear hbox hg))
 go_loopg [27] nl (fun kg v27 wr => ∃ (j : Nat), v27 = .int .i64 j ∧ Aside0 (j + kg = nl) ∧ Aside0 (Kb (fun k => False) w wr) ∧ Aside0 (Kb (fun k => False) w101 wr))
 case atStart => exact ⟨0, rfl, ⟨by omega⟩, HB, B_q⟩
 case round =>
  obtain ⟨j, rfl, HJ, HB2, HQB⟩ := hrel
  clear HB B_l B_q
  have HB := HB2
  clear HB2
  have B_l := HB
  have B_q := HQB
  clear HQB
  by_cases hlt : j < nl
  · have hz : (j : Int) < (nl : Int) := by omega
    have e1 : IntKind.i64.wrap ((j : Int) + 1) = ((j + 1 : Nat) : Int) := (i64_w _).trans ((w64 (by have := HNL.out.2; omega) (by have := HNL.out.2; omega)).trans (by omega))
    obtain ⟨bl, ol, rfl⟩ := RowS.some_ V_l.out (by omega)
    obtain ⟨ty, Ay, ny, cy, Dy, ky, zy, hy, c0, c1, c2, c3, c4⟩ := RowS.get (RowS.kb V_l.out B_l.out (fun _ _ h => h)) j (by rw [← HNL.out.1]; exact hlt)
    have C0 := a0_ (And.intro c0 (And.intro c1 (And.intro c2 (And.intro c3 c4))))
    clear c0 c1 c2 c3 c4
    have hbj := HBY.out j (by rw [← HNL.out.1]; exact hlt)
    obtain ⟨sa, hsa⟩ : ∃ x, x = (ss.getD j ⟨0, 0, none⟩).at_ := ⟨_, rfl⟩
    obtain ⟨sb, hsb⟩ : ∃ x, x = (ss.getD j ⟨0, 0, none⟩).by_ := ⟨_, rfl⟩
    rw [← hsa, ← hsb] at C0
    rw [← hsb] at hbj
    have f1 : ¬ sb < 0 := by omega
    have f2 : ¬ 9007199254740991 < sb := by omega
    clear hsa hsb hbj
    clear hy
    go_wp2_with (first | ((with_reducible refine gd_ 30 rfl ?_); refine load_at5 rfl rfl (g := bl) (k := ol + j * 5) rfl C0.out.1 C0.out.2.1 C0.out.2.2.1 C0.out.2.2.2.1 C0.out.2.2.2.2 ?_) | ((with_reducible refine gd_ 10 rfl ?_); refine bx_ (N := 10) #[.int .i64 0, .int .i64 0, .bool false, .slice none 0 0, .slice none 0 0] 39 ?_; intro g_s hg w103 hbox hb; have G_s := kb_g HB hg; have O_s_l := kb_g B_l hg; have O_s_q := kb_g B_q hg; replace HB := kb_b HB hb; replace B_l := kb_b B_l hb; replace B_q := kb_b B_q hb; clear hb; have V_s := a0_ hbox; have B_s := kf_ w103; have N_s := nf_ g_s; clear hbox hg) | ((with_reducible refine gt_ 39 10 30 rfl ?_); refine store_ev5 (p := .tmp 10) (v := .tmp 30) rfl rfl rfl (g := g_s) rfl rfl (bk_ V_s B_s N_s) ?_; intro w104 hbox hk; replace HB := kb_o HB hk G_s; replace B_l := kb_o B_l hk O_s_l; replace B_q := kb_o B_q hk O_s_q; clear V_s B_s; have V_s := a0_ hbox; have B_s := kf_ w104; clear hbox hk; have bk_s := bk_ V_s B_s N_s; have hz_s_0 : w104.cell? ⟨g_s, 0, none⟩ = some (.int .i64 sa) := (blk_cell bk_s 0).trans rfl; have hz_s_1 : w104.cell? ⟨g_s, 1, none⟩ = some (.int .i64 sb) := (blk_cell bk_s 1).trans rfl; have hz_s_2 : w104.cell? ⟨g_s, 2, none⟩ = some (.bool ty) := (blk_cell bk_s 2).trans rfl; have hz_s_3 : w104.cell? ⟨g_s, 3, none⟩ = some (.slice Ay ny cy) := (blk_cell bk_s 3).trans rfl; have hz_s_4 : w104.cell? ⟨g_s, 4, none⟩ = some (.slice Dy ky zy) := (blk_cell bk_s 4).trans rfl; clear bk_s))
    go_roundg (nl - (j + 1))
    case measure => have := HJ.out; omega
    case rel => exact ⟨j + 1, by first | rfl | rw [e1], ⟨by have := HJ.out; omega⟩, HB, B_q⟩
  · have hz : ¬ (j : Int) < (nl : Int) := by omega
    clear hlt
    go_wp2_with fail
    have hb : Below wr.heap.size wr wr.drew := below_drew1 (Below.refl _ _)
    replace HB := kb_b HB hb
    replace B_l := kb_b B_l hb
    replace B_q := kb_b B_q hb
    clear hb
    refine start_ (n := 19) (S := fun w' => w'.heap[g_q]? = some (.cells #[.bool tq, .slice Aq nq cq, .slice Dq kq zq] 30 (0, 0))) (ds := []) (tB_ 19 0) (by kernel_rfl) rfl (by kernel_rfl) (bk_ V_q B_q N_q) (fun hHeld => ?_)
    refine with_tabW May1.tab9 May1.bits9 (fun HT_ HW_ => ?_)
    generalize wr.drew = w103 at HB B_l B_q hHeld ⊢
    refine pu_ 0 (some 50) 1 HT_ ?_
    refine pu_ 1 (some 51) 3 HT_ ?_
    refine pu_ 2 (some 52) 7 HT_ ?_
    refine sk_ 3 (some 53) 15 HT_ ?_
    refine sk_ 4 (some 54) 31 HT_ ?_
    refine sk_ 5 (some 55) 63 HT_ ?_
    refine sk_ 6 (some 56) 127 HT_ ?_
    refine sk_ 7 (some 57) 255 HT_ ?_
    refine sk_ 8 (some 58) 511 HT_ ?_
    refine sk_ 9 (some 59) 1023 HT_ ?_
    refine sk_ 10 (some 60) 2047 HT_ ?_
    refine sk_ 11 (some 61) 4095 HT_ ?_
    refine sk_ 12 (some 62) 8191 HT_ ?_
    refine sk_ 13 (some 63) 16383 HT_ ?_
    refine sk_ 14 (some 64) 32767 HT_ ?_
    refine sk_ 15 (some 65) 65535 HT_ ?_
    refine sk_ 16 (some 66) 131071 HT_ ?_
    refine pu_ 17 (some 67) 262143 HT_ ?_
    refine pu_ 18 (some 8) 524287 HT_ ?_
    refine do_ HT_ ?_
    clear HT_ HW_ hHeld
    go_wp2_with fail
    go_ret
    exact ⟨rfl, (Kb.to_below HB.out (fun _ h => h.elim))⟩
def May2.T9 : Bool × List (List Nat × List Nat) := (true, [([], []), ([0], [0]), ([1], [1]), ([2], [2]), ([3, 2, 2], [2, 3]), ([4, 2], [2, 4]), ([5, 4, 2], [2, 5]), ([6], [6]), ([7, 6], [6, 7]), ([8, 6], [6, 8]), ([6, 9, 2], [2, 6, 9]), ([10, 6, 2], [2, 10]), ([11], [11]), ([11, 11], [11]), ([12, 13, 13, 11], [11, 12, 13]), ([14, 11], [11, 14]), ([11, 15, 2], [2, 11, 15]), ([2, 16], [2, 16]), ([17, 14, 0, 1, 2, 3, 4, 5, 6, 7, 8, 9, 10, 11, 12, 13, 14, 15, 16, 17], [17])])
def May2.B9 : List Nat := [0, 1, 3, 7, 15, 31, 63, 127, 255, 511, 1023, 2047, 4095, 4095, 16383, 32767, 65535, 131071, 262143]
theorem May2.tab9 : rtab .any (opsOf Try.f29 9) = May2.T9 := by kernel_rfl
theorem May2.bits9 : waitsOk May2.T9.2 May2.B9 = true := by kernel_rfl
theorem may2_calls {okl : Nat → Prop} (over : Int) (h0 : 1 ≤ over) (h1 : over ≤ 9007199254740991) (ss : List Smp) (hby : ByS ss) (hsz : ss.length ≤ 1000000) (w : World) (tq : Bool) (Aq : Option Addr) (nq cq : Nat) (Dq : Option Addr) (kq zq : Nat) (vl : Value) (hl : RowS okl w vl ss) :
 Calls Try.prog 29 #[.int .i64 2, .int .i64 over, .agg #[.bool tq, .slice Aq nq cq, .slice Dq kq zq], vl] w fun e w' => e = .returned (.bool true) ∧ Below w.heap.size w w' := by
 have hu30 := Try.underlying30
 have hu39 := Try.underlying39
 obtain ⟨Al, cl, rfl⟩ := hl.slice
 obtain ⟨nl, hnl⟩ : ∃ nl, nl = ss.length := ⟨_, rfl⟩
 rw [← hnl] at hl hsz ⊢
 have HNL := a0_ (And.intro hnl hsz)
 have HBY := a0_ hby
 have e3 : ¬ over < 1 := by omega
 have e4 : ¬ 9007199254740991 < over := by omega
 clear hnl hby hsz h0 h1
 have HB := kf_ w
 have V_l := a0_ hl
 clear hl
 have B_l := kf_ w
 go_enter Try.func29, Try.ntmps29
 go_wp2_with (first | ((with_reducible refine gd_ 6 rfl ?_); refine bx_ (N := 6) #[.bool tq, .slice Aq nq cq, .slice Dq kq zq] 30 ?_; intro g_q hg w101 hbox hb; have G_q := kb_g HB hg; replace HB := kb_b HB hb; replace B_l := kb_b B_l hb; clear hb; have V_q := a0_ hbox; have B_q := kf_ w101; have N_q := nf_ g_q; clear hbox hg))
 go_loopg [27] nl (fun kg v27 wr => ∃ (j : Nat), v27 = .int .i64 j ∧ Aside0 (j + kg = nl) ∧ Aside0 (Kb (fun k => False) w wr) ∧ Aside0 (Kb (fun k => False) w101 wr))
 case atStart => exact ⟨0, rfl, ⟨by omega⟩, HB, B_q⟩
 case round =>
  obtain ⟨j, rfl, HJ, HB2, HQB⟩ := hrel
  clear HB B_l B_q
  have HB := HB2
  clear HB2
  have B_l := HB
  have B_q := HQB
  clear HQB
  by_cases hlt : j < nl
  · have hz : (j : Int) < (nl : Int) := by omega
    have e1 : IntKind.i64.wrap ((j : Int) + 1) = ((j + 1 : Nat) : Int) := (i64_w _).trans ((w64 (by have := HNL.out.2; omega) (by have := HNL.out.2; omega)).trans (by omega))
    obtain ⟨bl, ol, rfl⟩ := RowS.some_ V_l.out (by omega)
    obtain ⟨ty, Ay, ny, cy, Dy, ky, zy, hy, c0, c1, c2, c3, c4⟩ := RowS.get (RowS.kb V_l.out B_l.out (fun _ _ h => h)) j (by rw [← HNL.out.1]; exact hlt)
    have C0 := a0_ (And.intro c0 (And.intro c1 (And.intro c2 (And.intro c3 c4))))
    clear c0 c1 c2 c3 c4
    have hbj := HBY.out j (by rw [← HNL.out.1]; exact hlt)
    obtain ⟨sa, hsa⟩ : ∃ x, x = (ss.getD j ⟨0, 0, none⟩).at_ := ⟨_, rfl⟩
    obtain ⟨sb, hsb⟩ : ∃ x, x = (ss.getD j ⟨0, 0, none⟩).by_ := ⟨_, rfl⟩
    rw [← hsa, ← hsb] at C0
    rw [← hsb] at hbj
    have f1 : ¬ sb < 0 := by omega
    have f2 : ¬ 9007199254740991 < sb := by omega
    clear hsa hsb hbj
    clear hy
    go_wp2_with (first | ((with_reducible refine gd_ 30 rfl ?_); refine load_at5 rfl rfl (g := bl) (k := ol + j * 5) rfl C0.out.1 C0.out.2.1 C0.out.2.2.1 C0.out.2.2.2.1 C0.out.2.2.2.2 ?_) | ((with_reducible refine gd_ 10 rfl ?_); refine bx_ (N := 10) #[.int .i64 0, .int .i64 0, .bool false, .slice none 0 0, .slice none 0 0] 39 ?_; intro g_s hg w103 hbox hb; have G_s := kb_g HB hg; have O_s_l := kb_g B_l hg; have O_s_q := kb_g B_q hg; replace HB := kb_b HB hb; replace B_l := kb_b B_l hb; replace B_q := kb_b B_q hb; clear hb; have V_s := a0_ hbox; have B_s := kf_ w103; have N_s := nf_ g_s; clear hbox hg) | ((with_reducible refine gt_ 39 10 30 rfl ?_); refine store_ev5 (p := .tmp 10) (v := .tmp 30) rfl rfl rfl (g := g_s) rfl rfl (bk_ V_s B_s N_s) ?_; intro w104 hbox hk; replace HB := kb_o HB hk G_s; replace B_l := kb_o B_l hk O_s_l; replace B_q := kb_o B_q hk O_s_q; clear V_s B_s; have V_s := a0_ hbox; have B_s := kf_ w104; clear hbox hk; have bk_s := bk_ V_s B_s N_s; have hz_s_0 : w104.cell? ⟨g_s, 0, none⟩ = some (.int .i64 sa) := (blk_cell bk_s 0).trans rfl; have hz_s_1 : w104.cell? ⟨g_s, 1, none⟩ = some (.int .i64 sb) := (blk_cell bk_s 1).trans rfl; have hz_s_2 : w104.cell? ⟨g_s, 2, none⟩ = some (.bool ty) := (blk_cell bk_s 2).trans rfl; have hz_s_3 : w104.cell? ⟨g_s, 3, none⟩ = some (.slice Ay ny cy) := (blk_cell bk_s 3).trans rfl; have hz_s_4 : w104.cell? ⟨g_s, 4, none⟩ = some (.slice Dy ky zy) := (blk_cell bk_s 4).trans rfl; clear bk_s))
    go_roundg (nl - (j + 1))
    case measure => have := HJ.out; omega
    case rel => exact ⟨j + 1, by first | rfl | rw [e1], ⟨by have := HJ.out; omega⟩, HB, B_q⟩
  · have hz : ¬ (j : Int) < (nl : Int) := by omega
    clear hlt
    go_wp2_with fail
    have hb : Below wr.heap.size wr wr.drew := below_drew1 (Below.refl _ _)
    replace HB := kb_b HB hb
    replace B_l := kb_b B_l hb
    replace B_q := kb_b B_q hb
    clear hb
    refine start_ (n := 19) (S := fun w' => w'.heap[g_q]? = some (.cells #[.bool tq, .slice Aq nq cq, .slice Dq kq zq] 30 (0, 0))) (ds := []) (tB_ 19 0) (by kernel_rfl) rfl (by kernel_rfl) (bk_ V_q B_q N_q) (fun hHeld => ?_)
    refine with_tabW May2.tab9 May2.bits9 (fun HT_ HW_ => ?_)
    generalize wr.drew = w103 at HB B_l B_q hHeld ⊢
    refine pu_ 0 (some 50) 1 HT_ ?_
    refine pu_ 1 (some 51) 3 HT_ ?_
    refine pu_ 2 (some 52) 7 HT_ ?_
    refine sk_ 3 (some 53) 15 HT_ ?_
    refine sk_ 4 (some 54) 31 HT_ ?_
    refine sk_ 5 (some 55) 63 HT_ ?_
    refine sk_ 6 (some 56) 127 HT_ ?_
    refine sk_ 7 (some 57) 255 HT_ ?_
    refine sk_ 8 (some 58) 511 HT_ ?_
    refine sk_ 9 (some 59) 1023 HT_ ?_
    refine sk_ 10 (some 60) 2047 HT_ ?_
    refine sk_ 11 (some 61) 4095 HT_ ?_
    refine sk_ 12 (some 62) 8191 HT_ ?_
    refine sk_ 13 (some 63) 16383 HT_ ?_
    refine sk_ 14 (some 64) 32767 HT_ ?_
    refine sk_ 15 (some 65) 65535 HT_ ?_
    refine sk_ 16 (some 66) 131071 HT_ ?_
    refine pu_ 17 (some 67) 262143 HT_ ?_
    refine pu_ 18 (some 8) 524287 HT_ ?_
    refine do_ HT_ ?_
    clear HT_ HW_ hHeld
    go_wp2_with fail
    go_ret
    exact ⟨rfl, (Kb.to_below HB.out (fun _ h => h.elim))⟩
def May3.T9 : Bool × List (List Nat × List Nat) := (true, [([], []), ([0], [0]), ([1], [1]), ([2], [2]), ([3, 2, 2], [2, 3]), ([4, 2], [2, 4]), ([5, 4, 2], [2, 5]), ([6], [6]), ([7, 6], [6, 7]), ([8, 6], [6, 8]), ([6, 9, 2], [2, 6, 9]), ([10, 6, 2], [2, 10]), ([11], [11]), ([11, 11], [11]), ([12, 13, 13, 11], [11, 12, 13]), ([14, 11], [11, 14]), ([11, 15, 2], [2, 11, 15]), ([2, 16], [2, 16]), ([17, 14, 0, 1, 2, 3, 4, 5, 6, 7, 8, 9, 10, 11, 12, 13, 14, 15, 16, 17], [17])])
def May3.B9 : List Nat := [0, 1, 3, 7, 15, 31, 63, 127, 255, 511, 1023, 2047, 4095, 4095, 16383, 32767, 65535, 131071, 262143]
theorem May3.tab9 : rtab .any (opsOf Try.f29 9) = May3.T9 := by kernel_rfl
theorem May3.bits9 : waitsOk May3.T9.2 May3.B9 = true := by kernel_rfl
def May4.T9 : Bool × List (List Nat × List Nat) := (true, [([], []), ([0], [0]), ([1], [1]), ([2], [2]), ([3, 2, 2], [2, 3]), ([4, 2], [2, 4]), ([5, 4, 2], [2, 5]), ([6], [6]), ([7, 6], [6, 7]), ([8, 6], [6, 8]), ([6, 9, 2], [2, 6, 9]), ([10, 6, 2], [2, 10]), ([11], [11]), ([11, 11], [11]), ([12, 13, 13, 11], [11, 12, 13]), ([14, 11], [11, 14]), ([11, 15, 2], [2, 11, 15]), ([2, 16], [2, 16]), ([17, 14, 0, 1, 2, 3, 4, 5, 6, 7, 8, 9, 10, 11, 12, 13, 14, 15, 16, 17], [17])])
def May4.B9 : List Nat := [0, 1, 3, 7, 15, 31, 63, 127, 255, 511, 1023, 2047, 4095, 4095, 16383, 32767, 65535, 131071, 262143]
theorem May4.tab9 : rtab .any (opsOf Try.f29 9) = May4.T9 := by kernel_rfl
theorem May4.bits9 : waitsOk May4.T9.2 May4.B9 = true := by kernel_rfl
theorem may4_calls {okl : Nat → Prop} (over : Int) (h0 : 1 ≤ over) (h1 : over ≤ 9007199254740991) (ss : List Smp) (hby : ByS ss) (hsz : ss.length ≤ 1000000) (w : World) (tq : Bool) (Aq : Option Addr) (nq cq : Nat) (Dq : Option Addr) (kq zq : Nat) (vl : Value) (hl : RowS okl w vl ss) :
 Calls Try.prog 29 #[.int .i64 4, .int .i64 over, .agg #[.bool tq, .slice Aq nq cq, .slice Dq kq zq], vl] w fun e w' => e = .returned (.bool true) ∧ Below w.heap.size w w' := by
 have hu30 := Try.underlying30
 have hu39 := Try.underlying39
 obtain ⟨Al, cl, rfl⟩ := hl.slice
 obtain ⟨nl, hnl⟩ : ∃ nl, nl = ss.length := ⟨_, rfl⟩
 rw [← hnl] at hl hsz ⊢
 have HNL := a0_ (And.intro hnl hsz)
 have HBY := a0_ hby
 have e3 : ¬ over < 1 := by omega
 have e4 : ¬ 9007199254740991 < over := by omega
 clear hnl hby hsz h0 h1
 have HB := kf_ w
 have V_l := a0_ hl
 clear hl
 have B_l := kf_ w
 go_enter Try.func29, Try.ntmps29
 go_wp2_with (first | ((with_reducible refine gd_ 6 rfl ?_); refine bx_ (N := 6) #[.bool tq, .slice Aq nq cq, .slice Dq kq zq] 30 ?_; intro g_q hg w101 hbox hb; have G_q := kb_g HB hg; replace HB := kb_b HB hb; replace B_l := kb_b B_l hb; clear hb; have V_q := a0_ hbox; have B_q := kf_ w101; have N_q := nf_ g_q; clear hbox hg))
 go_loopg [27] nl (fun kg v27 wr => ∃ (j : Nat), v27 = .int .i64 j ∧ Aside0 (j + kg = nl) ∧ Aside0 (Kb (fun k => False) w wr) ∧ Aside0 (Kb (fun k => False) w101 wr))
 case atStart => exact ⟨0, rfl, ⟨by omega⟩, HB, B_q⟩
 case round =>
  obtain ⟨j, rfl, HJ, HB2, HQB⟩ := hrel
  clear HB B_l B_q
  have HB := HB2
  clear HB2
  have B_l := HB
  have B_q := HQB
  clear HQB
  by_cases hlt : j < nl
  · have hz : (j : Int) < (nl : Int) := by omega
    have e1 : IntKind.i64.wrap ((j : Int) + 1) = ((j + 1 : Nat) : Int) := (i64_w _).trans ((w64 (by have := HNL.out.2; omega) (by have := HNL.out.2; omega)).trans (by omega))
    obtain ⟨bl, ol, rfl⟩ := RowS.some_ V_l.out (by omega)
    obtain ⟨ty, Ay, ny, cy, Dy, ky, zy, hy, c0, c1, c2, c3, c4⟩ := RowS.get (RowS.kb V_l.out B_l.out (fun _ _ h => h)) j (by rw [← HNL.out.1]; exact hlt)
    have C0 := a0_ (And.intro c0 (And.intro c1 (And.intro c2 (And.intro c3 c4))))
    clear c0 c1 c2 c3 c4
    have hbj := HBY.out j (by rw [← HNL.out.1]; exact hlt)
    obtain ⟨sa, hsa⟩ : ∃ x, x = (ss.getD j ⟨0, 0, none⟩).at_ := ⟨_, rfl⟩
    obtain ⟨sb, hsb⟩ : ∃ x, x = (ss.getD j ⟨0, 0, none⟩).by_ := ⟨_, rfl⟩
    rw [← hsa, ← hsb] at C0
    rw [← hsb] at hbj
    have f1 : ¬ sb < 0 := by omega
    have f2 : ¬ 9007199254740991 < sb := by omega
    clear hsa hsb hbj
    clear hy
    go_wp2_with (first | ((with_reducible refine gd_ 30 rfl ?_); refine load_at5 rfl rfl (g := bl) (k := ol + j * 5) rfl C0.out.1 C0.out.2.1 C0.out.2.2.1 C0.out.2.2.2.1 C0.out.2.2.2.2 ?_) | ((with_reducible refine gd_ 10 rfl ?_); refine bx_ (N := 10) #[.int .i64 0, .int .i64 0, .bool false, .slice none 0 0, .slice none 0 0] 39 ?_; intro g_s hg w103 hbox hb; have G_s := kb_g HB hg; have O_s_l := kb_g B_l hg; have O_s_q := kb_g B_q hg; replace HB := kb_b HB hb; replace B_l := kb_b B_l hb; replace B_q := kb_b B_q hb; clear hb; have V_s := a0_ hbox; have B_s := kf_ w103; have N_s := nf_ g_s; clear hbox hg) | ((with_reducible refine gt_ 39 10 30 rfl ?_); refine store_ev5 (p := .tmp 10) (v := .tmp 30) rfl rfl rfl (g := g_s) rfl rfl (bk_ V_s B_s N_s) ?_; intro w104 hbox hk; replace HB := kb_o HB hk G_s; replace B_l := kb_o B_l hk O_s_l; replace B_q := kb_o B_q hk O_s_q; clear V_s B_s; have V_s := a0_ hbox; have B_s := kf_ w104; clear hbox hk; have bk_s := bk_ V_s B_s N_s; have hz_s_0 : w104.cell? ⟨g_s, 0, none⟩ = some (.int .i64 sa) := (blk_cell bk_s 0).trans rfl; have hz_s_1 : w104.cell? ⟨g_s, 1, none⟩ = some (.int .i64 sb) := (blk_cell bk_s 1).trans rfl; have hz_s_2 : w104.cell? ⟨g_s, 2, none⟩ = some (.bool ty) := (blk_cell bk_s 2).trans rfl; have hz_s_3 : w104.cell? ⟨g_s, 3, none⟩ = some (.slice Ay ny cy) := (blk_cell bk_s 3).trans rfl; have hz_s_4 : w104.cell? ⟨g_s, 4, none⟩ = some (.slice Dy ky zy) := (blk_cell bk_s 4).trans rfl; clear bk_s))
    go_roundg (nl - (j + 1))
    case measure => have := HJ.out; omega
    case rel => exact ⟨j + 1, by first | rfl | rw [e1], ⟨by have := HJ.out; omega⟩, HB, B_q⟩
  · have hz : ¬ (j : Int) < (nl : Int) := by omega
    clear hlt
    go_wp2_with fail
    have hb : Below wr.heap.size wr wr.drew := below_drew1 (Below.refl _ _)
    replace HB := kb_b HB hb
    replace B_l := kb_b B_l hb
    replace B_q := kb_b B_q hb
    clear hb
    refine start_ (n := 19) (S := fun w' => w'.heap[g_q]? = some (.cells #[.bool tq, .slice Aq nq cq, .slice Dq kq zq] 30 (0, 0))) (ds := []) (tB_ 19 0) (by kernel_rfl) rfl (by kernel_rfl) (bk_ V_q B_q N_q) (fun hHeld => ?_)
    refine with_tabW May4.tab9 May4.bits9 (fun HT_ HW_ => ?_)
    generalize wr.drew = w103 at HB B_l B_q hHeld ⊢
    refine pu_ 0 (some 50) 1 HT_ ?_
    refine pu_ 1 (some 51) 3 HT_ ?_
    refine pu_ 2 (some 52) 7 HT_ ?_
    refine sk_ 3 (some 53) 15 HT_ ?_
    refine sk_ 4 (some 54) 31 HT_ ?_
    refine sk_ 5 (some 55) 63 HT_ ?_
    refine sk_ 6 (some 56) 127 HT_ ?_
    refine sk_ 7 (some 57) 255 HT_ ?_
    refine sk_ 8 (some 58) 511 HT_ ?_
    refine sk_ 9 (some 59) 1023 HT_ ?_
    refine sk_ 10 (some 60) 2047 HT_ ?_
    refine sk_ 11 (some 61) 4095 HT_ ?_
    refine sk_ 12 (some 62) 8191 HT_ ?_
    refine sk_ 13 (some 63) 16383 HT_ ?_
    refine sk_ 14 (some 64) 32767 HT_ ?_
    refine sk_ 15 (some 65) 65535 HT_ ?_
    refine sk_ 16 (some 66) 131071 HT_ ?_
    refine pu_ 17 (some 67) 262143 HT_ ?_
    refine pu_ 18 (some 8) 524287 HT_ ?_
    refine do_ HT_ ?_
    clear HT_ HW_ hHeld
    go_wp2_with fail
    go_ret
    exact ⟨rfl, (Kb.to_below HB.out (fun _ h => h.elim))⟩
def May5.T9 : Bool × List (List Nat × List Nat) := (true, [([], []), ([0], [0]), ([1], [1]), ([2], [2]), ([3, 2, 2], [2, 3]), ([4, 2], [2, 4]), ([5, 4, 2], [2, 5]), ([6], [6]), ([7, 6], [6, 7]), ([8, 6], [6, 8]), ([6, 9, 2], [2, 6, 9]), ([10, 6, 2], [2, 10]), ([11], [11]), ([11, 11], [11]), ([12, 13, 13, 11], [11, 12, 13]), ([14, 11], [11, 14]), ([11, 15, 2], [2, 11, 15]), ([2, 16], [2, 16]), ([17, 14, 0, 1, 2, 3, 4, 5, 6, 7, 8, 9, 10, 11, 12, 13, 14, 15, 16, 17], [17])])
def May5.B9 : List Nat := [0, 1, 3, 7, 15, 31, 63, 127, 255, 511, 1023, 2047, 4095, 4095, 16383, 32767, 65535, 131071, 262143]
theorem May5.tab9 : rtab .any (opsOf Try.f29 9) = May5.T9 := by kernel_rfl
theorem May5.bits9 : waitsOk May5.T9.2 May5.B9 = true := by kernel_rfl
theorem may5_calls {okl : Nat → Prop} (over : Int) (h0 : 1 ≤ over) (h1 : over ≤ 9007199254740991) (ss : List Smp) (hby : ByS ss) (hsz : ss.length ≤ 1000000) (w : World) (tq : Bool) (Aq : Option Addr) (nq cq : Nat) (Dq : Option Addr) (kq zq : Nat) (vl : Value) (hl : RowS okl w vl ss) :
 Calls Try.prog 29 #[.int .i64 5, .int .i64 over, .agg #[.bool tq, .slice Aq nq cq, .slice Dq kq zq], vl] w fun e w' => e = .returned (.bool true) ∧ Below w.heap.size w w' := by
 have hu30 := Try.underlying30
 have hu39 := Try.underlying39
 obtain ⟨Al, cl, rfl⟩ := hl.slice
 obtain ⟨nl, hnl⟩ : ∃ nl, nl = ss.length := ⟨_, rfl⟩
 rw [← hnl] at hl hsz ⊢
 have HNL := a0_ (And.intro hnl hsz)
 have HBY := a0_ hby
 have e3 : ¬ over < 1 := by omega
 have e4 : ¬ 9007199254740991 < over := by omega
 clear hnl hby hsz h0 h1
 have HB := kf_ w
 have V_l := a0_ hl
 clear hl
 have B_l := kf_ w
 go_enter Try.func29, Try.ntmps29
 go_wp2_with (first | ((with_reducible refine gd_ 6 rfl ?_); refine bx_ (N := 6) #[.bool tq, .slice Aq nq cq, .slice Dq kq zq] 30 ?_; intro g_q hg w101 hbox hb; have G_q := kb_g HB hg; replace HB := kb_b HB hb; replace B_l := kb_b B_l hb; clear hb; have V_q := a0_ hbox; have B_q := kf_ w101; have N_q := nf_ g_q; clear hbox hg))
 go_loopg [27] nl (fun kg v27 wr => ∃ (j : Nat), v27 = .int .i64 j ∧ Aside0 (j + kg = nl) ∧ Aside0 (Kb (fun k => False) w wr) ∧ Aside0 (Kb (fun k => False) w101 wr))
 case atStart => exact ⟨0, rfl, ⟨by omega⟩, HB, B_q⟩
 case round =>
  obtain ⟨j, rfl, HJ, HB2, HQB⟩ := hrel
  clear HB B_l B_q
  have HB := HB2
  clear HB2
  have B_l := HB
  have B_q := HQB
  clear HQB
  by_cases hlt : j < nl
  · have hz : (j : Int) < (nl : Int) := by omega
    have e1 : IntKind.i64.wrap ((j : Int) + 1) = ((j + 1 : Nat) : Int) := (i64_w _).trans ((w64 (by have := HNL.out.2; omega) (by have := HNL.out.2; omega)).trans (by omega))
    obtain ⟨bl, ol, rfl⟩ := RowS.some_ V_l.out (by omega)
    obtain ⟨ty, Ay, ny, cy, Dy, ky, zy, hy, c0, c1, c2, c3, c4⟩ := RowS.get (RowS.kb V_l.out B_l.out (fun _ _ h => h)) j (by rw [← HNL.out.1]; exact hlt)
    have C0 := a0_ (And.intro c0 (And.intro c1 (And.intro c2 (And.intro c3 c4))))
    clear c0 c1 c2 c3 c4
    have hbj := HBY.out j (by rw [← HNL.out.1]; exact hlt)
    obtain ⟨sa, hsa⟩ : ∃ x, x = (ss.getD j ⟨0, 0, none⟩).at_ := ⟨_, rfl⟩
    obtain ⟨sb, hsb⟩ : ∃ x, x = (ss.getD j ⟨0, 0, none⟩).by_ := ⟨_, rfl⟩
    rw [← hsa, ← hsb] at C0
    rw [← hsb] at hbj
    have f1 : ¬ sb < 0 := by omega
    have f2 : ¬ 9007199254740991 < sb := by omega
    clear hsa hsb hbj
    clear hy
    go_wp2_with (first | ((with_reducible refine gd_ 30 rfl ?_); refine load_at5 rfl rfl (g := bl) (k := ol + j * 5) rfl C0.out.1 C0.out.2.1 C0.out.2.2.1 C0.out.2.2.2.1 C0.out.2.2.2.2 ?_) | ((with_reducible refine gd_ 10 rfl ?_); refine bx_ (N := 10) #[.int .i64 0, .int .i64 0, .bool false, .slice none 0 0, .slice none 0 0] 39 ?_; intro g_s hg w103 hbox hb; have G_s := kb_g HB hg; have O_s_l := kb_g B_l hg; have O_s_q := kb_g B_q hg; replace HB := kb_b HB hb; replace B_l := kb_b B_l hb; replace B_q := kb_b B_q hb; clear hb; have V_s := a0_ hbox; have B_s := kf_ w103; have N_s := nf_ g_s; clear hbox hg) | ((with_reducible refine gt_ 39 10 30 rfl ?_); refine store_ev5 (p := .tmp 10) (v := .tmp 30) rfl rfl rfl (g := g_s) rfl rfl (bk_ V_s B_s N_s) ?_; intro w104 hbox hk; replace HB := kb_o HB hk G_s; replace B_l := kb_o B_l hk O_s_l; replace B_q := kb_o B_q hk O_s_q; clear V_s B_s; have V_s := a0_ hbox; have B_s := kf_ w104; clear hbox hk; have bk_s := bk_ V_s B_s N_s; have hz_s_0 : w104.cell? ⟨g_s, 0, none⟩ = some (.int .i64 sa) := (blk_cell bk_s 0).trans rfl; have hz_s_1 : w104.cell? ⟨g_s, 1, none⟩ = some (.int .i64 sb) := (blk_cell bk_s 1).trans rfl; have hz_s_2 : w104.cell? ⟨g_s, 2, none⟩ = some (.bool ty) := (blk_cell bk_s 2).trans rfl; have hz_s_3 : w104.cell? ⟨g_s, 3, none⟩ = some (.slice Ay ny cy) := (blk_cell bk_s 3).trans rfl; have hz_s_4 : w104.cell? ⟨g_s, 4, none⟩ = some (.slice Dy ky zy) := (blk_cell bk_s 4).trans rfl; clear bk_s))
    go_roundg (nl - (j + 1))
    case measure => have := HJ.out; omega
    case rel => exact ⟨j + 1, by first | rfl | rw [e1], ⟨by have := HJ.out; omega⟩, HB, B_q⟩
  · have hz : ¬ (j : Int) < (nl : Int) := by omega
    clear hlt
    go_wp2_with fail
    have hb : Below wr.heap.size wr wr.drew := below_drew1 (Below.refl _ _)
    replace HB := kb_b HB hb
    replace B_l := kb_b B_l hb
    replace B_q := kb_b B_q hb
    clear hb
    refine start_ (n := 19) (S := fun w' => w'.heap[g_q]? = some (.cells #[.bool tq, .slice Aq nq cq, .slice Dq kq zq] 30 (0, 0))) (ds := []) (tB_ 19 0) (by kernel_rfl) rfl (by kernel_rfl) (bk_ V_q B_q N_q) (fun hHeld => ?_)
    refine with_tabW May5.tab9 May5.bits9 (fun HT_ HW_ => ?_)
    generalize wr.drew = w103 at HB B_l B_q hHeld ⊢
    refine pu_ 0 (some 50) 1 HT_ ?_
    refine pu_ 1 (some 51) 3 HT_ ?_
    refine pu_ 2 (some 52) 7 HT_ ?_
    refine sk_ 3 (some 53) 15 HT_ ?_
    refine sk_ 4 (some 54) 31 HT_ ?_
    refine sk_ 5 (some 55) 63 HT_ ?_
    refine sk_ 6 (some 56) 127 HT_ ?_
    refine sk_ 7 (some 57) 255 HT_ ?_
    refine sk_ 8 (some 58) 511 HT_ ?_
    refine sk_ 9 (some 59) 1023 HT_ ?_
    refine sk_ 10 (some 60) 2047 HT_ ?_
    refine sk_ 11 (some 61) 4095 HT_ ?_
    refine sk_ 12 (some 62) 8191 HT_ ?_
    refine sk_ 13 (some 63) 16383 HT_ ?_
    refine sk_ 14 (some 64) 32767 HT_ ?_
    refine sk_ 15 (some 65) 65535 HT_ ?_
    refine sk_ 16 (some 66) 131071 HT_ ?_
    refine pu_ 17 (some 67) 262143 HT_ ?_
    refine pu_ 18 (some 8) 524287 HT_ ?_
    refine do_ HT_ ?_
    clear HT_ HW_ hHeld
    go_wp2_with fail
    go_ret
    exact ⟨rfl, (Kb.to_below HB.out (fun _ h => h.elim))⟩
def May6.T9 : Bool × List (List Nat × List Nat) := (true, [([], []), ([0], [0]), ([1], [1]), ([2], [2]), ([3, 2, 2], [2, 3]), ([4, 2], [2, 4]), ([5, 4, 2], [2, 5]), ([6], [6]), ([7, 6], [6, 7]), ([8, 6], [6, 8]), ([6, 9, 2], [2, 6, 9]), ([10, 6, 2], [2, 10]), ([11], [11]), ([11, 11], [11]), ([12, 13, 13, 11], [11, 12, 13]), ([14, 11], [11, 14]), ([11, 15, 2], [2, 11, 15]), ([2, 16], [2, 16]), ([17, 14, 0, 1, 2, 3, 4, 5, 6, 7, 8, 9, 10, 11, 12, 13, 14, 15, 16, 17], [17])])
def May6.B9 : List Nat := [0, 1, 3, 7, 15, 31, 63, 127, 255, 511, 1023, 2047, 4095, 4095, 16383, 32767, 65535, 131071, 262143]
theorem May6.tab9 : rtab .any (opsOf Try.f29 9) = May6.T9 := by kernel_rfl
theorem May6.bits9 : waitsOk May6.T9.2 May6.B9 = true := by kernel_rfl
def May7.T9 : Bool × List (List Nat × List Nat) := (true, [([], []), ([0], [0]), ([1], [1]), ([2], [2]), ([3, 2, 2], [2, 3]), ([4, 2], [2, 4]), ([5, 4, 2], [2, 5]), ([6], [6]), ([7, 6], [6, 7]), ([8, 6], [6, 8]), ([6, 9, 2], [2, 6, 9]), ([10, 6, 2], [2, 10]), ([11], [11]), ([11, 11], [11]), ([12, 13, 13, 11], [11, 12, 13]), ([14, 11], [11, 14]), ([11, 15, 2], [2, 11, 15]), ([2, 16], [2, 16]), ([17, 14, 0, 1, 2, 3, 4, 5, 6, 7, 8, 9, 10, 11, 12, 13, 14, 15, 16, 17], [17])])
def May7.B9 : List Nat := [0, 1, 3, 7, 15, 31, 63, 127, 255, 511, 1023, 2047, 4095, 4095, 16383, 32767, 65535, 131071, 262143]
theorem May7.tab9 : rtab .any (opsOf Try.f29 9) = May7.T9 := by kernel_rfl
theorem May7.bits9 : waitsOk May7.T9.2 May7.B9 = true := by kernel_rfl
theorem may7_calls {okl : Nat → Prop} (over : Int) (h0 : 1 ≤ over) (h1 : over ≤ 9007199254740991) (ss : List Smp) (hby : ByS ss) (qs : List Rat) (hvs : ValS ss qs) (hsz : ss.length ≤ 1000000) (w : World) (tq : Bool) (Aq : Option Addr) (nq cq : Nat) (Dq : Option Addr) (kq zq : Nat) (vl : Value) (hl : RowS okl w vl ss) :
 Calls Try.prog 29 #[.int .i64 7, .int .i64 over, .agg #[.bool tq, .slice Aq nq cq, .slice Dq kq zq], vl] w fun e w' => e = .returned (.bool true) ∧ Below w.heap.size w w' := by
 have hu30 := Try.underlying30
 have hu39 := Try.underlying39
 obtain ⟨Al, cl, rfl⟩ := hl.slice
 obtain ⟨nl, hnl⟩ : ∃ nl, nl = ss.length := ⟨_, rfl⟩
 rw [← hnl] at hl hsz ⊢
 have HNL := a0_ (And.intro hnl hsz)
 have HBY := a0_ hby
 have e3 : ¬ over < 1 := by omega
 have e4 : ¬ 9007199254740991 < over := by omega
 clear hnl hby hsz h0 h1
 have HVS := a0_ hvs
 clear hvs
 have HB := kf_ w
 have V_l := a0_ hl
 clear hl
 have B_l := kf_ w
 go_enter Try.func29, Try.ntmps29
 go_wp2_with (first | ((with_reducible refine gd_ 6 rfl ?_); refine bx_ (N := 6) #[.bool tq, .slice Aq nq cq, .slice Dq kq zq] 30 ?_; intro g_q hg w101 hbox hb; have G_q := kb_g HB hg; replace HB := kb_b HB hb; replace B_l := kb_b B_l hb; clear hb; have V_q := a0_ hbox; have B_q := kf_ w101; have N_q := nf_ g_q; clear hbox hg))
 go_loopg [27] nl (fun kg v27 wr => ∃ (j : Nat), v27 = .int .i64 j ∧ Aside0 (j + kg = nl) ∧ Aside0 (Kb (fun k => False) w wr) ∧ Aside0 (Kb (fun k => False) w101 wr))
 case atStart => exact ⟨0, rfl, ⟨by omega⟩, HB, B_q⟩
 case round =>
  obtain ⟨j, rfl, HJ, HB2, HQB⟩ := hrel
  clear HB B_l B_q
  have HB := HB2
  clear HB2
  have B_l := HB
  have B_q := HQB
  clear HQB
  by_cases hlt : j < nl
  · have hz : (j : Int) < (nl : Int) := by omega
    have e1 : IntKind.i64.wrap ((j : Int) + 1) = ((j + 1 : Nat) : Int) := (i64_w _).trans ((w64 (by have := HNL.out.2; omega) (by have := HNL.out.2; omega)).trans (by omega))
    obtain ⟨bl, ol, rfl⟩ := RowS.some_ V_l.out (by omega)
    obtain ⟨ty, Ay, ny, cy, Dy, ky, zy, hy, c0, c1, c2, c3, c4⟩ := RowS.get (RowS.kb V_l.out B_l.out (fun _ _ h => h)) j (by rw [← HNL.out.1]; exact hlt)
    have C0 := a0_ (And.intro c0 (And.intro c1 (And.intro c2 (And.intro c3 c4))))
    clear c0 c1 c2 c3 c4
    have hbj := HBY.out j (by rw [← HNL.out.1]; exact hlt)
    obtain ⟨sa, hsa⟩ : ∃ x, x = (ss.getD j ⟨0, 0, none⟩).at_ := ⟨_, rfl⟩
    obtain ⟨sb, hsb⟩ : ∃ x, x = (ss.getD j ⟨0, 0, none⟩).by_ := ⟨_, rfl⟩
    rw [← hsa, ← hsb] at C0
    rw [← hsb] at hbj
    have f1 : ¬ sb < 0 := by omega
    have f2 : ¬ 9007199254740991 < sb := by omega
    clear hsa hsb hbj
    have hyv := hy _ (HVS.out.2 j (by rw [← HNL.out.1]; exact hlt))
    clear hy
    have V_y := a0_ hyv
    clear hyv
    have B_y := kf_ wr
    go_wp2_with (first | ((with_reducible refine gd_ 30 rfl ?_); refine load_at5 rfl rfl (g := bl) (k := ol + j * 5) rfl C0.out.1 C0.out.2.1 C0.out.2.2.1 C0.out.2.2.2.1 C0.out.2.2.2.2 ?_) | ((with_reducible refine gd_ 10 rfl ?_); refine bx_ (N := 10) #[.int .i64 0, .int .i64 0, .bool false, .slice none 0 0, .slice none 0 0] 39 ?_; intro g_s hg w103 hbox hb; have G_s := kb_g HB hg; have O_s_l := kb_g B_l hg; have O_s_q := kb_g B_q hg; have O_s_y := kb_g B_y hg; replace HB := kb_b HB hb; replace B_l := kb_b B_l hb; replace B_q := kb_b B_q hb; replace B_y := kb_b B_y hb; clear hb; have V_s := a0_ hbox; have B_s := kf_ w103; have N_s := nf_ g_s; clear hbox hg) | ((with_reducible refine gt_ 39 10 30 rfl ?_); refine store_ev5 (p := .tmp 10) (v := .tmp 30) rfl rfl rfl (g := g_s) rfl rfl (bk_ V_s B_s N_s) ?_; intro w104 hbox hk; replace HB := kb_o HB hk G_s; replace B_l := kb_o B_l hk O_s_l; replace B_q := kb_o B_q hk O_s_q; replace B_y := kb_o B_y hk O_s_y; clear V_s B_s; have V_s := a0_ hbox; have B_s := kf_ w104; clear hbox hk; have bk_s := bk_ V_s B_s N_s; have hz_s_0 : w104.cell? ⟨g_s, 0, none⟩ = some (.int .i64 sa) := (blk_cell bk_s 0).trans rfl; have hz_s_1 : w104.cell? ⟨g_s, 1, none⟩ = some (.int .i64 sb) := (blk_cell bk_s 1).trans rfl; have hz_s_2 : w104.cell? ⟨g_s, 2, none⟩ = some (.bool ty) := (blk_cell bk_s 2).trans rfl; have hz_s_3 : w104.cell? ⟨g_s, 3, none⟩ = some (.slice Ay ny cy) := (blk_cell bk_s 3).trans rfl; have hz_s_4 : w104.cell? ⟨g_s, 4, none⟩ = some (.slice Dy ky zy) := (blk_cell bk_s 4).trans rfl; clear bk_s))
    with_reducible refine (qcheck_calls (qs.getD j 0) _ _ (IsR.kb (S := fun k => False) V_y.out B_y.out (fun _ _ h => h))).mono ?_
    rintro e w105 ⟨rfl, hb⟩
    clear hz_s_0 hz_s_1 hz_s_2 hz_s_3 hz_s_4
    replace HB := kb_b HB hb
    replace B_l := kb_b B_l hb
    replace B_q := kb_b B_q hb
    replace B_y := kb_b B_y hb
    replace B_s := kb_b B_s hb
    clear hb
    go_wp2_with fail
    go_roundg (nl - (j + 1))
    case measure => have := HJ.out; omega
    case rel => exact ⟨j + 1, by first | rfl | rw [e1], ⟨by have := HJ.out; omega⟩, HB, B_q⟩
  · have hz : ¬ (j : Int) < (nl : Int) := by omega
    clear hlt
    go_wp2_with fail
    have hb : Below wr.heap.size wr wr.drew := below_drew1 (Below.refl _ _)
    replace HB := kb_b HB hb
    replace B_l := kb_b B_l hb
    replace B_q := kb_b B_q hb
    clear hb
    refine start_ (n := 19) (S := fun w' => w'.heap[g_q]? = some (.cells #[.bool tq, .slice Aq nq cq, .slice Dq kq zq] 30 (0, 0))) (ds := []) (tB_ 19 0) (by kernel_rfl) rfl (by kernel_rfl) (bk_ V_q B_q N_q) (fun hHeld => ?_)
    refine with_tabW May7.tab9 May7.bits9 (fun HT_ HW_ => ?_)
    generalize wr.drew = w103 at HB B_l B_q hHeld ⊢
    refine pu_ 0 (some 50) 1 HT_ ?_
    refine pu_ 1 (some 51) 3 HT_ ?_
    refine pu_ 2 (some 52) 7 HT_ ?_
    refine sk_ 3 (some 53) 15 HT_ ?_
    refine sk_ 4 (some 54) 31 HT_ ?_
    refine sk_ 5 (some 55) 63 HT_ ?_
    refine sk_ 6 (some 56) 127 HT_ ?_
    refine sk_ 7 (some 57) 255 HT_ ?_
    refine sk_ 8 (some 58) 511 HT_ ?_
    refine sk_ 9 (some 59) 1023 HT_ ?_
    refine sk_ 10 (some 60) 2047 HT_ ?_
    refine sk_ 11 (some 61) 4095 HT_ ?_
    refine sk_ 12 (some 62) 8191 HT_ ?_
    refine sk_ 13 (some 63) 16383 HT_ ?_
    refine sk_ 14 (some 64) 32767 HT_ ?_
    refine sk_ 15 (some 65) 65535 HT_ ?_
    refine sk_ 16 (some 66) 131071 HT_ ?_
    refine pu_ 17 (some 67) 262143 HT_ ?_
    refine pu_ 18 (some 8) 524287 HT_ ?_
    refine do_ HT_ ?_
    clear HT_ HW_ hHeld
    go_wp2_with fail
    go_ret
    exact ⟨rfl, (Kb.to_below HB.out (fun _ h => h.elim))⟩
def May12.T9 : Bool × List (List Nat × List Nat) := (true, [([], []), ([0], [0]), ([1], [1]), ([2], [2]), ([3, 2, 2], [2, 3]), ([4, 2], [2, 4]), ([5, 4, 2], [2, 5]), ([6], [6]), ([7, 6], [6, 7]), ([8, 6], [6, 8]), ([6, 9, 2], [2, 6, 9]), ([10, 6, 2], [2, 10]), ([11], [11]), ([11, 11], [11]), ([12, 13, 13, 11], [11, 12, 13]), ([14, 11], [11, 14]), ([11, 15, 2], [2, 11, 15]), ([2, 16], [2, 16]), ([17, 14, 0, 1, 2, 3, 4, 5, 6, 7, 8, 9, 10, 11, 12, 13, 14, 15, 16, 17], [17])])
def May12.B9 : List Nat := [0, 1, 3, 7, 15, 31, 63, 127, 255, 511, 1023, 2047, 4095, 4095, 16383, 32767, 65535, 131071, 262143]
theorem May12.tab9 : rtab .any (opsOf Try.f29 9) = May12.T9 := by kernel_rfl
theorem May12.bits9 : waitsOk May12.T9.2 May12.B9 = true := by kernel_rfl
theorem may12_calls {okl : Nat → Prop} (over : Int) (h0 : 1 ≤ over) (h1 : over ≤ 9007199254740991) (ss : List Smp) (hby : ByS ss) (qs : List Rat) (hvs : ValS ss qs) (hsz : ss.length ≤ 1000000) (w : World) (vq : Value) (vl : Value) (hl : RowS okl w vl ss) {okq : Nat → Prop} (q : Rat) (hq0 : 0 ≤ q) (hq1 : q ≤ 1) (hq : IsR okq w vq q) :
 Calls Try.prog 29 #[.int .i64 12, .int .i64 over, vq, vl] w fun e w' => e = .returned (.bool true) ∧ Below w.heap.size w w' := by
 have hu30 := Try.underlying30
 have hu39 := Try.underlying39
 obtain ⟨Al, cl, rfl⟩ := hl.slice
 obtain ⟨nl, hnl⟩ : ∃ nl, nl = ss.length := ⟨_, rfl⟩
 rw [← hnl] at hl hsz ⊢
 have HNL := a0_ (And.intro hnl hsz)
 have HBY := a0_ hby
 have e3 : ¬ over < 1 := by omega
 have e4 : ¬ 9007199254740991 < over := by omega
 clear hnl hby hsz h0 h1
 have HVS := a0_ hvs
 clear hvs
 have HQ := a0_ (And.intro hq0 hq1)
 clear hq0 hq1
 obtain ⟨tq, Aq, nq, cq, Dq, kq, zq, rfl⟩ := hq.agg
 have htq : tq = false := by
  have h := IsR.sign hq
  rw [h]
  exact decide_eq_false (by have := Rat.num_nonneg.2 HQ.out.1; omega)
 subst htq
 have HB := kf_ w
 have V_l := a0_ hl
 clear hl
 have B_l := kf_ w
 have V_vq := a0_ hq
 clear hq
 have B_vq := kf_ w
 go_enter Try.func29, Try.ntmps29
 go_wp2_with (first | ((with_reducible refine gd_ 6 rfl ?_); refine bx_ (N := 6) #[.bool false, .slice Aq nq cq, .slice Dq kq zq] 30 ?_; intro g_q hg w101 hbox hb; have G_q := kb_g HB hg; replace HB := kb_b HB hb; replace B_l := kb_b B_l hb; replace B_vq := kb_b B_vq hb; clear hb; have V_q := a0_ hbox; have B_q := kf_ w101; have N_q := nf_ g_q; clear hbox hg))
 go_loopg [27] nl (fun kg v27 wr => ∃ (j : Nat), v27 = .int .i64 j ∧ Aside0 (j + kg = nl) ∧ Aside0 (Kb (fun k => False) w wr) ∧ Aside0 (Kb (fun k => False) w101 wr))
 case atStart => exact ⟨0, rfl, ⟨by omega⟩, HB, B_q⟩
 case round =>
  obtain ⟨j, rfl, HJ, HB2, HQB⟩ := hrel
  clear HB B_l B_q B_vq
  have HB := HB2
  clear HB2
  have B_l := HB
  have B_q := HQB
  clear HQB
  have B_vq := HB
  by_cases hlt : j < nl
  · have hz : (j : Int) < (nl : Int) := by omega
    have e1 : IntKind.i64.wrap ((j : Int) + 1) = ((j + 1 : Nat) : Int) := (i64_w _).trans ((w64 (by have := HNL.out.2; omega) (by have := HNL.out.2; omega)).trans (by omega))
    obtain ⟨bl, ol, rfl⟩ := RowS.some_ V_l.out (by omega)
    obtain ⟨ty, Ay, ny, cy, Dy, ky, zy, hy, c0, c1, c2, c3, c4⟩ := RowS.get (RowS.kb V_l.out B_l.out (fun _ _ h => h)) j (by rw [← HNL.out.1]; exact hlt)
    have C0 := a0_ (And.intro c0 (And.intro c1 (And.intro c2 (And.intro c3 c4))))
    clear c0 c1 c2 c3 c4
    have hbj := HBY.out j (by rw [← HNL.out.1]; exact hlt)
    obtain ⟨sa, hsa⟩ : ∃ x, x = (ss.getD j ⟨0, 0, none⟩).at_ := ⟨_, rfl⟩
    obtain ⟨sb, hsb⟩ : ∃ x, x = (ss.getD j ⟨0, 0, none⟩).by_ := ⟨_, rfl⟩
    rw [← hsa, ← hsb] at C0
    rw [← hsb] at hbj
    have f1 : ¬ sb < 0 := by omega
    have f2 : ¬ 9007199254740991 < sb := by omega
    clear hsa hsb hbj
    have hyv := hy _ (HVS.out.2 j (by rw [← HNL.out.1]; exact hlt))
    clear hy
    have V_y := a0_ hyv
    clear hyv
    have B_y := kf_ wr
    go_wp2_with (first | ((with_reducible refine gd_ 30 rfl ?_); refine load_at5 rfl rfl (g := bl) (k := ol + j * 5) rfl C0.out.1 C0.out.2.1 C0.out.2.2.1 C0.out.2.2.2.1 C0.out.2.2.2.2 ?_) | ((with_reducible refine gd_ 10 rfl ?_); refine bx_ (N := 10) #[.int .i64 0, .int .i64 0, .bool false, .slice none 0 0, .slice none 0 0] 39 ?_; intro g_s hg w103 hbox hb; have G_s := kb_g HB hg; have O_s_l := kb_g B_l hg; have O_s_vq := kb_g B_vq hg; have O_s_q := kb_g B_q hg; have O_s_y := kb_g B_y hg; replace HB := kb_b HB hb; replace B_l := kb_b B_l hb; replace B_vq := kb_b B_vq hb; replace B_q := kb_b B_q hb; replace B_y := kb_b B_y hb; clear hb; have V_s := a0_ hbox; have B_s := kf_ w103; have N_s := nf_ g_s; clear hbox hg) | ((with_reducible refine gt_ 39 10 30 rfl ?_); refine store_ev5 (p := .tmp 10) (v := .tmp 30) rfl rfl rfl (g := g_s) rfl rfl (bk_ V_s B_s N_s) ?_; intro w104 hbox hk; replace HB := kb_o HB hk G_s; replace B_l := kb_o B_l hk O_s_l; replace B_vq := kb_o B_vq hk O_s_vq; replace B_q := kb_o B_q hk O_s_q; replace B_y := kb_o B_y hk O_s_y; clear V_s B_s; have V_s := a0_ hbox; have B_s := kf_ w104; clear hbox hk; have bk_s := bk_ V_s B_s N_s; have hz_s_0 : w104.cell? ⟨g_s, 0, none⟩ = some (.int .i64 sa) := (blk_cell bk_s 0).trans rfl; have hz_s_1 : w104.cell? ⟨g_s, 1, none⟩ = some (.int .i64 sb) := (blk_cell bk_s 1).trans rfl; have hz_s_2 : w104.cell? ⟨g_s, 2, none⟩ = some (.bool ty) := (blk_cell bk_s 2).trans rfl; have hz_s_3 : w104.cell? ⟨g_s, 3, none⟩ = some (.slice Ay ny cy) := (blk_cell bk_s 3).trans rfl; have hz_s_4 : w104.cell? ⟨g_s, 4, none⟩ = some (.slice Dy ky zy) := (blk_cell bk_s 4).trans rfl; clear bk_s))
    with_reducible refine (qcheck_calls (qs.getD j 0) _ _ (IsR.kb (S := fun k => False) V_y.out B_y.out (fun _ _ h => h))).mono ?_
    rintro e w105 ⟨rfl, hb⟩
    clear hz_s_0 hz_s_1 hz_s_2 hz_s_3 hz_s_4
    replace HB := kb_b HB hb
    replace B_l := kb_b B_l hb
    replace B_vq := kb_b B_vq hb
    replace B_q := kb_b B_q hb
    replace B_y := kb_b B_y hb
    replace B_s := kb_b B_s hb
    clear hb
    go_wp2_with fail
    go_roundg (nl - (j + 1))
    case measure => have := HJ.out; omega
    case rel => exact ⟨j + 1, by first | rfl | rw [e1], ⟨by have := HJ.out; omega⟩, HB, B_q⟩
  · have hz : ¬ (j : Int) < (nl : Int) := by omega
    clear hlt
    go_wp2_with fail
    have hb : Below wr.heap.size wr wr.drew := below_drew1 (Below.refl _ _)
    replace HB := kb_b HB hb
    replace B_l := kb_b B_l hb
    replace B_vq := kb_b B_vq hb
    replace B_q := kb_b B_q hb
    clear hb
    refine start_ (n := 19) (S := fun w' => w'.heap[g_q]? = some (.cells #[.bool false, .slice Aq nq cq, .slice Dq kq zq] 30 (0, 0))) (ds := []) (tB_ 19 0) (by kernel_rfl) rfl (by kernel_rfl) (bk_ V_q B_q N_q) (fun hHeld => ?_)
    refine with_tabW May12.tab9 May12.bits9 (fun HT_ HW_ => ?_)
    generalize wr.drew = w103 at HB B_l B_vq B_q hHeld ⊢
    refine pu_ 0 (some 50) 1 HT_ ?_
    refine pu_ 1 (some 51) 3 HT_ ?_
    refine pu_ 2 (some 52) 7 HT_ ?_
    refine tk_ 3 (some 53) 15 HT_ HW_ hHeld ?_ ?_ ?_ ?_ ?_
    rotate_left
    · intro w' hs
      have hb_ := hs
      obtain ⟨c0_, c1_, c2_⟩ := b3_ hb_
      clear hb_ hs
      go_simp
      with_reducible rfl
    rotate_left
    · simp only [PU]
      rfl
    refine on_ 4 (some 54) 31 HT_ (fun K hK => ?_)
    refine gs_ Try.func17 #[.agg #[.bool false, .slice Aq nq cq, .slice Dq kq zq]] ?_
    refine (qcheck_calls q _ _ (IsR.kb (S := fun k => False) V_vq.out B_vq.out (fun _ _ h => h))).mono ?_
    rintro e w104 ⟨rfl, hb⟩
    refine ⟨_, rfl, ?_⟩
    refine hK.out _ _ (by exact blk_below hHeld hb) (fun hHeld => ?_)
    clear hK K
    refine nm_ (some 54) ?_
    replace HB := kb_b HB hb
    replace B_l := kb_b B_l hb
    replace B_vq := kb_b B_vq hb
    replace B_q := kb_b B_q hb
    clear hb
    refine pu_ 5 (some 55) 63 HT_ ?_
    refine pu_ 6 (some 56) 127 HT_ ?_
    refine pu_ 7 (some 57) 255 HT_ ?_
    refine tk_ 8 (some 58) 511 HT_ HW_ hHeld ?_ ?_ ?_ ?_ ?_
    rotate_left
    · intro w' hs
      have hb_ := hs
      obtain ⟨c0_, c1_, c2_⟩ := b3_ hb_
      clear hb_ hs
      go_simp
      with_reducible rfl
    rotate_left
    · simp only [PU]
      rfl
    refine pu_ 9 (some 59) 1023 HT_ ?_
    refine pu_ 10 (some 60) 2047 HT_ ?_
    refine pu_ 11 (some 61) 4095 HT_ ?_
    refine tk_ 12 (some 62) 8191 HT_ HW_ hHeld ?_ ?_ ?_ ?_ ?_
    rotate_left
    · intro w' hs
      have hb_ := hs
      obtain ⟨c0_, c1_, c2_⟩ := b3_ hb_
      clear hb_ hs
      go_simp
      with_reducible rfl
    rotate_left
    · simp only [PU]
      rfl
    obtain ⟨cv, hcv⟩ : ∃ c : Int, c = (if q < ((1 : Nat) : Rat) then -1 else if q = ((1 : Nat) : Rat) then 0 else 1) := ⟨_, rfl⟩
    have hcv2 : cv ≤ 0 := by
     rw [hcv]
     by_cases h1 : q < ((1 : Nat) : Rat)
     · rw [if_pos h1]; omega
     · rw [if_neg h1, if_pos (show q = ((1 : Nat) : Rat) from Rat.le_antisymm (show q ≤ ((1 : Nat) : Rat) from HQ.out.2) (Rat.not_lt.1 h1))]; omega
    have HCV := a0_ (And.intro hcv hcv2)
    clear hcv hcv2
    refine on_ 13 (some 63) 16383 HT_ (fun K hK => ?_)
    refine gs_ Try.func12 #[.int .i64 1] ?_
    refine (qofn_calls 1 (by omega) _).mono ?_
    rintro e w105 ⟨⟨v63, rfl, hv⟩, hb⟩
    obtain ⟨tu, Au, nu, cu, Du, ku, zu, rfl⟩ := hv.agg
    refine ⟨_, rfl, ?_⟩
    refine hK.out _ _ (by exact blk_below hHeld hb) (fun hHeld => ?_)
    clear hK K
    refine nm_ (some 63) ?_
    have hle := Kb.size HB.out
    have hv_ := IsR.mono' (ok' := fun k => True) hv (fun k hk _ => by trivial)
    clear hv hle
    replace HB := kb_b HB hb
    replace B_l := kb_b B_l hb
    replace B_vq := kb_b B_vq hb
    replace B_q := kb_b B_q hb
    clear hb
    have V_u := a0_ hv_
    clear hv_
    have B_u := kf_ w105
    refine on_ 14 (some 64) 32767 HT_ (fun K hK => ?_)
    refine gs_ Try.func39 #[.agg #[.bool false, .slice Aq nq cq, .slice Dq kq zq], .agg #[.bool tu, .slice Au nu cu, .slice Du ku zu]] ?_
    refine (cmp_as (wcompare_calls q ((1 : Nat) : Rat) _ _ _ (IsR.kb (S := fun k => False) V_vq.out B_vq.out (fun _ _ h => h)) (IsR.kb (S := fun k => False) V_u.out B_u.out (fun _ _ h => h))) HCV.out.1).mono ?_
    rintro e w106 ⟨rfl, hb⟩
    refine ⟨_, rfl, ?_⟩
    refine hK.out _ _ (by exact blk_below hHeld hb) (fun hHeld => ?_)
    clear hK K
    refine nm_ (some 64) ?_
    replace HB := kb_b HB hb
    replace B_l := kb_b B_l hb
    replace B_vq := kb_b B_vq hb
    replace B_q := kb_b B_q hb
    replace B_u := kb_b B_u hb
    clear hb
    have hc1 : decide (cv ≤ 0) = true := decide_eq_true HCV.out.2
    have hc2 : cv ≤ 0 := HCV.out.2
    refine pu_ 15 (some 65) 65535 HT_ ?_
    refine pu_ 16 (some 66) 131071 HT_ ?_
    refine pu_ 17 (some 67) 262143 HT_ ?_
    refine pu_ 18 (some 8) 524287 HT_ ?_
    refine do_ HT_ ?_
    clear HT_ HW_ hHeld
    go_wp2_with fail
    go_ret
    exact ⟨rfl, (Kb.to_below HB.out (fun _ h => h.elim))⟩
theorem lclone (m : Nat) (h : m < 4294967296 ^ 16) (A0 : Option Addr) (c0 : Nat) (w : World) (hr0 : Kd.C (Kd.int .u32) w A0 (limbs m).length (limbs m)) (hc0 : (limbs m).length ≤ c0) :
 Calls Try.prog 31 #[.slice A0 (limbs m).length c0] w fun e w' => ∃ v : Value, e = .returned v ∧ RowL (fun k => w.heap.size ≤ k) w' v (limbs m) ∧ Below w.heap.size w w' := by
 refine (slices_Clone_uint32_uint32.calls A0 c0 _ (limbs m) w hr0 hc0 (by unfold slices_Clone_uint32_uint32.f; rw [if_pos (by have := len16 h; omega)])).mono ?_
 rintro e w' ⟨v, rfl, ho, hb⟩
 exact ⟨v, rfl, Rd.ofR ho (Nat.le_refl _), hb⟩
theorem IsT.zero (ok : Nat → Prop) (w : World) : IsT ok w (.agg #[.bool false, .slice none 0 0, .slice none 0 0]) false 0 0 := ⟨_, _, rfl, by rw [limbs_zero]; exact Kd.V_nil _ _ _ _ _, by rw [limbs_zero]; exact Kd.V_nil _ _ _ _ _⟩
def WRunE.T10 : Bool × List (List Nat × List Nat) := (true, [([], []), ([], []), ([1], [1]), ([2], [2]), ([3], [3]), ([0, 0], [0]), ([5, 0, 5], []), ([4, 6, 0, 1, 2, 3, 4, 5, 6], [4])])
def WRunE.B10 : List Nat := [0, 0, 2, 6, 14, 1, 33, 127]
theorem WRunE.tab10 : rtab .any (opsOf Try.f16 10) = WRunE.T10 := by kernel_rfl
theorem WRunE.bits10 : waitsOk WRunE.T10.2 WRunE.B10 = true := by kernel_rfl
def WRunK.T11 : Bool × List (List Nat × List Nat) := (true, [([], []), ([0], [0]), ([], []), ([2], [2]), ([3], [3]), ([], []), ([5], [5]), ([6, 4], [6]), ([1, 4, 7], [1, 4, 7]), ([8, 7, 0, 1, 2, 3, 4, 5, 6, 7, 8], [8]), ([9, 0, 1, 2, 3, 4, 5, 6, 7, 8, 9], []), ([10, 0, 1, 2, 3, 4, 5, 6, 7, 8, 9, 10], [])])
def WRunK.B11 : List Nat := [0, 1, 0, 4, 12, 0, 32, 124, 255, 511, 1023, 2047]
theorem WRunK.tab11 : rtab .any (opsOf Try.f16 11) = WRunK.T11 := by kernel_rfl
theorem WRunK.bits11 : waitsOk WRunK.T11.2 WRunK.B11 = true := by kernel_rfl
theorem wrun_calls (P : Option Rat → Prop) (fn over : Int) (hf5 : fn ≠ 5) (nl : Nat) (hn0 : 0 < nl) (w : World) (tq : Bool) (Aq : Option Addr) (nq cq : Nat) (Dq : Option Addr) (kq zq : Nat) (Al : Option Addr) (cl : Nat) (hmay : ∀ W, Kb (fun k => False) w W → Calls Try.prog 29 #[.int .i64 fn, .int .i64 over, .agg #[.bool tq, .slice Aq nq cq, .slice Dq kq zq], .slice Al nl cl] W fun e w' => e = .returned (.bool true) ∧ Below W.heap.size W w') (hrun : ∀ W rb, Kb (fun k => False) w W → w.heap.size ≤ rb → Rk W rb false → Calls Try.prog 30 #[.pointer (some ⟨rb, 0, none⟩), .int .i64 fn, .int .i64 over, .agg #[.bool tq, .slice Aq nq cq, .slice Dq kq zq], .slice Al nl cl] W fun e w' => ∃ v ans, P ans ∧ e = .returned v ∧ Res (fun k => k < w.heap.size ∨ W.heap.size ≤ k) w' v ans ∧ Rk w' rb ans.isNone ∧ Kb (fun k => k = rb) W w') :
 Calls Try.prog 16 #[.int .i64 fn, .int .i64 over, .agg #[.bool tq, .slice Aq nq cq, .slice Dq kq zq], .slice Al nl cl] w fun e w' => (∃ v ans, P ans ∧ e = .returned (.tuple #[v, .bool ans.isSome, .int .i64 (eno ans)]) ∧ Res (fun k => w.heap.size ≤ k) w' v ans) ∧ Below w.heap.size w w' := by
 have hu30 := Try.underlying30
 have hu61 := Try.underlying61
 have HM := a0_ hmay
 have HR := a0_ hrun
 have g1 : (fn == 5) = false := beq_eq_false_iff_ne.mpr hf5
 have g2 : ((nl : Int) == 0) = false := beq_eq_false_iff_ne.mpr (by omega)
 have g3 : decide (fn = 5) = false := decide_eq_false hf5
 have g4 : decide ((nl : Int) = 0) = false := decide_eq_false (by omega)
 have g5 : (nl == 0) = false := beq_eq_false_iff_ne.mpr (by omega)
 clear hmay hrun hn0
 have HB := kf_ w
 go_enter Try.func16, Try.ntmps16
 try go_step3
 go_wp2_with (first | ((with_reducible refine gd_ 6 rfl ?_); refine bx_ (N := 6) #[.bool tq, .slice Aq nq cq, .slice Dq kq zq] 30 ?_; intro g_q hg w101 hbox hb; have G_q := kb_g HB hg; replace HB := kb_b HB hb; clear hb; have V_q := a0_ hbox; have B_q := kf_ w101; have N_q := nf_ g_q; clear hbox hg) | ((with_reducible refine gd_ 8 rfl ?_); refine bx_ (N := 8) #[.bool false, .slice none 0 0, .slice none 0 0] 30 ?_; intro g_r hg w102 hbox hb; have G_r := kb_g HB hg; replace HB := kb_b HB hb; replace B_q := kb_b B_q hb; clear hb; have V_r := a0_ hbox; have B_r := kf_ w102; have N_r := nf_ g_r; clear hbox hg) | ((with_reducible refine gd_ 15 rfl ?_); refine load_ev rfl rfl (g := g_q) rfl (bk_ V_q B_q N_q) ?_))
 with_reducible refine (HM.out _ HB.out).mono ?_
 rintro e w103 ⟨rfl, hb⟩
 replace HB := kb_b HB hb
 replace B_q := kb_b B_q hb
 replace B_r := kb_b B_r hb
 clear hb
 go_wp2_with (first | ((with_reducible refine gd_ 39 rfl ?_); refine bx_ (N := 39) #[.int .i64 0] 61 ?_; intro g_k hg w104 hbox hb; have G_k := kb_g HB hg; have O_k_q := kb_g B_q hg; have O_k_r := kb_g B_r hg; replace HB := kb_b HB hb; replace B_q := kb_b B_q hb; replace B_r := kb_b B_r hb; clear hb; have V_k := a0_ hbox; have B_k := kf_ w104; have N_k := nf_ g_k; clear hbox hg) | ((with_reducible refine gd_ 43 rfl ?_); refine load_ev rfl rfl (g := g_q) rfl (bk_ V_q B_q N_q) ?_))
 have hrk : Rk w104 g_k false := by
  unfold Rk
  rw [if_neg (by decide)]
  exact bk_ V_k B_k N_k
 have hlk := blk_lt (bk_ V_k B_k N_k)
 have hlr := blk_lt (bk_ V_r B_r N_r)
 have hle := Kb.size HB.out
 with_reducible refine (HR.out _ g_k HB.out G_k.out hrk).mono ?_
 rintro e w105 ⟨v, ans, hP, rfl, hv, hrk2, hk⟩
 have HP := a0_ hP
 have HRK := a0_ hrk2
 clear hP hrk2 hrk
 have hv_ := Res.mono' (ok' := fun k => True ∧ k ≠ g_r ∧ k ≠ g_k ∧ w.heap.size ≤ k ∨ (True ∧ k ≠ g_r ∧ k ≠ g_k)) hv (fun k hk _ => by
  have h1 := G_r.out
  have h2 := G_k.out
  refine Or.inr ⟨trivial, ?_, ?_⟩ <;> (rcases hk with hk | hk <;> omega))
 have hv_ := Res.mono hv_ (ok' := fun k => True ∧ k ≠ g_r ∧ k ≠ g_k) (fun k h => h.elim (fun h => ⟨h.1, h.2.1, h.2.2.1⟩) (fun h => h))
 clear hv hlk hlr hle
 have O_r_k : Aside0 (¬ (g_k = g_r)) := ⟨fun e => by have := O_k_r.out; have := blk_lt V_r.out; omega⟩
 clear V_k B_k
 replace HB := kb_o HB hk G_k
 replace B_q := kb_o B_q hk O_k_q
 replace B_r := kb_o B_r hk O_k_r
 clear hk
 have V_v := a0_ hv_
 clear hv_
 have B_v := a0_ (Kb.refl (fun k => False ∨ k = g_r ∨ k = g_k) w105)
 clear V_q B_q
 cases ans with
 | none =>
  obtain ⟨tv, Av, nv, cv, Dv, kv, zv, rfl⟩ := V_v.out.agg
  go_wp2_with (first | ((with_reducible refine gt_ 30 8 45 rfl ?_); refine store_ev (p := .tmp 8) (v := .tmp 45) rfl rfl rfl (g := g_r) rfl rfl (bk_ V_r B_r N_r) ?_; intro w106 hbox hk; replace HB := kb_o HB hk G_r; replace B_v := kb_t B_v hk (fun i hi => by exact Or.inl (Or.inr (Or.inl hi))); have HRK2 := a0_ (Rk.kb HRK.out hk O_r_k.out); have hz_rk := Rk.cell HRK2.out; simp only [if_true, Option.isNone_none] at hz_rk; clear V_r B_r; have V_r := a0_ hbox; have B_r := kf_ w106; clear hbox hk))
  clear hz_rk
  clear V_v B_v
  have hb : Below w106.heap.size w106 w106.drew := below_drew1 (Below.refl _ _)
  replace HB := kb_b HB hb
  replace B_r := kb_b B_r hb
  clear hb
  refine start_ (n := 8) (S := fun w' => (w'.cell? ⟨g_k, 0, none⟩ = some (.int .i64 20))) (ds := []) (tB_ 8 0) (by kernel_rfl) rfl (by kernel_rfl) (((Rk.cell HRK2.out).trans (by simp))) (fun hHeld => ?_)
  refine with_tabW WRunE.tab10 WRunE.bits10 (fun HT_ HW_ => ?_)
  generalize w106.drew = w107 at HB B_r hHeld ⊢
  refine pu_ 0 (some 51) 1 HT_ ?_
  refine pu_ 1 (some 52) 3 HT_ ?_
  refine pu_ 2 (some 53) 7 HT_ ?_
  refine pu_ 3 (some 54) 15 HT_ ?_
  refine tk_ 4 (some 55) 31 HT_ HW_ hHeld ?_ ?_ ?_ ?_ ?_
  rotate_left
  · intro w' hs
    have hb_ := hs
    have c0_ := hb_
    clear hs
    go_simp
    with_reducible rfl
  rotate_left
  · simp only [PU]
    rfl
  refine on_ 5 none 63 HT_ (fun K hK => ?_)
  have bk_r := bk_ V_r B_r N_r
  have hz_r_0 : w107.cell? ⟨g_r, 0, none⟩ = some (.bool tv) := (blk_cell bk_r 0).trans rfl
  have hf_r_0 := blk_frozen bk_r 0
  have hz_r_1 : w107.cell? ⟨g_r, 1, none⟩ = some (.slice Av nv cv) := (blk_cell bk_r 1).trans rfl
  have hf_r_1 := blk_frozen bk_r 1
  have hz_r_2 : w107.cell? ⟨g_r, 2, none⟩ = some (.slice Dv kv zv) := (blk_cell bk_r 2).trans rfl
  have hf_r_2 := blk_frozen bk_r 2
  clear bk_r
  refine skip_ (w1 := ((w107.setCell ⟨g_r, 0, none⟩ (.bool false)).setCell ⟨g_r, 1, none⟩ (.slice none 0 0)).setCell ⟨g_r, 2, none⟩ (.slice none 0 0)) (by rfl) rfl ?_ ?_
  · first | (go_simp; done) | (go_simp; rfl)
  clear hz_r_0 hf_r_0 hz_r_1 hf_r_1 hz_r_2 hf_r_2
  have hbox : (((w107.setCell ⟨g_r, 0, none⟩ (.bool false)).setCell ⟨g_r, 1, none⟩ (.slice none 0 0)).setCell ⟨g_r, 2, none⟩ (.slice none 0 0)).heap[g_r]? = some (.cells #[.bool false, .slice none 0 0, .slice none 0 0] 30 (0, 0)) := blk_put (blk_put (blk_put (bk_ V_r B_r N_r) 0 _ rfl) 1 _ rfl) 2 _ rfl
  have hk : Kb (fun k => k = g_r) w107 (((w107.setCell ⟨g_r, 0, none⟩ (.bool false)).setCell ⟨g_r, 1, none⟩ (.slice none 0 0)).setCell ⟨g_r, 2, none⟩ (.slice none 0 0)) := (((Kb.refl (fun k => k = g_r) w107).setCell (p := ⟨g_r, 0, none⟩) (Or.inl rfl) _).setCell (p := ⟨g_r, 1, none⟩) (Or.inl rfl) _).setCell (p := ⟨g_r, 2, none⟩) (Or.inl rfl) _
  refine hK.out _ _ (by exact Kb.cell hHeld hk (show ¬ (g_k = g_r) from O_r_k.out)) (fun hHeld => ?_)
  clear hK K
  obtain ⟨w108, hw_⟩ : ∃ x, x = ((w107.setCell ⟨g_r, 0, none⟩ (.bool false)).setCell ⟨g_r, 1, none⟩ (.slice none 0 0)).setCell ⟨g_r, 2, none⟩ (.slice none 0 0) := ⟨_, rfl⟩
  rw [← hw_] at hk hbox hHeld ⊢
  clear hw_
  replace HB := kb_o HB hk G_r
  clear V_r B_r
  have V_r := a0_ hbox
  have B_r := kf_ w108
  clear hbox hk
  refine pu_ 6 (some 9) 127 HT_ ?_
  refine pu_ 7 (some 10) 255 HT_ ?_
  refine do_ HT_ ?_
  clear HT_ HW_ hHeld
  go_wp2_with fail
  refine bodyPost_ret (results_ctt rfl _ _ g_r 30 #[.bool false, .slice none 0 0, .slice none 0 0] (0, 0) _ rfl (bk_ V_r B_r N_r) Try.underlying30 rfl (by kernel_rfl)) rfl ?_
  exact ⟨⟨_, none, HP.out, rfl, IsT.zero _ _⟩, (Kb.to_below HB.out (fun _ h => h.elim))⟩
 | some x =>
  have hx := Res.isR V_v.out
  obtain ⟨A0, c0, A1, c1, rfl, hr0, hr1⟩ := hx.rows
  have HF := a0_ hx.1
  obtain ⟨sg, hsg⟩ : ∃ s, s = decide (x.num < 0) := ⟨_, rfl⟩
  obtain ⟨m, hm⟩ : ∃ m, m = x.num.natAbs := ⟨_, rfl⟩
  obtain ⟨d, hd⟩ : ∃ d, d = x.den := ⟨_, rfl⟩
  rw [← hsg, ← hm, ← hd]
  rw [← hm] at hr0
  rw [← hd] at hr1
  have HMD := a0_ (And.intro hsg (And.intro hm hd))
  clear hsg hm hd hx
  clear V_v B_v
  have V_m := a0_ hr0
  clear hr0
  have B_m := a0_ (Kb.refl (fun k => False ∨ k = g_r ∨ k = g_k) w105)
  have V_d := a0_ hr1
  clear hr1
  have B_d := a0_ (Kb.refl (fun k => False ∨ k = g_r ∨ k = g_k) w105)
  go_wp2_with (first | ((with_reducible refine gt_ 30 8 45 rfl ?_); refine store_ev (p := .tmp 8) (v := .tmp 45) rfl rfl rfl (g := g_r) rfl rfl (bk_ V_r B_r N_r) ?_; intro w106 hbox hk; replace HB := kb_o HB hk G_r; replace B_m := kb_t B_m hk (fun i hi => by exact Or.inl (Or.inr (Or.inl hi))); replace B_d := kb_t B_d hk (fun i hi => by exact Or.inl (Or.inr (Or.inl hi))); have HRK2 := a0_ (Rk.kb HRK.out hk O_r_k.out); have hz_rk := Rk.cell HRK2.out; simp only [Option.isNone_some, Bool.false_eq_true, if_false] at hz_rk; clear V_r B_r; have V_r := a0_ hbox; have B_r := kf_ w106; clear hbox hk))
  clear hz_rk
  have hb : Below w106.heap.size w106 w106.drew := below_drew1 (Below.refl _ _)
  replace HB := kb_b HB hb
  replace B_r := kb_b B_r hb
  replace B_m := kb_b B_m hb
  replace B_d := kb_b B_d hb
  clear hb
  refine start_ (n := 12) (S := fun w' => w'.heap[g_r]? = some (.cells #[.bool sg, .slice A0 (limbs m).length c0, .slice A1 (limbs d).length c1] 30 (0, 0))) (ds := [9]) (tB_ 12 0) (by kernel_rfl) rfl (by kernel_rfl) (bk_ V_r B_r N_r) (fun hHeld => ?_)
  refine with_tabW WRunK.tab11 WRunK.bits11 (fun HT_ HW_ => ?_)
  generalize w106.drew = w107 at HB B_r B_m B_d hHeld ⊢
  refine pu_ 0 (some 56) 1 HT_ ?_
  refine tk_ 1 (some 57) 3 HT_ HW_ hHeld ?_ ?_ ?_ ?_ ?_
  rotate_left
  · intro w' hs
    have hb_ := hs
    obtain ⟨c0_, c1_, c2_⟩ := b3_ hb_
    clear hb_ hs
    go_simp
    with_reducible rfl
  rotate_left
  · simp only [PU]
    rfl
  refine pu_ 2 (some 58) 7 HT_ ?_
  refine tk_ 3 (some 59) 15 HT_ HW_ hHeld ?_ ?_ ?_ ?_ ?_
  rotate_left
  · intro w' hs
    have hb_ := hs
    obtain ⟨c0_, c1_, c2_⟩ := b3_ hb_
    clear hb_ hs
    go_simp
    with_reducible rfl
  rotate_left
  · simp only [PU]
    rfl
  refine pu_ 5 (some 61) 47 HT_ ?_
  refine tk_ 6 (some 62) 111 HT_ HW_ hHeld ?_ ?_ ?_ ?_ ?_
  rotate_left
  · intro w' hs
    have hb_ := hs
    obtain ⟨c0_, c1_, c2_⟩ := b3_ hb_
    clear hb_ hs
    go_simp
    with_reducible rfl
  rotate_left
  · simp only [PU]
    rfl
  refine on_ 4 (some 60) 127 HT_ (fun K hK => ?_)
  refine gs_ Try.func31 #[.slice A0 (limbs m).length c0] ?_
  refine (lclone m (by rw [HMD.out.2.1]; exact HF.out.1) _ _ _ (RowL.c (RowL.kb (S := fun k => False ∨ k = g_r ∨ k = g_k) V_m.out B_m.out (fun k h hs => hs.elim (fun f => f) (fun hs2 => hs2.elim h.2.1 h.2.2)))) (RowL.le V_m.out)).mono ?_
  rintro e w108 ⟨v60, rfl, h1, hb⟩
  obtain ⟨A2, c2, rfl⟩ := RowL.slice h1
  have hle := Kb.size HB.out
  have hlr := blk_lt (bk_ V_r B_r N_r)
  have h1 := RowL.mono' (ok' := fun k => True ∧ k ≠ g_r ∧ w.heap.size ≤ k) h1 (fun k hk _ => ⟨trivial, by omega, by omega⟩)
  clear hle hlr
  refine ⟨_, rfl, ?_⟩
  refine hK.out _ _ (by exact blk_below hHeld hb) (fun hHeld => ?_)
  clear hK K
  refine nm_ (some 60) ?_
  replace HB := kb_b HB hb
  replace B_r := kb_b B_r hb
  replace B_m := kb_b B_m hb
  replace B_d := kb_b B_d hb
  clear hb
  have V_n := a0_ h1
  clear h1
  have B_n := a0_ (Kb.refl (fun k => False ∨ k = g_r) w108)
  refine on_ 7 (some 63) 255 HT_ (fun K hK => ?_)
  refine gs_ Try.func31 #[.slice A1 (limbs d).length c1] ?_
  refine (lclone d (by rw [HMD.out.2.2]; exact HF.out.2) _ _ _ (RowL.c (RowL.kb (S := fun k => False ∨ k = g_r ∨ k = g_k) V_d.out B_d.out (fun k h hs => hs.elim (fun f => f) (fun hs2 => hs2.elim h.2.1 h.2.2)))) (RowL.le V_d.out)).mono ?_
  rintro e w109 ⟨v63, rfl, h1, hb⟩
  obtain ⟨A3, c3, rfl⟩ := RowL.slice h1
  have hle := Kb.size HB.out
  have hlr := blk_lt (bk_ V_r B_r N_r)
  have h1 := RowL.mono' (ok' := fun k => True ∧ k ≠ g_r ∧ w.heap.size ≤ k) h1 (fun k hk _ => ⟨trivial, by omega, by omega⟩)
  clear hle hlr
  refine ⟨_, rfl, ?_⟩
  refine hK.out _ _ (by exact blk_below hHeld hb) (fun hHeld => ?_)
  clear hK K
  refine nm_ (some 63) ?_
  replace HB := kb_b HB hb
  replace B_r := kb_b B_r hb
  replace B_m := kb_b B_m hb
  replace B_d := kb_b B_d hb
  replace B_n := kb_b B_n hb
  clear hb
  have V_e := a0_ h1
  clear h1
  have B_e := a0_ (Kb.refl (fun k => False ∨ k = g_r) w109)
  clear V_m B_m
  clear V_d B_d
  refine pu_ 8 (some 64) 511 HT_ ?_
  refine la_ 9 none 1023 HT_ (fun K hK => ?_)
  have bk_r := bk_ V_r B_r N_r
  have hz_r_0 : w109.cell? ⟨g_r, 0, none⟩ = some (.bool sg) := (blk_cell bk_r 0).trans rfl
  have hf_r_0 := blk_frozen bk_r 0
  have hz_r_1 : w109.cell? ⟨g_r, 1, none⟩ = some (.slice A0 (limbs m).length c0) := (blk_cell bk_r 1).trans rfl
  have hf_r_1 := blk_frozen bk_r 1
  have hz_r_2 : w109.cell? ⟨g_r, 2, none⟩ = some (.slice A1 (limbs d).length c1) := (blk_cell bk_r 2).trans rfl
  have hf_r_2 := blk_frozen bk_r 2
  clear bk_r
  refine skip_ (w1 := ((w109.setCell ⟨g_r, 0, none⟩ (.bool sg)).setCell ⟨g_r, 1, none⟩ (.slice A2 (limbs m).length c2)).setCell ⟨g_r, 2, none⟩ (.slice A3 (limbs d).length c3)) (by rfl) rfl ?_ ?_
  · first | (go_simp; done) | (go_simp; rfl)
  clear hz_r_0 hf_r_0 hz_r_1 hf_r_1 hz_r_2 hf_r_2
  have hbox : (((w109.setCell ⟨g_r, 0, none⟩ (.bool sg)).setCell ⟨g_r, 1, none⟩ (.slice A2 (limbs m).length c2)).setCell ⟨g_r, 2, none⟩ (.slice A3 (limbs d).length c3)).heap[g_r]? = some (.cells #[.bool sg, .slice A2 (limbs m).length c2, .slice A3 (limbs d).length c3] 30 (0, 0)) := blk_put (blk_put (blk_put (bk_ V_r B_r N_r) 0 _ rfl) 1 _ rfl) 2 _ rfl
  have hk : Kb (fun k => k = g_r) w109 (((w109.setCell ⟨g_r, 0, none⟩ (.bool sg)).setCell ⟨g_r, 1, none⟩ (.slice A2 (limbs m).length c2)).setCell ⟨g_r, 2, none⟩ (.slice A3 (limbs d).length c3)) := (((Kb.refl (fun k => k = g_r) w109).setCell (p := ⟨g_r, 0, none⟩) (Or.inl rfl) _).setCell (p := ⟨g_r, 1, none⟩) (Or.inl rfl) _).setCell (p := ⟨g_r, 2, none⟩) (Or.inl rfl) _
  refine hK.out _ _ ?_
  clear hHeld
  have hHeld := trivial
  clear hK K
  obtain ⟨w110, hw_⟩ : ∃ x, x = ((w109.setCell ⟨g_r, 0, none⟩ (.bool sg)).setCell ⟨g_r, 1, none⟩ (.slice A2 (limbs m).length c2)).setCell ⟨g_r, 2, none⟩ (.slice A3 (limbs d).length c3) := ⟨_, rfl⟩
  rw [← hw_] at hk hbox ⊢
  clear hw_
  replace HB := kb_o HB hk G_r
  replace B_n := kb_t B_n hk (fun i hi => by exact Or.inl (Or.inr hi))
  replace B_e := kb_t B_e hk (fun i hi => by exact Or.inl (Or.inr hi))
  clear V_r B_r
  have V_r := a0_ hbox
  have B_r := kf_ w110
  clear hbox hk
  refine pu_ 10 (some 9) 2047 HT_ ?_
  refine pu_ 11 (some 10) 4095 HT_ ?_
  refine do_ HT_ ?_
  clear HT_ HW_ hHeld
  go_wp2_with fail
  have hn := Kd.V_mono (RowL.kb (S := fun k => False ∨ k = g_r) V_n.out B_n.out (fun k h hs => hs.elim (fun f => f) h.2.1)) (fun k h => h.2.2)
  have he := Kd.V_mono (RowL.kb (S := fun k => False ∨ k = g_r) V_e.out B_e.out (fun k h hs => hs.elim (fun f => f) h.2.1)) (fun k h => h.2.2)
  rw [HMD.out.2.1] at hn
  rw [HMD.out.2.2] at he
  refine bodyPost_ret (results_ctt rfl _ _ g_r 30 #[.bool sg, .slice A2 (limbs m).length c2, .slice A3 (limbs d).length c3] (0, 0) _ rfl (bk_ V_r B_r N_r) Try.underlying30 rfl (by kernel_rfl)) rfl ?_
  refine ⟨⟨_, some x, HP.out, rfl, ?_⟩, (Kb.to_below HB.out (fun _ h => h.elim))⟩
  have h8 := IsR.of_calls HF.out hn he
  rw [← HMD.out.1, ← HMD.out.2.1, ← HMD.out.2.2] at h8
  exact h8
end Go.Proofs.Ytgdkgahbmfhgcaa.PN
