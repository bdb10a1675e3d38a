/- What the statement rests on, part 14: YC YD YE YJ YA YF YK. -/
import Derived.Test.YtgdkgahbmfhgcaaB13
set_option linter.unusedVariables false
set_option linter.unusedSimpArgs false
set_option maxHeartbeats 4000000
set_option maxRecDepth 100000
namespace Go.Proofs.Ytgdkgahbmfhgcaa.PN
open Go.RowKit Go.Proofs.Ytgdkgahbmfhgcaa.NS Go.Proofs.Ytgdkgahbmfhgcaa.Limbs Go.Proofs.YtgdkgahbmfhgcaaW.PrintWords Go.Proofs.YtgdkgahbmfhgcaaW.PrintLast Go.Proofs.YtgdkgahbmfhgcaaW.PrintMore
theorem RowS.okb {ok : Nat → Prop} {w : World} {b o n c : Nat} {ss : List Smp} (h : RowS ok w (.slice (some ⟨b, o, none⟩) n c) ss) (h0 : 0 < n) : ok b := by
 obtain ⟨ad, cs, he, hlen, hK, hc, hok⟩ := Kd.F_get (Kd.V_F h) ⟨0, 0, none⟩ 0 (by omega) (by omega)
 injection he with he
 subst he
 exact hok (by decide)
theorem ValS.get {ss : List Smp} {qs : List Rat} (h : ValS ss qs) (i : Nat) (hi : i < ss.length) : (ss.getD i ⟨0, 0, none⟩).q = some (qs.getD i 0) := h.2 i hi
theorem run8_calls {okl : Nat → Prop} (rb : Nat) (over : Int) (ss : List Smp) (qs : List Rat) (hn0 : 0 < ss.length) (hsz : ss.length ≤ 1000000) (w : World) (tq : Bool) (Aq : Option Addr) (nq cq : Nat) (Dq : Option Addr) (kq zq : Nat) (vl : Value) (hr : Rk w rb false) (hl : RowS okl w vl ss) (hok : ∀ k, okl k → k ≠ rb) (hvs : ValS ss qs) :
 Calls Try.prog 30 #[.pointer (some ⟨rb, 0, none⟩), .int .i64 8, .int .i64 over, .agg #[.bool tq, .slice Aq nq cq, .slice Dq kq zq], vl] w fun e w' => ∃ v, e = .returned v ∧ Res (fun k => okl k ∨ w.heap.size ≤ k) w' v (some (extQ false qs)) ∧ Rk w' rb (some (extQ false qs)).isNone ∧ Kb (fun k => k = rb) w w' := by
 obtain ⟨ans, hans⟩ : ∃ a, a = some (extQ false qs) := ⟨_, rfl⟩
 rw [← hans]
 have HANS := a0_ hans
 clear hans
 have hu30 := Try.underlying30
 have hu39 := Try.underlying39
 obtain ⟨Al, cl, rfl⟩ := hl.slice
 obtain ⟨nl, hnl⟩ : ∃ nl, nl = ss.length := ⟨_, rfl⟩
 rw [← hnl] at hl hn0 hsz ⊢
 have HNL := a0_ (And.intro hnl (And.intro hn0 hsz))
 have hl2 : RowS (fun k => k ≠ rb ∧ (okl k ∧ k < w.heap.size)) w (.slice Al nl cl) ss := RowS.mono' hl (fun k h1 h2 => ⟨hok k h1, h1, h2⟩)
 have HOKL := a0_ hok
 clear hnl hl hok
 have HB := kr_ rb w
 have HL := a0_ (Rk.lt hr)
 have RK := a0_ hr
 clear hr
 have V_l := a0_ hl2
 clear hl2
 have B_l := kr_ rb w
 clear hn0 hsz
 go_enter Try.func30, Try.ntmps30
 go_wp2_with (first | ((with_reducible refine gd_ 8 rfl ?_); refine bx_ (N := 8) #[.bool tq, .slice Aq nq cq, .slice Dq kq zq] 30 ?_; intro g_q hg w101 hbox hb; have G_q := kb_g HB hg; replace HB := kb_b HB hb; replace B_l := kb_b B_l hb; replace RK := rk_b RK hb; clear hb; have V_q := a0_ hbox; have B_q := kr_ rb w101; have N_q : Aside0 (¬ (fun k => k = rb) g_q) := ⟨by show ¬ (_ = _); have := HL.out; have := G_q.out; omega⟩; clear hbox hg) | ((with_reducible refine gd_ 10 rfl ?_); refine bx_ (N := 10) #[.bool false, .slice none 0 0, .slice none 0 0] 30 ?_; intro g_r hg w102 hbox hb; have G_r := kb_g HB hg; replace HB := kb_b HB hb; replace B_l := kb_b B_l hb; replace B_q := kb_b B_q hb; replace RK := rk_b RK hb; clear hb; have V_r := a0_ hbox; have B_r := kr_ rb w102; have N_r : Aside0 (¬ (fun k => k = rb) g_r) := ⟨by show ¬ (_ = _); have := HL.out; have := G_r.out; omega⟩; clear hbox hg))
 with_reducible refine (qofn_calls nl HNL.out.2.2 _).mono ?_
 rintro e w103 ⟨⟨v, rfl, hv⟩, hb⟩
 obtain ⟨tn, An, nn, cn, Dn, kn, zn, rfl⟩ := hv.agg
 have hle := Kb.size HB.out
 have hl_r := blk_lt (bk_ V_r B_r N_r)
 have hv_ := IsR.mono' (ok' := fun k => k ≠ rb ∧ k ≠ g_r ∧ w.heap.size ≤ k) hv (fun k hk _ => by have := HL.out; refine ⟨?_, ?_, ?_⟩ <;> omega)
 clear hv hle hl_r
 replace HB := kb_b HB hb
 replace B_l := kb_b B_l hb
 replace B_q := kb_b B_q hb
 replace B_r := kb_b B_r hb
 replace RK := rk_b RK hb
 clear hb
 have V_vn := a0_ hv_
 clear hv_
 have B_vn := a0_ (Kb.refl (fun k => k = rb ∨ k = g_r) w103)
 go_wp2_with (first | ((with_reducible refine gd_ 11 rfl ?_); refine bx_ (N := 11) #[.bool false, .slice none 0 0, .slice none 0 0] 30 ?_; intro g_n hg w104 hbox hb; have G_n := kb_g HB hg; have O_n_l := kb_g B_l hg; have O_n_q := kb_g B_q hg; have O_n_r := kb_g B_r hg; have O_n_vn := kb_g B_vn hg; replace HB := kb_b HB hb; replace B_l := kb_b B_l hb; replace B_q := kb_b B_q hb; replace B_r := kb_b B_r hb; replace B_vn := kb_b B_vn hb; replace RK := rk_b RK hb; clear hb; have V_n := a0_ hbox; have B_n := kr_ rb w104; have N_n : Aside0 (¬ (fun k => k = rb) g_n) := ⟨by show ¬ (_ = _); have := HL.out; have := G_n.out; omega⟩; clear hbox hg) | ((with_reducible refine gt_ 30 11 14 rfl ?_); refine store_ev (p := .tmp 11) (v := .tmp 14) rfl rfl rfl (g := g_n) rfl rfl (bk_ V_n B_n N_n) ?_; intro w105 hbox hk; replace HB := kb_o HB hk G_n; replace B_l := kb_o B_l hk O_n_l; replace B_q := kb_o B_q hk O_n_q; replace B_r := kb_o B_r hk O_n_r; replace B_vn := kb_o B_vn hk O_n_vn; have Z_ := a0_ (Rk.kb RK.out hk (by have := HL.out; have := G_n.out; omega)); clear RK; have RK := Z_; clear Z_; clear V_n B_n; have V_n := a0_ hbox; have B_n := kr_ rb w105; clear hbox hk))
 clear V_vn B_vn
 with_reducible refine (each_value ss qs hvs (by rw [← HNL.out.1]; exact HNL.out.2.2) _ _ (RowS.kb (S := fun k => k = rb) V_l.out B_l.out (fun k h hs => absurd hs h.1))).mono ?_
 rintro e w106 ⟨⟨v, rfl, hv⟩, hb⟩
 obtain ⟨Ae, ce, rfl⟩ := RowQ.slice hv
 have hle := Kb.size HB.out
 have hlr := blk_lt (bk_ V_r B_r N_r)
 have hv_ := RowQ.mono' (ok' := fun k => k ≠ rb ∧ k ≠ g_r ∧ (okl k ∨ w.heap.size ≤ k)) hv (fun k hk _ => by
  have := HL.out
  have h3 := G_r.out
  rcases hk with hk | hk
  · exact ⟨hk.1, fun e => by have := hk.2.2; omega, Or.inl hk.2.1⟩
  · exact ⟨by omega, by omega, Or.inr (by omega)⟩)
 clear hv hle hlr
 replace HB := kb_b HB hb
 replace B_l := kb_b B_l hb
 replace B_q := kb_b B_q hb
 replace B_r := kb_b B_r hb
 replace B_n := kb_b B_n hb
 replace RK := rk_b RK hb
 clear hb
 have V_e := a0_ hv_
 clear hv_
 have B_e := a0_ (Kb.refl (fun k => k = rb ∨ k = g_r) w106)
 go_wp2_with fail
 with_reducible refine (min_calls qs (by rw [ValS.len hvs, ← HNL.out.1]; exact HNL.out.2.1) (by rw [ValS.len hvs, ← HNL.out.1]; exact HNL.out.2.2) _ _ (RowQ.kb (S := fun k => k = rb ∨ k = g_r) V_e.out B_e.out (fun k h hs => hs.elim h.1 h.2.1))).mono ?_
 rintro e w107 ⟨⟨v, rfl, hv⟩, hb⟩
 obtain ⟨tv, Av, nv, cv, Dv, kv, zv, rfl⟩ := hv.agg
 replace HB := kb_b HB hb
 replace B_l := kb_b B_l hb
 replace B_q := kb_b B_q hb
 replace B_r := kb_b B_r hb
 replace B_n := kb_b B_n hb
 replace B_e := kb_b B_e hb
 replace RK := rk_b RK hb
 clear hb
 have V_v := a0_ hv
 clear hv
 have B_v := a0_ (Kb.refl (fun k => k = rb ∨ k = g_r) w107)
 clear V_l B_l
 clear V_e B_e
 clear V_q B_q
 clear V_n B_n
 go_wp2_with (first | ((with_reducible refine gt_ 30 10 59 rfl ?_); refine store_ev (p := .tmp 10) (v := .tmp 59) rfl rfl rfl (g := g_r) rfl rfl (bk_ V_r B_r N_r) ?_; intro w108 hbox hk; replace HB := kb_o HB hk G_r; replace B_v := kb_t B_v hk (fun i hi => by exact Or.inl (Or.inr hi)); have Z_ := a0_ (Rk.kb RK.out hk (by have := HL.out; have := G_r.out; omega)); clear RK; have RK := Z_; clear Z_; clear V_r B_r; have V_r := a0_ hbox; have B_r := kr_ rb w108; clear hbox hk))
 have ha := HANS.out
 refine bodyPost_ret (results_cell_row rfl _ _ g_r 30 #[.bool tv, .slice Av nv cv, .slice Dv kv zv] (0, 0) _ rfl (bk_ V_r B_r N_r) Try.underlying30 rfl (by kernel_rfl)) rfl ?_
 exact ⟨_, rfl, by rw [ha]; exact ((IsR.mono (IsR.kb (S := fun k => k = rb ∨ k = g_r) V_v.out B_v.out (fun k h hs => hs.elim h.1 h.2.1)) (fun k h => h.2.2))), by rw [ha]; exact RK.out, HB.out⟩
theorem run9_calls {okl : Nat → Prop} (rb : Nat) (over : Int) (ss : List Smp) (qs : List Rat) (hn0 : 0 < ss.length) (hsz : ss.length ≤ 1000000) (w : World) (tq : Bool) (Aq : Option Addr) (nq cq : Nat) (Dq : Option Addr) (kq zq : Nat) (vl : Value) (hr : Rk w rb false) (hl : RowS okl w vl ss) (hok : ∀ k, okl k → k ≠ rb) (hvs : ValS ss qs) :
 Calls Try.prog 30 #[.pointer (some ⟨rb, 0, none⟩), .int .i64 9, .int .i64 over, .agg #[.bool tq, .slice Aq nq cq, .slice Dq kq zq], vl] w fun e w' => ∃ v, e = .returned v ∧ Res (fun k => okl k ∨ w.heap.size ≤ k) w' v (some (extQ true qs)) ∧ Rk w' rb (some (extQ true qs)).isNone ∧ Kb (fun k => k = rb) w w' := by
 obtain ⟨ans, hans⟩ : ∃ a, a = some (extQ true qs) := ⟨_, rfl⟩
 rw [← hans]
 have HANS := a0_ hans
 clear hans
 have hu30 := Try.underlying30
 have hu39 := Try.underlying39
 obtain ⟨Al, cl, rfl⟩ := hl.slice
 obtain ⟨nl, hnl⟩ : ∃ nl, nl = ss.length := ⟨_, rfl⟩
 rw [← hnl] at hl hn0 hsz ⊢
 have HNL := a0_ (And.intro hnl (And.intro hn0 hsz))
 have hl2 : RowS (fun k => k ≠ rb ∧ (okl k ∧ k < w.heap.size)) w (.slice Al nl cl) ss := RowS.mono' hl (fun k h1 h2 => ⟨hok k h1, h1, h2⟩)
 have HOKL := a0_ hok
 clear hnl hl hok
 have HB := kr_ rb w
 have HL := a0_ (Rk.lt hr)
 have RK := a0_ hr
 clear hr
 have V_l := a0_ hl2
 clear hl2
 have B_l := kr_ rb w
 clear hn0 hsz
 go_enter Try.func30, Try.ntmps30
 go_wp2_with (first | ((with_reducible refine gd_ 8 rfl ?_); refine bx_ (N := 8) #[.bool tq, .slice Aq nq cq, .slice Dq kq zq] 30 ?_; intro g_q hg w101 hbox hb; have G_q := kb_g HB hg; replace HB := kb_b HB hb; replace B_l := kb_b B_l hb; replace RK := rk_b RK hb; clear hb; have V_q := a0_ hbox; have B_q := kr_ rb w101; have N_q : Aside0 (¬ (fun k => k = rb) g_q) := ⟨by show ¬ (_ = _); have := HL.out; have := G_q.out; omega⟩; clear hbox hg) | ((with_reducible refine gd_ 10 rfl ?_); refine bx_ (N := 10) #[.bool false, .slice none 0 0, .slice none 0 0] 30 ?_; intro g_r hg w102 hbox hb; have G_r := kb_g HB hg; replace HB := kb_b HB hb; replace B_l := kb_b B_l hb; replace B_q := kb_b B_q hb; replace RK := rk_b RK hb; clear hb; have V_r := a0_ hbox; have B_r := kr_ rb w102; have N_r : Aside0 (¬ (fun k => k = rb) g_r) := ⟨by show ¬ (_ = _); have := HL.out; have := G_r.out; omega⟩; clear hbox hg))
 with_reducible refine (qofn_calls nl HNL.out.2.2 _).mono ?_
 rintro e w103 ⟨⟨v, rfl, hv⟩, hb⟩
 obtain ⟨tn, An, nn, cn, Dn, kn, zn, rfl⟩ := hv.agg
 have hle := Kb.size HB.out
 have hl_r := blk_lt (bk_ V_r B_r N_r)
 have hv_ := IsR.mono' (ok' := fun k => k ≠ rb ∧ k ≠ g_r ∧ w.heap.size ≤ k) hv (fun k hk _ => by have := HL.out; refine ⟨?_, ?_, ?_⟩ <;> omega)
 clear hv hle hl_r
 replace HB := kb_b HB hb
 replace B_l := kb_b B_l hb
 replace B_q := kb_b B_q hb
 replace B_r := kb_b B_r hb
 replace RK := rk_b RK hb
 clear hb
 have V_vn := a0_ hv_
 clear hv_
 have B_vn := a0_ (Kb.refl (fun k => k = rb ∨ k = g_r) w103)
 go_wp2_with (first | ((with_reducible refine gd_ 11 rfl ?_); refine bx_ (N := 11) #[.bool false, .slice none 0 0, .slice none 0 0] 30 ?_; intro g_n hg w104 hbox hb; have G_n := kb_g HB hg; have O_n_l := kb_g B_l hg; have O_n_q := kb_g B_q hg; have O_n_r := kb_g B_r hg; have O_n_vn := kb_g B_vn hg; replace HB := kb_b HB hb; replace B_l := kb_b B_l hb; replace B_q := kb_b B_q hb; replace B_r := kb_b B_r hb; replace B_vn := kb_b B_vn hb; replace RK := rk_b RK hb; clear hb; have V_n := a0_ hbox; have B_n := kr_ rb w104; have N_n : Aside0 (¬ (fun k => k = rb) g_n) := ⟨by show ¬ (_ = _); have := HL.out; have := G_n.out; omega⟩; clear hbox hg) | ((with_reducible refine gt_ 30 11 14 rfl ?_); refine store_ev (p := .tmp 11) (v := .tmp 14) rfl rfl rfl (g := g_n) rfl rfl (bk_ V_n B_n N_n) ?_; intro w105 hbox hk; replace HB := kb_o HB hk G_n; replace B_l := kb_o B_l hk O_n_l; replace B_q := kb_o B_q hk O_n_q; replace B_r := kb_o B_r hk O_n_r; replace B_vn := kb_o B_vn hk O_n_vn; have Z_ := a0_ (Rk.kb RK.out hk (by have := HL.out; have := G_n.out; omega)); clear RK; have RK := Z_; clear Z_; clear V_n B_n; have V_n := a0_ hbox; have B_n := kr_ rb w105; clear hbox hk))
 clear V_vn B_vn
 with_reducible refine (each_value ss qs hvs (by rw [← HNL.out.1]; exact HNL.out.2.2) _ _ (RowS.kb (S := fun k => k = rb) V_l.out B_l.out (fun k h hs => absurd hs h.1))).mono ?_
 rintro e w106 ⟨⟨v, rfl, hv⟩, hb⟩
 obtain ⟨Ae, ce, rfl⟩ := RowQ.slice hv
 have hle := Kb.size HB.out
 have hlr := blk_lt (bk_ V_r B_r N_r)
 have hv_ := RowQ.mono' (ok' := fun k => k ≠ rb ∧ k ≠ g_r ∧ (okl k ∨ w.heap.size ≤ k)) hv (fun k hk _ => by
  have := HL.out
  have h3 := G_r.out
  rcases hk with hk | hk
  · exact ⟨hk.1, fun e => by have := hk.2.2; omega, Or.inl hk.2.1⟩
  · exact ⟨by omega, by omega, Or.inr (by omega)⟩)
 clear hv hle hlr
 replace HB := kb_b HB hb
 replace B_l := kb_b B_l hb
 replace B_q := kb_b B_q hb
 replace B_r := kb_b B_r hb
 replace B_n := kb_b B_n hb
 replace RK := rk_b RK hb
 clear hb
 have V_e := a0_ hv_
 clear hv_
 have B_e := a0_ (Kb.refl (fun k => k = rb ∨ k = g_r) w106)
 go_wp2_with fail
 with_reducible refine (max_calls qs (by rw [ValS.len hvs, ← HNL.out.1]; exact HNL.out.2.1) (by rw [ValS.len hvs, ← HNL.out.1]; exact HNL.out.2.2) _ _ (RowQ.kb (S := fun k => k = rb ∨ k = g_r) V_e.out B_e.out (fun k h hs => hs.elim h.1 h.2.1))).mono ?_
 rintro e w107 ⟨⟨v, rfl, hv⟩, hb⟩
 obtain ⟨tv, Av, nv, cv, Dv, kv, zv, rfl⟩ := hv.agg
 replace HB := kb_b HB hb
 replace B_l := kb_b B_l hb
 replace B_q := kb_b B_q hb
 replace B_r := kb_b B_r hb
 replace B_n := kb_b B_n hb
 replace B_e := kb_b B_e hb
 replace RK := rk_b RK hb
 clear hb
 have V_v := a0_ hv
 clear hv
 have B_v := a0_ (Kb.refl (fun k => k = rb ∨ k = g_r) w107)
 clear V_l B_l
 clear V_e B_e
 clear V_q B_q
 clear V_n B_n
 go_wp2_with (first | ((with_reducible refine gt_ 30 10 64 rfl ?_); refine store_ev (p := .tmp 10) (v := .tmp 64) rfl rfl rfl (g := g_r) rfl rfl (bk_ V_r B_r N_r) ?_; intro w108 hbox hk; replace HB := kb_o HB hk G_r; replace B_v := kb_t B_v hk (fun i hi => by exact Or.inl (Or.inr hi)); have Z_ := a0_ (Rk.kb RK.out hk (by have := HL.out; have := G_r.out; omega)); clear RK; have RK := Z_; clear Z_; clear V_r B_r; have V_r := a0_ hbox; have B_r := kr_ rb w108; clear hbox hk))
 have ha := HANS.out
 refine bodyPost_ret (results_cell_row rfl _ _ g_r 30 #[.bool tv, .slice Av nv cv, .slice Dv kv zv] (0, 0) _ rfl (bk_ V_r B_r N_r) Try.underlying30 rfl (by kernel_rfl)) rfl ?_
 exact ⟨_, rfl, by rw [ha]; exact ((IsR.mono (IsR.kb (S := fun k => k = rb ∨ k = g_r) V_v.out B_v.out (fun k h hs => hs.elim h.1 h.2.1)) (fun k h => h.2.2))), by rw [ha]; exact RK.out, HB.out⟩
def May8.T9 : Bool × List (List Nat × List Nat) := (true, [([], []), ([0], [0]), ([1], [1]), ([2], [2]), ([3, 2, 2], [2, 3]), ([4, 2], [2, 4]), ([5, 4, 2], [2, 5]), ([6], [6]), ([7, 6], [6, 7]), ([8, 6], [6, 8]), ([6, 9, 2], [2, 6, 9]), ([10, 6, 2], [2, 10]), ([11], [11]), ([11, 11], [11]), ([12, 13, 13, 11], [11, 12, 13]), ([14, 11], [11, 14]), ([11, 15, 2], [2, 11, 15]), ([2, 16], [2, 16]), ([17, 14, 0, 1, 2, 3, 4, 5, 6, 7, 8, 9, 10, 11, 12, 13, 14, 15, 16, 17], [17])])
def May8.B9 : List Nat := [0, 1, 3, 7, 15, 31, 63, 127, 255, 511, 1023, 2047, 4095, 4095, 16383, 32767, 65535, 131071, 262143]
theorem May8.tab9 : rtab .any (opsOf Try.f29 9) = May8.T9 := by kernel_rfl
theorem May8.bits9 : waitsOk May8.T9.2 May8.B9 = true := by kernel_rfl
theorem may8_calls {okl : Nat → Prop} (over : Int) (h0 : 1 ≤ over) (h1 : over ≤ 9007199254740991) (ss : List Smp) (hby : ByS ss) (qs : List Rat) (hvs : ValS ss qs) (hsz : ss.length ≤ 1000000) (w : World) (tq : Bool) (Aq : Option Addr) (nq cq : Nat) (Dq : Option Addr) (kq zq : Nat) (vl : Value) (hl : RowS okl w vl ss) :
 Calls Try.prog 29 #[.int .i64 8, .int .i64 over, .agg #[.bool tq, .slice Aq nq cq, .slice Dq kq zq], vl] w fun e w' => e = .returned (.bool true) ∧ Below w.heap.size w w' := by
 have hu30 := Try.underlying30
 have hu39 := Try.underlying39
 obtain ⟨Al, cl, rfl⟩ := hl.slice
 obtain ⟨nl, hnl⟩ : ∃ nl, nl = ss.length := ⟨_, rfl⟩
 rw [← hnl] at hl hsz ⊢
 have HNL := a0_ (And.intro hnl hsz)
 have HBY := a0_ hby
 have e3 : ¬ over < 1 := by omega
 have e4 : ¬ 9007199254740991 < over := by omega
 clear hnl hby hsz h0 h1
 have HVS := a0_ hvs
 clear hvs
 have HB := kf_ w
 have V_l := a0_ hl
 clear hl
 have B_l := kf_ w
 go_enter Try.func29, Try.ntmps29
 go_wp2_with (first | ((with_reducible refine gd_ 6 rfl ?_); refine bx_ (N := 6) #[.bool tq, .slice Aq nq cq, .slice Dq kq zq] 30 ?_; intro g_q hg w101 hbox hb; have G_q := kb_g HB hg; replace HB := kb_b HB hb; replace B_l := kb_b B_l hb; clear hb; have V_q := a0_ hbox; have B_q := kf_ w101; have N_q := nf_ g_q; clear hbox hg))
 go_loopg [27] nl (fun kg v27 wr => ∃ (j : Nat), v27 = .int .i64 j ∧ Aside0 (j + kg = nl) ∧ Aside0 (Kb (fun k => False) w wr) ∧ Aside0 (Kb (fun k => False) w101 wr))
 case atStart => exact ⟨0, rfl, ⟨by omega⟩, HB, B_q⟩
 case round =>
  obtain ⟨j, rfl, HJ, HB2, HQB⟩ := hrel
  clear HB B_l B_q
  have HB := HB2
  clear HB2
  have B_l := HB
  have B_q := HQB
  clear HQB
  by_cases hlt : j < nl
  · have hz : (j : Int) < (nl : Int) := by omega
    have e1 : IntKind.i64.wrap ((j : Int) + 1) = ((j + 1 : Nat) : Int) := (i64_w _).trans ((w64 (by have := HNL.out.2; omega) (by have := HNL.out.2; omega)).trans (by omega))
    obtain ⟨bl, ol, rfl⟩ := RowS.some_ V_l.out (by omega)
    obtain ⟨ty, Ay, ny, cy, Dy, ky, zy, hy, c0, c1, c2, c3, c4⟩ := RowS.get (RowS.kb V_l.out B_l.out (fun _ _ h => h)) j (by rw [← HNL.out.1]; exact hlt)
    have C0 := a0_ (And.intro c0 (And.intro c1 (And.intro c2 (And.intro c3 c4))))
    clear c0 c1 c2 c3 c4
    have hbj := HBY.out j (by rw [← HNL.out.1]; exact hlt)
    obtain ⟨sa, hsa⟩ : ∃ x, x = (ss.getD j ⟨0, 0, none⟩).at_ := ⟨_, rfl⟩
    obtain ⟨sb, hsb⟩ : ∃ x, x = (ss.getD j ⟨0, 0, none⟩).by_ := ⟨_, rfl⟩
    rw [← hsa, ← hsb] at C0
    rw [← hsb] at hbj
    have f1 : ¬ sb < 0 := by omega
    have f2 : ¬ 9007199254740991 < sb := by omega
    clear hsa hsb hbj
    have hyv := hy _ (HVS.out.2 j (by rw [← HNL.out.1]; exact hlt))
    clear hy
    have V_y := a0_ hyv
    clear hyv
    have B_y := kf_ wr
    go_wp2_with (first | ((with_reducible refine gd_ 30 rfl ?_); refine load_at5 rfl rfl (g := bl) (k := ol + j * 5) rfl C0.out.1 C0.out.2.1 C0.out.2.2.1 C0.out.2.2.2.1 C0.out.2.2.2.2 ?_) | ((with_reducible refine gd_ 10 rfl ?_); refine bx_ (N := 10) #[.int .i64 0, .int .i64 0, .bool false, .slice none 0 0, .slice none 0 0] 39 ?_; intro g_s hg w103 hbox hb; have G_s := kb_g HB hg; have O_s_l := kb_g B_l hg; have O_s_q := kb_g B_q hg; have O_s_y := kb_g B_y hg; replace HB := kb_b HB hb; replace B_l := kb_b B_l hb; replace B_q := kb_b B_q hb; replace B_y := kb_b B_y hb; clear hb; have V_s := a0_ hbox; have B_s := kf_ w103; have N_s := nf_ g_s; clear hbox hg) | ((with_reducible refine gt_ 39 10 30 rfl ?_); refine store_ev5 (p := .tmp 10) (v := .tmp 30) rfl rfl rfl (g := g_s) rfl rfl (bk_ V_s B_s N_s) ?_; intro w104 hbox hk; replace HB := kb_o HB hk G_s; replace B_l := kb_o B_l hk O_s_l; replace B_q := kb_o B_q hk O_s_q; replace B_y := kb_o B_y hk O_s_y; clear V_s B_s; have V_s := a0_ hbox; have B_s := kf_ w104; clear hbox hk; have bk_s := bk_ V_s B_s N_s; have hz_s_0 : w104.cell? ⟨g_s, 0, none⟩ = some (.int .i64 sa) := (blk_cell bk_s 0).trans rfl; have hz_s_1 : w104.cell? ⟨g_s, 1, none⟩ = some (.int .i64 sb) := (blk_cell bk_s 1).trans rfl; have hz_s_2 : w104.cell? ⟨g_s, 2, none⟩ = some (.bool ty) := (blk_cell bk_s 2).trans rfl; have hz_s_3 : w104.cell? ⟨g_s, 3, none⟩ = some (.slice Ay ny cy) := (blk_cell bk_s 3).trans rfl; have hz_s_4 : w104.cell? ⟨g_s, 4, none⟩ = some (.slice Dy ky zy) := (blk_cell bk_s 4).trans rfl; clear bk_s))
    with_reducible refine (qcheck_calls (qs.getD j 0) _ _ (IsR.kb (S := fun k => False) V_y.out B_y.out (fun _ _ h => h))).mono ?_
    rintro e w105 ⟨rfl, hb⟩
    clear hz_s_0 hz_s_1 hz_s_2 hz_s_3 hz_s_4
    replace HB := kb_b HB hb
    replace B_l := kb_b B_l hb
    replace B_q := kb_b B_q hb
    replace B_y := kb_b B_y hb
    replace B_s := kb_b B_s hb
    clear hb
    go_wp2_with fail
    go_roundg (nl - (j + 1))
    case measure => have := HJ.out; omega
    case rel => exact ⟨j + 1, by first | rfl | rw [e1], ⟨by have := HJ.out; omega⟩, HB, B_q⟩
  · have hz : ¬ (j : Int) < (nl : Int) := by omega
    clear hlt
    go_wp2_with fail
    have hb : Below wr.heap.size wr wr.drew := below_drew1 (Below.refl _ _)
    replace HB := kb_b HB hb
    replace B_l := kb_b B_l hb
    replace B_q := kb_b B_q hb
    clear hb
    refine start_ (n := 19) (S := fun w' => w'.heap[g_q]? = some (.cells #[.bool tq, .slice Aq nq cq, .slice Dq kq zq] 30 (0, 0))) (ds := []) (tB_ 19 0) (by kernel_rfl) rfl (by kernel_rfl) (bk_ V_q B_q N_q) (fun hHeld => ?_)
    refine with_tabW May8.tab9 May8.bits9 (fun HT_ HW_ => ?_)
    generalize wr.drew = w103 at HB B_l B_q hHeld ⊢
    refine pu_ 0 (some 50) 1 HT_ ?_
    refine pu_ 1 (some 51) 3 HT_ ?_
    refine pu_ 2 (some 52) 7 HT_ ?_
    refine sk_ 3 (some 53) 15 HT_ ?_
    refine sk_ 4 (some 54) 31 HT_ ?_
    refine sk_ 5 (some 55) 63 HT_ ?_
    refine sk_ 6 (some 56) 127 HT_ ?_
    refine sk_ 7 (some 57) 255 HT_ ?_
    refine sk_ 8 (some 58) 511 HT_ ?_
    refine sk_ 9 (some 59) 1023 HT_ ?_
    refine sk_ 10 (some 60) 2047 HT_ ?_
    refine sk_ 11 (some 61) 4095 HT_ ?_
    refine sk_ 12 (some 62) 8191 HT_ ?_
    refine sk_ 13 (some 63) 16383 HT_ ?_
    refine sk_ 14 (some 64) 32767 HT_ ?_
    refine sk_ 15 (some 65) 65535 HT_ ?_
    refine sk_ 16 (some 66) 131071 HT_ ?_
    refine pu_ 17 (some 67) 262143 HT_ ?_
    refine pu_ 18 (some 8) 524287 HT_ ?_
    refine do_ HT_ ?_
    clear HT_ HW_ hHeld
    go_wp2_with fail
    go_ret
    exact ⟨rfl, (Kb.to_below HB.out (fun _ h => h.elim))⟩
def May9.T9 : Bool × List (List Nat × List Nat) := (true, [([], []), ([0], [0]), ([1], [1]), ([2], [2]), ([3, 2, 2], [2, 3]), ([4, 2], [2, 4]), ([5, 4, 2], [2, 5]), ([6], [6]), ([7, 6], [6, 7]), ([8, 6], [6, 8]), ([6, 9, 2], [2, 6, 9]), ([10, 6, 2], [2, 10]), ([11], [11]), ([11, 11], [11]), ([12, 13, 13, 11], [11, 12, 13]), ([14, 11], [11, 14]), ([11, 15, 2], [2, 11, 15]), ([2, 16], [2, 16]), ([17, 14, 0, 1, 2, 3, 4, 5, 6, 7, 8, 9, 10, 11, 12, 13, 14, 15, 16, 17], [17])])
def May9.B9 : List Nat := [0, 1, 3, 7, 15, 31, 63, 127, 255, 511, 1023, 2047, 4095, 4095, 16383, 32767, 65535, 131071, 262143]
theorem May9.tab9 : rtab .any (opsOf Try.f29 9) = May9.T9 := by kernel_rfl
theorem May9.bits9 : waitsOk May9.T9.2 May9.B9 = true := by kernel_rfl
theorem may9_calls {okl : Nat → Prop} (over : Int) (h0 : 1 ≤ over) (h1 : over ≤ 9007199254740991) (ss : List Smp) (hby : ByS ss) (qs : List Rat) (hvs : ValS ss qs) (hsz : ss.length ≤ 1000000) (w : World) (tq : Bool) (Aq : Option Addr) (nq cq : Nat) (Dq : Option Addr) (kq zq : Nat) (vl : Value) (hl : RowS okl w vl ss) :
 Calls Try.prog 29 #[.int .i64 9, .int .i64 over, .agg #[.bool tq, .slice Aq nq cq, .slice Dq kq zq], vl] w fun e w' => e = .returned (.bool true) ∧ Below w.heap.size w w' := by
 have hu30 := Try.underlying30
 have hu39 := Try.underlying39
 obtain ⟨Al, cl, rfl⟩ := hl.slice
 obtain ⟨nl, hnl⟩ : ∃ nl, nl = ss.length := ⟨_, rfl⟩
 rw [← hnl] at hl hsz ⊢
 have HNL := a0_ (And.intro hnl hsz)
 have HBY := a0_ hby
 have e3 : ¬ over < 1 := by omega
 have e4 : ¬ 9007199254740991 < over := by omega
 clear hnl hby hsz h0 h1
 have HVS := a0_ hvs
 clear hvs
 have HB := kf_ w
 have V_l := a0_ hl
 clear hl
 have B_l := kf_ w
 go_enter Try.func29, Try.ntmps29
 go_wp2_with (first | ((with_reducible refine gd_ 6 rfl ?_); refine bx_ (N := 6) #[.bool tq, .slice Aq nq cq, .slice Dq kq zq] 30 ?_; intro g_q hg w101 hbox hb; have G_q := kb_g HB hg; replace HB := kb_b HB hb; replace B_l := kb_b B_l hb; clear hb; have V_q := a0_ hbox; have B_q := kf_ w101; have N_q := nf_ g_q; clear hbox hg))
 go_loopg [27] nl (fun kg v27 wr => ∃ (j : Nat), v27 = .int .i64 j ∧ Aside0 (j + kg = nl) ∧ Aside0 (Kb (fun k => False) w wr) ∧ Aside0 (Kb (fun k => False) w101 wr))
 case atStart => exact ⟨0, rfl, ⟨by omega⟩, HB, B_q⟩
 case round =>
  obtain ⟨j, rfl, HJ, HB2, HQB⟩ := hrel
  clear HB B_l B_q
  have HB := HB2
  clear HB2
  have B_l := HB
  have B_q := HQB
  clear HQB
  by_cases hlt : j < nl
  · have hz : (j : Int) < (nl : Int) := by omega
    have e1 : IntKind.i64.wrap ((j : Int) + 1) = ((j + 1 : Nat) : Int) := (i64_w _).trans ((w64 (by have := HNL.out.2; omega) (by have := HNL.out.2; omega)).trans (by omega))
    obtain ⟨bl, ol, rfl⟩ := RowS.some_ V_l.out (by omega)
    obtain ⟨ty, Ay, ny, cy, Dy, ky, zy, hy, c0, c1, c2, c3, c4⟩ := RowS.get (RowS.kb V_l.out B_l.out (fun _ _ h => h)) j (by rw [← HNL.out.1]; exact hlt)
    have C0 := a0_ (And.intro c0 (And.intro c1 (And.intro c2 (And.intro c3 c4))))
    clear c0 c1 c2 c3 c4
    have hbj := HBY.out j (by rw [← HNL.out.1]; exact hlt)
    obtain ⟨sa, hsa⟩ : ∃ x, x = (ss.getD j ⟨0, 0, none⟩).at_ := ⟨_, rfl⟩
    obtain ⟨sb, hsb⟩ : ∃ x, x = (ss.getD j ⟨0, 0, none⟩).by_ := ⟨_, rfl⟩
    rw [← hsa, ← hsb] at C0
    rw [← hsb] at hbj
    have f1 : ¬ sb < 0 := by omega
    have f2 : ¬ 9007199254740991 < sb := by omega
    clear hsa hsb hbj
    have hyv := hy _ (HVS.out.2 j (by rw [← HNL.out.1]; exact hlt))
    clear hy
    have V_y := a0_ hyv
    clear hyv
    have B_y := kf_ wr
    go_wp2_with (first | ((with_reducible refine gd_ 30 rfl ?_); refine load_at5 rfl rfl (g := bl) (k := ol + j * 5) rfl C0.out.1 C0.out.2.1 C0.out.2.2.1 C0.out.2.2.2.1 C0.out.2.2.2.2 ?_) | ((with_reducible refine gd_ 10 rfl ?_); refine bx_ (N := 10) #[.int .i64 0, .int .i64 0, .bool false, .slice none 0 0, .slice none 0 0] 39 ?_; intro g_s hg w103 hbox hb; have G_s := kb_g HB hg; have O_s_l := kb_g B_l hg; have O_s_q := kb_g B_q hg; have O_s_y := kb_g B_y hg; replace HB := kb_b HB hb; replace B_l := kb_b B_l hb; replace B_q := kb_b B_q hb; replace B_y := kb_b B_y hb; clear hb; have V_s := a0_ hbox; have B_s := kf_ w103; have N_s := nf_ g_s; clear hbox hg) | ((with_reducible refine gt_ 39 10 30 rfl ?_); refine store_ev5 (p := .tmp 10) (v := .tmp 30) rfl rfl rfl (g := g_s) rfl rfl (bk_ V_s B_s N_s) ?_; intro w104 hbox hk; replace HB := kb_o HB hk G_s; replace B_l := kb_o B_l hk O_s_l; replace B_q := kb_o B_q hk O_s_q; replace B_y := kb_o B_y hk O_s_y; clear V_s B_s; have V_s := a0_ hbox; have B_s := kf_ w104; clear hbox hk; have bk_s := bk_ V_s B_s N_s; have hz_s_0 : w104.cell? ⟨g_s, 0, none⟩ = some (.int .i64 sa) := (blk_cell bk_s 0).trans rfl; have hz_s_1 : w104.cell? ⟨g_s, 1, none⟩ = some (.int .i64 sb) := (blk_cell bk_s 1).trans rfl; have hz_s_2 : w104.cell? ⟨g_s, 2, none⟩ = some (.bool ty) := (blk_cell bk_s 2).trans rfl; have hz_s_3 : w104.cell? ⟨g_s, 3, none⟩ = some (.slice Ay ny cy) := (blk_cell bk_s 3).trans rfl; have hz_s_4 : w104.cell? ⟨g_s, 4, none⟩ = some (.slice Dy ky zy) := (blk_cell bk_s 4).trans rfl; clear bk_s))
    with_reducible refine (qcheck_calls (qs.getD j 0) _ _ (IsR.kb (S := fun k => False) V_y.out B_y.out (fun _ _ h => h))).mono ?_
    rintro e w105 ⟨rfl, hb⟩
    clear hz_s_0 hz_s_1 hz_s_2 hz_s_3 hz_s_4
    replace HB := kb_b HB hb
    replace B_l := kb_b B_l hb
    replace B_q := kb_b B_q hb
    replace B_y := kb_b B_y hb
    replace B_s := kb_b B_s hb
    clear hb
    go_wp2_with fail
    go_roundg (nl - (j + 1))
    case measure => have := HJ.out; omega
    case rel => exact ⟨j + 1, by first | rfl | rw [e1], ⟨by have := HJ.out; omega⟩, HB, B_q⟩
  · have hz : ¬ (j : Int) < (nl : Int) := by omega
    clear hlt
    go_wp2_with fail
    have hb : Below wr.heap.size wr wr.drew := below_drew1 (Below.refl _ _)
    replace HB := kb_b HB hb
    replace B_l := kb_b B_l hb
    replace B_q := kb_b B_q hb
    clear hb
    refine start_ (n := 19) (S := fun w' => w'.heap[g_q]? = some (.cells #[.bool tq, .slice Aq nq cq, .slice Dq kq zq] 30 (0, 0))) (ds := []) (tB_ 19 0) (by kernel_rfl) rfl (by kernel_rfl) (bk_ V_q B_q N_q) (fun hHeld => ?_)
    refine with_tabW May9.tab9 May9.bits9 (fun HT_ HW_ => ?_)
    generalize wr.drew = w103 at HB B_l B_q hHeld ⊢
    refine pu_ 0 (some 50) 1 HT_ ?_
    refine pu_ 1 (some 51) 3 HT_ ?_
    refine pu_ 2 (some 52) 7 HT_ ?_
    refine sk_ 3 (some 53) 15 HT_ ?_
    refine sk_ 4 (some 54) 31 HT_ ?_
    refine sk_ 5 (some 55) 63 HT_ ?_
    refine sk_ 6 (some 56) 127 HT_ ?_
    refine sk_ 7 (some 57) 255 HT_ ?_
    refine sk_ 8 (some 58) 511 HT_ ?_
    refine sk_ 9 (some 59) 1023 HT_ ?_
    refine sk_ 10 (some 60) 2047 HT_ ?_
    refine sk_ 11 (some 61) 4095 HT_ ?_
    refine sk_ 12 (some 62) 8191 HT_ ?_
    refine sk_ 13 (some 63) 16383 HT_ ?_
    refine sk_ 14 (some 64) 32767 HT_ ?_
    refine sk_ 15 (some 65) 65535 HT_ ?_
    refine sk_ 16 (some 66) 131071 HT_ ?_
    refine pu_ 17 (some 67) 262143 HT_ ?_
    refine pu_ 18 (some 8) 524287 HT_ ?_
    refine do_ HT_ ?_
    clear HT_ HW_ hHeld
    go_wp2_with fail
    go_ret
    exact ⟨rfl, (Kb.to_below HB.out (fun _ h => h.elim))⟩
def May10.T9 : Bool × List (List Nat × List Nat) := (true, [([], []), ([0], [0]), ([1], [1]), ([2], [2]), ([3, 2, 2], [2, 3]), ([4, 2], [2, 4]), ([5, 4, 2], [2, 5]), ([6], [6]), ([7, 6], [6, 7]), ([8, 6], [6, 8]), ([6, 9, 2], [2, 6, 9]), ([10, 6, 2], [2, 10]), ([11], [11]), ([11, 11], [11]), ([12, 13, 13, 11], [11, 12, 13]), ([14, 11], [11, 14]), ([11, 15, 2], [2, 11, 15]), ([2, 16], [2, 16]), ([17, 14, 0, 1, 2, 3, 4, 5, 6, 7, 8, 9, 10, 11, 12, 13, 14, 15, 16, 17], [17])])
def May10.B9 : List Nat := [0, 1, 3, 7, 15, 31, 63, 127, 255, 511, 1023, 2047, 4095, 4095, 16383, 32767, 65535, 131071, 262143]
theorem May10.tab9 : rtab .any (opsOf Try.f29 9) = May10.T9 := by kernel_rfl
theorem May10.bits9 : waitsOk May10.T9.2 May10.B9 = true := by kernel_rfl
def May11.T9 : Bool × List (List Nat × List Nat) := (true, [([], []), ([0], [0]), ([1], [1]), ([2], [2]), ([3, 2, 2], [2, 3]), ([4, 2], [2, 4]), ([5, 4, 2], [2, 5]), ([6], [6]), ([7, 6], [6, 7]), ([8, 6], [6, 8]), ([6, 9, 2], [2, 6, 9]), ([10, 6, 2], [2, 10]), ([11], [11]), ([11, 11], [11]), ([12, 13, 13, 11], [11, 12, 13]), ([14, 11], [11, 14]), ([11, 15, 2], [2, 11, 15]), ([2, 16], [2, 16]), ([17, 14, 0, 1, 2, 3, 4, 5, 6, 7, 8, 9, 10, 11, 12, 13, 14, 15, 16, 17], [17])])
def May11.B9 : List Nat := [0, 1, 3, 7, 15, 31, 63, 127, 255, 511, 1023, 2047, 4095, 4095, 16383, 32767, 65535, 131071, 262143]
theorem May11.tab9 : rtab .any (opsOf Try.f29 9) = May11.T9 := by kernel_rfl
theorem May11.bits9 : waitsOk May11.T9.2 May11.B9 = true := by kernel_rfl
theorem wrun8 {okl : Nat → Prop} (over : Int) (h0 : 1 ≤ over) (h1 : over ≤ 9007199254740991) (ss : List Smp) (hby : ByS ss) (qs : List Rat) (hvs : ValS ss qs) (hn0 : 0 < ss.length) (hsz : ss.length ≤ 1000000) (w : World) (tq : Bool) (Aq : Option Addr) (nq cq : Nat) (Dq : Option Addr) (kq zq : Nat) (Al : Option Addr) (cl : Nat) (hl : RowS okl w (.slice Al ss.length cl) ss) :
 Calls Try.prog 16 #[.int .i64 8, .int .i64 over, .agg #[.bool tq, .slice Aq nq cq, .slice Dq kq zq], .slice Al ss.length cl] w fun e w' => (∃ v ans, (fun a => a = some (extQ false qs)) ans ∧ e = .returned (.tuple #[v, .bool ans.isSome, .int .i64 (eno ans)]) ∧ Res (fun k => w.heap.size ≤ k) w' v ans) ∧ Below w.heap.size w w' := by
 have hl2 : RowS (fun k => okl k ∧ k < w.heap.size) w (.slice Al ss.length cl) ss := RowS.mono' hl (fun k h1 h2 => ⟨h1, h2⟩)
 refine wrun_calls (fun a => a = some (extQ false qs)) 8 over (by decide) ss.length hn0 w _ _ _ _ _ _ _ _ _ (fun W hW => may8_calls over h0 h1 ss hby qs hvs hsz W _ _ _ _ _ _ _ _ (RowS.kb hl2 hW (fun _ _ h => h))) (fun W rb hW hrb hr => (run8_calls rb over ss qs hn0 hsz W _ _ _ _ _ _ _ _ hr (RowS.kb hl2 hW (fun _ _ h => h)) (fun k h => by have := h.2; omega) hvs).mono ?_)
 rintro e w' ⟨v, rfl, hv, hk1, hk2⟩
 exact ⟨v, _, rfl, rfl, Res.mono hv (fun k h => h.elim (fun h => .inl h.2) .inr), hk1, hk2⟩
theorem wrun9 {okl : Nat → Prop} (over : Int) (h0 : 1 ≤ over) (h1 : over ≤ 9007199254740991) (ss : List Smp) (hby : ByS ss) (qs : List Rat) (hvs : ValS ss qs) (hn0 : 0 < ss.length) (hsz : ss.length ≤ 1000000) (w : World) (tq : Bool) (Aq : Option Addr) (nq cq : Nat) (Dq : Option Addr) (kq zq : Nat) (Al : Option Addr) (cl : Nat) (hl : RowS okl w (.slice Al ss.length cl) ss) :
 Calls Try.prog 16 #[.int .i64 9, .int .i64 over, .agg #[.bool tq, .slice Aq nq cq, .slice Dq kq zq], .slice Al ss.length cl] w fun e w' => (∃ v ans, (fun a => a = some (extQ true qs)) ans ∧ e = .returned (.tuple #[v, .bool ans.isSome, .int .i64 (eno ans)]) ∧ Res (fun k => w.heap.size ≤ k) w' v ans) ∧ Below w.heap.size w w' := by
 have hl2 : RowS (fun k => okl k ∧ k < w.heap.size) w (.slice Al ss.length cl) ss := RowS.mono' hl (fun k h1 h2 => ⟨h1, h2⟩)
 refine wrun_calls (fun a => a = some (extQ true qs)) 9 over (by decide) ss.length hn0 w _ _ _ _ _ _ _ _ _ (fun W hW => may9_calls over h0 h1 ss hby qs hvs hsz W _ _ _ _ _ _ _ _ (RowS.kb hl2 hW (fun _ _ h => h))) (fun W rb hW hrb hr => (run9_calls rb over ss qs hn0 hsz W _ _ _ _ _ _ _ _ hr (RowS.kb hl2 hW (fun _ _ h => h)) (fun k h => by have := h.2; omega) hvs).mono ?_)
 rintro e w' ⟨v, rfl, hv, hk1, hk2⟩
 exact ⟨v, _, rfl, rfl, Res.mono hv (fun k h => h.elim (fun h => .inl h.2) .inr), hk1, hk2⟩
theorem mk_le (a b : Int) (d : Nat) (hd : 0 < d) : mkRat a d ≤ mkRat b d ↔ a ≤ b := by
 have hz : (d : Int) ≠ 0 := by omega
 rw [Rat.le_iff_sub_nonneg, Rat.sub_eq_add_neg, Rat.neg_mkRat, Rat.mkRat_add_mkRat _ _ (by omega) (by omega), ← Rat.divInt_ofNat, Rat.divInt_nonneg_iff_of_pos_right (by exact_mod_cast Nat.mul_pos hd hd), ← Int.add_mul]
 constructor
 · intro h
   have := Int.nonneg_of_mul_nonneg_left h (by omega)
   omega
 · intro h
   exact Int.mul_nonneg (by omega) (by omega)
theorem mk_eq (a b : Int) (d : Nat) (hd : 0 < d) : mkRat a d = mkRat b d ↔ a = b := by
 rw [Rat.le_antisymm_iff, mk_le a b d hd, mk_le b a d hd]
 omega
theorem fit_ok {a : Int} {d : Nat} (hd : 0 < d) (h1 : a.natAbs < 4294967296 ^ 2) (h2 : d < 4294967296 ^ 2) : fit (mkRat a d) = some (mkRat a d) := by
 unfold fit
 rw [if_pos (fit_mk _ _ hd (big16 _ h1) (big16 _ h2))]
theorem parts_ints (qs : List Rat) (h : ∀ x ∈ qs, Part x) : ∃ ms : List Int, qs = ms.map (fun m => mkRat m 27720) ∧ ∀ m ∈ ms, m.natAbs ≤ 55440000 := by
 induction qs with
 | nil => exact ⟨[], rfl, fun m hm => by cases hm⟩
 | cons x qs ih =>
  obtain ⟨n, rfl, hn⟩ := h x List.mem_cons_self
  obtain ⟨ms, rfl, hm⟩ := ih (fun y hy => h y (List.mem_cons_of_mem _ hy))
  refine ⟨n :: ms, rfl, fun m hmm => ?_⟩
  rcases List.mem_cons.1 hmm with rfl | hmm
  · exact hn
  · exact hm m hmm
theorem rsum_ints (ms : List Int) : rsum (ms.map (fun m => mkRat m 27720)) = mkRat ms.sum 27720 := by
 induction ms with
 | nil => exact (Rat.zero_mkRat _).symm
 | cons m ms ih =>
  show mkRat m 27720 + rsum (ms.map (fun m => mkRat m 27720)) = _
  rw [ih, mk_add, List.sum_cons]
theorem ext_fold (mx : Bool) (l : List Rat) : ∀ x : Rat, (l.foldl (extF mx) x = x ∨ l.foldl (extF mx) x ∈ l) ∧ ∀ y, (y = x ∨ y ∈ l) → (if mx = true then y ≤ l.foldl (extF mx) x else l.foldl (extF mx) x ≤ y) := by
 induction l with
 | nil =>
  intro x
  refine ⟨.inl rfl, fun y hy => ?_⟩
  rcases hy with rfl | hy
  · cases mx <;> exact Rat.le_refl
  · cases hy
 | cons z l ih =>
  intro x
  obtain ⟨h1, h2⟩ := ih (extF mx x z)
  have hz : extF mx x z = x ∨ extF mx x z = z := by unfold extF; split <;> simp
  refine ⟨?_, fun y hy => ?_⟩
  · rcases h1 with h1 | h1
    · rcases hz with hz | hz
      · left; show l.foldl (extF mx) (extF mx x z) = x; rw [h1, hz]
      · right; show l.foldl (extF mx) (extF mx x z) ∈ _; rw [h1, hz]; exact List.mem_cons_self
    · right; exact List.mem_cons_of_mem _ h1
  · show (if mx = true then y ≤ l.foldl (extF mx) (extF mx x z) else l.foldl (extF mx) (extF mx x z) ≤ y)
    have h0 := h2 (extF mx x z) (.inl rfl)
    rcases hy with rfl | hy
    · cases mx with
      | false =>
       refine Rat.le_trans h0 ?_
       show (if better false z y = true then z else y) ≤ y
       split
       · exact Rat.le_of_lt (of_decide_eq_true ‹_›)
       · exact Rat.le_refl
      | true =>
       refine Rat.le_trans ?_ h0
       show y ≤ (if better true z y = true then z else y)
       split
       · exact Rat.le_of_lt (of_decide_eq_true ‹_›)
       · exact Rat.le_refl
    · rcases List.mem_cons.1 hy with rfl | hy
      · cases mx with
        | false =>
         refine Rat.le_trans h0 ?_
         show (if better false y x = true then y else x) ≤ y
         split
         · exact Rat.le_refl
         · rename_i hb
           exact Rat.not_lt.1 (fun hlt => hb (decide_eq_true hlt))
        | true =>
         refine Rat.le_trans ?_ h0
         show y ≤ (if better true y x = true then y else x)
         split
         · exact Rat.le_refl
         · rename_i hb
           exact Rat.not_lt.1 (fun hlt => hb (decide_eq_true hlt))
      · exact h2 y (.inr hy)
theorem ext_mem (mx : Bool) (qs : List Rat) (h : 0 < qs.length) : extQ mx qs ∈ qs ∧ ∀ y ∈ qs, (if mx = true then y ≤ extQ mx qs else extQ mx qs ≤ y) := by
 cases qs with
 | nil => simp at h
 | cons x l =>
  obtain ⟨h1, h2⟩ := ext_fold mx l x
  refine ⟨?_, fun y hy => h2 y (List.mem_cons.1 hy)⟩
  show l.foldl (extF mx) x ∈ x :: l
  rcases h1 with h1 | h1
  · rw [h1]; exact List.mem_cons_self
  · exact List.mem_cons_of_mem _ h1
def VV (ms : List Int) (K : Nat) : Int := 100 * ms.getD (K / 100) 0 + (ms.getD (K / 100 + 1) 0 - ms.getD (K / 100) 0) * ((K % 100 : Nat) : Int)
def Asc (ms : List Int) : Prop := ∀ i, i + 1 < ms.length → ms.getD i 0 ≤ ms.getD (i + 1) 0
theorem VV_step (ms : List Int) (h : Asc ms) (K : Nat) (hK : K + 1 ≤ 100 * (ms.length - 1)) : VV ms K ≤ VV ms (K + 1) := by
 unfold VV
 have h1 := h (K / 100) (by omega)
 by_cases e : K % 100 = 99
 · have e1 : (K + 1) / 100 = K / 100 + 1 := by omega
   have e2 : (K + 1) % 100 = 0 := by omega
   rw [e1, e2, e]
   generalize ms.getD (K / 100) 0 = x at *
   generalize ms.getD (K / 100 + 1) 0 = y at *
   generalize ms.getD (K / 100 + 1 + 1) 0 = z at *
   show 100 * x + (y - x) * 99 ≤ 100 * y + (z - y) * 0
   omega
 · have e1 : (K + 1) / 100 = K / 100 := by omega
   have e2 : (K + 1) % 100 = K % 100 + 1 := by omega
   rw [e1, e2]
   generalize ms.getD (K / 100) 0 = x at *
   generalize ms.getD (K / 100 + 1) 0 = y at *
   rw [Int.natCast_add, Int.mul_add]
   generalize (y - x) * ((K % 100 : Nat) : Int) = p
   show 100 * x + p ≤ 100 * x + (p + (y - x) * 1)
   omega
theorem VV_mono (ms : List Int) (h : Asc ms) (K K2 : Nat) (hk : K ≤ K2) (hK : K2 ≤ 100 * (ms.length - 1)) : VV ms K ≤ VV ms K2 := by
 induction hk with
 | refl => exact Int.le_refl _
 | step _ ih => exact Int.le_trans (ih (by omega)) (VV_step ms h _ hK)
theorem VV_zero (ms : List Int) : VV ms 0 = 100 * ms.getD 0 0 := by unfold VV; simp
theorem VV_last (ms : List Int) (n : Nat) : VV ms (100 * n) = 100 * ms.getD n 0 := by
 unfold VV
 rw [show 100 * n / 100 = n by omega, show 100 * n % 100 = 0 by omega]
 simp
theorem place_of (K : Nat) : (mkRat (K : Int) 100).num.natAbs / (mkRat (K : Int) 100).den = K / 100 := by
 obtain ⟨e1, e2⟩ := mk_num (K : Int) 100 (by decide)
 rw [Int.natAbs_natCast] at e1 e2
 rw [e1, e2]
 have hg : 0 < K.gcd 100 := Nat.gcd_pos_of_pos_right _ (by decide)
 obtain ⟨k, hk⟩ := Nat.gcd_dvd_left K 100
 obtain ⟨d, hd⟩ := Nat.gcd_dvd_right K 100
 have e3 : ((K : Int) / ((K.gcd 100 : Nat) : Int)).natAbs = K / K.gcd 100 := by rw [← Int.natCast_ediv]; rfl
 rw [e3]
 generalize K.gcd 100 = g at *
 have e4 : K / g = k := by rw [hk, Nat.mul_div_cancel_left _ hg]
 have e5 : 100 / g = d := by rw [hd, Nat.mul_div_cancel_left _ hg]
 rw [e4, e5]
 conv => rhs; rw [hk, hd]
 rw [Nat.mul_div_mul_left _ _ hg]
theorem quant_ints (ms : List Int) (hn : 0 < ms.length) (h30 : ms.length ≤ 30) (hm : ∀ m ∈ ms, m.natAbs ≤ 55440000) (a : Nat) (ha : a ≤ 100) :
 quantO (((a : Int) : Rat) / ((100 : Int) : Rat)) (ms.map (fun m => mkRat m 27720)) = some (mkRat (VV ms (a * (ms.length - 1))) 2772000) := by
 obtain ⟨K, hK⟩ : ∃ K, K = a * (ms.length - 1) := ⟨_, rfl⟩
 have hK1 : K ≤ 100 * (ms.length - 1) := by rw [hK]; exact Nat.mul_le_mul_right _ ha
 rw [← hK]
 have hp : ((a : Int) : Rat) / ((100 : Int) : Rat) * (((ms.map (fun m => mkRat m 27720)).length - 1 : Nat) : Rat) = mkRat (K : Int) 100 := by
  rw [List.length_map, Rat.mkRat_eq_div, hK]
  have e1 : ((a * (ms.length - 1) : Nat) : Rat) = (a : Rat) * ((ms.length - 1 : Nat) : Rat) := Rat.natCast_mul _ _
  have e2 : (((a * (ms.length - 1) : Nat) : Int) : Rat) = ((a * (ms.length - 1) : Nat) : Rat) := Rat.intCast_natCast _
  have e3 : (((a : Nat) : Int) : Rat) = (a : Rat) := Rat.intCast_natCast _
  have e4 : ((100 : Int) : Rat) = 100 := rfl
  have e5 : ((100 : Nat) : Rat) = 100 := rfl
  rw [e2, e1, e3, e4, e5]
  generalize (a : Rat) = x
  generalize ((ms.length - 1 : Nat) : Rat) = y
  grind
 have hget : ∀ i, i < ms.length → (ms.map (fun m => mkRat m 27720)).getD i 0 = mkRat (ms.getD i 0) 27720 := fun i hi => by
  rw [List.getD_eq_getElem?_getD, List.getD_eq_getElem?_getD, List.getElem?_map, List.getElem?_eq_getElem hi]
  rfl
 have hb : ∀ i, i < ms.length → (ms.getD i 0).natAbs ≤ 55440000 := fun i hi => by
  rw [List.getD_eq_getElem?_getD, List.getElem?_eq_getElem hi]
  exact hm _ (List.getElem_mem hi)
 unfold quantO
 rw [hp, fit_ok (by decide) (by omega) (by decide)]
 dsimp only
 rw [place_of K, List.length_map]
 have hr : mkRat (K : Int) 100 - ((K / 100 : Nat) : Rat) = mkRat ((K % 100 : Nat) : Int) 100 := by
  have e1 : ((K / 100 : Nat) : Rat) = mkRat ((100 * (K / 100) : Nat) : Int) 100 := by
   have := Rat.mkRat_mul_left (n := ((K / 100 : Nat) : Int)) (d := 1) (a := 100) (by decide)
   rw [Nat.mul_one] at this
   rw [Int.natCast_mul]
   exact (this.trans (Rat.mkRat_one _)).symm
  rw [e1, Rat.sub_eq_add_neg, Rat.neg_mkRat, Rat.mkRat_add_mkRat _ _ (by decide) (by decide)]
  have e2 : (K : Int) * ((100 : Nat) : Int) + -((100 * (K / 100) : Nat) : Int) * ((100 : Nat) : Int) = ((K % 100 : Nat) : Int) * ((100 : Nat) : Int) := by omega
  rw [e2]
  exact Rat.mkRat_mul_right (by decide)
 rw [hr]
 have hi : K / 100 < ms.length := by omega
 by_cases e : K % 100 = 0
 · rw [if_pos (.inl (by rw [e]; exact Rat.zero_mkRat _)), hget _ hi]
   congr 1
   unfold VV
   rw [e, Int.natCast_zero, Int.mul_zero, Int.add_zero]
   exact (Rat.mkRat_mul_left (a := 100) (by decide)).symm
 · have hi1 : K / 100 + 1 < ms.length := by omega
   have hne : ¬ (mkRat ((K % 100 : Nat) : Int) 100 = 0 ∨ ms.length ≤ K / 100 + 1) := fun h => by
    rcases h with h | h
    · rw [Rat.mkRat_eq_zero (by decide)] at h; omega
    · omega
   rw [if_neg hne, hget _ hi, hget _ hi1]
   have b0 := hb _ hi
   have b1 := hb _ hi1
   have hv : VV ms K = 100 * ms.getD (K / 100) 0 + (ms.getD (K / 100 + 1) 0 - ms.getD (K / 100) 0) * ((K % 100 : Nat) : Int) := rfl
   rw [hv]
   generalize ms.getD (K / 100) 0 = x at *
   generalize ms.getD (K / 100 + 1) 0 = y at *
   have hR : K % 100 < 100 := Nat.mod_lt _ (by decide)
   generalize K % 100 = R at *
   have s1 : mkRat y 27720 - mkRat x 27720 = mkRat (y - x) 27720 := by
    rw [Rat.sub_eq_add_neg, Rat.neg_mkRat, mk_add, Int.sub_eq_add_neg]
   have f1 : doO false (fun x y => x - y) (some (mkRat y 27720)) (some (mkRat x 27720)) = some (mkRat (y - x) 27720) := by
    show fit (mkRat y 27720 - mkRat x 27720) = _
    rw [s1, fit_ok (by decide) (by omega) (by decide)]
   have m1 : ((y - x) * (R : Int)).natAbs ≤ 110880000 * 100 := by
    rw [Int.natAbs_mul]
    exact Nat.mul_le_mul (by omega) (by omega)
   have f2 : doO false (fun x y => x * y) (some (mkRat (y - x) 27720)) (some (mkRat (R : Int) 100)) = some (mkRat ((y - x) * (R : Int)) 2772000) := by
    show fit (mkRat (y - x) 27720 * mkRat (R : Int) 100) = _
    rw [Rat.mkRat_mul_mkRat]
    exact fit_ok (by decide) (by omega) (by decide)
   unfold lerpO
   rw [f1]
   rw [show (some (mkRat (y - x) 27720)).isNone = false from rfl, f2]
   show fit (mkRat x 27720 + mkRat ((y - x) * (R : Int)) 2772000) = _
   have e1 : mkRat x 27720 = mkRat (100 * x) 2772000 := (Rat.mkRat_mul_left (a := 100) (by decide)).symm
   have e2 : mkRat (100 * x) 2772000 + mkRat ((y - x) * (R : Int)) 2772000 = mkRat (100 * x + (y - x) * (R : Int)) 2772000 := by
    rw [Rat.mkRat_add_mkRat _ _ (by decide) (by decide), ← Int.add_mul]
    exact Rat.mkRat_mul_right (by decide)
   rw [e1, e2]
   exact fit_ok (by decide) (by omega) (by decide)
theorem sum_between (ms : List Int) (x y : Int) (h : ∀ m ∈ ms, x ≤ m ∧ m ≤ y) : x * (ms.length : Int) ≤ ms.sum ∧ ms.sum ≤ y * (ms.length : Int) := by
 induction ms with
 | nil => simp
 | cons m ms ih =>
  obtain ⟨h1, h2⟩ := ih (fun z hz => h z (List.mem_cons_of_mem _ hz))
  obtain ⟨h3, h4⟩ := h m List.mem_cons_self
  rw [List.sum_cons, List.length_cons, Int.natCast_add, Int.mul_add, Int.mul_add]
  constructor
  · show _ + x * 1 ≤ _; omega
  · show _ ≤ _ + y * 1; omega
structure Betw (qs s0 : List Rat) (lo hi : Nat) (av low high : Rat) : Prop where
 avg : doO (sumO (some 0) qs).isNone (fun x y => x / y) (sumO (some 0) qs) (some (qs.length : Rat)) = some av
 q0 : quantO ((0 : Int) : Rat) s0 = some (extQ false qs)
 q1 : quantO ((1 : Int) : Rat) s0 = some (extQ true qs)
 ql : quantO (((lo : Int) : Rat) / ((100 : Int) : Rat)) s0 = some low
 qh : quantO (((hi : Int) : Rat) / ((100 : Int) : Rat)) s0 = some high
 o1 : extQ false qs ≤ av
 o2 : av ≤ extQ true qs
 o3 : extQ false qs ≤ low
 o4 : low ≤ high
 o5 : high ≤ extQ true qs
theorem betw (qs s0 : List Rat) (hq : ∀ x ∈ qs, Part x) (h0 : 0 < qs.length) (h30 : qs.length ≤ 30) (hp : s0.Perm qs) (hw : s0.Pairwise (· ≤ ·)) (lo hi : Nat) (h1 : lo ≤ hi) (h2 : hi ≤ 100) : ∃ av low high, Betw qs s0 lo hi av low high := by
 obtain ⟨ns, hns, hnb⟩ := parts_ints qs hq
 obtain ⟨ms, hms, hmb⟩ := parts_ints s0 (fun x hx => hq x (hp.mem_iff.1 hx))
 have hl : ms.length = qs.length := by rw [← hp.length_eq, hms, List.length_map]
 have hln : ns.length = qs.length := by rw [hns, List.length_map]
 have hasc : Asc ms := fun i hi => by
  rw [hms, List.pairwise_iff_getElem] at hw
  have := hw i (i + 1) (by rw [List.length_map]; omega) (by rw [List.length_map]; exact hi) (by omega)
  rw [List.getElem_map, List.getElem_map, mk_le _ _ _ (by decide)] at this
  rw [List.getD_eq_getElem?_getD, List.getD_eq_getElem?_getD, List.getElem?_eq_getElem (by omega), List.getElem?_eq_getElem hi]
  exact this
 have hge : ∀ i (h : i < ms.length), ms.getD i 0 = ms[i] := fun i h => by rw [List.getD_eq_getElem?_getD, List.getElem?_eq_getElem h]; rfl
 have hup : ∀ j, j < ms.length → ∀ i, i ≤ j → ms.getD i 0 ≤ ms.getD j 0 := fun j => by
  induction j with
  | zero => intro _ i hi; rw [show i = 0 by omega]; exact Int.le_refl _
  | succ j ih =>
   intro hj i hi
   rcases Nat.lt_or_ge i (j + 1) with h | h
   · exact Int.le_trans (ih (by omega) i (by omega)) (hasc j hj)
   · rw [show i = j + 1 by omega]; exact Int.le_refl _
 have hmem : ∀ i, i < ms.length → mkRat (ms.getD i 0) 27720 ∈ qs := fun i hi => by
  refine hp.mem_iff.1 ?_
  rw [hms, hge i hi]
  exact List.mem_map.2 ⟨_, List.getElem_mem hi, rfl⟩
 have hall : ∀ x ∈ qs, mkRat (ms.getD 0 0) 27720 ≤ x ∧ x ≤ mkRat (ms.getD (ms.length - 1) 0) 27720 := fun x hx => by
  have hx2 := hp.mem_iff.2 hx
  rw [hms] at hx2
  obtain ⟨m, hm, rfl⟩ := List.mem_map.1 hx2
  obtain ⟨i, hi, rfl⟩ := List.mem_iff_getElem.1 hm
  rw [mk_le _ _ _ (by decide), mk_le _ _ _ (by decide), ← hge i hi]
  exact ⟨hup i hi 0 (Nat.zero_le _), hup (ms.length - 1) (by omega) i (by omega)⟩
 obtain ⟨m1, m2⟩ := ext_mem false qs h0
 obtain ⟨x1, x2⟩ := ext_mem true qs h0
 have emin : extQ false qs = mkRat (ms.getD 0 0) 27720 := Rat.le_antisymm (m2 _ (hmem 0 (by omega))) (hall _ m1).1
 have emax : extQ true qs = mkRat (ms.getD (ms.length - 1) 0) 27720 := Rat.le_antisymm (hall _ x1).2 (x2 _ (hmem (ms.length - 1) (by omega)))
 have Q := quant_ints ms (by omega) (by omega) hmb
 have e100 : ∀ x : Int, mkRat (100 * x) 2772000 = mkRat x 27720 := fun x => Rat.mkRat_mul_left (n := x) (d := 27720) (a := 100) (by decide)
 obtain ⟨hsum, t, ht1, ht2⟩ := sum0_part qs hq h30
 have hns0 : ∀ m ∈ ns, ms.getD 0 0 ≤ m ∧ m ≤ ms.getD (ms.length - 1) 0 := fun m hm => by
  have := hall (mkRat m 27720) (by rw [hns]; exact List.mem_map.2 ⟨m, hm, rfl⟩)
  rw [mk_le _ _ _ (by decide), mk_le _ _ _ (by decide)] at this
  exact this
 obtain ⟨sb1, sb2⟩ := sum_between ns _ _ hns0
 have hrs : rsum qs = mkRat ns.sum 27720 := by rw [hns]; exact rsum_ints ns
 have htS : t = ns.sum := by rw [hrs] at ht1; exact ((mk_eq _ _ _ (by decide)).1 ht1).symm
 have hd : 0 < 27720 * qs.length := by omega
 have eav : rsum qs / (qs.length : Rat) = mkRat ns.sum (27720 * qs.length) := by
  rw [hrs, Rat.mkRat_eq_div, Rat.mkRat_eq_div]
  have e1 : ((27720 * qs.length : Nat) : Rat) = ((27720 : Nat) : Rat) * (qs.length : Rat) := Rat.natCast_mul _ _
  have e2 : ((27720 : Nat) : Rat) = 27720 := rfl
  have hne : (qs.length : Rat) ≠ 0 := fun h => by have h3 := Rat.num_natCast qs.length; rw [h] at h3; have h4 : (0 : Rat).num = 0 := rfl; omega
  rw [e1, e2]
  generalize (qs.length : Rat) = y at *
  generalize (ns.sum : Rat) = x at *
  grind
 have er : ∀ x : Int, mkRat x 27720 = mkRat (x * (qs.length : Int)) (27720 * qs.length) := fun x => (Rat.mkRat_mul_right (by omega)).symm
 have hlo : lo * (ms.length - 1) ≤ hi * (ms.length - 1) := Nat.mul_le_mul_right _ h1
 have hhi : hi * (ms.length - 1) ≤ 100 * (ms.length - 1) := Nat.mul_le_mul_right _ h2
 rw [hln] at sb1 sb2
 refine ⟨mkRat ns.sum (27720 * qs.length), _, _, ⟨?_, ?_, ?_, by rw [hms]; exact Q lo (by omega), by rw [hms]; exact Q hi h2, ?_, ?_, ?_, ?_, ?_⟩⟩
 · rw [hsum]
   show fit (rsum qs / (qs.length : Rat)) = _
   rw [eav]
   exact fit_ok hd (by omega) (by omega)
 · have := Q 0 (by omega)
   rw [Nat.zero_mul, VV_zero, e100] at this
   rw [hms, emin, ← this]
   congr 1
   decide +kernel
 · have := Q 100 (by omega)
   rw [VV_last, e100] at this
   rw [hms, emax, ← this]
   congr 1
   decide +kernel
 · rw [emin, er, mk_le _ _ _ hd]; exact sb1
 · rw [emax, er, mk_le _ _ _ hd]; exact sb2
 · rw [emin, ← e100, mk_le _ _ _ (by decide), ← VV_zero]
   exact VV_mono ms hasc _ _ (Nat.zero_le _) (by omega)
 · rw [mk_le _ _ _ (by decide)]
   exact VV_mono ms hasc _ _ hlo hhi
 · rw [emax, ← e100, mk_le _ _ _ (by decide), ← VV_last]
   exact VV_mono ms hasc _ _ hhi (Nat.le_refl _)
theorem q100 : ∀ n : Fin 101, FitR (((n.val : Int) : Rat) / ((100 : Int) : Rat)) ∧ 0 ≤ ((n.val : Int) : Rat) / ((100 : Int) : Rat) ∧ ((n.val : Int) : Rat) / ((100 : Int) : Rat) ≤ 1 := by decide +kernel
theorem q01 (r : Int) (h0 : 0 ≤ r) (h1 : r ≤ 100) : FitR ((r : Rat) / ((100 : Int) : Rat)) ∧ 0 ≤ (r : Rat) / ((100 : Int) : Rat) ∧ (r : Rat) / ((100 : Int) : Rat) ≤ 1 := by
 obtain ⟨n, rfl⟩ := Int.eq_ofNat_of_zero_le h0
 exact q100 ⟨n, by omega⟩
section
variable {P : Program} {ops : Array Oper} {Q : Exit → Act → World → Prop} {rest : List Oper} {o : Oper} {a : Act} {W : World}
end
theorem sorted_of (qs : List Rat) : ∃ s0 : List Rat, s0.Perm qs ∧ s0.Pairwise (· ≤ ·) ∧ ∀ qs', qs'.Perm qs → qs'.Pairwise (· ≤ ·) → qs' = s0 := by
 refine ⟨qs.mergeSort (fun x y => decide (x ≤ y)), List.mergeSort_perm _ _, ?_, fun qs' h1 h2 => ?_⟩
 · have h := List.pairwise_mergeSort (le := fun x y : Rat => decide (x ≤ y)) (fun a b c h1 h2 => decide_eq_true (Rat.le_trans (of_decide_eq_true h1) (of_decide_eq_true h2))) (fun a b => by rcases Rat.le_total (a := a) (b := b) with h | h <;> simp [h]) qs
   exact h.imp (fun h => of_decide_eq_true h)
 · have h := List.pairwise_mergeSort (le := fun x y : Rat => decide (x ≤ y)) (fun a b c h1 h2 => decide_eq_true (Rat.le_trans (of_decide_eq_true h1) (of_decide_eq_true h2))) (fun a b => by rcases Rat.le_total (a := a) (b := b) with h | h <;> simp [h]) qs
   exact List.Perm.eq_of_pairwise (fun a b _ _ h1 h2 => Rat.le_antisymm h1 h2) h2 (h.imp (fun h => of_decide_eq_true h)) (h1.trans (List.mergeSort_perm _ _).symm)
theorem upto_calls {ok1 ok2 : Nat → Prop} (x y : Rat) (hle : x ≤ y) (w : World) (va vb : Value) (ha : IsR ok1 w va x) (hb : IsR ok2 w vb y) :
 Calls Try.prog 15 #[va, vb] w fun e w' => e = .returned (.bool true) ∧ Below w.heap.size w w' := by
 have hu30 := Try.underlying30
 obtain ⟨cv, hcv⟩ : ∃ c : Int, c = (if x < y then -1 else if x = y then 0 else 1) := ⟨_, rfl⟩
 have hcv2 : cv ≤ 0 := by
  rw [hcv]
  by_cases h1 : x < y
  · rw [if_pos h1]; omega
  · rw [if_neg h1, if_pos (Rat.le_antisymm hle (Rat.not_lt.1 h1))]; omega
 have HCV := a0_ (And.intro hcv hcv2)
 have hd : decide (cv ≤ 0) = true := decide_eq_true hcv2
 clear hcv hle
 obtain ⟨ta, Aa, na, ca, Da, ka, za, rfl⟩ := ha.agg
 obtain ⟨tb, Ab, nb, cb, Db, kb, zb, rfl⟩ := hb.agg
 have HB := kf_ w
 have V_a := a0_ ha
 clear ha
 have B_a := kf_ w
 have V_b := a0_ hb
 clear hb
 have B_b := kf_ w
 go_enter Try.func15, Try.ntmps15
 go_wp2_with (first | ((with_reducible refine gd_ 2 rfl ?_); refine bx_ (N := 2) #[.bool ta, .slice Aa na ca, .slice Da ka za] 30 ?_; intro g_p hg w101 hbox hb; have G_p := kb_g HB hg; replace HB := kb_b HB hb; replace B_a := kb_b B_a hb; replace B_b := kb_b B_b hb; clear hb; have V_p := a0_ hbox; have B_p := kf_ w101; have N_p := nf_ g_p; clear hbox hg) | ((with_reducible refine gd_ 3 rfl ?_); refine bx_ (N := 3) #[.bool tb, .slice Ab nb cb, .slice Db kb zb] 30 ?_; intro g_q hg w102 hbox hb; have G_q := kb_g HB hg; replace HB := kb_b HB hb; replace B_a := kb_b B_a hb; replace B_b := kb_b B_b hb; replace B_p := kb_b B_p hb; clear hb; have V_q := a0_ hbox; have B_q := kf_ w102; have N_q := nf_ g_q; clear hbox hg) | ((with_reducible refine gd_ 8 rfl ?_); refine load_ev rfl rfl (g := g_p) rfl (bk_ V_p B_p N_p) ?_) | ((with_reducible refine gd_ 9 rfl ?_); refine load_ev rfl rfl (g := g_q) rfl (bk_ V_q B_q N_q) ?_))
 with_reducible refine (qcmp_calls x y _ _ _ (IsR.kb (S := fun k => False) V_a.out B_a.out (fun _ _ h => h)) (IsR.kb (S := fun k => False) V_b.out B_b.out (fun _ _ h => h))).mono ?_
 rintro e w103 ⟨rfl, hb⟩
 rw [← HCV.out.1]
 replace HB := kb_b HB hb
 replace B_a := kb_b B_a hb
 replace B_b := kb_b B_b hb
 replace B_p := kb_b B_p hb
 replace B_q := kb_b B_q hb
 clear hb
 go_wp2_with fail
 go_ret
 exact ⟨rfl, (Kb.to_below HB.out (fun _ h => h.elim))⟩
def Betw6.T6 : Bool × List (List Nat × List Nat) := (true, [([], []), ([0], [0]), ([1], [1]), ([], []), ([3], [3]), ([4, 2], [4]), ([2, 5, 0, 1, 2], [2]), ([5, 6, 0, 1, 2, 3, 4, 5, 6], [5])])
def Betw6.B6 : List Nat := [0, 1, 3, 0, 8, 31, 63, 127]
theorem Betw6.tab6 : rtab .any (opsOf Try.f3 6) = Betw6.T6 := by kernel_rfl
theorem Betw6.bits6 : waitsOk Betw6.T6.2 Betw6.B6 = true := by kernel_rfl
def Betw14.T14 : Bool × List (List Nat × List Nat) := (true, [([], []), ([], []), ([], []), ([0, 1, 2, 0], [0, 1, 2]), ([3, 3], [3]), ([4, 4], [4]), ([4], [4]), ([4], [4]), ([5, 6, 7, 5, 4], [4, 5, 6, 7]), ([4, 8], [4, 8]), ([9, 8, 0, 1, 2, 3, 4, 5, 6, 7, 8, 9], [9])])
def Betw14.B14 : List Nat := [0, 0, 0, 7, 15, 31, 31, 31, 255, 511, 1023]
theorem Betw14.tab14 : rtab .any (opsOf Try.f3 14) = Betw14.T14 := by kernel_rfl
theorem Betw14.bits14 : waitsOk Betw14.T14.2 Betw14.B14 = true := by kernel_rfl
theorem between_calls (l : List (Int × Int × Int)) (hsz : l.length ≤ 140737488351232) (qa qb : Int) (w : World) (Al : Option Addr) (cl : Nat) (hl : Kd.C k3 w Al l.length l) :
 Calls Try.prog 3 #[.slice Al l.length cl, .agg #[.int .i64 qa, .int .i64 qb]] w fun e w' => e = .returned (.bool true) ∧ Below w.heap.size w w' := by
 have hu30 := Try.underlying30
 have hu25 := Try.underlying25
 have hu23 := Try.underlying23
 obtain ⟨nl, hnl⟩ : ∃ nl, nl = l.length := ⟨_, rfl⟩
 rw [← hnl] at hl hsz ⊢
 have HL0 := a0_ (And.intro hnl (And.intro hsz hl))
 clear hnl hsz hl
 have HB := kf_ w
 go_enter Try.func3, Try.ntmps3
 go_wp2_with (first | ((with_reducible refine gd_ 3 rfl ?_); refine bx_ (N := 3) #[.int .i64 qa, .int .i64 qb] 23 ?_; intro g_qq hg w101 hbox hb; have G_qq := kb_g HB hg; replace HB := kb_b HB hb; clear hb; have V_qq := a0_ hbox; have B_qq := kf_ w101; have N_qq := nf_ g_qq; clear hbox hg))
 with_reducible refine (works_calls _).mono ?_
 rintro e w102 ⟨rfl, hb⟩
 replace HB := kb_b HB hb
 replace B_qq := kb_b B_qq hb
 clear hb
 go_wp2_with fail
 have hcl : Kd.C k3 w102 Al l.length l := by rw [← HL0.out.1]; exact Kd.C_below HL0.out.2.2 (Kb.to_below HB.out (fun _ h => h.elim))
 rw [HL0.out.1]
 with_reducible refine (some_calls l (by rw [← HL0.out.1]; exact HL0.out.2.1) _ Al cl hcl).mono ?_
 rintro e w103 ⟨⟨v, rfl, hv⟩, hb⟩
 clear hcl
 rw [← HL0.out.1]
 obtain ⟨As, cs, rfl⟩ := RowS.slice hv
 have hv := RowS.mono hv (ok' := fun _ => True) (fun _ _ => trivial)
 replace HB := kb_b HB hb
 replace B_qq := kb_b B_qq hb
 clear hb
 obtain ⟨ss, hss⟩ : ∃ s, s = someS l := ⟨_, rfl⟩
 obtain ⟨qs, hqs⟩ : ∃ s, s = someV l := ⟨_, rfl⟩
 rw [← hss] at hv
 rw [← hss]
 have HS := a0_ (show ss.length ≤ 30 ∧ (∀ s ∈ ss, 0 ≤ s.by_ ∧ s.by_ < 5000) ∧ ValS ss qs ∧ (∀ x ∈ qs, Part x) from by rw [hss, hqs]; exact ⟨by rw [someS_len]; omega, someS_by l, someV_val l, someV_part l⟩)
 obtain ⟨ns, hns⟩ : ∃ n, n = ss.length := ⟨_, rfl⟩
 have HNS := a0_ hns
 clear hss hqs
 have V_s := a0_ hv
 clear hv
 have B_s := kf_ w103
 rw [← hns]
 clear hns
 by_cases hz : ns = 0
 · have hz1 : ((ns : Int) == 0) = true := by rw [hz]; rfl
   have hz2 : decide ((ns : Int) = 0) = true := decide_eq_true (by omega)
   have hz3 : (ns : Int) = 0 := by omega
   clear hz
   go_wp2_with fail
   go_ret
   exact ⟨rfl, (Kb.to_below HB.out (fun _ h => h.elim))⟩
 have HZ : Aside0 (0 < ns) := ⟨by omega⟩
 have hz1 : ((ns : Int) == 0) = false := beq_eq_false_iff_ne.mpr (by omega)
 have hz3 : ¬ (ns : Int) = 0 := by omega
 have hz4 : decide ((ns : Int) = 0) = false := decide_eq_false hz3
 clear hz
 go_wp2_with fail
 have hb : Below w103.heap.size w103 w103.drew := below_drew1 (Below.refl _ _)
 replace HB := kb_b HB hb
 replace B_qq := kb_b B_qq hb
 replace B_s := kb_b B_s hb
 clear hb
 refine start_ (n := 8) (S := fun w' => (w'.cell? ⟨g_qq, 0, none⟩ = some (.int .i64 qa)) ∧ (w'.cell? ⟨g_qq, 1, none⟩ = some (.int .i64 qb))) (ds := []) (tB_ 8 0) (by kernel_rfl) rfl (by kernel_rfl) ⟨((blk_cell (bk_ V_qq B_qq N_qq) 0).trans rfl), ((blk_cell (bk_ V_qq B_qq N_qq) 1).trans rfl)⟩ (fun hHeld => ?_)
 refine with_tabW Betw6.tab6 Betw6.bits6 (fun HT_ HW_ => ?_)
 generalize w103.drew = w104 at HB B_qq B_s hHeld ⊢
 refine pu_ 0 (some 26) 1 HT_ ?_
 refine tk_ 1 (some 27) 3 HT_ HW_ hHeld ?_ ?_ ?_ ?_ ?_
 rotate_left
 · intro w' hs
   have hb_ := hs.1
   have c0_ := hb_
   clear hs
   go_simp
   with_reducible rfl
 rotate_left
 · simp only [PU]
   rfl
 refine pu_ 3 (some 29) 11 HT_ ?_
 refine tk_ 4 (some 30) 27 HT_ HW_ hHeld ?_ ?_ ?_ ?_ ?_
 rotate_left
 · intro w' hs
   have hb_ := hs.2
   have c0_ := hb_
   clear hs
   go_simp
   with_reducible rfl
 rotate_left
 · simp only [PU]
   rfl
 refine on_ 2 (some 28) 31 HT_ (fun K hK => ?_)
 refine gs_ Try.func10 #[.int .i64 qa, .int .i64 101] ?_
 refine (bring_calls qa 101 (by omega) (by omega) _).mono ?_
 rintro e w105 ⟨rfl, hb⟩
 obtain ⟨ra, hra⟩ : ∃ r, r = qa % 101 := ⟨_, rfl⟩
 rw [← hra]
 have HRA := a0_ (show 0 ≤ ra ∧ ra ≤ 100 from by omega)
 clear hra
 refine ⟨_, rfl, ?_⟩
 refine hK.out _ _ (by exact ⟨pw_cell_below hb hHeld.1, pw_cell_below hb hHeld.2⟩) (fun hHeld => ?_)
 clear hK K
 refine nm_ (some 28) ?_
 replace HB := kb_b HB hb
 replace B_qq := kb_b B_qq hb
 replace B_s := kb_b B_s hb
 clear hb
 refine on_ 5 (some 31) 63 HT_ (fun K hK => ?_)
 refine gs_ Try.func10 #[.int .i64 qb, .int .i64 101] ?_
 refine (bring_calls qb 101 (by omega) (by omega) _).mono ?_
 rintro e w106 ⟨rfl, hb⟩
 obtain ⟨rc, hrc⟩ : ∃ r, r = qb % 101 := ⟨_, rfl⟩
 rw [← hrc]
 have HRC := a0_ (show 0 ≤ rc ∧ rc ≤ 100 from by omega)
 clear hrc
 refine ⟨_, rfl, ?_⟩
 refine hK.out _ _ (by exact ⟨pw_cell_below hb hHeld.1, pw_cell_below hb hHeld.2⟩) (fun hHeld => ?_)
 clear hK K
 refine nm_ (some 31) ?_
 replace HB := kb_b HB hb
 replace B_qq := kb_b B_qq hb
 replace B_s := kb_b B_s hb
 clear hb
 refine pu_ 6 (some 6) 127 HT_ ?_
 refine pu_ 7 (some 7) 255 HT_ ?_
 refine do_ HT_ ?_
 clear HT_ HW_ hHeld
 clear V_qq B_qq
 obtain ⟨lo, hi, hlh⟩ : ∃ lo hi : Nat, (lo : Int) = min ra rc ∧ (hi : Int) = max ra rc ∧ lo ≤ hi ∧ hi ≤ 100 := ⟨(min ra rc).toNat, (max ra rc).toNat, by have := HRA.out; have := HRC.out; omega⟩
 obtain ⟨s0, hs0⟩ := sorted_of qs
 obtain ⟨av, low, high, hbt⟩ := betw qs s0 HS.out.2.2.2 (by rw [ValS.len HS.out.2.2.1, ← HNS.out]; exact HZ.out) (by rw [ValS.len HS.out.2.2.1]; exact HS.out.1) hs0.1 hs0.2.1 lo hi hlh.2.2.1 hlh.2.2.2
 have HBT := a0_ hbt
 have HLH := a0_ hlh
 have HS0 := a0_ hs0
 clear hlh hs0 hbt
 go_wp2_with fail
 with_reducible refine (qof_calls 0 (by omega) (by omega) _).mono ?_
 rintro e w107 ⟨⟨v, rfl, hv⟩, hb⟩
 obtain ⟨tu, Au, nu, cu, Du, ku, zu, rfl⟩ := hv.agg
 have hle := Kb.size HB.out
 have hv_ := IsR.mono' (ok' := fun k => True) hv (fun k hk _ => by trivial)
 clear hv hle
 replace HB := kb_b HB hb
 replace B_s := kb_b B_s hb
 clear hb
 have V_u := a0_ hv_
 clear hv_
 have B_u := kf_ w107
 go_wp2_with fail
 rw [HNS.out]
 with_reducible refine (told_calls (fun a => a = some (extQ false qs)) 8 _ _ _ _ _ _ _ _ _ _ _ (fun W hW => wrun8 1000 (by omega) (by omega) ss (bys_of ss HS.out.2.1) qs HS.out.2.2.1 (by rw [← HNS.out]; exact HZ.out) (by have := HS.out.1; omega) W _ _ _ _ _ _ _ _ _ (RowS.kb (RowS.kb V_s.out B_s.out (fun _ _ h => h)) hW (fun _ _ h => h)))).mono ?_
 rintro e w108 ⟨⟨v, ans, rfl, rfl, hv⟩, hb⟩
 rw [← HNS.out]
 have hv := Res.isR hv
 obtain ⟨td, Ad, nd, cd, Dd, kd, zd, rfl⟩ := hv.agg
 have hle := Kb.size HB.out
 have hv_ := IsR.mono' (ok' := fun k => True) hv (fun k hk _ => by trivial)
 clear hv hle
 replace HB := kb_b HB hb
 replace B_s := kb_b B_s hb
 replace B_u := kb_b B_u hb
 clear hb
 have V_d := a0_ hv_
 clear hv_
 have B_d := kf_ w108
 clear V_u B_u
 go_wp2_with (first | ((with_reducible refine gd_ 8 rfl ?_); refine bx_ (N := 8) #[.bool false, .slice none 0 0, .slice none 0 0] 30 ?_; intro g_p8 hg w109 hbox hb; have G_p8 := kb_g HB hg; have O_p8_s := kb_g B_s hg; have O_p8_d := kb_g B_d hg; replace HB := kb_b HB hb; replace B_s := kb_b B_s hb; replace B_d := kb_b B_d hb; clear hb; have V_p8 := a0_ hbox; have B_p8 := kf_ w109; have N_p8 := nf_ g_p8; clear hbox hg) | ((with_reducible refine gt_ 30 8 36 rfl ?_); refine store_ev (p := .tmp 8) (v := .tmp 36) rfl rfl rfl (g := g_p8) rfl rfl (bk_ V_p8 B_p8 N_p8) ?_; intro w110 hbox hk; replace HB := kb_o HB hk G_p8; replace B_s := kb_o B_s hk O_p8_s; replace B_d := kb_o B_d hk O_p8_d; clear V_p8 B_p8; have V_p8 := a0_ hbox; have B_p8 := kf_ w110; clear hbox hk))
 with_reducible refine (qof_calls 0 (by omega) (by omega) _).mono ?_
 rintro e w111 ⟨⟨v, rfl, hv⟩, hb⟩
 obtain ⟨tu, Au, nu, cu, Du, ku, zu, rfl⟩ := hv.agg
 have hle := Kb.size HB.out
 have hv_ := IsR.mono' (ok' := fun k => True) hv (fun k hk _ => by trivial)
 clear hv hle
 replace HB := kb_b HB hb
 replace B_s := kb_b B_s hb
 replace B_d := kb_b B_d hb
 replace B_p8 := kb_b B_p8 hb
 clear hb
 have V_u := a0_ hv_
 clear hv_
 have B_u := kf_ w111
 go_wp2_with fail
 rw [HNS.out]
 with_reducible refine (told_calls (fun a => a = some (extQ true qs)) 9 _ _ _ _ _ _ _ _ _ _ _ (fun W hW => wrun9 1000 (by omega) (by omega) ss (bys_of ss HS.out.2.1) qs HS.out.2.2.1 (by rw [← HNS.out]; exact HZ.out) (by have := HS.out.1; omega) W _ _ _ _ _ _ _ _ _ (RowS.kb (RowS.kb V_s.out B_s.out (fun _ _ h => h)) hW (fun _ _ h => h)))).mono ?_
 rintro e w112 ⟨⟨v, ans, rfl, rfl, hv⟩, hb⟩
 rw [← HNS.out]
 have hv := Res.isR hv
 obtain ⟨te, Ae, ne, ce, De, ke, ze, rfl⟩ := hv.agg
 have hle := Kb.size HB.out
 have hv_ := IsR.mono' (ok' := fun k => True) hv (fun k hk _ => by trivial)
 clear hv hle
 replace HB := kb_b HB hb
 replace B_s := kb_b B_s hb
 replace B_d := kb_b B_d hb
 replace B_p8 := kb_b B_p8 hb
 replace B_u := kb_b B_u hb
 clear hb
 have V_e := a0_ hv_
 clear hv_
 have B_e := kf_ w112
 clear V_u B_u
 go_wp2_with (first | ((with_reducible refine gd_ 10 rfl ?_); refine bx_ (N := 10) #[.bool false, .slice none 0 0, .slice none 0 0] 30 ?_; intro g_p10 hg w113 hbox hb; have G_p10 := kb_g HB hg; have O_p10_s := kb_g B_s hg; have O_p10_d := kb_g B_d hg; have O_p10_p8 := kb_g B_p8 hg; have O_p10_e := kb_g B_e hg; replace HB := kb_b HB hb; replace B_s := kb_b B_s hb; replace B_d := kb_b B_d hb; replace B_p8 := kb_b B_p8 hb; replace B_e := kb_b B_e hb; clear hb; have V_p10 := a0_ hbox; have B_p10 := kf_ w113; have N_p10 := nf_ g_p10; clear hbox hg) | ((with_reducible refine gt_ 30 10 42 rfl ?_); refine store_ev (p := .tmp 10) (v := .tmp 42) rfl rfl rfl (g := g_p10) rfl rfl (bk_ V_p10 B_p10 N_p10) ?_; intro w114 hbox hk; replace HB := kb_o HB hk G_p10; replace B_s := kb_o B_s hk O_p10_s; replace B_d := kb_o B_d hk O_p10_d; replace B_p8 := kb_o B_p8 hk O_p10_p8; replace B_e := kb_o B_e hk O_p10_e; clear V_p10 B_p10; have V_p10 := a0_ hbox; have B_p10 := kf_ w114; clear hbox hk))
 with_reducible refine (qof_calls 0 (by omega) (by omega) _).mono ?_
 rintro e w115 ⟨⟨v, rfl, hv⟩, hb⟩
 obtain ⟨tu, Au, nu, cu, Du, ku, zu, rfl⟩ := hv.agg
 have hle := Kb.size HB.out
 have hv_ := IsR.mono' (ok' := fun k => True) hv (fun k hk _ => by trivial)
 clear hv hle
 replace HB := kb_b HB hb
 replace B_s := kb_b B_s hb
 replace B_d := kb_b B_d hb
 replace B_p8 := kb_b B_p8 hb
 replace B_e := kb_b B_e hb
 replace B_p10 := kb_b B_p10 hb
 clear hb
 have V_u := a0_ hv_
 clear hv_
 have B_u := kf_ w115
 go_wp2_with fail
 rw [HNS.out]
 with_reducible refine (told_calls (fun a => a = some av) 7 _ _ _ _ _ _ _ _ _ _ _ (fun W hW => (wrun7 1000 (by omega) (by omega) ss (bys_of ss HS.out.2.1) qs HS.out.2.2.1 (by rw [← HNS.out]; exact HZ.out) (by have := HS.out.1; omega) W _ _ _ _ _ _ _ _ _ (RowS.kb (RowS.kb V_s.out B_s.out (fun _ _ h => h)) hW (fun _ _ h => h))).mono (fun e w' h => by obtain ⟨⟨v, ans, ha, he, hr⟩, hb⟩ := h; exact ⟨⟨v, ans, (show ans = _ from ha).trans (by have h9 := HBT.out.avg; rw [ValS.len HS.out.2.2.1] at h9; exact h9), he, hr⟩, hb⟩))).mono ?_
 rintro e w116 ⟨⟨v, ans, rfl, rfl, hv⟩, hb⟩
 rw [← HNS.out]
 have hv := Res.isR hv
 obtain ⟨tf, Af, nf, cf, Df, kf, zf, rfl⟩ := hv.agg
 have hle := Kb.size HB.out
 have hv_ := IsR.mono' (ok' := fun k => True) hv (fun k hk _ => by trivial)
 clear hv hle
 replace HB := kb_b HB hb
 replace B_s := kb_b B_s hb
 replace B_d := kb_b B_d hb
 replace B_p8 := kb_b B_p8 hb
 replace B_e := kb_b B_e hb
 replace B_p10 := kb_b B_p10 hb
 replace B_u := kb_b B_u hb
 clear hb
 have V_f := a0_ hv_
 clear hv_
 have B_f := kf_ w116
 clear V_u B_u
 go_wp2_with (first | ((with_reducible refine gd_ 12 rfl ?_); refine bx_ (N := 12) #[.bool false, .slice none 0 0, .slice none 0 0] 30 ?_; intro g_p12 hg w117 hbox hb; have G_p12 := kb_g HB hg; have O_p12_s := kb_g B_s hg; have O_p12_d := kb_g B_d hg; have O_p12_p8 := kb_g B_p8 hg; have O_p12_e := kb_g B_e hg; have O_p12_p10 := kb_g B_p10 hg; have O_p12_f := kb_g B_f hg; replace HB := kb_b HB hb; replace B_s := kb_b B_s hb; replace B_d := kb_b B_d hb; replace B_p8 := kb_b B_p8 hb; replace B_e := kb_b B_e hb; replace B_p10 := kb_b B_p10 hb; replace B_f := kb_b B_f hb; clear hb; have V_p12 := a0_ hbox; have B_p12 := kf_ w117; have N_p12 := nf_ g_p12; clear hbox hg) | ((with_reducible refine gt_ 30 12 48 rfl ?_); refine store_ev (p := .tmp 12) (v := .tmp 48) rfl rfl rfl (g := g_p12) rfl rfl (bk_ V_p12 B_p12 N_p12) ?_; intro w118 hbox hk; replace HB := kb_o HB hk G_p12; replace B_s := kb_o B_s hk O_p12_s; replace B_d := kb_o B_d hk O_p12_d; replace B_p8 := kb_o B_p8 hk O_p12_p8; replace B_e := kb_o B_e hk O_p12_e; replace B_p10 := kb_o B_p10 hk O_p12_p10; replace B_f := kb_o B_f hk O_p12_f; clear V_p12 B_p12; have V_p12 := a0_ hbox; have B_p12 := kf_ w118; clear hbox hk))
 rw [← HLH.out.1]
 with_reducible refine (part_calls (lo : Int) 100 (by omega) (by have := HLH.out.2.2; omega) (by omega) (by omega) (q01 _ (by omega) (by have := HLH.out.2.2; omega)).1 _).mono ?_
 rintro e w119 ⟨⟨v, rfl, hv⟩, hb⟩
 obtain ⟨tq, Aq, nq, cq, Dq, kq, zq, rfl⟩ := hv.agg
 have hle := Kb.size HB.out
 have hv_ := IsR.mono' (ok' := fun k => True) hv (fun k hk _ => by trivial)
 clear hv hle
 replace HB := kb_b HB hb
 replace B_s := kb_b B_s hb
 replace B_d := kb_b B_d hb
 replace B_p8 := kb_b B_p8 hb
 replace B_e := kb_b B_e hb
 replace B_p10 := kb_b B_p10 hb
 replace B_f := kb_b B_f hb
 replace B_p12 := kb_b B_p12 hb
 clear hb
 have V_q := a0_ hv_
 clear hv_
 have B_q := kf_ w119
 go_wp2_with fail
 rw [HNS.out]
 with_reducible refine (told_calls (fun a => a = some low) 12 _ _ _ _ _ _ _ _ _ _ _ (fun W hW => (wrun12 1000 (by omega) (by omega) ss (bys_of ss HS.out.2.1) qs HS.out.2.2.1 (((lo : Int) : Rat) / ((100 : Int) : Rat)) (by first | decide +kernel | exact (q01 _ (by omega) (by have := HLH.out.2.2; omega)).2.1) (by first | decide +kernel | exact (q01 _ (by omega) (by have := HLH.out.2.2; omega)).2.2) (by have := HS.out.1; omega) (by rw [← HNS.out]; exact HZ.out) (by have := HS.out.1; omega) W _ _ _ _ _ _ _ _ _ (RowS.kb (RowS.kb V_s.out B_s.out (fun _ _ h => h)) hW (fun _ _ h => h)) (IsR.kb (IsR.kb (S := fun k => False) V_q.out B_q.out (fun _ _ h => h)) hW (fun _ _ h => h))).mono (fun e w' h => by obtain ⟨⟨v, ans, ha, he, hr⟩, hb⟩ := h; exact ⟨⟨v, ans, by obtain ⟨qs', hp, hw, rfl⟩ := ha; rw [HS0.out.2.2 qs' hp hw]; exact HBT.out.ql, he, hr⟩, hb⟩))).mono ?_
 rintro e w120 ⟨⟨v, ans, rfl, rfl, hv⟩, hb⟩
 rw [← HNS.out]
 have hv := Res.isR hv
 obtain ⟨tg, Ag, ng, cg, Dg, kg, zg, rfl⟩ := hv.agg
 have hle := Kb.size HB.out
 have hv_ := IsR.mono' (ok' := fun k => True) hv (fun k hk _ => by trivial)
 clear hv hle
 replace HB := kb_b HB hb
 replace B_s := kb_b B_s hb
 replace B_d := kb_b B_d hb
 replace B_p8 := kb_b B_p8 hb
 replace B_e := kb_b B_e hb
 replace B_p10 := kb_b B_p10 hb
 replace B_f := kb_b B_f hb
 replace B_p12 := kb_b B_p12 hb
 replace B_q := kb_b B_q hb
 clear hb
 have V_g := a0_ hv_
 clear hv_
 have B_g := kf_ w120
 clear V_q B_q
 go_wp2_with (first | ((with_reducible refine gd_ 14 rfl ?_); refine bx_ (N := 14) #[.bool false, .slice none 0 0, .slice none 0 0] 30 ?_; intro g_p14 hg w121 hbox hb; have G_p14 := kb_g HB hg; have O_p14_s := kb_g B_s hg; have O_p14_d := kb_g B_d hg; have O_p14_p8 := kb_g B_p8 hg; have O_p14_e := kb_g B_e hg; have O_p14_p10 := kb_g B_p10 hg; have O_p14_f := kb_g B_f hg; have O_p14_p12 := kb_g B_p12 hg; have O_p14_g := kb_g B_g hg; replace HB := kb_b HB hb; replace B_s := kb_b B_s hb; replace B_d := kb_b B_d hb; replace B_p8 := kb_b B_p8 hb; replace B_e := kb_b B_e hb; replace B_p10 := kb_b B_p10 hb; replace B_f := kb_b B_f hb; replace B_p12 := kb_b B_p12 hb; replace B_g := kb_b B_g hb; clear hb; have V_p14 := a0_ hbox; have B_p14 := kf_ w121; have N_p14 := nf_ g_p14; clear hbox hg) | ((with_reducible refine gt_ 30 14 57 rfl ?_); refine store_ev (p := .tmp 14) (v := .tmp 57) rfl rfl rfl (g := g_p14) rfl rfl (bk_ V_p14 B_p14 N_p14) ?_; intro w122 hbox hk; replace HB := kb_o HB hk G_p14; replace B_s := kb_o B_s hk O_p14_s; replace B_d := kb_o B_d hk O_p14_d; replace B_p8 := kb_o B_p8 hk O_p14_p8; replace B_e := kb_o B_e hk O_p14_e; replace B_p10 := kb_o B_p10 hk O_p14_p10; replace B_f := kb_o B_f hk O_p14_f; replace B_p12 := kb_o B_p12 hk O_p14_p12; replace B_g := kb_o B_g hk O_p14_g; clear V_p14 B_p14; have V_p14 := a0_ hbox; have B_p14 := kf_ w122; clear hbox hk))
 rw [← HLH.out.2.1]
 with_reducible refine (part_calls (hi : Int) 100 (by omega) (by have := HLH.out.2.2; omega) (by omega) (by omega) (q01 _ (by omega) (by have := HLH.out.2.2; omega)).1 _).mono ?_
 rintro e w123 ⟨⟨v, rfl, hv⟩, hb⟩
 obtain ⟨tq, Aq, nq, cq, Dq, kq, zq, rfl⟩ := hv.agg
 have hle := Kb.size HB.out
 have hv_ := IsR.mono' (ok' := fun k => True) hv (fun k hk _ => by trivial)
 clear hv hle
 replace HB := kb_b HB hb
 replace B_s := kb_b B_s hb
 replace B_d := kb_b B_d hb
 replace B_p8 := kb_b B_p8 hb
 replace B_e := kb_b B_e hb
 replace B_p10 := kb_b B_p10 hb
 replace B_f := kb_b B_f hb
 replace B_p12 := kb_b B_p12 hb
 replace B_g := kb_b B_g hb
 replace B_p14 := kb_b B_p14 hb
 clear hb
 have V_q := a0_ hv_
 clear hv_
 have B_q := kf_ w123
 go_wp2_with fail
 rw [HNS.out]
 with_reducible refine (told_calls (fun a => a = some high) 12 _ _ _ _ _ _ _ _ _ _ _ (fun W hW => (wrun12 1000 (by omega) (by omega) ss (bys_of ss HS.out.2.1) qs HS.out.2.2.1 (((hi : Int) : Rat) / ((100 : Int) : Rat)) (by first | decide +kernel | exact (q01 _ (by omega) (by have := HLH.out.2.2; omega)).2.1) (by first | decide +kernel | exact (q01 _ (by omega) (by have := HLH.out.2.2; omega)).2.2) (by have := HS.out.1; omega) (by rw [← HNS.out]; exact HZ.out) (by have := HS.out.1; omega) W _ _ _ _ _ _ _ _ _ (RowS.kb (RowS.kb V_s.out B_s.out (fun _ _ h => h)) hW (fun _ _ h => h)) (IsR.kb (IsR.kb (S := fun k => False) V_q.out B_q.out (fun _ _ h => h)) hW (fun _ _ h => h))).mono (fun e w' h => by obtain ⟨⟨v, ans, ha, he, hr⟩, hb⟩ := h; exact ⟨⟨v, ans, by obtain ⟨qs', hp, hw, rfl⟩ := ha; rw [HS0.out.2.2 qs' hp hw]; exact HBT.out.qh, he, hr⟩, hb⟩))).mono ?_
 rintro e w124 ⟨⟨v, ans, rfl, rfl, hv⟩, hb⟩
 rw [← HNS.out]
 have hv := Res.isR hv
 obtain ⟨th, Ah, nh, ch, Dh, kh, zh, rfl⟩ := hv.agg
 have hle := Kb.size HB.out
 have hv_ := IsR.mono' (ok' := fun k => True) hv (fun k hk _ => by trivial)
 clear hv hle
 replace HB := kb_b HB hb
 replace B_s := kb_b B_s hb
 replace B_d := kb_b B_d hb
 replace B_p8 := kb_b B_p8 hb
 replace B_e := kb_b B_e hb
 replace B_p10 := kb_b B_p10 hb
 replace B_f := kb_b B_f hb
 replace B_p12 := kb_b B_p12 hb
 replace B_g := kb_b B_g hb
 replace B_p14 := kb_b B_p14 hb
 replace B_q := kb_b B_q hb
 clear hb
 have V_h := a0_ hv_
 clear hv_
 have B_h := kf_ w124
 clear V_q B_q
 go_wp2_with (first | ((with_reducible refine gd_ 16 rfl ?_); refine bx_ (N := 16) #[.bool false, .slice none 0 0, .slice none 0 0] 30 ?_; intro g_p16 hg w125 hbox hb; have G_p16 := kb_g HB hg; have O_p16_s := kb_g B_s hg; have O_p16_d := kb_g B_d hg; have O_p16_p8 := kb_g B_p8 hg; have O_p16_e := kb_g B_e hg; have O_p16_p10 := kb_g B_p10 hg; have O_p16_f := kb_g B_f hg; have O_p16_p12 := kb_g B_p12 hg; have O_p16_g := kb_g B_g hg; have O_p16_p14 := kb_g B_p14 hg; have O_p16_h := kb_g B_h hg; replace HB := kb_b HB hb; replace B_s := kb_b B_s hb; replace B_d := kb_b B_d hb; replace B_p8 := kb_b B_p8 hb; replace B_e := kb_b B_e hb; replace B_p10 := kb_b B_p10 hb; replace B_f := kb_b B_f hb; replace B_p12 := kb_b B_p12 hb; replace B_g := kb_b B_g hb; replace B_p14 := kb_b B_p14 hb; replace B_h := kb_b B_h hb; clear hb; have V_p16 := a0_ hbox; have B_p16 := kf_ w125; have N_p16 := nf_ g_p16; clear hbox hg) | ((with_reducible refine gt_ 30 16 66 rfl ?_); refine store_ev (p := .tmp 16) (v := .tmp 66) rfl rfl rfl (g := g_p16) rfl rfl (bk_ V_p16 B_p16 N_p16) ?_; intro w126 hbox hk; replace HB := kb_o HB hk G_p16; replace B_s := kb_o B_s hk O_p16_s; replace B_d := kb_o B_d hk O_p16_d; replace B_p8 := kb_o B_p8 hk O_p16_p8; replace B_e := kb_o B_e hk O_p16_e; replace B_p10 := kb_o B_p10 hk O_p16_p10; replace B_f := kb_o B_f hk O_p16_f; replace B_p12 := kb_o B_p12 hk O_p16_p12; replace B_g := kb_o B_g hk O_p16_g; replace B_p14 := kb_o B_p14 hk O_p16_p14; replace B_h := kb_o B_h hk O_p16_h; clear V_p16 B_p16; have V_p16 := a0_ hbox; have B_p16 := kf_ w126; clear hbox hk))
 rw [HNS.out]
 have hb : Below w126.heap.size w126 w126.drew := below_drew1 (Below.refl _ _)
 replace HB := kb_b HB hb
 replace B_s := kb_b B_s hb
 replace B_d := kb_b B_d hb
 replace B_p8 := kb_b B_p8 hb
 replace B_e := kb_b B_e hb
 replace B_p10 := kb_b B_p10 hb
 replace B_f := kb_b B_f hb
 replace B_p12 := kb_b B_p12 hb
 replace B_g := kb_b B_g hb
 replace B_p14 := kb_b B_p14 hb
 replace B_h := kb_b B_h hb
 replace B_p16 := kb_b B_p16 hb
 clear hb
 refine start_ (n := 11) (S := fun w' => w'.heap[g_p8]? = some (.cells #[.bool td, .slice Ad nd cd, .slice Dd kd zd] 30 (0, 0)) ∧ w'.heap[g_p10]? = some (.cells #[.bool te, .slice Ae ne ce, .slice De ke ze] 30 (0, 0))) (ds := []) (tB_ 11 0) (by kernel_rfl) rfl (by kernel_rfl) ⟨bk_ V_p8 B_p8 N_p8, bk_ V_p10 B_p10 N_p10⟩ (fun hHeld => ?_)
 refine with_tabW Betw14.tab14 Betw14.bits14 (fun HT_ HW_ => ?_)
 generalize w126.drew = w127 at HB B_s B_d B_p8 B_e B_p10 B_f B_p12 B_g B_p14 B_h B_p16 hHeld ⊢
 refine pu_ 1 (some 87) 2 HT_ ?_
 refine tk_ 2 (some 88) 6 HT_ HW_ hHeld ?_ ?_ ?_ ?_ ?_
 rotate_left
 · intro w' hs
   have hb_ := hs.1
   obtain ⟨c0_, c1_, c2_⟩ := b3_ hb_
   clear hb_ hs
   go_simp
   with_reducible rfl
 rotate_left
 · simp only [PU]
   rfl
 refine on_ 0 (some 86) 7 HT_ (fun K hK => ?_)
 refine gs_ Try.func12 #[.int .i64 0] ?_
 refine (qof_calls 0 (by omega) (by omega) _).mono ?_
 rintro e w128 ⟨⟨v86, rfl, hv⟩, hb⟩
 obtain ⟨tq, Aq, nq, cq, Dq, kq, zq, rfl⟩ := hv.agg
 refine ⟨_, rfl, ?_⟩
 refine hK.out _ _ (by exact ⟨blk_below hHeld.1 hb, blk_below hHeld.2 hb⟩) (fun hHeld => ?_)
 clear hK K
 refine nm_ (some 86) ?_
 have hle := Kb.size HB.out
 have hv_ := IsR.mono' (ok' := fun k => True) hv (fun k hk _ => by trivial)
 clear hv hle
 replace HB := kb_b HB hb
 replace B_s := kb_b B_s hb
 replace B_d := kb_b B_d hb
 replace B_p8 := kb_b B_p8 hb
 replace B_e := kb_b B_e hb
 replace B_p10 := kb_b B_p10 hb
 replace B_f := kb_b B_f hb
 replace B_p12 := kb_b B_p12 hb
 replace B_g := kb_b B_g hb
 replace B_p14 := kb_b B_p14 hb
 replace B_h := kb_b B_h hb
 replace B_p16 := kb_b B_p16 hb
 clear hb
 have V_q := a0_ hv_
 clear hv_
 have B_q := kf_ w128
 refine on_ 3 (some 89) 15 HT_ (fun K hK => ?_)
 refine gs_ Try.func14 #[.int .i64 12, .int .i64 1, .agg #[.bool tq, .slice Aq nq cq, .slice Dq kq zq], .slice As ss.length cs, .agg #[.bool td, .slice Ad nd cd, .slice Dd kd zd]] ?_
 refine (makes_true 12 1 (extQ false qs) _ _ _ _ _ _ _ _ _ _ _ _ (IsR.kb (S := fun k => False) V_d.out B_d.out (fun _ _ h => h)) (fun W hW => run_some (wrun12 1 (by omega) (by omega) ss (bys_of ss HS.out.2.1) qs HS.out.2.2.1 ((0 : Int) : Rat) (by first | decide +kernel | exact (q01 _ (by omega) (by have := HLH.out.2.2; omega)).2.1) (by first | decide +kernel | exact (q01 _ (by omega) (by have := HLH.out.2.2; omega)).2.2) (by have := HS.out.1; omega) (by rw [← HNS.out]; exact HZ.out) (by have := HS.out.1; omega) W _ _ _ _ _ _ _ _ _ (RowS.kb (RowS.kb V_s.out B_s.out (fun _ _ h => h)) hW (fun _ _ h => h)) (IsR.kb (IsR.kb (S := fun k => False) V_q.out B_q.out (fun _ _ h => h)) hW (fun _ _ h => h))) (fun a ha => by obtain ⟨qs', hp, hw, rfl⟩ := ha; rw [HS0.out.2.2 qs' hp hw]; exact HBT.out.q0))).mono ?_
 rintro e w129 ⟨rfl, hb⟩
 refine ⟨_, rfl, ?_⟩
 refine hK.out _ _ (by exact ⟨blk_below hHeld.1 hb, blk_below hHeld.2 hb⟩) (fun hHeld => ?_)
 clear hK K
 refine nm_ (some 89) ?_
 replace HB := kb_b HB hb
 replace B_s := kb_b B_s hb
 replace B_d := kb_b B_d hb
 replace B_p8 := kb_b B_p8 hb
 replace B_e := kb_b B_e hb
 replace B_p10 := kb_b B_p10 hb
 replace B_f := kb_b B_f hb
 replace B_p12 := kb_b B_p12 hb
 replace B_g := kb_b B_g hb
 replace B_p14 := kb_b B_p14 hb
 replace B_h := kb_b B_h hb
 replace B_p16 := kb_b B_p16 hb
 replace B_q := kb_b B_q hb
 clear hb
 clear V_q B_q
 refine pu_ 4 (some 90) 31 HT_ ?_
 refine pu_ 6 (some 92) 95 HT_ ?_
 refine tk_ 7 (some 93) 223 HT_ HW_ hHeld ?_ ?_ ?_ ?_ ?_
 rotate_left
 · intro w' hs
   have hb_ := hs.2
   obtain ⟨c0_, c1_, c2_⟩ := b3_ hb_
   clear hb_ hs
   go_simp
   with_reducible rfl
 rotate_left
 · simp only [PU]
   rfl
 refine on_ 5 (some 91) 255 HT_ (fun K hK => ?_)
 refine gs_ Try.func12 #[.int .i64 1] ?_
 refine (qof_calls 1 (by omega) (by omega) _).mono ?_
 rintro e w130 ⟨⟨v91, rfl, hv⟩, hb⟩
 obtain ⟨tq, Aq, nq, cq, Dq, kq, zq, rfl⟩ := hv.agg
 refine ⟨_, rfl, ?_⟩
 refine hK.out _ _ (by exact ⟨blk_below hHeld.1 hb, blk_below hHeld.2 hb⟩) (fun hHeld => ?_)
 clear hK K
 refine nm_ (some 91) ?_
 have hle := Kb.size HB.out
 have hv_ := IsR.mono' (ok' := fun k => True) hv (fun k hk _ => by trivial)
 clear hv hle
 replace HB := kb_b HB hb
 replace B_s := kb_b B_s hb
 replace B_d := kb_b B_d hb
 replace B_p8 := kb_b B_p8 hb
 replace B_e := kb_b B_e hb
 replace B_p10 := kb_b B_p10 hb
 replace B_f := kb_b B_f hb
 replace B_p12 := kb_b B_p12 hb
 replace B_g := kb_b B_g hb
 replace B_p14 := kb_b B_p14 hb
 replace B_h := kb_b B_h hb
 replace B_p16 := kb_b B_p16 hb
 clear hb
 have V_q := a0_ hv_
 clear hv_
 have B_q := kf_ w130
 refine on_ 8 (some 94) 511 HT_ (fun K hK => ?_)
 refine gs_ Try.func14 #[.int .i64 12, .int .i64 1, .agg #[.bool tq, .slice Aq nq cq, .slice Dq kq zq], .slice As ss.length cs, .agg #[.bool te, .slice Ae ne ce, .slice De ke ze]] ?_
 refine (makes_true 12 1 (extQ true qs) _ _ _ _ _ _ _ _ _ _ _ _ (IsR.kb (S := fun k => False) V_e.out B_e.out (fun _ _ h => h)) (fun W hW => run_some (wrun12 1 (by omega) (by omega) ss (bys_of ss HS.out.2.1) qs HS.out.2.2.1 ((1 : Int) : Rat) (by first | decide +kernel | exact (q01 _ (by omega) (by have := HLH.out.2.2; omega)).2.1) (by first | decide +kernel | exact (q01 _ (by omega) (by have := HLH.out.2.2; omega)).2.2) (by have := HS.out.1; omega) (by rw [← HNS.out]; exact HZ.out) (by have := HS.out.1; omega) W _ _ _ _ _ _ _ _ _ (RowS.kb (RowS.kb V_s.out B_s.out (fun _ _ h => h)) hW (fun _ _ h => h)) (IsR.kb (IsR.kb (S := fun k => False) V_q.out B_q.out (fun _ _ h => h)) hW (fun _ _ h => h))) (fun a ha => by obtain ⟨qs', hp, hw, rfl⟩ := ha; rw [HS0.out.2.2 qs' hp hw]; exact HBT.out.q1))).mono ?_
 rintro e w131 ⟨rfl, hb⟩
 refine ⟨_, rfl, ?_⟩
 refine hK.out _ _ (by exact ⟨blk_below hHeld.1 hb, blk_below hHeld.2 hb⟩) (fun hHeld => ?_)
 clear hK K
 refine nm_ (some 94) ?_
 replace HB := kb_b HB hb
 replace B_s := kb_b B_s hb
 replace B_d := kb_b B_d hb
 replace B_p8 := kb_b B_p8 hb
 replace B_e := kb_b B_e hb
 replace B_p10 := kb_b B_p10 hb
 replace B_f := kb_b B_f hb
 replace B_p12 := kb_b B_p12 hb
 replace B_g := kb_b B_g hb
 replace B_p14 := kb_b B_p14 hb
 replace B_h := kb_b B_h hb
 replace B_p16 := kb_b B_p16 hb
 replace B_q := kb_b B_q hb
 clear hb
 clear V_q B_q
 refine pu_ 9 (some 95) 1023 HT_ ?_
 refine pu_ 10 (some 18) 2047 HT_ ?_
 refine do_ HT_ ?_
 clear HT_ HW_ hHeld
 go_wp2_with (first | ((with_reducible refine gd_ 98 rfl ?_); refine gate_guard (by rfl) ?_; dsimp only; refine load_ev rfl rfl (g := g_p8) rfl (bk_ V_p8 B_p8 N_p8) ?_) | ((with_reducible refine gd_ 99 rfl ?_); refine gate_guard (by rfl) ?_; dsimp only; refine load_ev rfl rfl (g := g_p12) rfl (bk_ V_p12 B_p12 N_p12) ?_))
 with_reducible refine (upto_calls (extQ false qs) av HBT.out.o1 _ _ _ (IsR.kb (S := fun k => False) V_d.out B_d.out (fun _ _ h => h)) (IsR.kb (S := fun k => False) V_f.out B_f.out (fun _ _ h => h))).mono ?_
 rintro e w132 ⟨rfl, hb⟩
 replace HB := kb_b HB hb
 replace B_s := kb_b B_s hb
 replace B_d := kb_b B_d hb
 replace B_p8 := kb_b B_p8 hb
 replace B_e := kb_b B_e hb
 replace B_p10 := kb_b B_p10 hb
 replace B_f := kb_b B_f hb
 replace B_p12 := kb_b B_p12 hb
 replace B_g := kb_b B_g hb
 replace B_p14 := kb_b B_p14 hb
 replace B_h := kb_b B_h hb
 replace B_p16 := kb_b B_p16 hb
 clear hb
 go_wp2_with (first | ((with_reducible refine gd_ 103 rfl ?_); refine gate_guard (by rfl) ?_; dsimp only; refine load_ev rfl rfl (g := g_p12) rfl (bk_ V_p12 B_p12 N_p12) ?_) | ((with_reducible refine gd_ 104 rfl ?_); refine gate_guard (by rfl) ?_; dsimp only; refine load_ev rfl rfl (g := g_p10) rfl (bk_ V_p10 B_p10 N_p10) ?_))
 with_reducible refine (upto_calls av (extQ true qs) HBT.out.o2 _ _ _ (IsR.kb (S := fun k => False) V_f.out B_f.out (fun _ _ h => h)) (IsR.kb (S := fun k => False) V_e.out B_e.out (fun _ _ h => h))).mono ?_
 rintro e w133 ⟨rfl, hb⟩
 replace HB := kb_b HB hb
 replace B_s := kb_b B_s hb
 replace B_d := kb_b B_d hb
 replace B_p8 := kb_b B_p8 hb
 replace B_e := kb_b B_e hb
 replace B_p10 := kb_b B_p10 hb
 replace B_f := kb_b B_f hb
 replace B_p12 := kb_b B_p12 hb
 replace B_g := kb_b B_g hb
 replace B_p14 := kb_b B_p14 hb
 replace B_h := kb_b B_h hb
 replace B_p16 := kb_b B_p16 hb
 clear hb
 go_wp2_with (first | ((with_reducible refine gd_ 108 rfl ?_); refine gate_guard (by rfl) ?_; dsimp only; refine load_ev rfl rfl (g := g_p8) rfl (bk_ V_p8 B_p8 N_p8) ?_) | ((with_reducible refine gd_ 109 rfl ?_); refine gate_guard (by rfl) ?_; dsimp only; refine load_ev rfl rfl (g := g_p14) rfl (bk_ V_p14 B_p14 N_p14) ?_))
 with_reducible refine (upto_calls (extQ false qs) low HBT.out.o3 _ _ _ (IsR.kb (S := fun k => False) V_d.out B_d.out (fun _ _ h => h)) (IsR.kb (S := fun k => False) V_g.out B_g.out (fun _ _ h => h))).mono ?_
 rintro e w134 ⟨rfl, hb⟩
 replace HB := kb_b HB hb
 replace B_s := kb_b B_s hb
 replace B_d := kb_b B_d hb
 replace B_p8 := kb_b B_p8 hb
 replace B_e := kb_b B_e hb
 replace B_p10 := kb_b B_p10 hb
 replace B_f := kb_b B_f hb
 replace B_p12 := kb_b B_p12 hb
 replace B_g := kb_b B_g hb
 replace B_p14 := kb_b B_p14 hb
 replace B_h := kb_b B_h hb
 replace B_p16 := kb_b B_p16 hb
 clear hb
 go_wp2_with (first | ((with_reducible refine gd_ 113 rfl ?_); refine gate_guard (by rfl) ?_; dsimp only; refine load_ev rfl rfl (g := g_p14) rfl (bk_ V_p14 B_p14 N_p14) ?_) | ((with_reducible refine gd_ 114 rfl ?_); refine gate_guard (by rfl) ?_; dsimp only; refine load_ev rfl rfl (g := g_p16) rfl (bk_ V_p16 B_p16 N_p16) ?_))
 with_reducible refine (upto_calls low high HBT.out.o4 _ _ _ (IsR.kb (S := fun k => False) V_g.out B_g.out (fun _ _ h => h)) (IsR.kb (S := fun k => False) V_h.out B_h.out (fun _ _ h => h))).mono ?_
 rintro e w135 ⟨rfl, hb⟩
 replace HB := kb_b HB hb
 replace B_s := kb_b B_s hb
 replace B_d := kb_b B_d hb
 replace B_p8 := kb_b B_p8 hb
 replace B_e := kb_b B_e hb
 replace B_p10 := kb_b B_p10 hb
 replace B_f := kb_b B_f hb
 replace B_p12 := kb_b B_p12 hb
 replace B_g := kb_b B_g hb
 replace B_p14 := kb_b B_p14 hb
 replace B_h := kb_b B_h hb
 replace B_p16 := kb_b B_p16 hb
 clear hb
 go_wp2_with (first | ((with_reducible refine gd_ 118 rfl ?_); refine gate_guard (by rfl) ?_; dsimp only; refine load_ev rfl rfl (g := g_p16) rfl (bk_ V_p16 B_p16 N_p16) ?_) | ((with_reducible refine gd_ 119 rfl ?_); refine gate_guard (by rfl) ?_; dsimp only; refine load_ev rfl rfl (g := g_p10) rfl (bk_ V_p10 B_p10 N_p10) ?_))
 with_reducible refine (upto_calls high (extQ true qs) HBT.out.o5 _ _ _ (IsR.kb (S := fun k => False) V_h.out B_h.out (fun _ _ h => h)) (IsR.kb (S := fun k => False) V_e.out B_e.out (fun _ _ h => h))).mono ?_
 rintro e w136 ⟨rfl, hb⟩
 replace HB := kb_b HB hb
 replace B_s := kb_b B_s hb
 replace B_d := kb_b B_d hb
 replace B_p8 := kb_b B_p8 hb
 replace B_e := kb_b B_e hb
 replace B_p10 := kb_b B_p10 hb
 replace B_f := kb_b B_f hb
 replace B_p12 := kb_b B_p12 hb
 replace B_g := kb_b B_g hb
 replace B_p14 := kb_b B_p14 hb
 replace B_h := kb_b B_h hb
 replace B_p16 := kb_b B_p16 hb
 clear hb
 go_wp2_with fail
 go_ret
 exact ⟨rfl, (Kb.to_below HB.out (fun _ h => h.elim))⟩
end Go.Proofs.Ytgdkgahbmfhgcaa.PN
