/- What the statement rests on, part 12: WK. -/
import Derived.Test.YtgdkgahbmfhgcaaR11
set_option linter.unusedVariables false
set_option linter.unusedSimpArgs false
set_option maxHeartbeats 4000000
set_option maxRecDepth 100000
namespace Go.Proofs.Ytgdkgahbmfhgcaa.PN
open Go.RowKit Go.Proofs.Ytgdkgahbmfhgcaa.NS Go.Proofs.Ytgdkgahbmfhgcaa.Limbs Go.Proofs.YtgdkgahbmfhgcaaW.PrintWords Go.Proofs.YtgdkgahbmfhgcaaW.PrintLast Go.Proofs.YtgdkgahbmfhgcaaW.PrintMore
def ValS (ss : List Smp) (qs : List Rat) : Prop := qs.length = ss.length ∧ ∀ i, i < ss.length → (ss.getD i ⟨0, 0, none⟩).q = some (qs.getD i 0)
theorem ValS.len {ss : List Smp} {qs : List Rat} (h : ValS ss qs) : qs.length = ss.length := h.1
def ByS (ss : List Smp) : Prop := ∀ i, i < ss.length → 0 ≤ (ss.getD i ⟨0, 0, none⟩).by_ ∧ (ss.getD i ⟨0, 0, none⟩).by_ ≤ 9007199254740991
def bytesQ (ss : List Smp) : List Rat := ss.map (fun s => (s.by_ : Rat))
theorem each_value {ok : Nat → Prop} (ss : List Smp) (qs : List Rat) (hv : ValS ss qs) (hsz : ss.length ≤ 1000000) (w : World) (vl : Value) (hl : RowS ok w vl ss) :
 Calls Try.prog 42 #[vl, .func (.func 44) #[] #[]] w fun e w' => (∃ v, e = .returned v ∧ RowQ (fun k => ok k ∨ w.heap.size ≤ k) w' v qs) ∧ Below w.heap.size w w' := by
 refine each_calls 44 ss qs hv.1 hsz (enters_run (enters_of (P := Try.prog) Try.func44 (by kernel_rfl) rfl)) w (fun ok' i hi W t A0 n0 c0 A1 n1 c1 h => ?_) vl hl
 refine (value_calls _ _ _ _ _ _ _ _ _ W).mono ?_
 rintro e w' ⟨rfl, hb⟩
 exact ⟨⟨_, rfl, IsR.mono (IsR.below (h _ (hv.2 i hi)) hb) (fun k hk => .inl hk)⟩, hb⟩
theorem each_size {ok : Nat → Prop} (ss : List Smp) (hb0 : ByS ss) (hsz : ss.length ≤ 1000000) (w : World) (vl : Value) (hl : RowS ok w vl ss) :
 Calls Try.prog 42 #[vl, .func (.func 43) #[] #[]] w fun e w' => (∃ v, e = .returned v ∧ RowQ (fun k => ok k ∨ w.heap.size ≤ k) w' v (bytesQ ss)) ∧ Below w.heap.size w w' := by
 refine each_calls 43 ss (bytesQ ss) (by unfold bytesQ; rw [List.length_map]) hsz (enters_run (enters_of (P := Try.prog) Try.func43 (by kernel_rfl) rfl)) w (fun ok' i hi W t A0 n0 c0 A1 n1 c1 h => ?_) vl hl
 have hbi := hb0 i hi
 refine (size_calls _ _ _ _ _ _ _ _ _ (by omega) (by omega) W).mono ?_
 rintro e w' ⟨⟨v, rfl, hv⟩, hb⟩
 have e1 : (bytesQ ss).getD i 0 = (((ss.getD i ⟨0, 0, none⟩).by_ : Int) : Rat) := by
  unfold bytesQ
  simp [hi]
 rw [e1]
 exact ⟨⟨_, rfl, IsR.mono hv (fun k hk => .inr hk)⟩, hb⟩
theorem run1_calls {okl : Nat → Prop} (rb : Nat) (over : Int) (ss : List Smp)  (hn0 : 0 < ss.length) (hsz : ss.length ≤ 1000000) (w : World) (tq : Bool) (Aq : Option Addr) (nq cq : Nat) (Dq : Option Addr) (kq zq : Nat) (vl : Value) (hr : Rk w rb false) (hl : RowS okl w vl ss) (hok : ∀ k, okl k → k ≠ rb)  :
 Calls Try.prog 30 #[.pointer (some ⟨rb, 0, none⟩), .int .i64 1, .int .i64 over, .agg #[.bool tq, .slice Aq nq cq, .slice Dq kq zq], vl] w fun e w' => ∃ v, e = .returned v ∧ Res (fun k => okl k ∨ w.heap.size ≤ k) w' v (some (ss.length : Rat)) ∧ Rk w' rb (some (ss.length : Rat)).isNone ∧ Kb (fun k => k = rb) w w' := by
 obtain ⟨ans, hans⟩ : ∃ a, a = some (ss.length : Rat) := ⟨_, rfl⟩
 rw [← hans]
 have HANS := a0_ hans
 clear hans
 have hu30 := Try.underlying30
 have hu39 := Try.underlying39
 obtain ⟨Al, cl, rfl⟩ := hl.slice
 obtain ⟨nl, hnl⟩ : ∃ nl, nl = ss.length := ⟨_, rfl⟩
 rw [← hnl] at hl hn0 hsz ⊢
 have HNL := a0_ (And.intro hnl (And.intro hn0 hsz))
 have hl2 : RowS (fun k => k ≠ rb ∧ (okl k ∧ k < w.heap.size)) w (.slice Al nl cl) ss := RowS.mono' hl (fun k h1 h2 => ⟨hok k h1, h1, h2⟩)
 have HOKL := a0_ hok
 clear hnl hl hok
 have HB := kr_ rb w
 have HL := a0_ (Rk.lt hr)
 have RK := a0_ hr
 clear hr
 have V_l := a0_ hl2
 clear hl2
 have B_l := kr_ rb w
 clear hn0 hsz
 go_enter Try.func30, Try.ntmps30
 go_wp2_with (first | ((with_reducible refine gd_ 8 rfl ?_); refine bx_ (N := 8) #[.bool tq, .slice Aq nq cq, .slice Dq kq zq] 30 ?_; intro g_q hg w101 hbox hb; have G_q := kb_g HB hg; replace HB := kb_b HB hb; replace B_l := kb_b B_l hb; replace RK := rk_b RK hb; clear hb; have V_q := a0_ hbox; have B_q := kr_ rb w101; have N_q : Aside0 (¬ (fun k => k = rb) g_q) := ⟨by show ¬ (_ = _); have := HL.out; have := G_q.out; omega⟩; clear hbox hg) | ((with_reducible refine gd_ 10 rfl ?_); refine bx_ (N := 10) #[.bool false, .slice none 0 0, .slice none 0 0] 30 ?_; intro g_r hg w102 hbox hb; have G_r := kb_g HB hg; replace HB := kb_b HB hb; replace B_l := kb_b B_l hb; replace B_q := kb_b B_q hb; replace RK := rk_b RK hb; clear hb; have V_r := a0_ hbox; have B_r := kr_ rb w102; have N_r : Aside0 (¬ (fun k => k = rb) g_r) := ⟨by show ¬ (_ = _); have := HL.out; have := G_r.out; omega⟩; clear hbox hg))
 with_reducible refine (qofn_calls nl HNL.out.2.2 _).mono ?_
 rintro e w103 ⟨⟨v, rfl, hv⟩, hb⟩
 obtain ⟨tn, An, nn, cn, Dn, kn, zn, rfl⟩ := hv.agg
 have hle := Kb.size HB.out
 have hl_r := blk_lt (bk_ V_r B_r N_r)
 have hv_ := IsR.mono' (ok' := fun k => k ≠ rb ∧ k ≠ g_r ∧ w.heap.size ≤ k) hv (fun k hk _ => by have := HL.out; refine ⟨?_, ?_, ?_⟩ <;> omega)
 clear hv hle hl_r
 replace HB := kb_b HB hb
 replace B_l := kb_b B_l hb
 replace B_q := kb_b B_q hb
 replace B_r := kb_b B_r hb
 replace RK := rk_b RK hb
 clear hb
 have V_vn := a0_ hv_
 clear hv_
 have B_vn := a0_ (Kb.refl (fun k => k = rb ∨ k = g_r) w103)
 go_wp2_with (first | ((with_reducible refine gd_ 11 rfl ?_); refine bx_ (N := 11) #[.bool false, .slice none 0 0, .slice none 0 0] 30 ?_; intro g_n hg w104 hbox hb; have G_n := kb_g HB hg; have O_n_l := kb_g B_l hg; have O_n_q := kb_g B_q hg; have O_n_r := kb_g B_r hg; have O_n_vn := kb_g B_vn hg; replace HB := kb_b HB hb; replace B_l := kb_b B_l hb; replace B_q := kb_b B_q hb; replace B_r := kb_b B_r hb; replace B_vn := kb_b B_vn hb; replace RK := rk_b RK hb; clear hb; have V_n := a0_ hbox; have B_n := kr_ rb w104; have N_n : Aside0 (¬ (fun k => k = rb) g_n) := ⟨by show ¬ (_ = _); have := HL.out; have := G_n.out; omega⟩; clear hbox hg) | ((with_reducible refine gt_ 30 11 14 rfl ?_); refine store_ev (p := .tmp 11) (v := .tmp 14) rfl rfl rfl (g := g_n) rfl rfl (bk_ V_n B_n N_n) ?_; intro w105 hbox hk; replace HB := kb_o HB hk G_n; replace B_l := kb_o B_l hk O_n_l; replace B_q := kb_o B_q hk O_n_q; replace B_r := kb_o B_r hk O_n_r; replace B_vn := kb_o B_vn hk O_n_vn; have Z_ := a0_ (Rk.kb RK.out hk (by have := HL.out; have := G_n.out; omega)); clear RK; have RK := Z_; clear Z_; clear V_n B_n; have V_n := a0_ hbox; have B_n := kr_ rb w105; clear hbox hk) | ((with_reducible refine gd_ 18 rfl ?_); refine load_ev rfl rfl (g := g_n) rfl (bk_ V_n B_n N_n) ?_) | ((with_reducible refine gt_ 30 10 18 rfl ?_); refine store_ev (p := .tmp 10) (v := .tmp 18) rfl rfl rfl (g := g_r) rfl rfl (bk_ V_r B_r N_r) ?_; intro w106 hbox hk; replace HB := kb_o HB hk G_r; replace B_vn := kb_t B_vn hk (fun i hi => by exact Or.inl (Or.inr hi)); have Z_ := a0_ (Rk.kb RK.out hk (by have := HL.out; have := G_r.out; omega)); clear RK; have RK := Z_; clear Z_; clear V_r B_r; have V_r := a0_ hbox; have B_r := kr_ rb w106; clear hbox hk))
 have ha := HANS.out
 rw [← HNL.out.1] at ha
 refine bodyPost_ret (results_cell_row rfl _ _ g_r 30 #[.bool tn, .slice An nn cn, .slice Dn kn zn] (0, 0) _ rfl (bk_ V_r B_r N_r) Try.underlying30 rfl (by kernel_rfl)) rfl ?_
 exact ⟨_, rfl, by rw [ha]; exact ((IsR.mono (IsR.kb (S := fun k => k = rb ∨ k = g_r) V_vn.out B_vn.out (fun k h hs => hs.elim h.1 h.2.1)) (fun k h => Or.inr h.2.2))), by rw [ha]; exact RK.out, HB.out⟩
theorem run2_calls {okl : Nat → Prop} (rb : Nat) (over : Int) (ss : List Smp) (h0 : 0 < over) (h1 : over ≤ 9223372036854775807) (hn0 : 0 < ss.length) (hsz : ss.length ≤ 1000000) (w : World) (tq : Bool) (Aq : Option Addr) (nq cq : Nat) (Dq : Option Addr) (kq zq : Nat) (vl : Value) (hr : Rk w rb false) (hl : RowS okl w vl ss) (hok : ∀ k, okl k → k ≠ rb)  :
 Calls Try.prog 30 #[.pointer (some ⟨rb, 0, none⟩), .int .i64 2, .int .i64 over, .agg #[.bool tq, .slice Aq nq cq, .slice Dq kq zq], vl] w fun e w' => ∃ v, e = .returned v ∧ Res (fun k => okl k ∨ w.heap.size ≤ k) w' v (rateO (some (ss.length : Rat)) (over : Rat)) ∧ Rk w' rb (rateO (some (ss.length : Rat)) (over : Rat)).isNone ∧ Kb (fun k => k = rb) w w' := by
 obtain ⟨ans, hans⟩ : ∃ a, a = rateO (some (ss.length : Rat)) (over : Rat) := ⟨_, rfl⟩
 rw [← hans]
 have HANS := a0_ hans
 clear hans
 have hu30 := Try.underlying30
 have hu39 := Try.underlying39
 obtain ⟨Al, cl, rfl⟩ := hl.slice
 obtain ⟨nl, hnl⟩ : ∃ nl, nl = ss.length := ⟨_, rfl⟩
 rw [← hnl] at hl hn0 hsz ⊢
 have HNL := a0_ (And.intro hnl (And.intro hn0 hsz))
 have hl2 : RowS (fun k => k ≠ rb ∧ (okl k ∧ k < w.heap.size)) w (.slice Al nl cl) ss := RowS.mono' hl (fun k h1 h2 => ⟨hok k h1, h1, h2⟩)
 have HOKL := a0_ hok
 clear hnl hl hok
 have HB := kr_ rb w
 have HL := a0_ (Rk.lt hr)
 have RK := a0_ hr
 clear hr
 have V_l := a0_ hl2
 clear hl2
 have B_l := kr_ rb w
 clear hn0 hsz
 go_enter Try.func30, Try.ntmps30
 go_wp2_with (first | ((with_reducible refine gd_ 8 rfl ?_); refine bx_ (N := 8) #[.bool tq, .slice Aq nq cq, .slice Dq kq zq] 30 ?_; intro g_q hg w101 hbox hb; have G_q := kb_g HB hg; replace HB := kb_b HB hb; replace B_l := kb_b B_l hb; replace RK := rk_b RK hb; clear hb; have V_q := a0_ hbox; have B_q := kr_ rb w101; have N_q : Aside0 (¬ (fun k => k = rb) g_q) := ⟨by show ¬ (_ = _); have := HL.out; have := G_q.out; omega⟩; clear hbox hg) | ((with_reducible refine gd_ 10 rfl ?_); refine bx_ (N := 10) #[.bool false, .slice none 0 0, .slice none 0 0] 30 ?_; intro g_r hg w102 hbox hb; have G_r := kb_g HB hg; replace HB := kb_b HB hb; replace B_l := kb_b B_l hb; replace B_q := kb_b B_q hb; replace RK := rk_b RK hb; clear hb; have V_r := a0_ hbox; have B_r := kr_ rb w102; have N_r : Aside0 (¬ (fun k => k = rb) g_r) := ⟨by show ¬ (_ = _); have := HL.out; have := G_r.out; omega⟩; clear hbox hg))
 with_reducible refine (qofn_calls nl HNL.out.2.2 _).mono ?_
 rintro e w103 ⟨⟨v, rfl, hv⟩, hb⟩
 obtain ⟨tn, An, nn, cn, Dn, kn, zn, rfl⟩ := hv.agg
 have hle := Kb.size HB.out
 have hl_r := blk_lt (bk_ V_r B_r N_r)
 have hv_ := IsR.mono' (ok' := fun k => k ≠ rb ∧ k ≠ g_r ∧ w.heap.size ≤ k) hv (fun k hk _ => by have := HL.out; refine ⟨?_, ?_, ?_⟩ <;> omega)
 clear hv hle hl_r
 replace HB := kb_b HB hb
 replace B_l := kb_b B_l hb
 replace B_q := kb_b B_q hb
 replace B_r := kb_b B_r hb
 replace RK := rk_b RK hb
 clear hb
 have V_vn := a0_ hv_
 clear hv_
 have B_vn := a0_ (Kb.refl (fun k => k = rb ∨ k = g_r) w103)
 go_wp2_with (first | ((with_reducible refine gd_ 11 rfl ?_); refine bx_ (N := 11) #[.bool false, .slice none 0 0, .slice none 0 0] 30 ?_; intro g_n hg w104 hbox hb; have G_n := kb_g HB hg; have O_n_l := kb_g B_l hg; have O_n_q := kb_g B_q hg; have O_n_r := kb_g B_r hg; have O_n_vn := kb_g B_vn hg; replace HB := kb_b HB hb; replace B_l := kb_b B_l hb; replace B_q := kb_b B_q hb; replace B_r := kb_b B_r hb; replace B_vn := kb_b B_vn hb; replace RK := rk_b RK hb; clear hb; have V_n := a0_ hbox; have B_n := kr_ rb w104; have N_n : Aside0 (¬ (fun k => k = rb) g_n) := ⟨by show ¬ (_ = _); have := HL.out; have := G_n.out; omega⟩; clear hbox hg) | ((with_reducible refine gt_ 30 11 14 rfl ?_); refine store_ev (p := .tmp 11) (v := .tmp 14) rfl rfl rfl (g := g_n) rfl rfl (bk_ V_n B_n N_n) ?_; intro w105 hbox hk; replace HB := kb_o HB hk G_n; replace B_l := kb_o B_l hk O_n_l; replace B_q := kb_o B_q hk O_n_q; replace B_r := kb_o B_r hk O_n_r; replace B_vn := kb_o B_vn hk O_n_vn; have Z_ := a0_ (Rk.kb RK.out hk (by have := HL.out; have := G_n.out; omega)); clear RK; have RK := Z_; clear Z_; clear V_n B_n; have V_n := a0_ hbox; have B_n := kr_ rb w105; clear hbox hk) | ((with_reducible refine gd_ 22 rfl ?_); refine load_ev rfl rfl (g := g_n) rfl (bk_ V_n B_n N_n) ?_))
 have RK2 : Aside0 (Rk w105 rb (some (nl : Rat)).isNone) := ⟨RK.out⟩
 clear RK
 have RK := RK2
 clear RK2
 with_reducible refine (rate_calls rb (some (nl : Rat)) over h0 h1 _ _ RK.out (IsR.res (IsR.mono (IsR.kb (S := fun k => k = rb ∨ k = g_r) V_vn.out B_vn.out (fun k h hs => hs.elim h.1 h.2.1)) (fun k h => h.1)))).mono ?_
 rintro e w106 ⟨v, rfl, hv, hrk, hk⟩
 obtain ⟨tv, Av, nv, cv, Dv, kv, zv, rfl⟩ := hv.agg
 have h9 := HANS.out
 rw [← HNL.out.1] at h9
 rw [← h9] at hv hrk
 clear h9 RK
 have RK := a0_ hrk
 clear hrk
 clear V_vn B_vn
 clear V_l B_l
 clear V_q B_q
 clear V_n B_n
 have hle := Kb.size HB.out
 have hl_r := blk_lt (bk_ V_r B_r N_r)
 have hv_ := Res.mono' (ok' := fun k => k ≠ rb ∧ k ≠ g_r ∧ w.heap.size ≤ k) hv (fun k hk _ => by have := HL.out; refine ⟨?_, ?_, ?_⟩ <;> omega)
 clear hv hle hl_r
 replace HB := kb_t HB hk (fun i hi => Or.inl hi)
 replace B_r := kb_t B_r hk (fun i hi => Or.inl hi)
 clear hk
 have V_v := a0_ hv_
 clear hv_
 have B_v := a0_ (Kb.refl (fun k => k = rb ∨ k = g_r) w106)
 go_wp2_with (first | ((with_reducible refine gt_ 30 10 24 rfl ?_); refine store_ev (p := .tmp 10) (v := .tmp 24) rfl rfl rfl (g := g_r) rfl rfl (bk_ V_r B_r N_r) ?_; intro w107 hbox hk; replace HB := kb_o HB hk G_r; replace B_v := kb_t B_v hk (fun i hi => by exact Or.inl (Or.inr hi)); have Z_ := a0_ (Rk.kb RK.out hk (by have := HL.out; have := G_r.out; omega)); clear RK; have RK := Z_; clear Z_; clear V_r B_r; have V_r := a0_ hbox; have B_r := kr_ rb w107; clear hbox hk))
 refine bodyPost_ret (results_cell_row rfl _ _ g_r 30 #[.bool tv, .slice Av nv cv, .slice Dv kv zv] (0, 0) _ rfl (bk_ V_r B_r N_r) Try.underlying30 rfl (by kernel_rfl)) rfl ?_
 exact ⟨_, rfl, ((Res.mono (Res.kb (S := fun k => k = rb ∨ k = g_r) V_v.out B_v.out (fun k h hs => hs.elim h.1 h.2.1)) (fun k h => Or.inr h.2.2))), RK.out, HB.out⟩
theorem run3_calls {okl : Nat → Prop} (rb : Nat) (over : Int) (ss : List Smp)  (hn0 : 0 < ss.length) (hsz : ss.length ≤ 1000000) (w : World) (tq : Bool) (Aq : Option Addr) (nq cq : Nat) (Dq : Option Addr) (kq zq : Nat) (vl : Value) (hr : Rk w rb false) (hl : RowS okl w vl ss) (hok : ∀ k, okl k → k ≠ rb) (hby : ByS ss) :
 Calls Try.prog 30 #[.pointer (some ⟨rb, 0, none⟩), .int .i64 3, .int .i64 over, .agg #[.bool tq, .slice Aq nq cq, .slice Dq kq zq], vl] w fun e w' => ∃ v, e = .returned v ∧ Res (fun k => okl k ∨ w.heap.size ≤ k) w' v (sumO (some 0) (bytesQ ss)) ∧ Rk w' rb (sumO (some 0) (bytesQ ss)).isNone ∧ Kb (fun k => k = rb) w w' := by
 obtain ⟨ans, hans⟩ : ∃ a, a = sumO (some 0) (bytesQ ss) := ⟨_, rfl⟩
 rw [← hans]
 have HANS := a0_ hans
 clear hans
 have hu30 := Try.underlying30
 have hu39 := Try.underlying39
 obtain ⟨Al, cl, rfl⟩ := hl.slice
 obtain ⟨nl, hnl⟩ : ∃ nl, nl = ss.length := ⟨_, rfl⟩
 rw [← hnl] at hl hn0 hsz ⊢
 have HNL := a0_ (And.intro hnl (And.intro hn0 hsz))
 have hl2 : RowS (fun k => k ≠ rb ∧ (okl k ∧ k < w.heap.size)) w (.slice Al nl cl) ss := RowS.mono' hl (fun k h1 h2 => ⟨hok k h1, h1, h2⟩)
 have HOKL := a0_ hok
 clear hnl hl hok
 have HB := kr_ rb w
 have HL := a0_ (Rk.lt hr)
 have RK := a0_ hr
 clear hr
 have V_l := a0_ hl2
 clear hl2
 have B_l := kr_ rb w
 clear hn0 hsz
 go_enter Try.func30, Try.ntmps30
 go_wp2_with (first | ((with_reducible refine gd_ 8 rfl ?_); refine bx_ (N := 8) #[.bool tq, .slice Aq nq cq, .slice Dq kq zq] 30 ?_; intro g_q hg w101 hbox hb; have G_q := kb_g HB hg; replace HB := kb_b HB hb; replace B_l := kb_b B_l hb; replace RK := rk_b RK hb; clear hb; have V_q := a0_ hbox; have B_q := kr_ rb w101; have N_q : Aside0 (¬ (fun k => k = rb) g_q) := ⟨by show ¬ (_ = _); have := HL.out; have := G_q.out; omega⟩; clear hbox hg) | ((with_reducible refine gd_ 10 rfl ?_); refine bx_ (N := 10) #[.bool false, .slice none 0 0, .slice none 0 0] 30 ?_; intro g_r hg w102 hbox hb; have G_r := kb_g HB hg; replace HB := kb_b HB hb; replace B_l := kb_b B_l hb; replace B_q := kb_b B_q hb; replace RK := rk_b RK hb; clear hb; have V_r := a0_ hbox; have B_r := kr_ rb w102; have N_r : Aside0 (¬ (fun k => k = rb) g_r) := ⟨by show ¬ (_ = _); have := HL.out; have := G_r.out; omega⟩; clear hbox hg))
 with_reducible refine (qofn_calls nl HNL.out.2.2 _).mono ?_
 rintro e w103 ⟨⟨v, rfl, hv⟩, hb⟩
 obtain ⟨tn, An, nn, cn, Dn, kn, zn, rfl⟩ := hv.agg
 have hle := Kb.size HB.out
 have hl_r := blk_lt (bk_ V_r B_r N_r)
 have hv_ := IsR.mono' (ok' := fun k => k ≠ rb ∧ k ≠ g_r ∧ w.heap.size ≤ k) hv (fun k hk _ => by have := HL.out; refine ⟨?_, ?_, ?_⟩ <;> omega)
 clear hv hle hl_r
 replace HB := kb_b HB hb
 replace B_l := kb_b B_l hb
 replace B_q := kb_b B_q hb
 replace B_r := kb_b B_r hb
 replace RK := rk_b RK hb
 clear hb
 have V_vn := a0_ hv_
 clear hv_
 have B_vn := a0_ (Kb.refl (fun k => k = rb ∨ k = g_r) w103)
 go_wp2_with (first | ((with_reducible refine gd_ 11 rfl ?_); refine bx_ (N := 11) #[.bool false, .slice none 0 0, .slice none 0 0] 30 ?_; intro g_n hg w104 hbox hb; have G_n := kb_g HB hg; have O_n_l := kb_g B_l hg; have O_n_q := kb_g B_q hg; have O_n_r := kb_g B_r hg; have O_n_vn := kb_g B_vn hg; replace HB := kb_b HB hb; replace B_l := kb_b B_l hb; replace B_q := kb_b B_q hb; replace B_r := kb_b B_r hb; replace B_vn := kb_b B_vn hb; replace RK := rk_b RK hb; clear hb; have V_n := a0_ hbox; have B_n := kr_ rb w104; have N_n : Aside0 (¬ (fun k => k = rb) g_n) := ⟨by show ¬ (_ = _); have := HL.out; have := G_n.out; omega⟩; clear hbox hg) | ((with_reducible refine gt_ 30 11 14 rfl ?_); refine store_ev (p := .tmp 11) (v := .tmp 14) rfl rfl rfl (g := g_n) rfl rfl (bk_ V_n B_n N_n) ?_; intro w105 hbox hk; replace HB := kb_o HB hk G_n; replace B_l := kb_o B_l hk O_n_l; replace B_q := kb_o B_q hk O_n_q; replace B_r := kb_o B_r hk O_n_r; replace B_vn := kb_o B_vn hk O_n_vn; have Z_ := a0_ (Rk.kb RK.out hk (by have := HL.out; have := G_n.out; omega)); clear RK; have RK := Z_; clear Z_; clear V_n B_n; have V_n := a0_ hbox; have B_n := kr_ rb w105; clear hbox hk))
 clear V_vn B_vn
 with_reducible refine (each_size ss hby (by rw [← HNL.out.1]; exact HNL.out.2.2) _ _ (RowS.kb (S := fun k => k = rb) V_l.out B_l.out (fun k h hs => absurd hs h.1))).mono ?_
 rintro e w106 ⟨⟨v, rfl, hv⟩, hb⟩
 obtain ⟨Ae, ce, rfl⟩ := RowQ.slice hv
 have hle := Kb.size HB.out
 have hlr := blk_lt (bk_ V_r B_r N_r)
 have hv_ := RowQ.mono' (ok' := fun k => k ≠ rb ∧ k ≠ g_r ∧ (okl k ∨ w.heap.size ≤ k)) hv (fun k hk _ => by
  have := HL.out
  have h3 := G_r.out
  rcases hk with hk | hk
  · exact ⟨hk.1, fun e => by have := hk.2.2; omega, Or.inl hk.2.1⟩
  · exact ⟨by omega, by omega, Or.inr (by omega)⟩)
 clear hv hle hlr
 replace HB := kb_b HB hb
 replace B_l := kb_b B_l hb
 replace B_q := kb_b B_q hb
 replace B_r := kb_b B_r hb
 replace B_n := kb_b B_n hb
 replace RK := rk_b RK hb
 clear hb
 have V_e := a0_ hv_
 clear hv_
 have B_e := a0_ (Kb.refl (fun k => k = rb ∨ k = g_r) w106)
 go_wp2_with fail
 with_reducible refine (rsum_calls rb (bytesQ ss) _ _ RK.out (RowQ.mono (RowQ.kb (S := fun k => k = rb ∨ k = g_r) V_e.out B_e.out (fun k h hs => hs.elim h.1 h.2.1)) (fun k h => h.1)) (by unfold bytesQ; rw [List.length_map, ← HNL.out.1]; have := HNL.out.2.2; omega)).mono ?_
 rintro e w107 ⟨v, rfl, hv, hrk, hk⟩
 obtain ⟨tv, Av, nv, cv, Dv, kv, zv, rfl⟩ := hv.agg
 clear RK
 have RK := a0_ hrk
 clear hrk
 have hle := Kb.size HB.out
 have hl_r := blk_lt (bk_ V_r B_r N_r)
 have hv_ := Res.mono' (ok' := fun k => k ≠ rb ∧ k ≠ g_r ∧ w.heap.size ≤ k) hv (fun k hk _ => by have := HL.out; refine ⟨?_, ?_, ?_⟩ <;> omega)
 clear hv hle hl_r
 replace HB := kb_t HB hk (fun i hi => Or.inl hi)
 replace B_l := kb_t B_l hk (fun i hi => Or.inl hi)
 replace B_q := kb_t B_q hk (fun i hi => Or.inl hi)
 replace B_r := kb_t B_r hk (fun i hi => Or.inl hi)
 replace B_n := kb_t B_n hk (fun i hi => Or.inl hi)
 replace B_e := kb_t B_e hk (fun i hi => Or.inl (Or.inl hi))
 clear hk
 have V_v := a0_ hv_
 clear hv_
 have B_v := a0_ (Kb.refl (fun k => k = rb ∨ k = g_r) w107)
 clear V_l B_l
 clear V_e B_e
 clear V_q B_q
 clear V_n B_n
 go_wp2_with (first | ((with_reducible refine gt_ 30 10 30 rfl ?_); refine store_ev (p := .tmp 10) (v := .tmp 30) rfl rfl rfl (g := g_r) rfl rfl (bk_ V_r B_r N_r) ?_; intro w108 hbox hk; replace HB := kb_o HB hk G_r; replace B_v := kb_t B_v hk (fun i hi => by exact Or.inl (Or.inr hi)); have Z_ := a0_ (Rk.kb RK.out hk (by have := HL.out; have := G_r.out; omega)); clear RK; have RK := Z_; clear Z_; clear V_r B_r; have V_r := a0_ hbox; have B_r := kr_ rb w108; clear hbox hk))
 have ha := HANS.out
 refine bodyPost_ret (results_cell_row rfl _ _ g_r 30 #[.bool tv, .slice Av nv cv, .slice Dv kv zv] (0, 0) _ rfl (bk_ V_r B_r N_r) Try.underlying30 rfl (by kernel_rfl)) rfl ?_
 exact ⟨_, rfl, by rw [ha]; exact ((Res.mono (Res.kb (S := fun k => k = rb ∨ k = g_r) V_v.out B_v.out (fun k h hs => hs.elim h.1 h.2.1)) (fun k h => Or.inr h.2.2))), by rw [ha]; exact RK.out, HB.out⟩
theorem run4_calls {okl : Nat → Prop} (rb : Nat) (over : Int) (ss : List Smp) (h0 : 0 < over) (h1 : over ≤ 9223372036854775807) (hn0 : 0 < ss.length) (hsz : ss.length ≤ 1000000) (w : World) (tq : Bool) (Aq : Option Addr) (nq cq : Nat) (Dq : Option Addr) (kq zq : Nat) (vl : Value) (hr : Rk w rb false) (hl : RowS okl w vl ss) (hok : ∀ k, okl k → k ≠ rb) (hby : ByS ss) :
 Calls Try.prog 30 #[.pointer (some ⟨rb, 0, none⟩), .int .i64 4, .int .i64 over, .agg #[.bool tq, .slice Aq nq cq, .slice Dq kq zq], vl] w fun e w' => ∃ v, e = .returned v ∧ Res (fun k => okl k ∨ w.heap.size ≤ k) w' v (rateO (sumO (some 0) (bytesQ ss)) (over : Rat)) ∧ Rk w' rb (rateO (sumO (some 0) (bytesQ ss)) (over : Rat)).isNone ∧ Kb (fun k => k = rb) w w' := by
 obtain ⟨ans, hans⟩ : ∃ a, a = rateO (sumO (some 0) (bytesQ ss)) (over : Rat) := ⟨_, rfl⟩
 rw [← hans]
 have HANS := a0_ hans
 clear hans
 have hu30 := Try.underlying30
 have hu39 := Try.underlying39
 obtain ⟨Al, cl, rfl⟩ := hl.slice
 obtain ⟨nl, hnl⟩ : ∃ nl, nl = ss.length := ⟨_, rfl⟩
 rw [← hnl] at hl hn0 hsz ⊢
 have HNL := a0_ (And.intro hnl (And.intro hn0 hsz))
 have hl2 : RowS (fun k => k ≠ rb ∧ (okl k ∧ k < w.heap.size)) w (.slice Al nl cl) ss := RowS.mono' hl (fun k h1 h2 => ⟨hok k h1, h1, h2⟩)
 have HOKL := a0_ hok
 clear hnl hl hok
 have HB := kr_ rb w
 have HL := a0_ (Rk.lt hr)
 have RK := a0_ hr
 clear hr
 have V_l := a0_ hl2
 clear hl2
 have B_l := kr_ rb w
 clear hn0 hsz
 go_enter Try.func30, Try.ntmps30
 go_wp2_with (first | ((with_reducible refine gd_ 8 rfl ?_); refine bx_ (N := 8) #[.bool tq, .slice Aq nq cq, .slice Dq kq zq] 30 ?_; intro g_q hg w101 hbox hb; have G_q := kb_g HB hg; replace HB := kb_b HB hb; replace B_l := kb_b B_l hb; replace RK := rk_b RK hb; clear hb; have V_q := a0_ hbox; have B_q := kr_ rb w101; have N_q : Aside0 (¬ (fun k => k = rb) g_q) := ⟨by show ¬ (_ = _); have := HL.out; have := G_q.out; omega⟩; clear hbox hg) | ((with_reducible refine gd_ 10 rfl ?_); refine bx_ (N := 10) #[.bool false, .slice none 0 0, .slice none 0 0] 30 ?_; intro g_r hg w102 hbox hb; have G_r := kb_g HB hg; replace HB := kb_b HB hb; replace B_l := kb_b B_l hb; replace B_q := kb_b B_q hb; replace RK := rk_b RK hb; clear hb; have V_r := a0_ hbox; have B_r := kr_ rb w102; have N_r : Aside0 (¬ (fun k => k = rb) g_r) := ⟨by show ¬ (_ = _); have := HL.out; have := G_r.out; omega⟩; clear hbox hg))
 with_reducible refine (qofn_calls nl HNL.out.2.2 _).mono ?_
 rintro e w103 ⟨⟨v, rfl, hv⟩, hb⟩
 obtain ⟨tn, An, nn, cn, Dn, kn, zn, rfl⟩ := hv.agg
 have hle := Kb.size HB.out
 have hl_r := blk_lt (bk_ V_r B_r N_r)
 have hv_ := IsR.mono' (ok' := fun k => k ≠ rb ∧ k ≠ g_r ∧ w.heap.size ≤ k) hv (fun k hk _ => by have := HL.out; refine ⟨?_, ?_, ?_⟩ <;> omega)
 clear hv hle hl_r
 replace HB := kb_b HB hb
 replace B_l := kb_b B_l hb
 replace B_q := kb_b B_q hb
 replace B_r := kb_b B_r hb
 replace RK := rk_b RK hb
 clear hb
 have V_vn := a0_ hv_
 clear hv_
 have B_vn := a0_ (Kb.refl (fun k => k = rb ∨ k = g_r) w103)
 go_wp2_with (first | ((with_reducible refine gd_ 11 rfl ?_); refine bx_ (N := 11) #[.bool false, .slice none 0 0, .slice none 0 0] 30 ?_; intro g_n hg w104 hbox hb; have G_n := kb_g HB hg; have O_n_l := kb_g B_l hg; have O_n_q := kb_g B_q hg; have O_n_r := kb_g B_r hg; have O_n_vn := kb_g B_vn hg; replace HB := kb_b HB hb; replace B_l := kb_b B_l hb; replace B_q := kb_b B_q hb; replace B_r := kb_b B_r hb; replace B_vn := kb_b B_vn hb; replace RK := rk_b RK hb; clear hb; have V_n := a0_ hbox; have B_n := kr_ rb w104; have N_n : Aside0 (¬ (fun k => k = rb) g_n) := ⟨by show ¬ (_ = _); have := HL.out; have := G_n.out; omega⟩; clear hbox hg) | ((with_reducible refine gt_ 30 11 14 rfl ?_); refine store_ev (p := .tmp 11) (v := .tmp 14) rfl rfl rfl (g := g_n) rfl rfl (bk_ V_n B_n N_n) ?_; intro w105 hbox hk; replace HB := kb_o HB hk G_n; replace B_l := kb_o B_l hk O_n_l; replace B_q := kb_o B_q hk O_n_q; replace B_r := kb_o B_r hk O_n_r; replace B_vn := kb_o B_vn hk O_n_vn; have Z_ := a0_ (Rk.kb RK.out hk (by have := HL.out; have := G_n.out; omega)); clear RK; have RK := Z_; clear Z_; clear V_n B_n; have V_n := a0_ hbox; have B_n := kr_ rb w105; clear hbox hk))
 clear V_vn B_vn
 with_reducible refine (each_size ss hby (by rw [← HNL.out.1]; exact HNL.out.2.2) _ _ (RowS.kb (S := fun k => k = rb) V_l.out B_l.out (fun k h hs => absurd hs h.1))).mono ?_
 rintro e w106 ⟨⟨v, rfl, hv⟩, hb⟩
 obtain ⟨Ae, ce, rfl⟩ := RowQ.slice hv
 have hle := Kb.size HB.out
 have hlr := blk_lt (bk_ V_r B_r N_r)
 have hv_ := RowQ.mono' (ok' := fun k => k ≠ rb ∧ k ≠ g_r ∧ (okl k ∨ w.heap.size ≤ k)) hv (fun k hk _ => by
  have := HL.out
  have h3 := G_r.out
  rcases hk with hk | hk
  · exact ⟨hk.1, fun e => by have := hk.2.2; omega, Or.inl hk.2.1⟩
  · exact ⟨by omega, by omega, Or.inr (by omega)⟩)
 clear hv hle hlr
 replace HB := kb_b HB hb
 replace B_l := kb_b B_l hb
 replace B_q := kb_b B_q hb
 replace B_r := kb_b B_r hb
 replace B_n := kb_b B_n hb
 replace RK := rk_b RK hb
 clear hb
 have V_e := a0_ hv_
 clear hv_
 have B_e := a0_ (Kb.refl (fun k => k = rb ∨ k = g_r) w106)
 go_wp2_with fail
 with_reducible refine (rsum_calls rb (bytesQ ss) _ _ RK.out (RowQ.mono (RowQ.kb (S := fun k => k = rb ∨ k = g_r) V_e.out B_e.out (fun k h hs => hs.elim h.1 h.2.1)) (fun k h => h.1)) (by unfold bytesQ; rw [List.length_map, ← HNL.out.1]; have := HNL.out.2.2; omega)).mono ?_
 rintro e w107 ⟨v, rfl, hv, hrk, hk⟩
 obtain ⟨tv, Av, nv, cv, Dv, kv, zv, rfl⟩ := hv.agg
 clear RK
 have RK := a0_ hrk
 clear hrk
 have hle := Kb.size HB.out
 have hl_r := blk_lt (bk_ V_r B_r N_r)
 have hv_ := Res.mono' (ok' := fun k => k ≠ rb ∧ k ≠ g_r ∧ w.heap.size ≤ k) hv (fun k hk _ => by have := HL.out; refine ⟨?_, ?_, ?_⟩ <;> omega)
 clear hv hle hl_r
 replace HB := kb_t HB hk (fun i hi => Or.inl hi)
 replace B_l := kb_t B_l hk (fun i hi => Or.inl hi)
 replace B_q := kb_t B_q hk (fun i hi => Or.inl hi)
 replace B_r := kb_t B_r hk (fun i hi => Or.inl hi)
 replace B_n := kb_t B_n hk (fun i hi => Or.inl hi)
 replace B_e := kb_t B_e hk (fun i hi => Or.inl (Or.inl hi))
 clear hk
 have V_v := a0_ hv_
 clear hv_
 have B_v := a0_ (Kb.refl (fun k => k = rb ∨ k = g_r) w107)
 go_wp2_with fail
 with_reducible refine (rate_calls rb (sumO (some 0) (bytesQ ss)) over h0 h1 _ _ RK.out (Res.mono (Res.kb (S := fun k => k = rb ∨ k = g_r) V_v.out B_v.out (fun k h hs => hs.elim h.1 h.2.1)) (fun k h => h.1))).mono ?_
 rw [← HANS.out]
 rintro e w108 ⟨v, rfl, hv, hrk, hk⟩
 obtain ⟨tu, Au, nu, cu, Du, ku, zu, rfl⟩ := hv.agg
 clear RK
 have RK := a0_ hrk
 clear hrk
 clear V_l B_l
 clear V_e B_e
 clear V_v B_v
 clear V_q B_q
 clear V_n B_n
 have hle := Kb.size HB.out
 have hl_r := blk_lt (bk_ V_r B_r N_r)
 have hv_ := Res.mono' (ok' := fun k => k ≠ rb ∧ k ≠ g_r ∧ w.heap.size ≤ k) hv (fun k hk _ => by have := HL.out; refine ⟨?_, ?_, ?_⟩ <;> omega)
 clear hv hle hl_r
 replace HB := kb_t HB hk (fun i hi => Or.inl hi)
 replace B_r := kb_t B_r hk (fun i hi => Or.inl hi)
 clear hk
 have V_u := a0_ hv_
 clear hv_
 have B_u := a0_ (Kb.refl (fun k => k = rb ∨ k = g_r) w108)
 go_wp2_with (first | ((with_reducible refine gt_ 30 10 39 rfl ?_); refine store_ev (p := .tmp 10) (v := .tmp 39) rfl rfl rfl (g := g_r) rfl rfl (bk_ V_r B_r N_r) ?_; intro w109 hbox hk; replace HB := kb_o HB hk G_r; replace B_u := kb_t B_u hk (fun i hi => by exact Or.inl (Or.inr hi)); have Z_ := a0_ (Rk.kb RK.out hk (by have := HL.out; have := G_r.out; omega)); clear RK; have RK := Z_; clear Z_; clear V_r B_r; have V_r := a0_ hbox; have B_r := kr_ rb w109; clear hbox hk))
 refine bodyPost_ret (results_cell_row rfl _ _ g_r 30 #[.bool tu, .slice Au nu cu, .slice Du ku zu] (0, 0) _ rfl (bk_ V_r B_r N_r) Try.underlying30 rfl (by kernel_rfl)) rfl ?_
 exact ⟨_, rfl, ((Res.mono (Res.kb (S := fun k => k = rb ∨ k = g_r) V_u.out B_u.out (fun k h hs => hs.elim h.1 h.2.1)) (fun k h => Or.inr h.2.2))), RK.out, HB.out⟩
theorem run6_calls {okl : Nat → Prop} (rb : Nat) (over : Int) (ss : List Smp) (qs : List Rat) (hn0 : 0 < ss.length) (hsz : ss.length ≤ 1000000) (w : World) (tq : Bool) (Aq : Option Addr) (nq cq : Nat) (Dq : Option Addr) (kq zq : Nat) (vl : Value) (hr : Rk w rb false) (hl : RowS okl w vl ss) (hok : ∀ k, okl k → k ≠ rb) (hvs : ValS ss qs) :
 Calls Try.prog 30 #[.pointer (some ⟨rb, 0, none⟩), .int .i64 6, .int .i64 over, .agg #[.bool tq, .slice Aq nq cq, .slice Dq kq zq], vl] w fun e w' => ∃ v, e = .returned v ∧ Res (fun k => okl k ∨ w.heap.size ≤ k) w' v (sumO (some 0) qs) ∧ Rk w' rb (sumO (some 0) qs).isNone ∧ Kb (fun k => k = rb) w w' := by
 obtain ⟨ans, hans⟩ : ∃ a, a = sumO (some 0) qs := ⟨_, rfl⟩
 rw [← hans]
 have HANS := a0_ hans
 clear hans
 have hu30 := Try.underlying30
 have hu39 := Try.underlying39
 obtain ⟨Al, cl, rfl⟩ := hl.slice
 obtain ⟨nl, hnl⟩ : ∃ nl, nl = ss.length := ⟨_, rfl⟩
 rw [← hnl] at hl hn0 hsz ⊢
 have HNL := a0_ (And.intro hnl (And.intro hn0 hsz))
 have hl2 : RowS (fun k => k ≠ rb ∧ (okl k ∧ k < w.heap.size)) w (.slice Al nl cl) ss := RowS.mono' hl (fun k h1 h2 => ⟨hok k h1, h1, h2⟩)
 have HOKL := a0_ hok
 clear hnl hl hok
 have HVS := a0_ hvs
 have HB := kr_ rb w
 have HL := a0_ (Rk.lt hr)
 have RK := a0_ hr
 clear hr
 have V_l := a0_ hl2
 clear hl2
 have B_l := kr_ rb w
 clear hn0 hsz
 go_enter Try.func30, Try.ntmps30
 go_wp2_with (first | ((with_reducible refine gd_ 8 rfl ?_); refine bx_ (N := 8) #[.bool tq, .slice Aq nq cq, .slice Dq kq zq] 30 ?_; intro g_q hg w101 hbox hb; have G_q := kb_g HB hg; replace HB := kb_b HB hb; replace B_l := kb_b B_l hb; replace RK := rk_b RK hb; clear hb; have V_q := a0_ hbox; have B_q := kr_ rb w101; have N_q : Aside0 (¬ (fun k => k = rb) g_q) := ⟨by show ¬ (_ = _); have := HL.out; have := G_q.out; omega⟩; clear hbox hg) | ((with_reducible refine gd_ 10 rfl ?_); refine bx_ (N := 10) #[.bool false, .slice none 0 0, .slice none 0 0] 30 ?_; intro g_r hg w102 hbox hb; have G_r := kb_g HB hg; replace HB := kb_b HB hb; replace B_l := kb_b B_l hb; replace B_q := kb_b B_q hb; replace RK := rk_b RK hb; clear hb; have V_r := a0_ hbox; have B_r := kr_ rb w102; have N_r : Aside0 (¬ (fun k => k = rb) g_r) := ⟨by show ¬ (_ = _); have := HL.out; have := G_r.out; omega⟩; clear hbox hg))
 with_reducible refine (qofn_calls nl HNL.out.2.2 _).mono ?_
 rintro e w103 ⟨⟨v, rfl, hv⟩, hb⟩
 obtain ⟨tn, An, nn, cn, Dn, kn, zn, rfl⟩ := hv.agg
 have hle := Kb.size HB.out
 have hl_r := blk_lt (bk_ V_r B_r N_r)
 have hv_ := IsR.mono' (ok' := fun k => k ≠ rb ∧ k ≠ g_r ∧ w.heap.size ≤ k) hv (fun k hk _ => by have := HL.out; refine ⟨?_, ?_, ?_⟩ <;> omega)
 clear hv hle hl_r
 replace HB := kb_b HB hb
 replace B_l := kb_b B_l hb
 replace B_q := kb_b B_q hb
 replace B_r := kb_b B_r hb
 replace RK := rk_b RK hb
 clear hb
 have V_vn := a0_ hv_
 clear hv_
 have B_vn := a0_ (Kb.refl (fun k => k = rb ∨ k = g_r) w103)
 go_wp2_with (first | ((with_reducible refine gd_ 11 rfl ?_); refine bx_ (N := 11) #[.bool false, .slice none 0 0, .slice none 0 0] 30 ?_; intro g_n hg w104 hbox hb; have G_n := kb_g HB hg; have O_n_l := kb_g B_l hg; have O_n_q := kb_g B_q hg; have O_n_r := kb_g B_r hg; have O_n_vn := kb_g B_vn hg; replace HB := kb_b HB hb; replace B_l := kb_b B_l hb; replace B_q := kb_b B_q hb; replace B_r := kb_b B_r hb; replace B_vn := kb_b B_vn hb; replace RK := rk_b RK hb; clear hb; have V_n := a0_ hbox; have B_n := kr_ rb w104; have N_n : Aside0 (¬ (fun k => k = rb) g_n) := ⟨by show ¬ (_ = _); have := HL.out; have := G_n.out; omega⟩; clear hbox hg) | ((with_reducible refine gt_ 30 11 14 rfl ?_); refine store_ev (p := .tmp 11) (v := .tmp 14) rfl rfl rfl (g := g_n) rfl rfl (bk_ V_n B_n N_n) ?_; intro w105 hbox hk; replace HB := kb_o HB hk G_n; replace B_l := kb_o B_l hk O_n_l; replace B_q := kb_o B_q hk O_n_q; replace B_r := kb_o B_r hk O_n_r; replace B_vn := kb_o B_vn hk O_n_vn; have Z_ := a0_ (Rk.kb RK.out hk (by have := HL.out; have := G_n.out; omega)); clear RK; have RK := Z_; clear Z_; clear V_n B_n; have V_n := a0_ hbox; have B_n := kr_ rb w105; clear hbox hk))
 clear V_vn B_vn
 with_reducible refine (each_value ss qs hvs (by rw [← HNL.out.1]; exact HNL.out.2.2) _ _ (RowS.kb (S := fun k => k = rb) V_l.out B_l.out (fun k h hs => absurd hs h.1))).mono ?_
 rintro e w106 ⟨⟨v, rfl, hv⟩, hb⟩
 obtain ⟨Ae, ce, rfl⟩ := RowQ.slice hv
 have hle := Kb.size HB.out
 have hlr := blk_lt (bk_ V_r B_r N_r)
 have hv_ := RowQ.mono' (ok' := fun k => k ≠ rb ∧ k ≠ g_r ∧ (okl k ∨ w.heap.size ≤ k)) hv (fun k hk _ => by
  have := HL.out
  have h3 := G_r.out
  rcases hk with hk | hk
  · exact ⟨hk.1, fun e => by have := hk.2.2; omega, Or.inl hk.2.1⟩
  · exact ⟨by omega, by omega, Or.inr (by omega)⟩)
 clear hv hle hlr
 replace HB := kb_b HB hb
 replace B_l := kb_b B_l hb
 replace B_q := kb_b B_q hb
 replace B_r := kb_b B_r hb
 replace B_n := kb_b B_n hb
 replace RK := rk_b RK hb
 clear hb
 have V_e := a0_ hv_
 clear hv_
 have B_e := a0_ (Kb.refl (fun k => k = rb ∨ k = g_r) w106)
 go_wp2_with fail
 with_reducible refine (rsum_calls rb qs _ _ RK.out (RowQ.mono (RowQ.kb (S := fun k => k = rb ∨ k = g_r) V_e.out B_e.out (fun k h hs => hs.elim h.1 h.2.1)) (fun k h => h.1)) (by rw [ValS.len hvs, ← HNL.out.1]; have := HNL.out.2.2; omega)).mono ?_
 rintro e w107 ⟨v, rfl, hv, hrk, hk⟩
 obtain ⟨tv, Av, nv, cv, Dv, kv, zv, rfl⟩ := hv.agg
 clear RK
 have RK := a0_ hrk
 clear hrk
 have hle := Kb.size HB.out
 have hl_r := blk_lt (bk_ V_r B_r N_r)
 have hv_ := Res.mono' (ok' := fun k => k ≠ rb ∧ k ≠ g_r ∧ w.heap.size ≤ k) hv (fun k hk _ => by have := HL.out; refine ⟨?_, ?_, ?_⟩ <;> omega)
 clear hv hle hl_r
 replace HB := kb_t HB hk (fun i hi => Or.inl hi)
 replace B_l := kb_t B_l hk (fun i hi => Or.inl hi)
 replace B_q := kb_t B_q hk (fun i hi => Or.inl hi)
 replace B_r := kb_t B_r hk (fun i hi => Or.inl hi)
 replace B_n := kb_t B_n hk (fun i hi => Or.inl hi)
 replace B_e := kb_t B_e hk (fun i hi => Or.inl (Or.inl hi))
 clear hk
 have V_v := a0_ hv_
 clear hv_
 have B_v := a0_ (Kb.refl (fun k => k = rb ∨ k = g_r) w107)
 clear V_l B_l
 clear V_e B_e
 clear V_q B_q
 clear V_n B_n
 go_wp2_with (first | ((with_reducible refine gt_ 30 10 45 rfl ?_); refine store_ev (p := .tmp 10) (v := .tmp 45) rfl rfl rfl (g := g_r) rfl rfl (bk_ V_r B_r N_r) ?_; intro w108 hbox hk; replace HB := kb_o HB hk G_r; replace B_v := kb_t B_v hk (fun i hi => by exact Or.inl (Or.inr hi)); have Z_ := a0_ (Rk.kb RK.out hk (by have := HL.out; have := G_r.out; omega)); clear RK; have RK := Z_; clear Z_; clear V_r B_r; have V_r := a0_ hbox; have B_r := kr_ rb w108; clear hbox hk))
 have ha := HANS.out
 refine bodyPost_ret (results_cell_row rfl _ _ g_r 30 #[.bool tv, .slice Av nv cv, .slice Dv kv zv] (0, 0) _ rfl (bk_ V_r B_r N_r) Try.underlying30 rfl (by kernel_rfl)) rfl ?_
 exact ⟨_, rfl, by rw [ha]; exact ((Res.mono (Res.kb (S := fun k => k = rb ∨ k = g_r) V_v.out B_v.out (fun k h hs => hs.elim h.1 h.2.1)) (fun k h => Or.inr h.2.2))), by rw [ha]; exact RK.out, HB.out⟩
def Run7.T14 : Bool × List (List Nat × List Nat) := (true, [([], []), ([], []), ([], []), ([2], [2]), ([1, 3, 3], [1, 3]), ([], []), ([0, 4, 5, 4], [0, 4, 5]), ([6, 6, 0, 1, 2, 3, 4, 5, 6], [6])])
def Run7.B14 : List Nat := [0, 0, 0, 4, 14, 0, 63, 127]
theorem Run7.tab14 : rtab .any (opsOf Try.f30 14) = Run7.T14 := by kernel_rfl
theorem Run7.bits14 : waitsOk Run7.T14.2 Run7.B14 = true := by kernel_rfl
theorem run7_calls {okl : Nat → Prop} (rb : Nat) (over : Int) (ss : List Smp) (qs : List Rat) (hn0 : 0 < ss.length) (hsz : ss.length ≤ 1000000) (w : World) (tq : Bool) (Aq : Option Addr) (nq cq : Nat) (Dq : Option Addr) (kq zq : Nat) (vl : Value) (hr : Rk w rb false) (hl : RowS okl w vl ss) (hok : ∀ k, okl k → k ≠ rb) (hvs : ValS ss qs) :
 Calls Try.prog 30 #[.pointer (some ⟨rb, 0, none⟩), .int .i64 7, .int .i64 over, .agg #[.bool tq, .slice Aq nq cq, .slice Dq kq zq], vl] w fun e w' => ∃ v, e = .returned v ∧ Res (fun k => okl k ∨ w.heap.size ≤ k) w' v (doO (sumO (some 0) qs).isNone (fun x y => x / y) (sumO (some 0) qs) (some (ss.length : Rat))) ∧ Rk w' rb (doO (sumO (some 0) qs).isNone (fun x y => x / y) (sumO (some 0) qs) (some (ss.length : Rat))).isNone ∧ Kb (fun k => k = rb) w w' := by
 obtain ⟨ans, hans⟩ : ∃ a, a = doO (sumO (some 0) qs).isNone (fun x y => x / y) (sumO (some 0) qs) (some (ss.length : Rat)) := ⟨_, rfl⟩
 rw [← hans]
 have HANS := a0_ hans
 clear hans
 have hu30 := Try.underlying30
 have hu39 := Try.underlying39
 obtain ⟨Al, cl, rfl⟩ := hl.slice
 obtain ⟨nl, hnl⟩ : ∃ nl, nl = ss.length := ⟨_, rfl⟩
 rw [← hnl] at hl hn0 hsz ⊢
 have HNL := a0_ (And.intro hnl (And.intro hn0 hsz))
 have hl2 : RowS (fun k => k ≠ rb ∧ (okl k ∧ k < w.heap.size)) w (.slice Al nl cl) ss := RowS.mono' hl (fun k h1 h2 => ⟨hok k h1, h1, h2⟩)
 have HOKL := a0_ hok
 clear hnl hl hok
 have HVS := a0_ hvs
 have HB := kr_ rb w
 have HL := a0_ (Rk.lt hr)
 have RK := a0_ hr
 clear hr
 have V_l := a0_ hl2
 clear hl2
 have B_l := kr_ rb w
 clear hn0 hsz
 go_enter Try.func30, Try.ntmps30
 go_wp2_with (first | ((with_reducible refine gd_ 8 rfl ?_); refine bx_ (N := 8) #[.bool tq, .slice Aq nq cq, .slice Dq kq zq] 30 ?_; intro g_q hg w101 hbox hb; have G_q := kb_g HB hg; replace HB := kb_b HB hb; replace B_l := kb_b B_l hb; replace RK := rk_b RK hb; clear hb; have V_q := a0_ hbox; have B_q := kr_ rb w101; have N_q : Aside0 (¬ (fun k => k = rb) g_q) := ⟨by show ¬ (_ = _); have := HL.out; have := G_q.out; omega⟩; clear hbox hg) | ((with_reducible refine gd_ 10 rfl ?_); refine bx_ (N := 10) #[.bool false, .slice none 0 0, .slice none 0 0] 30 ?_; intro g_r hg w102 hbox hb; have G_r := kb_g HB hg; replace HB := kb_b HB hb; replace B_l := kb_b B_l hb; replace B_q := kb_b B_q hb; replace RK := rk_b RK hb; clear hb; have V_r := a0_ hbox; have B_r := kr_ rb w102; have N_r : Aside0 (¬ (fun k => k = rb) g_r) := ⟨by show ¬ (_ = _); have := HL.out; have := G_r.out; omega⟩; clear hbox hg))
 with_reducible refine (qofn_calls nl HNL.out.2.2 _).mono ?_
 rintro e w103 ⟨⟨v, rfl, hv⟩, hb⟩
 obtain ⟨tn, An, nn, cn, Dn, kn, zn, rfl⟩ := hv.agg
 have hle := Kb.size HB.out
 have hl_r := blk_lt (bk_ V_r B_r N_r)
 have hv_ := IsR.mono' (ok' := fun k => k ≠ rb ∧ k ≠ g_r ∧ w.heap.size ≤ k) hv (fun k hk _ => by have := HL.out; refine ⟨?_, ?_, ?_⟩ <;> omega)
 clear hv hle hl_r
 replace HB := kb_b HB hb
 replace B_l := kb_b B_l hb
 replace B_q := kb_b B_q hb
 replace B_r := kb_b B_r hb
 replace RK := rk_b RK hb
 clear hb
 have V_vn := a0_ hv_
 clear hv_
 have B_vn := a0_ (Kb.refl (fun k => k = rb ∨ k = g_r) w103)
 go_wp2_with (first | ((with_reducible refine gd_ 11 rfl ?_); refine bx_ (N := 11) #[.bool false, .slice none 0 0, .slice none 0 0] 30 ?_; intro g_n hg w104 hbox hb; have G_n := kb_g HB hg; have O_n_l := kb_g B_l hg; have O_n_q := kb_g B_q hg; have O_n_r := kb_g B_r hg; have O_n_vn := kb_g B_vn hg; replace HB := kb_b HB hb; replace B_l := kb_b B_l hb; replace B_q := kb_b B_q hb; replace B_r := kb_b B_r hb; replace B_vn := kb_b B_vn hb; replace RK := rk_b RK hb; clear hb; have V_n := a0_ hbox; have B_n := kr_ rb w104; have N_n : Aside0 (¬ (fun k => k = rb) g_n) := ⟨by show ¬ (_ = _); have := HL.out; have := G_n.out; omega⟩; clear hbox hg) | ((with_reducible refine gt_ 30 11 14 rfl ?_); refine store_ev (p := .tmp 11) (v := .tmp 14) rfl rfl rfl (g := g_n) rfl rfl (bk_ V_n B_n N_n) ?_; intro w105 hbox hk; replace HB := kb_o HB hk G_n; replace B_l := kb_o B_l hk O_n_l; replace B_q := kb_o B_q hk O_n_q; replace B_r := kb_o B_r hk O_n_r; replace B_vn := kb_o B_vn hk O_n_vn; have Z_ := a0_ (Rk.kb RK.out hk (by have := HL.out; have := G_n.out; omega)); clear RK; have RK := Z_; clear Z_; clear V_n B_n; have V_n := a0_ hbox; have B_n := kr_ rb w105; clear hbox hk))
 have hb : Below w105.heap.size w105 w105.drew := below_drew1 (Below.refl _ _)
 replace HB := kb_b HB hb
 replace B_l := kb_b B_l hb
 replace B_q := kb_b B_q hb
 replace B_r := kb_b B_r hb
 replace B_vn := kb_b B_vn hb
 replace B_n := kb_b B_n hb
 replace RK := rk_b RK hb
 clear hb
 refine start_ (n := 8) (S := fun w' => w'.heap[g_n]? = some (.cells #[.bool tn, .slice An nn cn, .slice Dn kn zn] 30 (0, 0))) (ds := []) (tB_ 8 0) (by kernel_rfl) rfl (by kernel_rfl) (bk_ V_n B_n N_n) (fun hHeld => ?_)
 refine with_tabW Run7.tab14 Run7.bits14 (fun HT_ HW_ => ?_)
 generalize w105.drew = w106 at HB RK B_l B_q B_r B_vn B_n hHeld ⊢
 refine pu_ 0 (some 48) 1 HT_ ?_
 refine pu_ 1 (some 49) 3 HT_ ?_
 refine pu_ 2 (some 50) 7 HT_ ?_
 refine tk_ 5 (some 53) 39 HT_ HW_ hHeld ?_ ?_ ?_ ?_ ?_
 rotate_left
 · intro w' hs
   have hb_ := hs
   obtain ⟨c0_, c1_, c2_⟩ := b3_ hb_
   clear hb_ hs
   go_simp
   with_reducible rfl
 rotate_left
 · simp only [PU]
   rfl
 refine on_ 3 (some 51) 47 HT_ (fun K hK => ?_)
 refine gs_ Try.func42 #[.slice Al nl cl, .func (.func 44) #[] #[]] ?_
 refine (each_value ss qs hvs (by rw [← HNL.out.1]; exact HNL.out.2.2) _ _ (RowS.kb (S := fun k => k = rb) V_l.out B_l.out (fun k h hs => absurd hs h.1))).mono ?_
 rintro e w107 ⟨⟨v51, rfl, hv⟩, hb⟩
 obtain ⟨Ae, ce, rfl⟩ := RowQ.slice hv
 refine ⟨_, rfl, ?_⟩
 refine hK.out _ _ (by exact blk_below hHeld hb) (fun hHeld => ?_)
 clear hK K
 refine nm_ (some 51) ?_
 have hle := Kb.size HB.out
 have hlr := blk_lt (bk_ V_r B_r N_r)
 have hv_ := RowQ.mono' (ok' := fun k => k ≠ rb ∧ k ≠ g_r ∧ (okl k ∨ w.heap.size ≤ k)) hv (fun k hk _ => by
  have := HL.out
  have h3 := G_r.out
  rcases hk with hk | hk
  · exact ⟨hk.1, fun e => by have := hk.2.2; omega, Or.inl hk.2.1⟩
  · exact ⟨by omega, by omega, Or.inr (by omega)⟩)
 clear hv hle hlr
 replace HB := kb_b HB hb
 replace B_l := kb_b B_l hb
 replace B_q := kb_b B_q hb
 replace B_r := kb_b B_r hb
 replace B_vn := kb_b B_vn hb
 replace B_n := kb_b B_n hb
 replace RK := rk_b RK hb
 clear hb
 have V_e := a0_ hv_
 clear hv_
 have B_e := a0_ (Kb.refl (fun k => k = rb ∨ k = g_r) w107)
 refine on_ 4 (some 52) 63 HT_ (fun K hK => ?_)
 refine gs_ Try.func41 #[.pointer (some ⟨rb, 0, none⟩), .slice Ae qs.length ce] ?_
 refine (rsum_calls rb qs _ _ RK.out (RowQ.mono (RowQ.kb (S := fun k => k = rb ∨ k = g_r) V_e.out B_e.out (fun k h hs => hs.elim h.1 h.2.1)) (fun k h => h.1)) (by rw [ValS.len hvs, ← HNL.out.1]; have := HNL.out.2.2; omega)).mono ?_
 rintro e w108 ⟨v52, rfl, hv, hrk, hk⟩
 obtain ⟨tv, Av, nv, cv, Dv, kv, zv, rfl⟩ := hv.agg
 refine ⟨_, rfl, ?_⟩
 refine hK.out _ _ (by exact Kb.blk hHeld hk N_n.out) (fun hHeld => ?_)
 clear hK K
 refine nm_ (some 52) ?_
 clear RK
 have RK := a0_ hrk
 clear hrk
 have hle := Kb.size HB.out
 have hl_r := blk_lt (bk_ V_r B_r N_r)
 have hv_ := Res.mono' (ok' := fun k => k ≠ rb ∧ k ≠ g_r ∧ w.heap.size ≤ k) hv (fun k hk _ => by have := HL.out; refine ⟨?_, ?_, ?_⟩ <;> omega)
 clear hv hle hl_r
 replace HB := kb_t HB hk (fun i hi => Or.inl hi)
 replace B_l := kb_t B_l hk (fun i hi => Or.inl hi)
 replace B_q := kb_t B_q hk (fun i hi => Or.inl hi)
 replace B_r := kb_t B_r hk (fun i hi => Or.inl hi)
 replace B_vn := kb_t B_vn hk (fun i hi => Or.inl (Or.inl hi))
 replace B_n := kb_t B_n hk (fun i hi => Or.inl hi)
 replace B_e := kb_t B_e hk (fun i hi => Or.inl (Or.inl hi))
 clear hk
 have V_v := a0_ hv_
 clear hv_
 have B_v := a0_ (Kb.refl (fun k => k = rb ∨ k = g_r) w108)
 refine on_ 6 (some 54) 127 HT_ (fun K hK => ?_)
 refine gs_ Try.func45 #[.pointer (some ⟨rb, 0, none⟩), .func (.func 27) #[] #[], .agg #[.bool tv, .slice Av nv cv, .slice Dv kv zv], .agg #[.bool tn, .slice An nn cn, .slice Dn kn zn]] ?_
 refine (do_any qdiv_op (enters_run (enters_of (P := Try.prog) Try.func27 (by kernel_rfl) rfl)) rb (sumO (some 0) qs).isNone (sumO (some 0) qs) (some (nl : Rat)) _ _ _ RK.out (Res.mono (Res.kb (S := fun k => k = rb ∨ k = g_r) V_v.out B_v.out (fun k h hs => hs.elim h.1 h.2.1)) (fun k h => h.1)) (IsR.res (IsR.mono (IsR.kb (S := fun k => k = rb ∨ k = g_r) V_vn.out B_vn.out (fun k h hs => hs.elim h.1 h.2.1)) (fun k h => h.1))) (one_dom _ _ (fun _ => by show (nl : Rat).num ≠ 0; rw [Rat.num_natCast]; have := HNL.out.2.1; omega))).mono ?_
 rintro e w109 ⟨v54, rfl, hv, hrk, hk⟩
 obtain ⟨tu, Au, nu, cu, Du, ku, zu, rfl⟩ := hv.agg
 refine ⟨_, rfl, ?_⟩
 refine hK.out _ _ (by exact Kb.blk hHeld hk N_n.out) (fun hHeld => ?_)
 clear hK K
 refine nm_ (some 54) ?_
 have h9 := HANS.out
 rw [← HNL.out.1] at h9
 rw [doO_er] at hrk
 rw [← h9] at hv hrk
 clear h9 RK
 have RK := a0_ hrk
 clear hrk
 have hle := Kb.size HB.out
 have hl_r := blk_lt (bk_ V_r B_r N_r)
 have hv_ := Res.mono' (ok' := fun k => k ≠ rb ∧ k ≠ g_r ∧ w.heap.size ≤ k) hv (fun k hk _ => by have := HL.out; refine ⟨?_, ?_, ?_⟩ <;> omega)
 clear hv hle hl_r
 replace HB := kb_t HB hk (fun i hi => Or.inl hi)
 replace B_l := kb_t B_l hk (fun i hi => Or.inl hi)
 replace B_q := kb_t B_q hk (fun i hi => Or.inl hi)
 replace B_r := kb_t B_r hk (fun i hi => Or.inl hi)
 replace B_vn := kb_t B_vn hk (fun i hi => Or.inl (Or.inl hi))
 replace B_n := kb_t B_n hk (fun i hi => Or.inl hi)
 replace B_e := kb_t B_e hk (fun i hi => Or.inl (Or.inl hi))
 replace B_v := kb_t B_v hk (fun i hi => Or.inl (Or.inl hi))
 clear hk
 have V_u := a0_ hv_
 clear hv_
 have B_u := a0_ (Kb.refl (fun k => k = rb ∨ k = g_r) w109)
 clear V_l B_l
 clear V_e B_e
 clear V_v B_v
 clear V_vn B_vn
 clear B_n V_q B_q
 refine on_ 7 none 255 HT_ (fun K hK => ?_)
 have bk_r := bk_ V_r B_r N_r
 have hz_r_0 : w109.cell? ⟨g_r, 0, none⟩ = some (.bool false) := (blk_cell bk_r 0).trans rfl
 have hf_r_0 := blk_frozen bk_r 0
 have hz_r_1 : w109.cell? ⟨g_r, 1, none⟩ = some (.slice none 0 0) := (blk_cell bk_r 1).trans rfl
 have hf_r_1 := blk_frozen bk_r 1
 have hz_r_2 : w109.cell? ⟨g_r, 2, none⟩ = some (.slice none 0 0) := (blk_cell bk_r 2).trans rfl
 have hf_r_2 := blk_frozen bk_r 2
 clear bk_r
 refine skip_ (w1 := ((w109.setCell ⟨g_r, 0, none⟩ (.bool tu)).setCell ⟨g_r, 1, none⟩ (.slice Au nu cu)).setCell ⟨g_r, 2, none⟩ (.slice Du ku zu)) (by rfl) rfl ?_ ?_
 · first | (go_simp; done) | (go_simp; rfl)
 clear hz_r_0 hf_r_0 hz_r_1 hf_r_1 hz_r_2 hf_r_2
 have hbox : (((w109.setCell ⟨g_r, 0, none⟩ (.bool tu)).setCell ⟨g_r, 1, none⟩ (.slice Au nu cu)).setCell ⟨g_r, 2, none⟩ (.slice Du ku zu)).heap[g_r]? = some (.cells #[.bool tu, .slice Au nu cu, .slice Du ku zu] 30 (0, 0)) := blk_put (blk_put (blk_put (bk_ V_r B_r N_r) 0 _ rfl) 1 _ rfl) 2 _ rfl
 have hk : Kb (fun k => k = g_r) w109 (((w109.setCell ⟨g_r, 0, none⟩ (.bool tu)).setCell ⟨g_r, 1, none⟩ (.slice Au nu cu)).setCell ⟨g_r, 2, none⟩ (.slice Du ku zu)) := (((Kb.refl (fun k => k = g_r) w109).setCell (p := ⟨g_r, 0, none⟩) (Or.inl rfl) _).setCell (p := ⟨g_r, 1, none⟩) (Or.inl rfl) _).setCell (p := ⟨g_r, 2, none⟩) (Or.inl rfl) _
 refine hK.out _ _ (by have q_ := hHeld; exact Kb.blk q_ hk (show ¬ (g_n = g_r) from fun e => by have := blk_lt V_r.out; have := O_n_r.out; omega)) (fun hHeld => ?_)
 clear hK K
 obtain ⟨w110, hw_⟩ : ∃ x, x = ((w109.setCell ⟨g_r, 0, none⟩ (.bool tu)).setCell ⟨g_r, 1, none⟩ (.slice Au nu cu)).setCell ⟨g_r, 2, none⟩ (.slice Du ku zu) := ⟨_, rfl⟩
 rw [← hw_] at hk hbox hHeld ⊢
 clear hw_
 replace HB := kb_o HB hk G_r
 replace B_u := kb_t B_u hk (fun i hi => by exact Or.inl (Or.inr hi))
 have Z_ := a0_ (Rk.kb RK.out hk (by have := HL.out; have := G_r.out; omega))
 clear RK
 have RK := Z_
 clear Z_
 clear V_r B_r
 have V_r := a0_ hbox
 have B_r := kr_ rb w110
 clear hbox hk
 refine do_ HT_ ?_
 clear HT_ HW_ hHeld
 go_wp2_with fail
 refine bodyPost_ret (results_cell_row rfl _ _ g_r 30 #[.bool tu, .slice Au nu cu, .slice Du ku zu] (0, 0) _ rfl (bk_ V_r B_r N_r) Try.underlying30 rfl (by kernel_rfl)) rfl ?_
 exact ⟨_, rfl, ((Res.mono (Res.kb (S := fun k => k = rb ∨ k = g_r) V_u.out B_u.out (fun k h hs => hs.elim h.1 h.2.1)) (fun k h => Or.inr h.2.2))), RK.out, HB.out⟩
def Run12.T23 : Bool × List (List Nat × List Nat) := (true, [([], []), ([], []), ([], []), ([2], [2]), ([3, 3], [3]), ([0, 1, 4, 4], [0, 1, 4]), ([5, 5, 0, 1, 2, 3, 4, 5], [5])])
def Run12.B23 : List Nat := [0, 0, 0, 4, 12, 31, 63]
theorem Run12.tab23 : rtab .any (opsOf Try.f30 23) = Run12.T23 := by kernel_rfl
theorem Run12.bits23 : waitsOk Run12.T23.2 Run12.B23 = true := by kernel_rfl
theorem run12_calls {okl : Nat → Prop} (rb : Nat) (over : Int) (ss : List Smp) (qs : List Rat) (q : Rat) (hq0 : 0 ≤ q) (hq1 : q ≤ 1) (hn0 : 0 < ss.length) (hsz : ss.length ≤ 1000000) (w : World) (vq : Value) (vl : Value) (hr : Rk w rb false) (hl : RowS okl w vl ss) (hok : ∀ k, okl k → k ≠ rb) (hvs : ValS ss qs) (h20 : ss.length ≤ 1000000) (hq : IsR (fun k => k ≠ rb) w vq q) :
 Calls Try.prog 30 #[.pointer (some ⟨rb, 0, none⟩), .int .i64 12, .int .i64 over, vq, vl] w fun e w' => ∃ v qs', e = .returned v ∧ qs'.Perm qs ∧ qs'.Pairwise (· ≤ ·) ∧ Res (fun k => okl k ∨ w.heap.size ≤ k) w' v (quantO q qs') ∧ Rk w' rb (quantO q qs').isNone ∧ Kb (fun k => k = rb) w w' := by
 have hu30 := Try.underlying30
 have hu39 := Try.underlying39
 obtain ⟨Al, cl, rfl⟩ := hl.slice
 obtain ⟨nl, hnl⟩ : ∃ nl, nl = ss.length := ⟨_, rfl⟩
 rw [← hnl] at hl hn0 hsz ⊢
 have HNL := a0_ (And.intro hnl (And.intro hn0 hsz))
 have hl2 : RowS (fun k => k ≠ rb ∧ (okl k ∧ k < w.heap.size)) w (.slice Al nl cl) ss := RowS.mono' hl (fun k h1 h2 => ⟨hok k h1, h1, h2⟩)
 have HOKL := a0_ hok
 clear hnl hl hok
 have HVS := a0_ hvs
 have H20 := a0_ h20
 have HQ01 := a0_ (And.intro hq0 hq1)
 clear h20 hq0 hq1
 obtain ⟨tq, Aq, nq, cq, Dq, kq, zq, rfl⟩ := hq.agg
 have HB := kr_ rb w
 have HL := a0_ (Rk.lt hr)
 have RK := a0_ hr
 clear hr
 have V_l := a0_ hl2
 clear hl2
 have B_l := kr_ rb w
 have V_vq := a0_ hq
 clear hq
 have B_vq := kr_ rb w
 clear hn0 hsz
 go_enter Try.func30, Try.ntmps30
 go_wp2_with (first | ((with_reducible refine gd_ 8 rfl ?_); refine bx_ (N := 8) #[.bool tq, .slice Aq nq cq, .slice Dq kq zq] 30 ?_; intro g_q hg w101 hbox hb; have G_q := kb_g HB hg; replace HB := kb_b HB hb; replace B_l := kb_b B_l hb; replace B_vq := kb_b B_vq hb; replace RK := rk_b RK hb; clear hb; have V_q := a0_ hbox; have B_q := kr_ rb w101; have N_q : Aside0 (¬ (fun k => k = rb) g_q) := ⟨by show ¬ (_ = _); have := HL.out; have := G_q.out; omega⟩; clear hbox hg) | ((with_reducible refine gd_ 10 rfl ?_); refine bx_ (N := 10) #[.bool false, .slice none 0 0, .slice none 0 0] 30 ?_; intro g_r hg w102 hbox hb; have G_r := kb_g HB hg; have O_r_q := kb_g B_q hg; replace HB := kb_b HB hb; replace B_l := kb_b B_l hb; replace B_vq := kb_b B_vq hb; replace B_q := kb_b B_q hb; replace RK := rk_b RK hb; clear hb; have V_r := a0_ hbox; have B_r := kr_ rb w102; have N_r : Aside0 (¬ (fun k => k = rb) g_r) := ⟨by show ¬ (_ = _); have := HL.out; have := G_r.out; omega⟩; clear hbox hg))
 with_reducible refine (qofn_calls nl HNL.out.2.2 _).mono ?_
 rintro e w103 ⟨⟨v, rfl, hv⟩, hb⟩
 obtain ⟨tn, An, nn, cn, Dn, kn, zn, rfl⟩ := hv.agg
 have hle := Kb.size HB.out
 have hl_r := blk_lt (bk_ V_r B_r N_r)
 have hv_ := IsR.mono' (ok' := fun k => k ≠ rb ∧ k ≠ g_r ∧ w.heap.size ≤ k) hv (fun k hk _ => by have := HL.out; refine ⟨?_, ?_, ?_⟩ <;> omega)
 clear hv hle hl_r
 replace HB := kb_b HB hb
 replace B_l := kb_b B_l hb
 replace B_vq := kb_b B_vq hb
 replace B_q := kb_b B_q hb
 replace B_r := kb_b B_r hb
 replace RK := rk_b RK hb
 clear hb
 have V_vn := a0_ hv_
 clear hv_
 have B_vn := a0_ (Kb.refl (fun k => k = rb ∨ k = g_r) w103)
 go_wp2_with (first | ((with_reducible refine gd_ 11 rfl ?_); refine bx_ (N := 11) #[.bool false, .slice none 0 0, .slice none 0 0] 30 ?_; intro g_n hg w104 hbox hb; have G_n := kb_g HB hg; have O_n_l := kb_g B_l hg; have O_n_vq := kb_g B_vq hg; have O_n_q := kb_g B_q hg; have O_n_r := kb_g B_r hg; have O_n_vn := kb_g B_vn hg; replace HB := kb_b HB hb; replace B_l := kb_b B_l hb; replace B_vq := kb_b B_vq hb; replace B_q := kb_b B_q hb; replace B_r := kb_b B_r hb; replace B_vn := kb_b B_vn hb; replace RK := rk_b RK hb; clear hb; have V_n := a0_ hbox; have B_n := kr_ rb w104; have N_n : Aside0 (¬ (fun k => k = rb) g_n) := ⟨by show ¬ (_ = _); have := HL.out; have := G_n.out; omega⟩; clear hbox hg) | ((with_reducible refine gt_ 30 11 14 rfl ?_); refine store_ev (p := .tmp 11) (v := .tmp 14) rfl rfl rfl (g := g_n) rfl rfl (bk_ V_n B_n N_n) ?_; intro w105 hbox hk; replace HB := kb_o HB hk G_n; replace B_l := kb_o B_l hk O_n_l; replace B_vq := kb_o B_vq hk O_n_vq; replace B_q := kb_o B_q hk O_n_q; replace B_r := kb_o B_r hk O_n_r; replace B_vn := kb_o B_vn hk O_n_vn; have Z_ := a0_ (Rk.kb RK.out hk (by have := HL.out; have := G_n.out; omega)); clear RK; have RK := Z_; clear Z_; clear V_n B_n; have V_n := a0_ hbox; have B_n := kr_ rb w105; clear hbox hk))
 clear V_vn B_vn
 have hb : Below w105.heap.size w105 w105.drew := below_drew1 (Below.refl _ _)
 replace HB := kb_b HB hb
 replace B_l := kb_b B_l hb
 replace B_vq := kb_b B_vq hb
 replace B_q := kb_b B_q hb
 replace B_r := kb_b B_r hb
 replace B_n := kb_b B_n hb
 replace RK := rk_b RK hb
 clear hb
 refine start_ (n := 7) (S := fun w' => w'.heap[g_q]? = some (.cells #[.bool tq, .slice Aq nq cq, .slice Dq kq zq] 30 (0, 0))) (ds := []) (tB_ 7 0) (by kernel_rfl) rfl (by kernel_rfl) (bk_ V_q B_q N_q) (fun hHeld => ?_)
 refine with_tabW Run12.tab23 Run12.bits23 (fun HT_ HW_ => ?_)
 generalize w105.drew = w106 at HB RK B_l B_vq B_q B_r B_n hHeld ⊢
 refine pu_ 0 (some 80) 1 HT_ ?_
 refine tk_ 1 (some 81) 3 HT_ HW_ hHeld ?_ ?_ ?_ ?_ ?_
 rotate_left
 · intro w' hs
   have hb_ := hs
   obtain ⟨c0_, c1_, c2_⟩ := b3_ hb_
   clear hb_ hs
   go_simp
   with_reducible rfl
 rotate_left
 · simp only [PU]
   rfl
 refine pu_ 2 (some 82) 7 HT_ ?_
 refine on_ 3 (some 83) 15 HT_ (fun K hK => ?_)
 refine gs_ Try.func42 #[.slice Al nl cl, .func (.func 44) #[] #[]] ?_
 refine (each_value ss qs hvs (by rw [← HNL.out.1]; exact HNL.out.2.2) _ _ (RowS.kb (S := fun k => k = rb) V_l.out B_l.out (fun k h hs => absurd hs h.1))).mono ?_
 rintro e w107 ⟨⟨v83, rfl, hv⟩, hb⟩
 obtain ⟨Ae, ce, rfl⟩ := RowQ.slice hv
 refine ⟨_, rfl, ?_⟩
 refine hK.out _ _ (by exact blk_below hHeld hb) (fun hHeld => ?_)
 clear hK K
 refine nm_ (some 83) ?_
 have hle := Kb.size HB.out
 have hlr := blk_lt (bk_ V_r B_r N_r)
 have hv_ := RowQ.mono' (ok' := fun k => k ≠ rb ∧ k ≠ g_r ∧ (okl k ∨ w.heap.size ≤ k)) hv (fun k hk _ => by
  have := HL.out
  have h3 := G_r.out
  rcases hk with hk | hk
  · exact ⟨hk.1, fun e => by have := hk.2.2; omega, Or.inl hk.2.1⟩
  · exact ⟨by omega, by omega, Or.inr (by omega)⟩)
 clear hv hle hlr
 replace HB := kb_b HB hb
 replace B_l := kb_b B_l hb
 replace B_vq := kb_b B_vq hb
 replace B_q := kb_b B_q hb
 replace B_r := kb_b B_r hb
 replace B_n := kb_b B_n hb
 replace RK := rk_b RK hb
 clear hb
 have V_e := a0_ hv_
 clear hv_
 have B_e := a0_ (Kb.refl (fun k => k = rb ∨ k = g_r) w107)
 refine on_ 4 (some 84) 31 HT_ (fun K hK => ?_)
 refine gs_ Try.func49 #[.slice Ae qs.length ce, .func (.func 39) #[] #[]] ?_
 refine (sorted_calls (ok := fun k => k ≠ rb ∧ k ≠ g_r ∧ (okl k ∨ w.heap.size ≤ k)) qs (by rw [hvs.1, ← HNL.out.1]; exact HNL.out.2.1) (by rw [hvs.1]; exact H20.out) _ _ (RowQ.kb (S := fun k => k = rb ∨ k = g_r) V_e.out B_e.out (fun k h hs => hs.elim h.1 h.2.1))).mono ?_
 rintro e w108 ⟨⟨v84, qs', rfl, hpm, hpw, hv⟩, hb⟩
 have HPM := a0_ (And.intro hpm hpw)
 clear hpm hpw
 obtain ⟨Ag, cg, rfl⟩ := RowQ.slice hv
 refine ⟨_, rfl, ?_⟩
 refine hK.out _ _ (by exact blk_below hHeld hb) (fun hHeld => ?_)
 clear hK K
 refine nm_ (some 84) ?_
 have hle := Kb.size HB.out
 have hlr := blk_lt (bk_ V_r B_r N_r)
 have hv_ := RowQ.mono' (ok' := fun k => k ≠ rb ∧ k ≠ g_r ∧ (okl k ∨ w.heap.size ≤ k)) hv (fun k hk _ => by
  have := HL.out
  rcases hk with hk | hk
  · exact hk
  · exact ⟨by omega, by omega, Or.inr (by omega)⟩)
 clear hv hle hlr
 replace HB := kb_b HB hb
 replace B_l := kb_b B_l hb
 replace B_vq := kb_b B_vq hb
 replace B_q := kb_b B_q hb
 replace B_r := kb_b B_r hb
 replace B_n := kb_b B_n hb
 replace B_e := kb_b B_e hb
 replace RK := rk_b RK hb
 clear hb
 have V_g := a0_ hv_
 clear hv_
 have B_g := a0_ (Kb.refl (fun k => k = rb ∨ k = g_r) w108)
 refine on_ 5 (some 85) 63 HT_ (fun K hK => ?_)
 refine gs_ Try.func48 #[.pointer (some ⟨rb, 0, none⟩), .agg #[.bool tq, .slice Aq nq cq, .slice Dq kq zq], .slice Ag qs'.length cg] ?_
 refine (quantile_calls (okl := fun k => k ≠ rb ∧ k ≠ g_r ∧ (okl k ∨ w.heap.size ≤ k)) rb q qs' HQ01.out.1 HQ01.out.2 (by rw [HPM.out.1.length_eq, hvs.1, ← HNL.out.1]; exact HNL.out.2.1) (by rw [HPM.out.1.length_eq, hvs.1, ← HNL.out.1]; exact HNL.out.2.2) _ _ _ RK.out (IsR.kb (S := fun k => k = rb) V_vq.out B_vq.out (fun _ h => h)) (RowQ.kb (S := fun k => k = rb ∨ k = g_r) V_g.out B_g.out (fun k h hs => hs.elim h.1 h.2.1)) (fun k h => h.1)).mono ?_
 rintro e w109 ⟨v85, rfl, hv, hrk, hk⟩
 obtain ⟨tu, Au, nu, cu, Du, ku, zu, rfl⟩ := hv.agg
 refine ⟨_, rfl, ?_⟩
 refine hK.out _ _ (by exact Kb.blk hHeld hk N_q.out) (fun hHeld => ?_)
 clear hK K
 refine nm_ (some 85) ?_
 clear RK
 have RK := a0_ hrk
 clear hrk
 have hle := Kb.size HB.out
 have hlr := blk_lt (bk_ V_r B_r N_r)
 have hv_ := Res.mono' (ok' := fun k => k ≠ rb ∧ k ≠ g_r ∧ (okl k ∨ w.heap.size ≤ k)) hv (fun k hk _ => by
  have := HL.out
  rcases hk with hk | hk
  · exact hk
  · exact ⟨by omega, by omega, Or.inr (by omega)⟩)
 clear hv hle hlr
 replace HB := kb_t HB hk (fun i hi => Or.inl hi)
 replace B_l := kb_t B_l hk (fun i hi => Or.inl hi)
 replace B_vq := kb_t B_vq hk (fun i hi => Or.inl hi)
 replace B_q := kb_t B_q hk (fun i hi => Or.inl hi)
 replace B_r := kb_t B_r hk (fun i hi => Or.inl hi)
 replace B_n := kb_t B_n hk (fun i hi => Or.inl hi)
 replace B_e := kb_t B_e hk (fun i hi => Or.inl (Or.inl hi))
 replace B_g := kb_t B_g hk (fun i hi => Or.inl (Or.inl hi))
 clear hk
 have V_u := a0_ hv_
 clear hv_
 have B_u := a0_ (Kb.refl (fun k => k = rb ∨ k = g_r) w109)
 clear V_l B_l
 clear V_e B_e
 clear V_g B_g
 clear V_vq B_vq
 clear B_q V_n B_n
 refine on_ 6 none 127 HT_ (fun K hK => ?_)
 have bk_r := bk_ V_r B_r N_r
 have hz_r_0 : w109.cell? ⟨g_r, 0, none⟩ = some (.bool false) := (blk_cell bk_r 0).trans rfl
 have hf_r_0 := blk_frozen bk_r 0
 have hz_r_1 : w109.cell? ⟨g_r, 1, none⟩ = some (.slice none 0 0) := (blk_cell bk_r 1).trans rfl
 have hf_r_1 := blk_frozen bk_r 1
 have hz_r_2 : w109.cell? ⟨g_r, 2, none⟩ = some (.slice none 0 0) := (blk_cell bk_r 2).trans rfl
 have hf_r_2 := blk_frozen bk_r 2
 clear bk_r
 refine skip_ (w1 := ((w109.setCell ⟨g_r, 0, none⟩ (.bool tu)).setCell ⟨g_r, 1, none⟩ (.slice Au nu cu)).setCell ⟨g_r, 2, none⟩ (.slice Du ku zu)) (by rfl) rfl ?_ ?_
 · first | (go_simp; done) | (go_simp; rfl)
 clear hz_r_0 hf_r_0 hz_r_1 hf_r_1 hz_r_2 hf_r_2
 have hbox : (((w109.setCell ⟨g_r, 0, none⟩ (.bool tu)).setCell ⟨g_r, 1, none⟩ (.slice Au nu cu)).setCell ⟨g_r, 2, none⟩ (.slice Du ku zu)).heap[g_r]? = some (.cells #[.bool tu, .slice Au nu cu, .slice Du ku zu] 30 (0, 0)) := blk_put (blk_put (blk_put (bk_ V_r B_r N_r) 0 _ rfl) 1 _ rfl) 2 _ rfl
 have hk : Kb (fun k => k = g_r) w109 (((w109.setCell ⟨g_r, 0, none⟩ (.bool tu)).setCell ⟨g_r, 1, none⟩ (.slice Au nu cu)).setCell ⟨g_r, 2, none⟩ (.slice Du ku zu)) := (((Kb.refl (fun k => k = g_r) w109).setCell (p := ⟨g_r, 0, none⟩) (Or.inl rfl) _).setCell (p := ⟨g_r, 1, none⟩) (Or.inl rfl) _).setCell (p := ⟨g_r, 2, none⟩) (Or.inl rfl) _
 refine hK.out _ _ (by have q_ := hHeld; exact Kb.blk q_ hk (show ¬ (g_q = g_r) from fun e => by have := blk_lt V_q.out; have := O_r_q.out; omega)) (fun hHeld => ?_)
 clear hK K
 obtain ⟨w110, hw_⟩ : ∃ x, x = ((w109.setCell ⟨g_r, 0, none⟩ (.bool tu)).setCell ⟨g_r, 1, none⟩ (.slice Au nu cu)).setCell ⟨g_r, 2, none⟩ (.slice Du ku zu) := ⟨_, rfl⟩
 rw [← hw_] at hk hbox hHeld ⊢
 clear hw_
 replace HB := kb_o HB hk G_r
 replace B_u := kb_t B_u hk (fun i hi => by exact Or.inl (Or.inr hi))
 have Z_ := a0_ (Rk.kb RK.out hk (by have := HL.out; have := G_r.out; omega))
 clear RK
 have RK := Z_
 clear Z_
 clear V_r B_r
 have V_r := a0_ hbox
 have B_r := kr_ rb w110
 clear hbox hk
 refine do_ HT_ ?_
 clear HT_ HW_ hHeld
 go_wp2_with fail
 refine bodyPost_ret (results_cell_row rfl _ _ g_r 30 #[.bool tu, .slice Au nu cu, .slice Du ku zu] (0, 0) _ rfl (bk_ V_r B_r N_r) Try.underlying30 rfl (by kernel_rfl)) rfl ?_
 exact ⟨_, qs', rfl, HPM.out.1, HPM.out.2, ((Res.mono (Res.kb (S := fun k => k = rb ∨ k = g_r) V_u.out B_u.out (fun k h hs => hs.elim h.1 h.2.1)) (fun k h => h.2.2))), RK.out, HB.out⟩
end Go.Proofs.Ytgdkgahbmfhgcaa.PN
