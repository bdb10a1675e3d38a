/- What the statement rests on, part 10: WJ WF WG SM. -/
import Derived.Test.YtgdkgahbmfhgcaaR09
set_option linter.unusedVariables false
set_option linter.unusedSimpArgs false
set_option maxHeartbeats 4000000
set_option maxRecDepth 100000
namespace Go.Proofs.Ytgdkgahbmfhgcaa.PN
open Go.RowKit Go.Proofs.Ytgdkgahbmfhgcaa.NS Go.Proofs.Ytgdkgahbmfhgcaa.Limbs Go.Proofs.YtgdkgahbmfhgcaaW.PrintWords Go.Proofs.YtgdkgahbmfhgcaaW.PrintLast Go.Proofs.YtgdkgahbmfhgcaaW.PrintMore
theorem place_le (q : Rat) (c : Nat) (h0 : 0 ≤ q) (h1 : q ≤ 1) : 0 ≤ q * (c : Rat) ∧ q * (c : Rat) ≤ (c : Rat) := by
 have hc : (0 : Rat) ≤ (c : Rat) := by
  have := Rat.natCast_le_natCast.2 (Nat.zero_le c)
  exact this
 refine ⟨Rat.mul_nonneg h0 hc, ?_⟩
 have := Rat.mul_le_mul_of_nonneg_right h1 hc
 rwa [Rat.one_mul] at this
theorem place_i {p : Rat} {c : Nat} (h0 : 0 ≤ p) (h : p ≤ (c : Rat)) : p.num.natAbs / p.den ≤ c := by
 have h1 := Rat.num_nonneg.2 h0
 rw [Rat.le_iff, Rat.num_natCast, Rat.den_natCast] at h
 refine Nat.div_le_of_le_mul ?_
 have h2 : (p.num.natAbs : Int) ≤ ((p.den * c : Nat) : Int) := by rw [Int.natCast_mul, Int.mul_comm]; omega
 exact_mod_cast h2
theorem fit_rest {p : Rat} (hf : FitR p) (h0 : 0 ≤ p.num) : fit (p - ((p.num.natAbs / p.den : Nat) : Rat)) = some (p - ((p.num.natAbs / p.den : Nat) : Rat)) := by
 unfold fit
 rw [if_pos]
 rw [sub_mk, Rat.num_natCast, Rat.den_natCast]
 have hd := p.den_pos
 obtain ⟨e1, e2⟩ := mk_num (p.num * ((1 : Nat) : Int) + -((p.num.natAbs / p.den : Nat) : Int) * (p.den : Int)) (p.den * 1) (by omega)
 have hdm := Nat.div_add_mod p.num.natAbs p.den
 have hml := Nat.mod_lt p.num.natAbs hd
 have e3 : p.num * ((1 : Nat) : Int) + -((p.num.natAbs / p.den : Nat) : Int) * (p.den : Int) = ((p.num.natAbs % p.den : Nat) : Int) := by
  have : ((p.num.natAbs / p.den : Nat) : Int) * (p.den : Int) = ((p.den * (p.num.natAbs / p.den) : Nat) : Int) := by rw [Int.natCast_mul, Int.mul_comm]
  rw [Int.neg_mul, this]
  omega
 rw [e3] at e1 e2 ⊢
 refine ⟨?_, ?_⟩
 · rw [e1]
   have : (((p.num.natAbs % p.den : Nat) : Int) / ((((p.num.natAbs % p.den : Nat) : Int).natAbs.gcd (p.den * 1) : Nat) : Int)).natAbs ≤ p.num.natAbs % p.den := by
    rw [← Int.natCast_ediv]
    exact Nat.div_le_self _ _
   exact Nat.lt_of_le_of_lt this (Nat.lt_trans hml hf.2)
 · rw [e2]
   exact Nat.lt_of_le_of_lt (Nat.div_le_self _ _) (by rw [Nat.mul_one]; exact hf.2)
def lerpO (x y r : Rat) : Option Rat := doO (doO (doO false (fun x y => x - y) (some y) (some x)).isNone (fun x y => x * y) (doO false (fun x y => x - y) (some y) (some x)) (some r)).isNone (fun x y => x + y) (some x) (doO (doO false (fun x y => x - y) (some y) (some x)).isNone (fun x y => x * y) (doO false (fun x y => x - y) (some y) (some x)) (some r))
def quantO (q : Rat) (qs : List Rat) : Option Rat := match fit (q * ((qs.length - 1 : Nat) : Rat)) with
 | none => none
 | some p => if p - ((p.num.natAbs / p.den : Nat) : Rat) = 0 ∨ qs.length ≤ p.num.natAbs / p.den + 1 then some (qs.getD (p.num.natAbs / p.den) 0) else lerpO (qs.getD (p.num.natAbs / p.den) 0) (qs.getD (p.num.natAbs / p.den + 1) 0) (p - ((p.num.natAbs / p.den : Nat) : Rat))
theorem Res.isR {ok : Nat → Prop} {w : World} {v : Value} {x : Rat} (h : Res ok w v (some x)) : IsR ok w v x := h
theorem RowQ.okb {ok : Nat → Prop} {w : World} {b o n c : Nat} {qs : List Rat} (h : RowQ ok w (.slice (some ⟨b, o, none⟩) n c) qs) (h0 : 0 < n) : ok b := by
 obtain ⟨ad, cs, he, hlen, hK, hc, hok⟩ := Kd.F_get (Kd.V_F h) 0 0 (by omega) (by omega)
 injection he with he
 subst he
 exact hok (by decide)
theorem qofn_calls (n : Nat) (h1 : n ≤ 1000000) (w : World) : Calls Try.prog 12 #[.int .i64 (n : Int)] w fun e w' => (∃ v, e = .returned v ∧ IsR (fun k => w.heap.size ≤ k) w' v (n : Rat)) ∧ Below w.heap.size w w' := by
 have h := qof_calls (n : Int) (by omega) (by omega) w
 rw [Rat.intCast_natCast] at h
 exact h
theorem doB_er (a : Rat) (o : Option Rat) (g : Rat → Rat → Rat) : (o.isNone || (doO o.isNone g (some a) o).isNone) = (doO o.isNone g (some a) o).isNone := by
 cases o with
 | none => rfl
 | some y => rfl
theorem two_dom (a : Rat) (o : Option Rat) : o.isNone = false → ∃ x y, (some a : Option Rat) = some x ∧ o = some y ∧ True := fun e => by
 cases o with
 | none => cases e
 | some y => exact ⟨a, y, rfl, rfl, trivial⟩
def Quant1.T1 : Bool × List (List Nat × List Nat) := (true, [([], []), ([], []), ([], []), ([2], [2]), ([3], [3]), ([4], [4]), ([0, 1, 5, 5], [0, 1, 5]), ([], []), ([7, 6, 6, 0, 1, 2, 3, 4, 5, 6, 7], [6, 7])])
def Quant1.B1 : List Nat := [0, 0, 0, 4, 12, 28, 63, 0, 255]
theorem Quant1.tab1 : rtab .any (opsOf Try.f48 1) = Quant1.T1 := by kernel_rfl
theorem Quant1.bits1 : waitsOk Quant1.T1.2 Quant1.B1 = true := by kernel_rfl
def Quant9.T9 : Bool × List (List Nat × List Nat) := (true, [([], []), ([], []), ([], []), ([1, 2], [1, 2]), ([3], [3]), ([], []), ([], []), ([], []), ([], []), ([8], [8]), ([7, 9], [7, 9]), ([10], [10]), ([], []), ([], []), ([12, 13], [12, 13]), ([14], [14]), ([6, 11, 15], [6, 11, 15]), ([], []), ([5, 16, 17, 16], [5, 16, 17]), ([0, 4, 18, 18], [0, 4, 18]), ([19, 19, 0, 1, 2, 3, 4, 5, 6, 7, 8, 9, 10, 11, 12, 13, 14, 15, 16, 17, 18, 19], [19])])
def Quant9.B9 : List Nat := [0, 0, 0, 6, 14, 0, 0, 0, 0, 256, 896, 1920, 0, 0, 12288, 28672, 65472, 0, 262112, 524287, 1048575]
theorem Quant9.tab9 : rtab .any (opsOf Try.f48 9) = Quant9.T9 := by kernel_rfl
theorem Quant9.bits9 : waitsOk Quant9.T9.2 Quant9.B9 = true := by kernel_rfl
theorem quantile_calls {okl : Nat → Prop} (rb : Nat) (q : Rat) (qs : List Rat) (hq0 : 0 ≤ q) (hq1 : q ≤ 1) (hn : 0 < qs.length) (hsz : qs.length ≤ 1000000) (w : World) (vq vl : Value) (hr : Rk w rb false) (hq : IsR (fun k => k ≠ rb) w vq q) (hl : RowQ okl w vl qs) (hok : ∀ k, okl k → k ≠ rb) :
 Calls Try.prog 48 #[.pointer (some ⟨rb, 0, none⟩), vq, vl] w fun e w' => ∃ v, e = .returned v ∧ Res (fun k => okl k ∨ w.heap.size ≤ k) w' v (quantO q qs) ∧ Rk w' rb (quantO q qs).isNone ∧ Kb (fun k => k = rb) w w' := by
 have hu30 := Try.underlying30
 obtain ⟨Al, cl, rfl⟩ := hl.slice
 obtain ⟨nl, hnl⟩ : ∃ nl, nl = qs.length := ⟨_, rfl⟩
 obtain ⟨ans, hans⟩ : ∃ a, a = quantO q qs := ⟨_, rfl⟩
 rw [← hans]
 unfold quantO at hans
 rw [← hnl] at hl hn hsz hans ⊢
 obtain ⟨n1, hn1⟩ : ∃ n1, n1 = nl - 1 := ⟨_, rfl⟩
 rw [← hn1] at hans
 have hnl1 : nl = n1 + 1 := by omega
 have e0 : IntKind.i64.wrap ((nl : Int) - 1) = (n1 : Int) := (i64_w _).trans ((w64 (by omega) (by omega)).trans (by omega))
 have hpl := place_le q n1 hq0 hq1
 obtain ⟨o1, ho1⟩ : ∃ o1, o1 = fit (q * (n1 : Rat)) := ⟨_, rfl⟩
 rw [← ho1] at hans
 have HA := a0_ hans
 have HN := a0_ (And.intro hnl (And.intro hnl1 (And.intro hsz (And.intro hpl ho1))))
 have hl2 : RowQ (fun k => k ≠ rb ∧ (okl k ∧ k < w.heap.size)) w (.slice Al nl cl) qs := RowQ.mono' hl (fun k h1 h2 => ⟨hok k h1, h1, h2⟩)
 clear hans hnl hnl1 hpl hsz hn1 hl hok hq0 hq1 ho1
 obtain ⟨bl, ol, rfl⟩ := RowQ.some_ hl2 hn
 have hbl := a0_ (RowQ.okb hl2 hn)
 clear hn
 obtain ⟨tq, Aq, nq, cq, Dq, kq, zq, rfl⟩ := hq.agg
 have HB := kr_ rb w
 have HL := a0_ (Rk.lt hr)
 have RK := a0_ hr
 clear hr
 have V_vq := a0_ hq
 clear hq
 have B_vq := kr_ rb w
 have V_l := a0_ hl2
 clear hl2
 have B_l := kr_ rb w
 go_enter Try.func48, Try.ntmps48
 go_wp2_with (first | ((with_reducible refine gd_ 4 rfl ?_); refine bx_ (N := 4) #[.bool tq, .slice Aq nq cq, .slice Dq kq zq] 30 ?_; intro g_q hg w101 hbox hb; have G_q := kb_g HB hg; replace HB := kb_b HB hb; replace B_vq := kb_b B_vq hb; replace B_l := kb_b B_l hb; replace RK := rk_b RK hb; clear hb; have V_q := a0_ hbox; have B_q := kr_ rb w101; have N_q : Aside0 (¬ (fun k => k = rb) g_q) := ⟨by show ¬ (_ = _); have := HL.out; have := G_q.out; omega⟩; clear hbox hg) | ((with_reducible refine gd_ 6 rfl ?_); refine bx_ (N := 6) #[.bool false, .slice none 0 0, .slice none 0 0] 30 ?_; intro g_r hg w102 hbox hb; have G_r := kb_g HB hg; replace HB := kb_b HB hb; replace B_vq := kb_b B_vq hb; replace B_l := kb_b B_l hb; replace B_q := kb_b B_q hb; replace RK := rk_b RK hb; clear hb; have V_r := a0_ hbox; have B_r := kr_ rb w102; have N_r : Aside0 (¬ (fun k => k = rb) g_r) := ⟨by show ¬ (_ = _); have := HL.out; have := G_r.out; omega⟩; clear hbox hg))
 have hb : Below w102.heap.size w102 w102.drew := below_drew1 (Below.refl _ _)
 replace HB := kb_b HB hb
 replace B_vq := kb_b B_vq hb
 replace B_l := kb_b B_l hb
 replace B_q := kb_b B_q hb
 replace B_r := kb_b B_r hb
 replace RK := rk_b RK hb
 clear hb
 refine start_ (n := 9) (S := fun w' => w'.heap[g_q]? = some (.cells #[.bool tq, .slice Aq nq cq, .slice Dq kq zq] 30 (0, 0))) (ds := []) (tB_ 9 0) (by kernel_rfl) rfl (by kernel_rfl) (bk_ V_q B_q N_q) (fun hHeld => ?_)
 refine with_tabW Quant1.tab1 Quant1.bits1 (fun HT_ HW_ => ?_)
 generalize w102.drew = w103 at HB RK B_vq B_l B_q B_r hHeld ⊢
 refine pu_ 0 (some 13) 1 HT_ ?_
 refine tk_ 1 (some 14) 3 HT_ HW_ hHeld ?_ ?_ ?_ ?_ ?_
 rotate_left
 · intro w' hs
   have hb_ := hs
   obtain ⟨c0_, c1_, c2_⟩ := b3_ hb_
   clear hb_ hs
   go_simp
   with_reducible rfl
 rotate_left
 · simp only [PU]
   rfl
 refine pu_ 2 (some 15) 7 HT_ ?_
 refine pu_ 3 (some 16) 15 HT_ ?_
 refine pu_ 4 (some 17) 31 HT_ ?_
 have B_z0 := kr_ rb w103
 refine join_ (σ := Value × Value × Value) 1 (tB_ 9 255) (fun s => [(18, s.1), (19, s.2.1), (7, s.2.2)]) (fun s w' => (∃ (tx : Bool) (Ax : Option Addr) (nx cx : Nat) (Dx : Option Addr) (kx zx : Nat), s.2.1 = .agg #[.bool tx, .slice Ax nx cx, .slice Dx kx zx]) ∧ (∃ g_p, s.2.2 = .pointer (some ⟨g_p, 0, none⟩) ∧ w'.heap[g_p]? = some (.cells #[.bool false, .slice none 0 0, .slice none 0 0] 30 (0, 0)) ∧ w103.heap.size ≤ g_p ∧ Res (fun k => k ≠ rb ∧ k ≠ g_r ∧ k ≠ g_p) w' s.2.1 o1) ∧ Rk w' rb o1.isNone ∧ Kb (fun k => k = rb) w103 w' ∧ (w'.heap[g_q]? = some (.cells #[.bool tq, .slice Aq nq cq, .slice Dq kq zq] 30 (0, 0)))) ?hcont1 ?hord1
 rotate_left
 · intro HC
   refine tw_ 5 7 (some 18) (some 7) 63 159 HT_ (fun K hK => ?_) (fun K hK => ?_)
   · skip
     refine gs_ Try.func12 #[.int .i64 (n1 : Int)] ?_
     refine (qofn_calls n1 (by have := HN.out.2.1; have := HN.out.2.2.1; omega) _).mono ?_
     rintro e w104 ⟨⟨v18, rfl, hv⟩, hb⟩
     obtain ⟨tu, Au, nu, cu, Du, ku, zu, rfl⟩ := hv.agg
     refine ⟨_, rfl, ?_⟩
     refine hK.out _ _ (by exact blk_below hHeld hb) (fun hHeld => ?_)
     clear hK K
     refine nm_ (some 18) ?_
     have hle := Kb.size HB.out
     have hv_ := IsR.mono' (ok' := fun k => k ≠ rb) hv (fun k hk _ => by have := HL.out; omega)
     clear hv hle
     replace HB := kb_b HB hb
     replace B_vq := kb_b B_vq hb
     replace B_l := kb_b B_l hb
     replace B_q := kb_b B_q hb
     replace B_r := kb_b B_r hb
     replace B_z0 := kb_b B_z0 hb
     replace RK := rk_b RK hb
     clear hb
     have V_u := a0_ hv_
     clear hv_
     have B_u := kr_ rb w104
     refine tw_ 6 7 (some 19) (some 7) 127 191 HT_ (fun K hK => ?_) (fun K hK => ?_)
     · skip
       refine gs_ Try.func45 #[.pointer (some ⟨rb, 0, none⟩), .func (.func 19) #[] #[], .agg #[.bool tq, .slice Aq nq cq, .slice Dq kq zq], .agg #[.bool tu, .slice Au nu cu, .slice Du ku zu]] ?_
       refine (do_calls qmul_op (enters_run (enters_of (P := Try.prog) Try.func19 (by kernel_rfl) rfl)) rb _ _ _ q (n1 : Rat) trivial RK.out (IsR.kb (S := fun k => k = rb) V_vq.out B_vq.out (fun _ h => h)) (IsR.kb (S := fun k => k = rb) V_u.out B_u.out (fun _ h => h))).mono ?_
       rintro e w105 ⟨v19, rfl, hv, hrk, hk⟩
       obtain ⟨tx, Ax, nx, cx, Dx, kx, zx, rfl⟩ := hv.agg
       have hfo := HN.out.2.2.2.2
       rw [← hfo] at hv hrk
       clear hfo
       refine ⟨_, rfl, ?_⟩
       refine hK.out _ _ (by exact Kb.blk hHeld hk N_q.out) (fun hHeld => ?_)
       clear hK K
       refine nm_ (some 19) ?_
       have hle := Kb.size HB.out
       have hl_r := blk_lt (bk_ V_r B_r N_r)
       have hv_ := Res.mono' (ok' := fun k => k ≠ rb ∧ k ≠ g_r) hv (fun k hk _ => by have := HL.out; refine ⟨?_, ?_⟩ <;> omega)
       clear hv hle hl_r
       clear RK
       have RK := a0_ hrk
       clear hrk
       replace HB := kb_t HB hk (fun i hi => Or.inl hi)
       replace B_vq := kb_t B_vq hk (fun i hi => Or.inl hi)
       replace B_l := kb_t B_l hk (fun i hi => Or.inl hi)
       replace B_q := kb_t B_q hk (fun i hi => Or.inl hi)
       replace B_r := kb_t B_r hk (fun i hi => Or.inl hi)
       replace B_z0 := kb_t B_z0 hk (fun i hi => Or.inl hi)
       replace B_u := kb_t B_u hk (fun i hi => Or.inl hi)
       clear hk
       have V_vp := a0_ hv_
       clear hv_
       have B_vp := a0_ (Kb.refl (fun k => k = rb ∨ k = g_r) w105)
       refine on_ 7 (some 7) 255 HT_ (fun K hK => ?_)
       refine vl_ ?_
       refine hK.out _ _ (by exact blk_below hHeld (below_alloc (Below.refl _ _) _)) (fun hHeld => ?_)
       clear hK K
       refine nm_ (some 7) ?_
       have hb : Below w105.heap.size w105 (w105.alloc (.cells #[.bool false, .slice none 0 0, .slice none 0 0] 30 (0, 0))) := below_alloc (Below.refl _ _) _
       have hbox : (w105.alloc (.cells #[.bool false, .slice none 0 0, .slice none 0 0] 30 (0, 0))).heap[w105.heap.size]? = some (.cells #[.bool false, .slice none 0 0, .slice none 0 0] 30 (0, 0)) := blk_new w105 _
       obtain ⟨w106, hw_⟩ : ∃ x, x = w105.alloc (.cells #[.bool false, .slice none 0 0, .slice none 0 0] 30 (0, 0)) := ⟨_, rfl⟩
       rw [← hw_] at hb hbox hHeld ⊢
       clear hw_
       obtain ⟨g_p, hg⟩ : ∃ x, x = w105.heap.size := ⟨_, rfl⟩
       rw [← hg] at hbox ⊢
       have G_p := kb_g HB hg
       have O_p_vq := kb_g B_vq hg
       have O_p_l := kb_g B_l hg
       have O_p_q := kb_g B_q hg
       have O_p_r := kb_g B_r hg
       have O_p_z0 := kb_g B_z0 hg
       have O_p_vp := kb_g B_vp hg
       replace HB := kb_b HB hb
       replace B_vq := kb_b B_vq hb
       replace B_l := kb_b B_l hb
       replace B_q := kb_b B_q hb
       replace B_r := kb_b B_r hb
       replace B_z0 := kb_b B_z0 hb
       replace B_u := kb_b B_u hb
       replace B_vp := kb_b B_vp hb
       replace RK := rk_b RK hb
       clear hb
       have V_p := a0_ hbox
       have B_p := kr_ rb w106
       have N_p : Aside0 (¬ (fun k => k = rb) g_p) := ⟨by show ¬ (_ = _); have := HL.out; have := G_p.out; omega⟩
       clear hbox hg
       exact HC (.agg #[.bool tu, .slice Au nu cu, .slice Du ku zu], .agg #[.bool tx, .slice Ax nx cx, .slice Dx kx zx], .pointer (some ⟨g_p, 0, none⟩)) _ ⟨⟨_, _, _, _, _, _, _, rfl⟩, ⟨g_p, rfl, bk_ V_p B_p N_p, O_p_z0.out, Res.kb (S := fun k => k = rb ∨ k = g_r) (Res.mono' (ok' := fun k => k ≠ rb ∧ k ≠ g_r ∧ k ≠ g_p) V_vp.out (fun k h hl => ⟨h.1, h.2, fun e => by have := O_p_vp.out; omega⟩)) B_vp.out (fun k h hs => hs.elim h.1 h.2.1)⟩, RK.out, B_z0.out, hHeld⟩
     · skip
       refine vl_ ?_
       refine hK.out _ _ (by exact blk_below hHeld (below_alloc (Below.refl _ _) _)) (fun hHeld => ?_)
       clear hK K
       refine nm_ (some 7) ?_
       have hb : Below w104.heap.size w104 (w104.alloc (.cells #[.bool false, .slice none 0 0, .slice none 0 0] 30 (0, 0))) := below_alloc (Below.refl _ _) _
       have hbox : (w104.alloc (.cells #[.bool false, .slice none 0 0, .slice none 0 0] 30 (0, 0))).heap[w104.heap.size]? = some (.cells #[.bool false, .slice none 0 0, .slice none 0 0] 30 (0, 0)) := blk_new w104 _
       obtain ⟨w105, hw_⟩ : ∃ x, x = w104.alloc (.cells #[.bool false, .slice none 0 0, .slice none 0 0] 30 (0, 0)) := ⟨_, rfl⟩
       rw [← hw_] at hb hbox hHeld ⊢
       clear hw_
       obtain ⟨g_p, hg⟩ : ∃ x, x = w104.heap.size := ⟨_, rfl⟩
       rw [← hg] at hbox ⊢
       have G_p := kb_g HB hg
       have O_p_vq := kb_g B_vq hg
       have O_p_l := kb_g B_l hg
       have O_p_q := kb_g B_q hg
       have O_p_r := kb_g B_r hg
       have O_p_z0 := kb_g B_z0 hg
       replace HB := kb_b HB hb
       replace B_vq := kb_b B_vq hb
       replace B_l := kb_b B_l hb
       replace B_q := kb_b B_q hb
       replace B_r := kb_b B_r hb
       replace B_z0 := kb_b B_z0 hb
       replace B_u := kb_b B_u hb
       replace RK := rk_b RK hb
       clear hb
       have V_p := a0_ hbox
       have B_p := kr_ rb w105
       have N_p : Aside0 (¬ (fun k => k = rb) g_p) := ⟨by show ¬ (_ = _); have := HL.out; have := G_p.out; omega⟩
       clear hbox hg
       refine on_ 6 (some 19) 255 HT_ (fun K hK => ?_)
       refine gs_ Try.func45 #[.pointer (some ⟨rb, 0, none⟩), .func (.func 19) #[] #[], .agg #[.bool tq, .slice Aq nq cq, .slice Dq kq zq], .agg #[.bool tu, .slice Au nu cu, .slice Du ku zu]] ?_
       refine (do_calls qmul_op (enters_run (enters_of (P := Try.prog) Try.func19 (by kernel_rfl) rfl)) rb _ _ _ q (n1 : Rat) trivial RK.out (IsR.kb (S := fun k => k = rb) V_vq.out B_vq.out (fun _ h => h)) (IsR.kb (S := fun k => k = rb) V_u.out B_u.out (fun _ h => h))).mono ?_
       rintro e w106 ⟨v19, rfl, hv, hrk, hk⟩
       obtain ⟨tx, Ax, nx, cx, Dx, kx, zx, rfl⟩ := hv.agg
       have hfo := HN.out.2.2.2.2
       rw [← hfo] at hv hrk
       clear hfo
       refine ⟨_, rfl, ?_⟩
       refine hK.out _ _ (by exact Kb.blk hHeld hk N_q.out) (fun hHeld => ?_)
       clear hK K
       refine nm_ (some 19) ?_
       have hle := Kb.size HB.out
       have hl_r := blk_lt (bk_ V_r B_r N_r)
       have hl_p := blk_lt (bk_ V_p B_p N_p)
       have hv_ := Res.mono' (ok' := fun k => k ≠ rb ∧ k ≠ g_r ∧ k ≠ g_p) hv (fun k hk _ => by have := HL.out; refine ⟨?_, ?_, ?_⟩ <;> omega)
       clear hv hle hl_r hl_p
       clear RK
       have RK := a0_ hrk
       clear hrk
       replace HB := kb_t HB hk (fun i hi => Or.inl hi)
       replace B_vq := kb_t B_vq hk (fun i hi => Or.inl hi)
       replace B_l := kb_t B_l hk (fun i hi => Or.inl hi)
       replace B_q := kb_t B_q hk (fun i hi => Or.inl hi)
       replace B_r := kb_t B_r hk (fun i hi => Or.inl hi)
       replace B_z0 := kb_t B_z0 hk (fun i hi => Or.inl hi)
       replace B_u := kb_t B_u hk (fun i hi => Or.inl hi)
       replace B_p := kb_t B_p hk (fun i hi => Or.inl hi)
       clear hk
       have V_vp := a0_ hv_
       clear hv_
       have B_vp := a0_ (Kb.refl (fun k => k = rb ∨ k = g_r ∨ k = g_p) w106)
       exact HC (.agg #[.bool tu, .slice Au nu cu, .slice Du ku zu], .agg #[.bool tx, .slice Ax nx cx, .slice Dx kx zx], .pointer (some ⟨g_p, 0, none⟩)) _ ⟨⟨_, _, _, _, _, _, _, rfl⟩, ⟨g_p, rfl, bk_ V_p B_p N_p, O_p_z0.out, Res.kb (S := fun k => k = rb ∨ k = g_r ∨ k = g_p) V_vp.out B_vp.out (fun k h hs => hs.elim h.1 (fun hs2 => hs2.elim h.2.1 h.2.2))⟩, RK.out, B_z0.out, hHeld⟩
   · skip
     refine vl_ ?_
     refine hK.out _ _ (by exact blk_below hHeld (below_alloc (Below.refl _ _) _)) (fun hHeld => ?_)
     clear hK K
     refine nm_ (some 7) ?_
     have hb : Below w103.heap.size w103 (w103.alloc (.cells #[.bool false, .slice none 0 0, .slice none 0 0] 30 (0, 0))) := below_alloc (Below.refl _ _) _
     have hbox : (w103.alloc (.cells #[.bool false, .slice none 0 0, .slice none 0 0] 30 (0, 0))).heap[w103.heap.size]? = some (.cells #[.bool false, .slice none 0 0, .slice none 0 0] 30 (0, 0)) := blk_new w103 _
     obtain ⟨w104, hw_⟩ : ∃ x, x = w103.alloc (.cells #[.bool false, .slice none 0 0, .slice none 0 0] 30 (0, 0)) := ⟨_, rfl⟩
     rw [← hw_] at hb hbox hHeld ⊢
     clear hw_
     obtain ⟨g_p, hg⟩ : ∃ x, x = w103.heap.size := ⟨_, rfl⟩
     rw [← hg] at hbox ⊢
     have G_p := kb_g HB hg
     have O_p_vq := kb_g B_vq hg
     have O_p_l := kb_g B_l hg
     have O_p_q := kb_g B_q hg
     have O_p_r := kb_g B_r hg
     have O_p_z0 := kb_g B_z0 hg
     replace HB := kb_b HB hb
     replace B_vq := kb_b B_vq hb
     replace B_l := kb_b B_l hb
     replace B_q := kb_b B_q hb
     replace B_r := kb_b B_r hb
     replace B_z0 := kb_b B_z0 hb
     replace RK := rk_b RK hb
     clear hb
     have V_p := a0_ hbox
     have B_p := kr_ rb w104
     have N_p : Aside0 (¬ (fun k => k = rb) g_p) := ⟨by show ¬ (_ = _); have := HL.out; have := G_p.out; omega⟩
     clear hbox hg
     refine on_ 5 (some 18) 191 HT_ (fun K hK => ?_)
     refine gs_ Try.func12 #[.int .i64 (n1 : Int)] ?_
     refine (qofn_calls n1 (by have := HN.out.2.1; have := HN.out.2.2.1; omega) _).mono ?_
     rintro e w105 ⟨⟨v18, rfl, hv⟩, hb⟩
     obtain ⟨tu, Au, nu, cu, Du, ku, zu, rfl⟩ := hv.agg
     refine ⟨_, rfl, ?_⟩
     refine hK.out _ _ (by exact blk_below hHeld hb) (fun hHeld => ?_)
     clear hK K
     refine nm_ (some 18) ?_
     have hle := Kb.size HB.out
     have hv_ := IsR.mono' (ok' := fun k => k ≠ rb) hv (fun k hk _ => by have := HL.out; omega)
     clear hv hle
     replace HB := kb_b HB hb
     replace B_vq := kb_b B_vq hb
     replace B_l := kb_b B_l hb
     replace B_q := kb_b B_q hb
     replace B_r := kb_b B_r hb
     replace B_z0 := kb_b B_z0 hb
     replace B_p := kb_b B_p hb
     replace RK := rk_b RK hb
     clear hb
     have V_u := a0_ hv_
     clear hv_
     have B_u := kr_ rb w105
     refine on_ 6 (some 19) 255 HT_ (fun K hK => ?_)
     refine gs_ Try.func45 #[.pointer (some ⟨rb, 0, none⟩), .func (.func 19) #[] #[], .agg #[.bool tq, .slice Aq nq cq, .slice Dq kq zq], .agg #[.bool tu, .slice Au nu cu, .slice Du ku zu]] ?_
     refine (do_calls qmul_op (enters_run (enters_of (P := Try.prog) Try.func19 (by kernel_rfl) rfl)) rb _ _ _ q (n1 : Rat) trivial RK.out (IsR.kb (S := fun k => k = rb) V_vq.out B_vq.out (fun _ h => h)) (IsR.kb (S := fun k => k = rb) V_u.out B_u.out (fun _ h => h))).mono ?_
     rintro e w106 ⟨v19, rfl, hv, hrk, hk⟩
     obtain ⟨tx, Ax, nx, cx, Dx, kx, zx, rfl⟩ := hv.agg
     have hfo := HN.out.2.2.2.2
     rw [← hfo] at hv hrk
     clear hfo
     refine ⟨_, rfl, ?_⟩
     refine hK.out _ _ (by exact Kb.blk hHeld hk N_q.out) (fun hHeld => ?_)
     clear hK K
     refine nm_ (some 19) ?_
     have hle := Kb.size HB.out
     have hl_r := blk_lt (bk_ V_r B_r N_r)
     have hl_p := blk_lt (bk_ V_p B_p N_p)
     have hv_ := Res.mono' (ok' := fun k => k ≠ rb ∧ k ≠ g_r ∧ k ≠ g_p) hv (fun k hk _ => by have := HL.out; refine ⟨?_, ?_, ?_⟩ <;> omega)
     clear hv hle hl_r hl_p
     clear RK
     have RK := a0_ hrk
     clear hrk
     replace HB := kb_t HB hk (fun i hi => Or.inl hi)
     replace B_vq := kb_t B_vq hk (fun i hi => Or.inl hi)
     replace B_l := kb_t B_l hk (fun i hi => Or.inl hi)
     replace B_q := kb_t B_q hk (fun i hi => Or.inl hi)
     replace B_r := kb_t B_r hk (fun i hi => Or.inl hi)
     replace B_z0 := kb_t B_z0 hk (fun i hi => Or.inl hi)
     replace B_p := kb_t B_p hk (fun i hi => Or.inl hi)
     replace B_u := kb_t B_u hk (fun i hi => Or.inl hi)
     clear hk
     have V_vp := a0_ hv_
     clear hv_
     have B_vp := a0_ (Kb.refl (fun k => k = rb ∨ k = g_r ∨ k = g_p) w106)
     exact HC (.agg #[.bool tu, .slice Au nu cu, .slice Du ku zu], .agg #[.bool tx, .slice Ax nx cx, .slice Dx kx zx], .pointer (some ⟨g_p, 0, none⟩)) _ ⟨⟨_, _, _, _, _, _, _, rfl⟩, ⟨g_p, rfl, bk_ V_p B_p N_p, O_p_z0.out, Res.kb (S := fun k => k = rb ∨ k = g_r ∨ k = g_p) V_vp.out B_vp.out (fun k h hs => hs.elim h.1 (fun hs2 => hs2.elim h.2.1 h.2.2))⟩, RK.out, B_z0.out, hHeld⟩
 rintro ⟨v18, v19, v7⟩ w124 ⟨⟨tx, Ax, nx, cx, Dx, kx, zx, rfl⟩, ⟨g_p, rfl, hbox, hO, hres⟩, hrk, hk, hHeld⟩
 refine norm_ (a' := ?_) ?_ ?_
 rotate_left
 · simp only [putAll, PU]
   rfl
 have O_p_vq : Aside0 (w.heap.size ≤ g_p) := ⟨Nat.le_trans (Kb.size B_vq.out) hO⟩
 have O_p_l : Aside0 (w.heap.size ≤ g_p) := ⟨Nat.le_trans (Kb.size B_l.out) hO⟩
 have O_p_q : Aside0 (w101.heap.size ≤ g_p) := ⟨Nat.le_trans (Kb.size B_q.out) hO⟩
 have O_p_r : Aside0 (w102.heap.size ≤ g_p) := ⟨Nat.le_trans (Kb.size B_r.out) hO⟩
 have G_p : Aside0 (w.heap.size ≤ g_p) := ⟨Nat.le_trans (Kb.size HB.out) hO⟩
 clear B_z0 hO
 replace HB := kb_t HB hk (fun i hi => Or.inl hi)
 replace B_vq := kb_t B_vq hk (fun i hi => Or.inl hi)
 replace B_l := kb_t B_l hk (fun i hi => Or.inl hi)
 replace B_q := kb_t B_q hk (fun i hi => Or.inl hi)
 replace B_r := kb_t B_r hk (fun i hi => Or.inl hi)
 clear hk
 clear RK
 have RK := a0_ hrk
 clear hrk
 have V_p := a0_ hbox
 have B_p := kr_ rb w124
 have N_p : Aside0 (¬ (fun k => k = rb) g_p) := ⟨by show ¬ (_ = _); have := HL.out; have := G_p.out; omega⟩
 clear hbox
 have V_vp := a0_ hres
 clear hres
 have B_vp := a0_ (Kb.refl (fun k => k = rb ∨ k = g_r ∨ k = g_p) w124)
 refine on_ 8 none 511 HT_ (fun K hK => ?_)
 have bk_p := bk_ V_p B_p N_p
 have hz_p_0 : w124.cell? ⟨g_p, 0, none⟩ = some (.bool false) := (blk_cell bk_p 0).trans rfl
 have hf_p_0 := blk_frozen bk_p 0
 have hz_p_1 : w124.cell? ⟨g_p, 1, none⟩ = some (.slice none 0 0) := (blk_cell bk_p 1).trans rfl
 have hf_p_1 := blk_frozen bk_p 1
 have hz_p_2 : w124.cell? ⟨g_p, 2, none⟩ = some (.slice none 0 0) := (blk_cell bk_p 2).trans rfl
 have hf_p_2 := blk_frozen bk_p 2
 clear bk_p
 refine skip_ (w1 := ((w124.setCell ⟨g_p, 0, none⟩ (.bool tx)).setCell ⟨g_p, 1, none⟩ (.slice Ax nx cx)).setCell ⟨g_p, 2, none⟩ (.slice Dx kx zx)) (by rfl) rfl ?_ ?_
 · first | (go_simp; done) | (go_simp; rfl)
 clear hz_p_0 hf_p_0 hz_p_1 hf_p_1 hz_p_2 hf_p_2
 have hbox : (((w124.setCell ⟨g_p, 0, none⟩ (.bool tx)).setCell ⟨g_p, 1, none⟩ (.slice Ax nx cx)).setCell ⟨g_p, 2, none⟩ (.slice Dx kx zx)).heap[g_p]? = some (.cells #[.bool tx, .slice Ax nx cx, .slice Dx kx zx] 30 (0, 0)) := blk_put (blk_put (blk_put (bk_ V_p B_p N_p) 0 _ rfl) 1 _ rfl) 2 _ rfl
 have hk : Kb (fun k => k = g_p) w124 (((w124.setCell ⟨g_p, 0, none⟩ (.bool tx)).setCell ⟨g_p, 1, none⟩ (.slice Ax nx cx)).setCell ⟨g_p, 2, none⟩ (.slice Dx kx zx)) := (((Kb.refl (fun k => k = g_p) w124).setCell (p := ⟨g_p, 0, none⟩) (Or.inl rfl) _).setCell (p := ⟨g_p, 1, none⟩) (Or.inl rfl) _).setCell (p := ⟨g_p, 2, none⟩) (Or.inl rfl) _
 refine hK.out _ _ (by have q_ := hHeld; exact Kb.blk q_ hk (show ¬ (g_q = g_p) from fun e => by have := blk_lt V_q.out; have := O_p_q.out; omega)) (fun hHeld => ?_)
 clear hK K
 obtain ⟨w125, hw_⟩ : ∃ x, x = ((w124.setCell ⟨g_p, 0, none⟩ (.bool tx)).setCell ⟨g_p, 1, none⟩ (.slice Ax nx cx)).setCell ⟨g_p, 2, none⟩ (.slice Dx kx zx) := ⟨_, rfl⟩
 rw [← hw_] at hk hbox hHeld ⊢
 clear hw_
 replace HB := kb_o HB hk G_p
 replace B_vq := kb_o B_vq hk O_p_vq
 replace B_l := kb_o B_l hk O_p_l
 replace B_q := kb_o B_q hk O_p_q
 replace B_r := kb_o B_r hk O_p_r
 replace B_vp := kb_t B_vp hk (fun i hi => by exact Or.inl (Or.inr (Or.inr hi)))
 have Z_ := a0_ (Rk.kb RK.out hk (by have := HL.out; have := G_p.out; omega))
 clear RK
 have RK := Z_
 clear Z_
 clear V_p B_p
 have V_p := a0_ hbox
 have B_p := kr_ rb w125
 clear hbox hk
 refine do_ HT_ ?_
 clear HT_ HW_ hHeld
 clear V_vq B_vq
 clear V_q B_q
 cases o1 with
 | none =>
  have ha : ans = none := HA.out
  have HA2 := a0_ ha
  clear ha
  have RK2 : Aside0 (Rk w125 rb true) := ⟨RK.out⟩
  clear RK
  have RK := RK2
  clear RK2
  have hz_rk := Rk.cell RK.out
  have hf_rk := Rk.frozen RK.out
  simp only [if_true] at hz_rk
  clear V_l B_l
  clear V_vp B_vp V_p B_p
  go_wp2_with (first | ((with_reducible refine gt_ 30 6 25 rfl ?_); refine store_ev (p := .tmp 6) (v := .tmp 25) rfl rfl rfl (g := g_r) rfl rfl (bk_ V_r B_r N_r) ?_; intro w126 hbox hk; replace HB := kb_o HB hk G_r; have Z_ := a0_ (Rk.kb RK.out hk (by have := HL.out; have := G_r.out; omega)); clear RK; have RK := Z_; clear Z_; clear V_r B_r; have V_r := a0_ hbox; have B_r := kr_ rb w126; clear hbox hk))
  refine bodyPost_ret (results_cell_row rfl _ _ g_r 30 #[.bool false, .slice none 0 0, .slice none 0 0] (0, 0) _ rfl (bk_ V_r B_r N_r) Try.underlying30 rfl (by kernel_rfl)) rfl ?_
  exact ⟨_, rfl, by rw [HA2.out]; exact ⟨_, _, rfl, by rw [limbs_zero]; exact Kd.V_nil _ _ _ _ _, by rw [limbs_zero]; exact Kd.V_nil _ _ _ _ _⟩, by rw [HA2.out]; exact RK.out, HB.out⟩
 | some p =>
  have RK2 : Aside0 (Rk w125 rb false) := ⟨RK.out⟩
  clear RK
  have RK := RK2
  clear RK2
  have V2 := a0_ (Res.isR V_vp.out)
  clear V_vp
  have V_vp := V2
  clear V2
  have hpq : p = q * (n1 : Rat) ∧ FitR p := by
   have h := HN.out.2.2.2.2
   unfold fit at h
   by_cases hf : FitR (q * (n1 : Rat))
   · rw [if_pos hf] at h
     have h2 := Option.some.inj h
     exact ⟨h2, by rw [h2]; exact hf⟩
   · rw [if_neg hf] at h
     cases h
  have hp0 : 0 ≤ p := by rw [hpq.1]; exact HN.out.2.2.2.1.1
  have hpn : p ≤ (n1 : Rat) := by rw [hpq.1]; exact HN.out.2.2.2.1.2
  have hpm := Rat.num_nonneg.2 hp0
  obtain ⟨i, hi⟩ : ∃ i, i = p.num.natAbs / p.den := ⟨_, rfl⟩
  have hin : i ≤ n1 := by rw [hi]; exact place_i hp0 hpn
  obtain ⟨r, hr⟩ : ∃ r, r = p - (i : Rat) := ⟨_, rfl⟩
  have hfr : fit (p - (i : Rat)) = some r := by rw [hr, hi]; exact fit_rest hpq.2 hpm
  have ha : ans = if r = 0 ∨ nl ≤ i + 1 then some (qs.getD i 0) else lerpO (qs.getD i 0) (qs.getD (i + 1) 0) r := by
   have h := HA.out
   simp only at h
   rw [← hi, ← hr] at h
   exact h
  have HP := a0_ (And.intro hpm (And.intro hi (And.intro hin (And.intro hfr ha))))
  have hil : i < nl := by have := HN.out.2.1; omega
  have hi32 : i < 4294967296 := by have := HN.out.2.2.1; omega
  have e1 : IntKind.i64.wrap ((i : Int) + 1) = ((i + 1 : Nat) : Int) := (i64_w _).trans ((w64 (by omega) (by omega)).trans (by omega))
  have hilz : (i : Int) < (nl : Int) := by omega
  have HI := a0_ (And.intro hil hi32)
  clear hpq hp0 hpn hpm hi hin hr hfr ha hil hi32
  have hz_rk := Rk.cell RK.out
  have hf_rk := Rk.frozen RK.out
  simp only [Bool.false_eq_true, if_false] at hz_rk
  go_wp2_with (first | ((with_reducible refine gd_ 27 rfl ?_); refine load_ev rfl rfl (g := g_p) rfl (bk_ V_p B_p N_p) ?_))
  clear hz_rk hf_rk
  with_reducible refine (qfloor_calls p HP.out.1 _ _ (IsR.mono (IsR.kb (S := fun k => k = rb ∨ k = g_r ∨ k = g_p) V_vp.out B_vp.out (fun k h hs => hs.elim h.1 (fun hs2 => hs2.elim h.2.1 h.2.2))) (fun k h => h.1))).mono ?_
  rw [← HP.out.2.1]
  rintro e w126 ⟨⟨v, rfl, hv⟩, hb⟩
  obtain ⟨tf, Af, nf, cf, Df, kf, zf, rfl⟩ := hv.agg
  have hle := Kb.size HB.out
  have hl_r := blk_lt (bk_ V_r B_r N_r)
  have hv_ := IsR.mono' (ok' := fun k => k ≠ rb ∧ k ≠ g_r) hv (fun k hk _ => by have := HL.out; refine ⟨?_, ?_⟩ <;> omega)
  clear hv hle hl_r
  replace HB := kb_b HB hb
  replace B_l := kb_b B_l hb
  replace B_r := kb_b B_r hb
  replace B_p := kb_b B_p hb
  replace B_vp := kb_b B_vp hb
  replace RK := rk_b RK hb
  clear hb
  have V_vf := a0_ hv_
  clear hv_
  have B_vf := a0_ (Kb.refl (fun k => k = rb ∨ k = g_r) w126)
  go_wp2_with (first | ((with_reducible refine gd_ 8 rfl ?_); refine bx_ (N := 8) #[.bool false, .slice none 0 0, .slice none 0 0] 30 ?_; intro g_f hg w127 hbox hb; have G_f := kb_g HB hg; have O_f_l := kb_g B_l hg; have O_f_r := kb_g B_r hg; have O_f_p := kb_g B_p hg; have O_f_vp := kb_g B_vp hg; have O_f_vf := kb_g B_vf hg; replace HB := kb_b HB hb; replace B_l := kb_b B_l hb; replace B_r := kb_b B_r hb; replace B_p := kb_b B_p hb; replace B_vp := kb_b B_vp hb; replace B_vf := kb_b B_vf hb; replace RK := rk_b RK hb; clear hb; have V_f := a0_ hbox; have B_f := kr_ rb w127; have N_f : Aside0 (¬ (fun k => k = rb) g_f) := ⟨by show ¬ (_ = _); have := HL.out; have := G_f.out; omega⟩; clear hbox hg) | ((with_reducible refine gt_ 30 8 29 rfl ?_); refine store_ev (p := .tmp 8) (v := .tmp 29) rfl rfl rfl (g := g_f) rfl rfl (bk_ V_f B_f N_f) ?_; intro w128 hbox hk; replace HB := kb_o HB hk G_f; replace B_l := kb_o B_l hk O_f_l; replace B_r := kb_o B_r hk O_f_r; replace B_p := kb_o B_p hk O_f_p; replace B_vp := kb_o B_vp hk O_f_vp; replace B_vf := kb_o B_vf hk O_f_vf; have Z_ := a0_ (Rk.kb RK.out hk (by have := HL.out; have := G_f.out; omega)); clear RK; have RK := Z_; clear Z_; clear V_f B_f; have V_f := a0_ hbox; have B_f := kr_ rb w128; clear hbox hk) | ((with_reducible refine gd_ 32 rfl ?_); refine load_ev rfl rfl (g := g_f) rfl (bk_ V_f B_f N_f) ?_))
  with_reducible refine (qwhole_calls i HI.out.2 _ _ (IsR.mono (IsR.kb (S := fun k => k = rb ∨ k = g_r) V_vf.out B_vf.out (fun k h hs => hs.elim h.1 h.2)) (fun k h => h.1))).mono ?_
  rintro e w129 ⟨rfl, hb⟩
  replace HB := kb_b HB hb
  replace B_l := kb_b B_l hb
  replace B_r := kb_b B_r hb
  replace B_p := kb_b B_p hb
  replace B_vp := kb_b B_vp hb
  replace B_vf := kb_b B_vf hb
  replace B_f := kb_b B_f hb
  replace RK := rk_b RK hb
  clear hb
  go_wp2_with (first | ((with_reducible refine gd_ 37 rfl ?_); refine load_ev rfl rfl (g := g_p) rfl (bk_ V_p B_p N_p) ?_) | ((with_reducible refine gd_ 38 rfl ?_); refine load_ev rfl rfl (g := g_f) rfl (bk_ V_f B_f N_f) ?_))
  with_reducible refine (do_calls qsub_op (enters_run (enters_of (P := Try.prog) Try.func59 (by kernel_rfl) rfl)) rb _ _ _ p (i : Rat) trivial RK.out (IsR.mono (IsR.kb (S := fun k => k = rb ∨ k = g_r ∨ k = g_p) V_vp.out B_vp.out (fun k h hs => hs.elim h.1 (fun hs2 => hs2.elim h.2.1 h.2.2))) (fun k h => h.1)) (IsR.mono (IsR.kb (S := fun k => k = rb ∨ k = g_r) V_vf.out B_vf.out (fun k h hs => hs.elim h.1 h.2)) (fun k h => h.1))).mono ?_
  rw [HP.out.2.2.2.1]
  rintro e w130 ⟨v, rfl, hv, hrk, hk⟩
  obtain ⟨ts, As, ns, cs, Ds, ks, zs, rfl⟩ := hv.agg
  have hv : IsR _ _ _ r := hv
  clear RK
  have RK : Aside0 (Rk w130 rb false) := ⟨hrk⟩
  clear hrk
  have hle := Kb.size HB.out
  have hl_r := blk_lt (bk_ V_r B_r N_r)
  have hv_ := IsR.mono' (ok' := fun k => k ≠ rb ∧ k ≠ g_r) hv (fun k hk _ => by have := HL.out; refine ⟨?_, ?_⟩ <;> omega)
  clear hv hle hl_r
  clear V_vp B_vp
  clear V_vf B_vf
  clear V_p B_p V_f B_f
  replace HB := kb_t HB hk (fun i hi => Or.inl hi)
  replace B_l := kb_t B_l hk (fun i hi => Or.inl hi)
  replace B_r := kb_t B_r hk (fun i hi => Or.inl hi)
  clear hk
  have V_vs := a0_ hv_
  clear hv_
  have B_vs := a0_ (Kb.refl (fun k => k = rb ∨ k = g_r) w130)
  go_wp2_with (first | ((with_reducible refine gd_ 12 rfl ?_); refine bx_ (N := 12) #[.bool false, .slice none 0 0, .slice none 0 0] 30 ?_; intro g_s hg w131 hbox hb; have G_s := kb_g HB hg; have O_s_l := kb_g B_l hg; have O_s_r := kb_g B_r hg; have O_s_vs := kb_g B_vs hg; replace HB := kb_b HB hb; replace B_l := kb_b B_l hb; replace B_r := kb_b B_r hb; replace B_vs := kb_b B_vs hb; replace RK := rk_b RK hb; clear hb; have V_s := a0_ hbox; have B_s := kr_ rb w131; have N_s : Aside0 (¬ (fun k => k = rb) g_s) := ⟨by show ¬ (_ = _); have := HL.out; have := G_s.out; omega⟩; clear hbox hg) | ((with_reducible refine gt_ 30 12 39 rfl ?_); refine store_ev (p := .tmp 12) (v := .tmp 39) rfl rfl rfl (g := g_s) rfl rfl (bk_ V_s B_s N_s) ?_; intro w132 hbox hk; replace HB := kb_o HB hk G_s; replace B_l := kb_o B_l hk O_s_l; replace B_r := kb_o B_r hk O_s_r; replace B_vs := kb_o B_vs hk O_s_vs; have Z_ := a0_ (Rk.kb RK.out hk (by have := HL.out; have := G_s.out; omega)); clear RK; have RK := Z_; clear Z_; clear V_s B_s; have V_s := a0_ hbox; have B_s := kr_ rb w132; clear hbox hk) | ((with_reducible refine gd_ 40 rfl ?_); refine load_ev rfl rfl (g := g_s) rfl (bk_ V_s B_s N_s) ?_))
  with_reducible refine (qiszero_calls r _ _ (IsR.mono (IsR.kb (S := fun k => k = rb ∨ k = g_r) V_vs.out B_vs.out (fun k h hs => hs.elim h.1 h.2)) (fun k h => h.1))).mono ?_
  rintro e w133 ⟨rfl, hb⟩
  replace HB := kb_b HB hb
  replace B_l := kb_b B_l hb
  replace B_r := kb_b B_r hb
  replace B_vs := kb_b B_vs hb
  replace B_s := kb_b B_s hb
  replace RK := rk_b RK hb
  clear hb
  obtain ⟨ty, Ay, ny, cy, Dy, ky, zy, hy, c0, c1, c2⟩ := RowQ.get (RowQ.kb V_l.out B_l.out (fun k h hs => h.1 hs)) i (by rw [← HN.out.1]; exact HI.out.1)
  have C0 := a0_ (And.intro c0 (And.intro c1 c2))
  clear c0 c1 c2
  have hy2 : IsR (fun k => k ≠ rb ∧ k ≠ g_r ∧ (okl k ∧ k < w.heap.size)) _ _ _ := IsR.mono hy (fun k h => ⟨h.1, fun e => by have := G_r.out; have := h.2.2; omega, h.2⟩)
  clear hy
  have V_y := a0_ hy2
  clear hy2
  have B_y := a0_ (Kb.refl (fun k => k = rb ∨ k = g_r) w133)
  by_cases hz : r = 0
  · have hx : ans = some (qs.getD i 0) := by rw [HP.out.2.2.2.2, if_pos (Or.inl hz)]
    have hzd : decide (r = 0) = true := decide_eq_true hz
    rw [hzd]
    have HX := a0_ hx
    clear hx hz hzd
    clear V_vs B_vs
    clear V_s B_s
    go_wp2_with (first | ((with_reducible refine gd_ 52 rfl ?_); refine load_at rfl rfl (g := bl) (k := ol + i * 3) rfl C0.out.1 C0.out.2.1 C0.out.2.2 ?_) | ((with_reducible refine gt_ 30 6 52 rfl ?_); refine store_ev (p := .tmp 6) (v := .tmp 52) rfl rfl rfl (g := g_r) rfl rfl (bk_ V_r B_r N_r) ?_; intro w134 hbox hk; replace HB := kb_o HB hk G_r; replace B_y := kb_t B_y hk (fun i hi => by exact Or.inl (Or.inr hi)); have Z_ := a0_ (Rk.kb RK.out hk (by have := HL.out; have := G_r.out; omega)); clear RK; have RK := Z_; clear Z_; clear V_r B_r; have V_r := a0_ hbox; have B_r := kr_ rb w134; clear hbox hk))
    refine bodyPost_ret (results_cell_row rfl _ _ g_r 30 #[.bool ty, .slice Ay ny cy, .slice Dy ky zy] (0, 0) _ rfl (bk_ V_r B_r N_r) Try.underlying30 rfl (by kernel_rfl)) rfl ?_
    exact ⟨_, rfl, by rw [HX.out]; exact ((IsR.mono (IsR.kb (S := fun k => k = rb ∨ k = g_r) V_y.out B_y.out (fun k h hs => hs.elim h.1 h.2.1)) (fun k h => Or.inl h.2.2.1))), by rw [HX.out]; exact RK.out, HB.out⟩
  · have hzd : decide (r = 0) = false := decide_eq_false hz
    rw [hzd]
    clear hzd
    by_cases hni : nl ≤ i + 1
    · have hx : ans = some (qs.getD i 0) := by rw [HP.out.2.2.2.2, if_pos (Or.inr hni)]
      have hnz : decide ((nl : Int) ≤ ((i + 1 : Nat) : Int)) = true := decide_eq_true (by omega)
      have hnz2 : (nl : Int) ≤ ((i + 1 : Nat) : Int) := by omega
      have hnz3 : (nl : Int) ≤ (i : Int) + 1 := by omega
      have hnz4 : decide ((nl : Int) ≤ (i : Int) + 1) = true := decide_eq_true (by omega)
      have HX := a0_ hx
      clear hx hz hni
      clear V_vs B_vs
      clear V_s B_s
      go_wp2_with (first | ((with_reducible refine gd_ 52 rfl ?_); refine load_at rfl rfl (g := bl) (k := ol + i * 3) rfl C0.out.1 C0.out.2.1 C0.out.2.2 ?_) | ((with_reducible refine gt_ 30 6 52 rfl ?_); refine store_ev (p := .tmp 6) (v := .tmp 52) rfl rfl rfl (g := g_r) rfl rfl (bk_ V_r B_r N_r) ?_; intro w134 hbox hk; replace HB := kb_o HB hk G_r; replace B_y := kb_t B_y hk (fun i hi => by exact Or.inl (Or.inr hi)); have Z_ := a0_ (Rk.kb RK.out hk (by have := HL.out; have := G_r.out; omega)); clear RK; have RK := Z_; clear Z_; clear V_r B_r; have V_r := a0_ hbox; have B_r := kr_ rb w134; clear hbox hk))
      refine bodyPost_ret (results_cell_row rfl _ _ g_r 30 #[.bool ty, .slice Ay ny cy, .slice Dy ky zy] (0, 0) _ rfl (bk_ V_r B_r N_r) Try.underlying30 rfl (by kernel_rfl)) rfl ?_
      exact ⟨_, rfl, by rw [HX.out]; exact ((IsR.mono (IsR.kb (S := fun k => k = rb ∨ k = g_r) V_y.out B_y.out (fun k h hs => hs.elim h.1 h.2.1)) (fun k h => Or.inl h.2.2.1))), by rw [HX.out]; exact RK.out, HB.out⟩
    · have hx : ans = lerpO (qs.getD i 0) (qs.getD (i + 1) 0) r := by rw [HP.out.2.2.2.2, if_neg (fun h => h.elim hz hni)]
      have hnz : decide ((nl : Int) ≤ ((i + 1 : Nat) : Int)) = false := decide_eq_false (by omega)
      have hnz2 : ¬ (nl : Int) ≤ ((i + 1 : Nat) : Int) := by omega
      have hnz3 : ¬ (nl : Int) ≤ (i : Int) + 1 := by omega
      have hnz4 : decide ((nl : Int) ≤ (i : Int) + 1) = false := decide_eq_false (by omega)
      have HX := a0_ hx
      have HNI := a0_ hni
      clear hx hz hni
      obtain ⟨od, hod⟩ : ∃ o, o = doO false (fun x y => x - y) (some (qs.getD (i + 1) 0)) (some (qs.getD i 0)) := ⟨_, rfl⟩
      obtain ⟨om, hom⟩ : ∃ o, o = doO od.isNone (fun x y => x * y) od (some r) := ⟨_, rfl⟩
      have hoa : ans = doO om.isNone (fun x y => x + y) (some (qs.getD i 0)) om := by rw [HX.out, hom, hod]; rfl
      have HO := a0_ (And.intro hod (And.intro hom hoa))
      clear hod hom hoa HX
      have hjlz : ((i + 1 : Nat) : Int) < (nl : Int) := by have := HNI.out; omega
      have hj0 : (0 : Int) ≤ (i : Int) + 1 := by omega
      have hjlz2 : (i : Int) + 1 < (nl : Int) := by have := HNI.out; omega
      have hblr := a0_ (show ¬ (bl = g_r) from fun e => by have := hbl.out.2.2; have := G_r.out; omega)
      obtain ⟨tm, Am, nm, cm, Dm, km, zm, hm, c0, c1, c2⟩ := RowQ.get (RowQ.kb V_l.out B_l.out (fun k h hs => h.1 hs)) (i + 1) (by rw [← HN.out.1]; have := HNI.out; omega)
      have C1 := a0_ (And.intro c0 (And.intro c1 c2))
      clear c0 c1 c2
      have hm2 : IsR (fun k => k ≠ rb ∧ k ≠ g_r ∧ (okl k ∧ k < w.heap.size)) _ _ _ := IsR.mono hm (fun k h => ⟨h.1, fun e => by have := G_r.out; have := h.2.2; omega, h.2⟩)
      clear hm
      have V_m := a0_ hm2
      clear hm2
      have B_m := a0_ (Kb.refl (fun k => k = rb ∨ k = g_r) w133)
      clear V_l B_l
      go_wp2_with fail
      have hb : Below w133.heap.size w133 w133.drew := below_drew1 (Below.refl _ _)
      replace HB := kb_b HB hb
      replace B_r := kb_b B_r hb
      replace B_vs := kb_b B_vs hb
      replace B_s := kb_b B_s hb
      replace B_y := kb_b B_y hb
      replace B_m := kb_b B_m hb
      replace RK := rk_b RK hb
      clear hb
      refine start_ (n := 21) (S := fun w' => w'.heap[g_s]? = some (.cells #[.bool ts, .slice As ns cs, .slice Ds ks zs] 30 (0, 0)) ∧ (w'.cell? ⟨bl, (ol + i * 3), none⟩ = some (.bool ty) ∧ w'.cell? ⟨bl, (ol + i * 3) + 1, none⟩ = some (.slice Ay ny cy) ∧ w'.cell? ⟨bl, (ol + i * 3) + 2, none⟩ = some (.slice Dy ky zy)) ∧ (w'.cell? ⟨bl, (ol + (i + 1) * 3), none⟩ = some (.bool tm) ∧ w'.cell? ⟨bl, (ol + (i + 1) * 3) + 1, none⟩ = some (.slice Am nm cm) ∧ w'.cell? ⟨bl, (ol + (i + 1) * 3) + 2, none⟩ = some (.slice Dm km zm))) (ds := []) (tB_ 21 0) (by kernel_rfl) rfl (by kernel_rfl) ⟨bk_ V_s B_s N_s, ⟨C0.out.1, C0.out.2.1, C0.out.2.2⟩, ⟨C1.out.1, C1.out.2.1, C1.out.2.2⟩⟩ (fun hHeld => ?_)
      refine with_tabW Quant9.tab9 Quant9.bits9 (fun HT_ HW_ => ?_)
      generalize w133.drew = w134 at HB RK B_r B_vs B_s B_y B_m hHeld ⊢
      refine pu_ 0 (some 53) 1 HT_ ?_
      refine pu_ 1 (some 54) 3 HT_ ?_
      refine pu_ 2 (some 55) 7 HT_ ?_
      refine pu_ 3 (some 56) 15 HT_ ?_
      refine tk_ 4 (some 57) 31 HT_ HW_ hHeld ?_ ?_ ?_ ?_ ?_
      rotate_left
      · intro w' hs
        have hb_ := hs.2.1
        obtain ⟨c0_, c1_, c2_⟩ := hb_
        clear hs
        go_simp
        with_reducible rfl
      rotate_left
      · simp only [PU]
        rfl
      refine pu_ 5 (some 58) 63 HT_ ?_
      refine pu_ 6 (some 59) 127 HT_ ?_
      refine pu_ 7 (some 60) 255 HT_ ?_
      refine pu_ 8 (some 61) 511 HT_ ?_
      refine pu_ 9 (some 62) 1023 HT_ ?_
      refine pu_ 10 (some 63) 2047 HT_ ?_
      refine tk_ 11 (some 64) 4095 HT_ HW_ hHeld ?_ ?_ ?_ ?_ ?_
      rotate_left
      · intro w' hs
        have hb_ := hs.2.2
        obtain ⟨c0_, c1_, c2_⟩ := hb_
        clear hs
        go_simp
        with_reducible rfl
      rotate_left
      · simp only [PU]
        rfl
      refine pu_ 12 (some 65) 8191 HT_ ?_
      refine pu_ 13 (some 66) 16383 HT_ ?_
      refine pu_ 14 (some 67) 32767 HT_ ?_
      refine tk_ 15 (some 68) 65535 HT_ HW_ hHeld ?_ ?_ ?_ ?_ ?_
      rotate_left
      · intro w' hs
        have hb_ := hs.2.1
        obtain ⟨c0_, c1_, c2_⟩ := hb_
        clear hs
        go_simp
        with_reducible rfl
      rotate_left
      · simp only [PU]
        rfl
      refine tk_ 17 (some 70) 196607 HT_ HW_ hHeld ?_ ?_ ?_ ?_ ?_
      rotate_left
      · intro w' hs
        have hb_ := hs.1
        obtain ⟨c0_, c1_, c2_⟩ := b3_ hb_
        clear hb_ hs
        go_simp
        with_reducible rfl
      rotate_left
      · simp only [PU]
        rfl
      have hod := HO.out.1
      have hom := HO.out.2.1
      have hoa := HO.out.2.2
      have HOD := a0_ hod
      have HOM := a0_ hom
      have HOA := a0_ hoa
      clear hod hom hoa
      refine on_ 16 (some 69) 262143 HT_ (fun K hK => ?_)
      refine gs_ Try.func45 #[.pointer (some ⟨rb, 0, none⟩), .func (.func 59) #[] #[], .agg #[.bool tm, .slice Am nm cm, .slice Dm km zm], .agg #[.bool ty, .slice Ay ny cy, .slice Dy ky zy]] ?_
      refine (do_any qsub_op (enters_run (enters_of (P := Try.prog) Try.func59 (by kernel_rfl) rfl)) rb false (some (qs.getD (i + 1) 0)) (some (qs.getD i 0)) _ _ _ RK.out (IsR.res (IsR.mono (IsR.kb (S := fun k => k = rb ∨ k = g_r) V_m.out B_m.out (fun k h hs => hs.elim h.1 h.2.1)) (fun k h => h.1))) (IsR.res (IsR.mono (IsR.kb (S := fun k => k = rb ∨ k = g_r) V_y.out B_y.out (fun k h hs => hs.elim h.1 h.2.1)) (fun k h => h.1))) (fun _ => ⟨_, _, rfl, rfl, trivial⟩)).mono ?_
      rintro e w135 ⟨v69, rfl, hv, hrk, hk⟩
      obtain ⟨td, Ad, nd, cd, Dd, kd, zd, rfl⟩ := hv.agg
      refine ⟨_, rfl, ?_⟩
      refine hK.out _ _ (by exact ⟨Kb.blk hHeld.1 hk N_s.out, ⟨Kb.cell hHeld.2.1.1 hk (show ¬ (bl = rb) from hbl.out.1), Kb.cell hHeld.2.1.2.1 hk (show ¬ (bl = rb) from hbl.out.1), Kb.cell hHeld.2.1.2.2 hk (show ¬ (bl = rb) from hbl.out.1)⟩, ⟨Kb.cell hHeld.2.2.1 hk (show ¬ (bl = rb) from hbl.out.1), Kb.cell hHeld.2.2.2.1 hk (show ¬ (bl = rb) from hbl.out.1), Kb.cell hHeld.2.2.2.2 hk (show ¬ (bl = rb) from hbl.out.1)⟩⟩) (fun hHeld => ?_)
      clear hK K
      refine nm_ (some 69) ?_
      rw [← HOD.out] at hv hrk
      rw [Bool.false_or] at hrk
      clear RK
      have RK := a0_ hrk
      clear hrk
      have hle := Kb.size HB.out
      have hl_r := blk_lt (bk_ V_r B_r N_r)
      have hv_ := Res.mono' (ok' := fun k => k ≠ rb ∧ k ≠ g_r ∧ w.heap.size ≤ k) hv (fun k hk _ => by have := HL.out; refine ⟨?_, ?_, ?_⟩ <;> omega)
      clear hv hle hl_r
      replace HB := kb_t HB hk (fun i hi => Or.inl hi)
      replace B_r := kb_t B_r hk (fun i hi => Or.inl hi)
      replace B_vs := kb_t B_vs hk (fun i hi => Or.inl (Or.inl hi))
      replace B_s := kb_t B_s hk (fun i hi => Or.inl hi)
      replace B_y := kb_t B_y hk (fun i hi => Or.inl (Or.inl hi))
      replace B_m := kb_t B_m hk (fun i hi => Or.inl (Or.inl hi))
      clear hk
      have V_d := a0_ hv_
      clear hv_
      have B_d := a0_ (Kb.refl (fun k => k = rb ∨ k = g_r) w135)
      refine on_ 18 (some 71) 524287 HT_ (fun K hK => ?_)
      refine gs_ Try.func45 #[.pointer (some ⟨rb, 0, none⟩), .func (.func 19) #[] #[], .agg #[.bool td, .slice Ad nd cd, .slice Dd kd zd], .agg #[.bool ts, .slice As ns cs, .slice Ds ks zs]] ?_
      refine (do_any qmul_op (enters_run (enters_of (P := Try.prog) Try.func19 (by kernel_rfl) rfl)) rb od.isNone od (some r) _ _ _ RK.out (Res.mono (Res.kb (S := fun k => k = rb ∨ k = g_r) V_d.out B_d.out (fun k h hs => hs.elim h.1 h.2.1)) (fun k h => h.1)) (IsR.res (IsR.mono (IsR.kb (S := fun k => k = rb ∨ k = g_r) V_vs.out B_vs.out (fun k h hs => hs.elim h.1 h.2)) (fun k h => h.1))) (one_dom od _ (fun _ => trivial))).mono ?_
      rintro e w136 ⟨v71, rfl, hv, hrk, hk⟩
      obtain ⟨te_, Ae_, ne_, ce_, De_, ke_, ze_, rfl⟩ := hv.agg
      refine ⟨_, rfl, ?_⟩
      refine hK.out _ _ (by exact ⟨Kb.blk hHeld.1 hk N_s.out, ⟨Kb.cell hHeld.2.1.1 hk (show ¬ (bl = rb) from hbl.out.1), Kb.cell hHeld.2.1.2.1 hk (show ¬ (bl = rb) from hbl.out.1), Kb.cell hHeld.2.1.2.2 hk (show ¬ (bl = rb) from hbl.out.1)⟩, ⟨Kb.cell hHeld.2.2.1 hk (show ¬ (bl = rb) from hbl.out.1), Kb.cell hHeld.2.2.2.1 hk (show ¬ (bl = rb) from hbl.out.1), Kb.cell hHeld.2.2.2.2 hk (show ¬ (bl = rb) from hbl.out.1)⟩⟩) (fun hHeld => ?_)
      clear hK K
      refine nm_ (some 71) ?_
      rw [← HOM.out] at hv hrk
      have hrk2 : Rk w136 rb om.isNone := by
       rw [HOM.out, ← doO_er, ← HOM.out]
       exact hrk
      clear hrk
      have hrk := hrk2
      clear hrk2
      clear RK
      have RK := a0_ hrk
      clear hrk
      have hle := Kb.size HB.out
      have hl_r := blk_lt (bk_ V_r B_r N_r)
      have hv_ := Res.mono' (ok' := fun k => k ≠ rb ∧ k ≠ g_r ∧ w.heap.size ≤ k) hv (fun k hk _ => by have := HL.out; refine ⟨?_, ?_, ?_⟩ <;> omega)
      clear hv hle hl_r
      replace HB := kb_t HB hk (fun i hi => Or.inl hi)
      replace B_r := kb_t B_r hk (fun i hi => Or.inl hi)
      replace B_vs := kb_t B_vs hk (fun i hi => Or.inl (Or.inl hi))
      replace B_s := kb_t B_s hk (fun i hi => Or.inl hi)
      replace B_y := kb_t B_y hk (fun i hi => Or.inl (Or.inl hi))
      replace B_m := kb_t B_m hk (fun i hi => Or.inl (Or.inl hi))
      replace B_d := kb_t B_d hk (fun i hi => Or.inl (Or.inl hi))
      clear hk
      have V_e_ := a0_ hv_
      clear hv_
      have B_e_ := a0_ (Kb.refl (fun k => k = rb ∨ k = g_r) w136)
      refine on_ 19 (some 72) 1048575 HT_ (fun K hK => ?_)
      refine gs_ Try.func45 #[.pointer (some ⟨rb, 0, none⟩), .func (.func 20) #[] #[], .agg #[.bool ty, .slice Ay ny cy, .slice Dy ky zy], .agg #[.bool te_, .slice Ae_ ne_ ce_, .slice De_ ke_ ze_]] ?_
      refine (do_any qadd_op (enters_run (enters_of (P := Try.prog) Try.func20 (by kernel_rfl) rfl)) rb om.isNone (some (qs.getD i 0)) om _ _ _ RK.out (IsR.res (IsR.mono (IsR.kb (S := fun k => k = rb ∨ k = g_r) V_y.out B_y.out (fun k h hs => hs.elim h.1 h.2.1)) (fun k h => h.1))) (Res.mono (Res.kb (S := fun k => k = rb ∨ k = g_r) V_e_.out B_e_.out (fun k h hs => hs.elim h.1 h.2.1)) (fun k h => h.1)) (two_dom _ om)).mono ?_
      rintro e w137 ⟨v72, rfl, hv, hrk, hk⟩
      obtain ⟨tv, Av, nv, cv, Dv, kv, zv, rfl⟩ := hv.agg
      refine ⟨_, rfl, ?_⟩
      refine hK.out _ _ (by exact ⟨Kb.blk hHeld.1 hk N_s.out, ⟨Kb.cell hHeld.2.1.1 hk (show ¬ (bl = rb) from hbl.out.1), Kb.cell hHeld.2.1.2.1 hk (show ¬ (bl = rb) from hbl.out.1), Kb.cell hHeld.2.1.2.2 hk (show ¬ (bl = rb) from hbl.out.1)⟩, ⟨Kb.cell hHeld.2.2.1 hk (show ¬ (bl = rb) from hbl.out.1), Kb.cell hHeld.2.2.2.1 hk (show ¬ (bl = rb) from hbl.out.1), Kb.cell hHeld.2.2.2.2 hk (show ¬ (bl = rb) from hbl.out.1)⟩⟩) (fun hHeld => ?_)
      clear hK K
      refine nm_ (some 72) ?_
      rw [← HOA.out] at hv hrk
      have hrk2 : Rk w137 rb ans.isNone := by
       rw [HOA.out, ← doB_er, ← HOA.out]
       exact hrk
      clear hrk
      have hrk := hrk2
      clear hrk2
      clear RK
      have RK := a0_ hrk
      clear hrk
      have hle := Kb.size HB.out
      have hl_r := blk_lt (bk_ V_r B_r N_r)
      have hv_ := Res.mono' (ok' := fun k => k ≠ rb ∧ k ≠ g_r ∧ w.heap.size ≤ k) hv (fun k hk _ => by have := HL.out; refine ⟨?_, ?_, ?_⟩ <;> omega)
      clear hv hle hl_r
      replace HB := kb_t HB hk (fun i hi => Or.inl hi)
      replace B_r := kb_t B_r hk (fun i hi => Or.inl hi)
      replace B_vs := kb_t B_vs hk (fun i hi => Or.inl (Or.inl hi))
      replace B_s := kb_t B_s hk (fun i hi => Or.inl hi)
      replace B_y := kb_t B_y hk (fun i hi => Or.inl (Or.inl hi))
      replace B_m := kb_t B_m hk (fun i hi => Or.inl (Or.inl hi))
      replace B_d := kb_t B_d hk (fun i hi => Or.inl (Or.inl hi))
      replace B_e_ := kb_t B_e_ hk (fun i hi => Or.inl (Or.inl hi))
      clear hk
      have V_v := a0_ hv_
      clear hv_
      have B_v := a0_ (Kb.refl (fun k => k = rb ∨ k = g_r) w137)
      clear V_y B_y
      clear V_m B_m
      clear V_d B_d
      clear V_e_ B_e_
      clear V_vs B_vs
      clear B_s
      refine on_ 20 none 2097151 HT_ (fun K hK => ?_)
      have bk_r := bk_ V_r B_r N_r
      have hz_r_0 : w137.cell? ⟨g_r, 0, none⟩ = some (.bool false) := (blk_cell bk_r 0).trans rfl
      have hf_r_0 := blk_frozen bk_r 0
      have hz_r_1 : w137.cell? ⟨g_r, 1, none⟩ = some (.slice none 0 0) := (blk_cell bk_r 1).trans rfl
      have hf_r_1 := blk_frozen bk_r 1
      have hz_r_2 : w137.cell? ⟨g_r, 2, none⟩ = some (.slice none 0 0) := (blk_cell bk_r 2).trans rfl
      have hf_r_2 := blk_frozen bk_r 2
      clear bk_r
      refine skip_ (w1 := ((w137.setCell ⟨g_r, 0, none⟩ (.bool tv)).setCell ⟨g_r, 1, none⟩ (.slice Av nv cv)).setCell ⟨g_r, 2, none⟩ (.slice Dv kv zv)) (by rfl) rfl ?_ ?_
      · first | (go_simp; done) | (go_simp; rfl)
      clear hz_r_0 hf_r_0 hz_r_1 hf_r_1 hz_r_2 hf_r_2
      have hbox : (((w137.setCell ⟨g_r, 0, none⟩ (.bool tv)).setCell ⟨g_r, 1, none⟩ (.slice Av nv cv)).setCell ⟨g_r, 2, none⟩ (.slice Dv kv zv)).heap[g_r]? = some (.cells #[.bool tv, .slice Av nv cv, .slice Dv kv zv] 30 (0, 0)) := blk_put (blk_put (blk_put (bk_ V_r B_r N_r) 0 _ rfl) 1 _ rfl) 2 _ rfl
      have hk : Kb (fun k => k = g_r) w137 (((w137.setCell ⟨g_r, 0, none⟩ (.bool tv)).setCell ⟨g_r, 1, none⟩ (.slice Av nv cv)).setCell ⟨g_r, 2, none⟩ (.slice Dv kv zv)) := (((Kb.refl (fun k => k = g_r) w137).setCell (p := ⟨g_r, 0, none⟩) (Or.inl rfl) _).setCell (p := ⟨g_r, 1, none⟩) (Or.inl rfl) _).setCell (p := ⟨g_r, 2, none⟩) (Or.inl rfl) _
      refine hK.out _ _ (by have q_ := hHeld; exact ⟨Kb.blk q_.1 hk (show ¬ (g_s = g_r) from fun e => by have := blk_lt V_r.out; have := O_s_r.out; omega), ⟨Kb.cell q_.2.1.1 hk (show ¬ (bl = g_r) from hblr.out), Kb.cell q_.2.1.2.1 hk (show ¬ (bl = g_r) from hblr.out), Kb.cell q_.2.1.2.2 hk (show ¬ (bl = g_r) from hblr.out)⟩, ⟨Kb.cell q_.2.2.1 hk (show ¬ (bl = g_r) from hblr.out), Kb.cell q_.2.2.2.1 hk (show ¬ (bl = g_r) from hblr.out), Kb.cell q_.2.2.2.2 hk (show ¬ (bl = g_r) from hblr.out)⟩⟩) (fun hHeld => ?_)
      clear hK K
      obtain ⟨w138, hw_⟩ : ∃ x, x = ((w137.setCell ⟨g_r, 0, none⟩ (.bool tv)).setCell ⟨g_r, 1, none⟩ (.slice Av nv cv)).setCell ⟨g_r, 2, none⟩ (.slice Dv kv zv) := ⟨_, rfl⟩
      rw [← hw_] at hk hbox hHeld ⊢
      clear hw_
      replace HB := kb_o HB hk G_r
      replace B_v := kb_t B_v hk (fun i hi => by exact Or.inl (Or.inr hi))
      have Z_ := a0_ (Rk.kb RK.out hk (by have := HL.out; have := G_r.out; omega))
      clear RK
      have RK := Z_
      clear Z_
      clear V_r B_r
      have V_r := a0_ hbox
      have B_r := kr_ rb w138
      clear hbox hk
      refine do_ HT_ ?_
      clear HT_ HW_ hHeld
      go_wp2_with fail
      refine bodyPost_ret (results_cell_row rfl _ _ g_r 30 #[.bool tv, .slice Av nv cv, .slice Dv kv zv] (0, 0) _ rfl (bk_ V_r B_r N_r) Try.underlying30 rfl (by kernel_rfl)) rfl ?_
      exact ⟨_, rfl, ((Res.mono (Res.kb (S := fun k => k = rb ∨ k = g_r) V_v.out B_v.out (fun k h hs => hs.elim h.1 h.2.1)) (fun k h => Or.inr h.2.2))), RK.out, HB.out⟩
theorem qclone_calls {ok : Nat → Prop} (qs : List Rat) (h0 : 0 < qs.length) (hsz : qs.length ≤ 1000000) (w : World) (vl : Value) (hl : RowQ ok w vl qs) :
 Calls Try.prog 61 #[vl] w fun e w' => (∃ v, e = .returned v ∧ Kd.N kdR 30 w' w.heap.size (fun k => (ok k ∧ k < w.heap.size) ∨ w.heap.size ≤ k) v qs) ∧ Below w.heap.size w w' := by
 have hu30 := Try.underlying30
 obtain ⟨Al, cl, rfl⟩ := hl.slice
 obtain ⟨nl, hnl⟩ : ∃ nl, nl = qs.length := ⟨_, rfl⟩
 rw [← hnl] at hl hsz h0 ⊢
 have HNL := a0_ hnl
 have hl := RowQ.mono' (ok' := fun j => ok j ∧ j < w.heap.size) hl (fun k h1 h2 => ⟨h1, h2⟩)
 clear hnl
 obtain ⟨bl, ol, rfl⟩ := RowQ.some_ hl h0
 have HB := kf_ w
 have V_l := a0_ hl
 clear hl
 have B_l := kf_ w
 have q72 : ∀ (w : World) (a : Option Addr) (n c n' c' : Nat), (binOp .eql 72 (.slice a n c) (.slice none n' c')).run Try.prog w = .ok (.bool a.isNone) w := fun w a n c n' c' => Lib.run_eql_slice_nil w _ _ a n c n' c' Try.underlying72
 obtain ⟨okN, hokN⟩ : ∃ okN : Nat → Prop, okN = fun k => (ok k ∧ k < w.heap.size) ∨ w.heap.size ≤ k := ⟨_, rfl⟩
 have HOK := a0_ hokN
 rw [← hokN]
 clear hokN
 go_enter Try.func61, Try.ntmps61
 go_wp2_with (first | ((with_reducible refine gd_ 5 rfl ?_); refine Kd.R_lit kdR (w0 := w) w.heap.size 30 ?hg (N := 5) ?hd (xs := ([] : List Rat)) (inner := []) (ok := fun k => w.heap.size ≤ k) (okp := fun k => w.heap.size ≤ k) ?hr ?hp (fun _ hk => hk) (Nat.le_refl _) (Below.refl _ _) (Nat.le_refl _) (by simp) ?_; (case hd => rfl); (case hg => rfl); (case hr => first | (go_simp; done) | (go_simp; rfl)); (case hp => exact (Reps.none _ _)); intro v5 w101 ho4 hb hg_ hnew_; clear hg_ hnew_; have HN := a0_ (Kd.R_N ho4); have HBB := a0_ hb; clear ho4 hb) | ((with_reducible refine gate_builtin (b := .append) (xs := #[.tmp 5, .tmp 6]) rfl ?_); at_builtin; refine Kd.N_append_rows kdR (w0 := w) w.heap.size rfl (.tmp 5) (.tmp 6) 72 30 (.agg #[.bool false, .slice none 0 0, .slice none 0 0]) 56 rfl Try.underlying72 (by kernel_rfl) rfl (by decide) (by omega) v5 ([] : List Rat) qs _ _ _ okN (fun j => ok j ∧ j < w.heap.size) rfl rfl (Kd.N_mono HN.out (fun k hk => by rw [HOK.out]; exact .inr hk)) (Kd.F_below (Kd.V_F V_l.out) HBB.out) (fun k hk => ⟨by rw [HOK.out]; exact .inl hk, fun e => by have := Kd.N_base HN.out k e.symm; omega⟩) (fun k hk => by rw [HOK.out]; have := HBB.out.size; exact .inr (by omega)) HBB.out HBB.out.size (by simp only [List.length_nil]; omega) ?_; intro v_ w_ hn hb hg hat; rw [List.nil_append] at hn; have HN2 := a0_ hn; have HB2 := a0_ hb; clear hn hb hg hat))
 go_ret
 exact ⟨⟨_, rfl, HN2.out⟩, HB2.out⟩
open Go.Sort Go.Lib Go.Shelf
structure BelowBy (w : World) where
 w1 : World
 h : Below w.heap.size w w1
instance (w : World) : Inhabited (BelowBy w) := ⟨⟨w, Below.refl _ _⟩⟩
theorem wp_region_quiet_below {P : Program} {id : Nat} {Q : Exit → Act → World → Prop} {a : Act} {w : World} {l : List Oper} (hm : P.follows .mixedOrders = true) (hB : Region.lexB .any l.toArray = true)
 (h : wpQuiet P l.toArray (fun w' => ∃ p : BelowBy w, w' = p.w1) (fun a' => ∀ w', (∃ p : BelowBy w, w' = p.w1) → Q .normal a' w') l a) : (Code.region id l.toArray true).wp P Q a w :=
 wp_region_quiet (C := fun w' => ∃ p : BelowBy w, w' = p.w1) hm hB ⟨⟨w.drew, below_drew1 (Below.refl _ _)⟩, rfl⟩ (by simpa using h)
theorem calls_below {P : Program} {f : FuncId} {args : Array Value} {w : World} {wp : World} (hp : Below w.heap.size w wp) {v : Value} (h : Calls P f args wp fun e w' => e = .returned v ∧ Below wp.heap.size wp w') : Calls P f args wp fun e w'' => e = .returned v ∧ ∃ q : BelowBy w, w'' = q.w1 :=
 h.mono fun _ w' ⟨he, hb⟩ => ⟨he, ⟨w', below_step hp hb⟩, rfl⟩
theorem kb_sortWorld {α : Type} [Inhabited α] (enc : α → List Value) (k : Nat) (w : World) (blk off n : Nat) (d : Array α) (os : Array Obj) : Kb (fun j => j = blk) w (sortWorldK enc k w blk off n d os) := by
 refine ⟨rfl, rfl, rfl, size_sortWorldK_c enc k w blk off n d os, fun j hj hn => ?_⟩
 have hne : blk ≠ j := fun e => hn e.symm
 unfold sortWorldK putRowK
 rw [heap_grow_old _ _ (by simp [putRow, mapBlock, Sort.ahead]; omega)]
 simp [putRow, mapBlock, Sort.ahead, Array.getElem?_modify, hne]
theorem holdsK_kb {α : Type} [Inhabited α] {enc : α → List Value} {k : Nat} {w w1 : World} {blk off : Nat} {d : Array α} (h : HoldsK enc k w blk off d) (hb : Below w.heap.size w w1) (hblk : blk < w.heap.size) : HoldsK enc k w1 blk off d := by
 intro j hj
 have e := hb.block blk hblk
 obtain ⟨h1, h2⟩ := h j hj
 refine ⟨?_, ?_⟩
 · unfold World.cell? at h1 ⊢
   rw [show (⟨blk, off + j, none⟩ : Addr).block = blk from rfl] at h1 ⊢
   rw [e]
   exact h1
 · unfold World.frozen? at h2 ⊢
   rw [show (⟨blk, off + j, none⟩ : Addr).block = blk from rfl] at h2 ⊢
   rw [e]
   exact h2
theorem agg30 : ∀ w, (isAgg 30).run Try.prog w = .ok true w := fun w => by
 have hu := Try.underlying30
 unfold isAgg
 go_simp
theorem size30 : ∀ w, (Go.sizeOf 30).run Try.prog w = .ok 3 w := fun w => by
 have hu := Try.underlying30
 unfold Go.sizeOf
 go_simp
 rfl
theorem insertion_calls {α : Type} [Inhabited α] (enc : α → List Value) (k : Nat) (zE : ∀ w, (Go.sizeOf 30).run Try.prog w = .ok k w) (hk : ∀ x, (enc x).length = k) (h1 : ∀ x, ∀ v ∈ enc x, v.oneCell' = true)
 (cf : α → α → Int) (g : Nat) (blk off cap a b : Nat) (d : Array α) (w : World)
 (eg : ∀ args w, (callFunc g args).run Try.prog w = .ok (.enter g args) w) (hcmp : ∀ W : World, Kb (fun j => j = blk) w W → ∀ x y : α, Calls Try.prog g #[.agg (enc x).toArray, .agg (enc y).toArray] W fun e w' => e = .returned (.int .i64 (cf x y)) ∧ Below W.heap.size W w')
 (hH : HoldsK enc k w blk off d) (hblk : blk < w.heap.size) (hab : a ≤ b) (hb : b ≤ d.size) (hsz : d.size < 4611686018427387904) :
 Calls Try.prog 77 #[.slice (some ⟨blk, off, none⟩) d.size cap, .int .i64 a, .int .i64 b, .func (.func g) #[] #[]] w fun e w' =>
  e = .returned (.tuple #[]) ∧ HoldsK enc k w' blk off (Sort.insertionSort (ltOf cf) d a b) ∧ Kb (fun j => j = blk) w w' := by
 have mixed : Try.prog.follows .mixedOrders = true := by kernel_rfl
 have u22 := run_underlying Try.underlying72
 have aE := agg30
 have HC : Aside0 _ := ⟨hcmp⟩
 have HH : Aside0 (HoldsK enc k w blk off d) := ⟨hH⟩
 have HK : Aside0 (∀ x, (enc x).length = k) := ⟨hk⟩
 have H1 : Aside0 (∀ x, ∀ v ∈ enc x, v.oneCell' = true) := ⟨h1⟩
 clear hcmp hH hk h1
 go_enter Try.func77, Try.ntmps77
 go_wp2
 go_loopg [8] (b - a) (fun g1 vi wr => ∃ (i : Nat) (dk : Array α), vi = .int .i64 i ∧ a < i ∧ i ≤ b + 1 ∧ b + 1 - i ≤ g1 + 1 ∧ dk.size = d.size ∧ Aside0 (HoldsK enc k wr blk off dk) ∧ Aside0 (Kb (fun j => j = blk) w wr) ∧ Aside0 (insOuter (ltOf cf) a b i dk = insOuter (ltOf cf) a b (a + 1) d))
 case atStart => exact ⟨a + 1, d, by go_num, by omega, by omega, by omega, rfl, HH, ⟨Kb.refl _ _⟩, ⟨rfl⟩⟩
 case round =>
  obtain ⟨i, dk, rfl, hai, hib, hg1, hsk, HW, HB, HO⟩ := hrel
  by_cases hlt : i < b
  · have hltz : (i : Int) < (b : Int) := by omega
    go_wp2
    go_loopg [9] i (fun g2 vj wr2 => ∃ (j : Nat) (dj : Array α), vj = .int .i64 j ∧ a ≤ j ∧ j ≤ i ∧ j ≤ g2 ∧ dj.size = d.size ∧ Aside0 (HoldsK enc k wr2 blk off dj) ∧ Aside0 (Kb (fun j => j = blk) w wr2) ∧ Aside0 (insInner (ltOf cf) a j dj = insInner (ltOf cf) a i dk))
    case atStart => exact ⟨i, dk, rfl, by omega, Nat.le_refl _, Nat.le_refl _, hsk, HW, HB, ⟨rfl⟩⟩
    case round =>
     obtain ⟨j, dj, rfl, haj, hji, hg2, hsj, HWJ, HBJ, HI⟩ := hrel
     have out : (j ≤ a ∨ ltOf cf dj[j]! dj[j - 1]! = false) → Aside0 (insOuter (ltOf cf) a b (i + 1) dj = insOuter (ltOf cf) a b (a + 1) d) := fun hs => ⟨by
      rw [← HO.out, insOuter_go _ _ _ _ _ hlt, ← HI.out, insInner_stop _ _ _ _ hs]⟩
     have OUT : Aside0 _ := ⟨out⟩
     clear out
     have hlb2 := a0_ (Nat.lt_of_lt_of_le hblk HBJ.out.size)
     by_cases hja : a < j
     · have hjaz : (a : Int) < (j : Int) := by omega
       obtain ⟨jp, rfl⟩ : ∃ jp, j = jp + 1 := ⟨j - 1, by omega⟩
       obtain ⟨xj, hxj⟩ : ∃ x, dj[jp + 1]! = x := ⟨_, rfl⟩
       obtain ⟨xp, hxp⟩ : ∃ x, dj[jp]! = x := ⟨_, rfl⟩
       have hwp : IntKind.i64.wrap (jp : Int) = (jp : Int) := by rw [IntKind.wrap_i64]; omega
       have jz : (jp : Int) + 1 < (d.size : Int) := by omega
       have jz1 : (jp : Int) < (d.size : Int) := by omega
       have hjaz' : (a : Int) < (jp : Int) + 1 := by omega
       have p0 : (0 : Int) ≤ (jp : Int) + 1 := by omega
       have e0 : ((jp : Int) + 1).toNat = jp + 1 := by omega
       obtain ⟨cJ, hcJ⟩ : ∃ c, c = enc xj := ⟨_, rfl⟩
       obtain ⟨cP, hcP⟩ : ∃ c, c = enc xp := ⟨_, rfl⟩
       have lj : ∀ p : BelowBy wr, Sem.run Try.prog (loadCellsFrom ⟨blk, off + (jp + 1) * k, none⟩ 0 k #[]) p.w1 = .ok cJ.toArray p.w1 := fun p => by
        rw [hcJ, ← hxj]; exact run_loadCellsFrom_list Try.prog _ _ _ k (HK.out _) (HoldsK.cells (holdsK_kb HWJ.out p.h hlb2.out) HK.out (by omega))
       have lp : ∀ p : BelowBy wr, Sem.run Try.prog (loadCellsFrom ⟨blk, off + jp * k, none⟩ 0 k #[]) p.w1 = .ok cP.toArray p.w1 := fun p => by
        rw [hcP, ← hxp]; exact run_loadCellsFrom_list Try.prog _ _ _ k (HK.out _) (HoldsK.cells (holdsK_kb HWJ.out p.h hlb2.out) HK.out (by omega))
       obtain ⟨cv, hcv⟩ : ∃ c, c = cf xj xp := ⟨_, rfl⟩
       have hcg : ∀ p : BelowBy wr, Calls Try.prog g #[.agg cJ.toArray, .agg cP.toArray] p.w1 fun e w' => e = .returned (.int .i64 cv) ∧ ∃ q : BelowBy wr, w' = q.w1 := fun p => by
        rw [hcJ, hcP, hcv]; exact calls_below p.h (HC.out _ (Kb.below HBJ.out p.h) xj xp)
       have hsJ : cJ.length = k := by rw [hcJ]; exact HK.out _
       have hsP : cP.length = k := by rw [hcP]; exact HK.out _
       have CC : Aside0 (cJ = enc xj ∧ cP = enc xp ∧ cv = cf xj xp) := ⟨⟨hcJ, hcP, hcv⟩⟩
       clear hcJ hcP hcv
       by_cases hlv : cv < 0
       · go_wp2_with fail
         refine wp_region_quiet_below (by assumption) (by kernel_rfl) ?_
         repeat (quiet_step ((first | (go_at_fn g; refine hcg _))))
         refine wpQuiet_nil ?_
         intro _ hw'
         obtain ⟨pq, hw''⟩ := hw'
         subst hw''
         go_wp2_with fail
         have hlq := Nat.lt_of_lt_of_le hlb2.out pq.h.size
         have HBQ := a0_ (Kb.below HBJ.out pq.h)
         have HHQ := a0_ (holdsK_kb HWJ.out pq.h hlb2.out)
         have HLQ := a0_ hlq
         clear lj lp hcg hlq
         generalize pq.w1 = wq at HBQ HHQ HLQ ⊢
         have hHd : HoldsK enc k wq.drew blk off dj := HHQ.out
         have bnd : ∀ x, x < dj.size → x * k + k ≤ dj.size * k := fun x hx => by
          have := Nat.mul_le_mul_right k (show x + 1 ≤ dj.size from hx); rwa [Nat.add_mul, Nat.one_mul] at this
         have lj2 : Sem.run Try.prog (loadCellsFrom ⟨blk, off + (jp + 1) * k, none⟩ 0 k #[]) wq.drew = .ok cJ.toArray wq.drew := by rw [CC.out.1, ← hxj]; exact run_loadCellsFrom_list Try.prog _ _ _ k (HK.out _) (HoldsK.cells hHd HK.out (by omega))
         have lp2 : Sem.run Try.prog (loadCellsFrom ⟨blk, off + jp * k, none⟩ 0 k #[]) wq.drew = .ok cP.toArray wq.drew := by rw [CC.out.2.1, ← hxp]; exact run_loadCellsFrom_list Try.prog _ _ _ k (HK.out _) (HoldsK.cells hHd HK.out (by omega))
         have s1 : Sem.run Try.prog (storeCells ⟨blk, off + (jp + 1) * k, none⟩ cP 0) wq.drew = .ok () (wq.drew.setCells blk (off + (jp + 1) * k) cP) := stores_of_holds Try.prog hHd ((jp + 1) * k) _ (by rw [hsP, size_flatK]; exact bnd (jp + 1) (by omega)) (by rw [CC.out.2.1]; exact H1.out _)
         have s2 : Sem.run Try.prog (storeCells ⟨blk, off + jp * k, none⟩ cJ 0) (wq.drew.setCells blk (off + (jp + 1) * k) cP) = .ok () ((wq.drew.setCells blk (off + (jp + 1) * k) cP).setCells blk (off + jp * k) cJ) :=
          stores_of_holds Try.prog (holds_setCells_c hHd ((jp + 1) * k) _ (by rw [hsP, size_flatK]; exact bnd (jp + 1) (by omega))) (jp * k) _ (by rw [hsJ, size_setMany, size_flatK]; exact bnd jp (by omega)) (by rw [CC.out.1]; exact H1.out _)
         clear hHd bnd
         go_big_region_o
         all_goals go_wp2
         go_roundg jp
         case measure => omega
         case rel =>
          have HSW : HoldsK enc k (sortWorldK enc k wq blk off 1 (swp dj (jp + 1) jp) #[]) blk off (swp dj (jp + 1) jp) ∧ Kb (fun j => j = blk) wq (sortWorldK enc k wq blk off 1 (swp dj (jp + 1) jp) #[]) := ⟨holdsK_sortWorldK_c enc k wq blk off dj _ _ _ HHQ.out HLQ.out (by rw [size_swp]), kb_sortWorld _ _ _ _ _ _ _ _⟩
          have hst : wq = sortWorldK enc k wq blk off 0 dj #[] := by unfold sortWorldK; rw [grow_empty]; exact (putRowK_self enc k wq blk off dj HHQ.out).symm
          have heq : (wq.drew.setCells blk (off + (jp + 1) * k) cP).setCells blk (off + jp * k) cJ = sortWorldK enc k wq blk off 1 (swp dj (jp + 1) jp) #[] := by
           have h9 := sortWorldK_swp_c enc k wq blk off HK.out 0 dj #[] HLQ.out (jp + 1) jp (by omega) (by omega)
           rw [← hst, hxp, hxj, ← CC.out.1, ← CC.out.2.1] at h9
           exact h9
          refine ⟨jp, swp dj (jp + 1) jp, by first | rfl | go_num | (congr 1; omega), by omega, by omega, Nat.le_refl _, by rw [size_swp]; exact hsj, ⟨?_⟩, ⟨?_⟩, ⟨?_⟩⟩
          · rw [heq]; exact HSW.1
          · rw [heq]; exact Kb.trans HBQ.out HSW.2
          · have := insInner_go (ltOf cf) a (jp + 1) dj hja (by simp only [Nat.add_sub_cancel]; rw [hxj, hxp]; exact decide_eq_true (by rw [← CC.out.2.2]; exact hlv))
            simp only [Nat.add_sub_cancel] at this
            rw [← HI.out, this]
       · go_wp2_with fail
         refine wp_region_quiet_below (by assumption) (by kernel_rfl) ?_
         repeat (quiet_step ((first | (go_at_fn g; refine hcg _))))
         refine wpQuiet_nil ?_
         intro _ hw'
         obtain ⟨pq, hw''⟩ := hw'
         subst hw''
         go_wp2
         go_roundg (b - (i + 1))
         case measure => omega
         case rel => exact ⟨i + 1, dj, by go_num, by omega, by omega, by omega, hsj, ⟨holdsK_kb HWJ.out pq.h hlb2.out⟩, ⟨Kb.below HBJ.out pq.h⟩, OUT.out (Or.inr (by simp only [Nat.add_sub_cancel]; rw [hxj, hxp]; exact decide_eq_false (by rw [← CC.out.2.2]; omega)))⟩
     · have hjaz : decide ((j : Int) > (a : Int)) = false := decide_eq_false (by omega)
       have hjaz' : ¬ (a : Int) < (j : Int) := by omega
       go_wp2_with fail
       go_big_region_o
       all_goals go_wp2
       go_roundg (b - (i + 1))
       case measure => omega
       case rel => exact ⟨i + 1, dj, by go_num, by omega, by omega, by omega, hsj, ⟨HWJ.out⟩, ⟨Kb.drew HBJ.out⟩, OUT.out (Or.inl (by omega))⟩
  · have hltz : ¬ (i : Int) < (b : Int) := by omega
    go_wp2
    go_end0
    exact ⟨rfl, by unfold Sort.insertionSort; rw [← HO.out, insOuter_stop _ _ _ _ _ hlt]; exact HW.out, HB.out⟩
open Go.Sort
section
variable {α : Type} [Inhabited α] {lt : α → α → Bool} {d d1 d2 d3 : Array α}
structure RotBy (d d' : Array α) (a m b : Nat) : Prop where
 perm : PermIn a b d d'
 lo : ∀ i, a ≤ i → i < a + (b - m) → d'[i]! = d[i + (m - a)]!
 hi : ∀ i, a + (b - m) ≤ i → i < b → d'[i]! = d[i - (b - m)]!
structure SwBy (d d' : Array α) (a b n : Nat) : Prop where
 perm : PermIn a (b + n) d d'
 fst : ∀ i, a ≤ i → i < a + n → d'[i]! = d[i + (b - a)]!
 snd : ∀ i, b ≤ i → i < b + n → d'[i]! = d[i - (b - a)]!
 mid : ∀ i, a + n ≤ i → i < b → d'[i]! = d[i]!
theorem SwBy.zero (d : Array α) (a b : Nat) : SwBy d d a b 0 := ⟨permIn_refl _ _ _, fun i h1 h2 => by omega, fun i h1 h2 => by omega, fun _ _ _ => rfl⟩
theorem SwBy.step {a b n : Nat} (h : SwBy d d1 a b n) (h1 : a + n < b) (h2 : b + n < d.size) : SwBy d (swp d1 (a + n) (b + n)) a b (n + 1) := by
 have hs := h.perm.1
 have hg := swp_get d1 (show a + n < d1.size by omega) (show b + n < d1.size by omega)
 have eo := h.perm.2.1 (b + n) (Or.inr (Nat.le_refl _))
 refine ⟨permIn_trans _ _ _ _ _ (permIn_mono _ _ _ _ _ _ (Nat.le_refl _) (by omega) (by omega) h.perm) (swp_permIn _ _ _ _ _ (by omega) (by omega) (by omega) (by omega) (by omega)), fun i i1 i2 => ?_, fun i i1 i2 => ?_, fun i i1 i2 => ?_⟩
 · rw [hg, if_neg (by omega)]
   by_cases e : i = a + n
   · rw [if_pos e, eo, e]; congr 1; omega
   · rw [if_neg e]; exact h.fst i i1 (by omega)
 · rw [hg]
   by_cases e : i = b + n
   · rw [if_pos e, h.mid (a + n) (Nat.le_refl _) (by omega), e]; congr 1; omega
   · rw [if_neg e, if_neg (by omega)]; exact h.snd i i1 (by omega)
 · rw [hg, if_neg (by omega), if_neg (by omega)]
   exact h.mid i (by omega) i2
theorem RotBy.none_r (d : Array α) (a m : Nat) : RotBy d d a m m := ⟨permIn_refl _ _ _, fun i h1 h2 => by omega, fun i h1 h2 => by congr 1; omega⟩
theorem RotBy.none_l (d : Array α) (a b : Nat) (h : a ≤ b) : RotBy d d a a b := ⟨permIn_refl _ _ _, fun i h1 h2 => by congr 1; omega, fun i h1 h2 => by omega⟩
theorem RotBy.more {a m j : Nat} (h1 : SwBy d d1 a m j) (h2 : RotBy d1 d2 (a + j) m (m + j)) (hj : a + j < m) (hs : m + j ≤ d.size) : RotBy d d2 a m (m + j) := by
 have e1 := h1.perm.1
 refine ⟨permIn_trans _ _ _ _ _ h1.perm (permIn_mono _ _ _ _ _ _ (by omega) (Nat.le_refl _) (by omega) h2.perm), fun i i1 i2 => ?_, fun i i1 i2 => ?_⟩
 · rw [h2.perm.2.1 i (Or.inl (by omega)), h1.fst i i1 (by omega)]
 · by_cases e : i < a + j + j
   · rw [h2.lo i (by omega) (by omega), h1.snd _ (by omega) (by omega)]; congr 1; omega
   · rw [h2.hi i (by omega) (by omega), h1.mid _ (by omega) (by omega)]
theorem RotBy.less {a m b i : Nat} (h1 : SwBy d d1 a (b - i) i) (h2 : RotBy d1 d2 a m (b - i)) (hi : a + i = m) (hj : m + i < b) (hs : b ≤ d.size) : RotBy d d2 a m b := by
 have e1 := h1.perm.1
 have hp := h1.perm
 rw [show b - i + i = b by omega] at hp
 refine ⟨permIn_trans _ _ _ _ _ hp (permIn_mono _ _ _ _ _ _ (Nat.le_refl _) (by omega) (by omega) h2.perm), fun k k1 k2 => ?_, fun k k1 k2 => ?_⟩
 · by_cases e : k < a + (b - i - m)
   · rw [h2.lo k k1 e, h1.mid _ (by omega) (by omega)]
   · rw [h2.hi k (by omega) (by omega), h1.fst _ (by omega) (by omega)]; congr 1; omega
 · rw [h2.perm.2.1 k (Or.inr (by omega)), h1.snd k (by omega) (by omega)]; congr 1; omega
theorem RotBy.eq {a m i : Nat} (h1 : SwBy d d1 a m i) (hi : a + i = m) : RotBy d d1 a m (m + i) :=
 ⟨h1.perm, fun k k1 k2 => h1.fst k k1 (by omega), fun k k1 k2 => by rw [h1.snd k (by omega) k2]; congr 1; omega⟩
theorem RotBy.up {a k : Nat} (h : RotBy d d1 a (a + 1) (k + 1)) (hk : a ≤ k) (hs : k + 1 < d.size) : RotBy d (swp d1 k (k + 1)) a (a + 1) (k + 1 + 1) := by
 have e1 := h.perm.1
 have hg := swp_get d1 (show k < d1.size by omega) (show k + 1 < d1.size by omega)
 refine ⟨permIn_trans _ _ _ _ _ (permIn_mono _ _ _ _ _ _ (Nat.le_refl _) (by omega) (by omega) h.perm) (swp_permIn _ _ _ _ _ (by omega) (by omega) (by omega) (by omega) (by omega)), fun i i1 i2 => ?_, fun i i1 i2 => ?_⟩
 · rw [hg, if_neg (by omega)]
   by_cases e : i = k
   · rw [if_pos e, h.perm.2.1 (k + 1) (Or.inr (Nat.le_refl _)), e]; congr 1; omega
   · rw [if_neg e, h.lo i i1 (by omega)]
 · have : i = k + 1 := by omega
   rw [hg, if_pos this, h.hi k (by omega) (by omega), this]; congr 1; omega
theorem RotBy.down {m k : Nat} (h : RotBy d d1 (k + 1) m (m + 1)) (hk : k + 1 ≤ m) (hs : m < d.size) : RotBy d (swp d1 (k + 1) k) k m (m + 1) := by
 have e1 := h.perm.1
 have hg := swp_get d1 (show k + 1 < d1.size by omega) (show k < d1.size by omega)
 refine ⟨permIn_trans _ _ _ _ _ (permIn_mono _ _ _ _ _ _ (by omega) (Nat.le_refl _) (by omega) h.perm) (swp_permIn _ _ _ _ _ (by omega) (by omega) (by omega) (by omega) (by omega)), fun i i1 i2 => ?_, fun i i1 i2 => ?_⟩
 · have : i = k := by omega
   rw [hg, if_pos this, h.lo (k + 1) (Nat.le_refl _) (by omega), this]; congr 1; omega
 · rw [hg, if_neg (by omega)]
   by_cases e : i = k + 1
   · rw [if_pos e, h.perm.2.1 k (Or.inl (by omega)), e]; congr 1; omega
   · rw [if_neg e, h.hi i (by omega) i2]
theorem leS (hS : SWO lt) {a b i j : Nat} (h : SortedIn lt a b d) (h1 : a ≤ i) (h2 : i ≤ j) (h3 : j < b) : lt d[j]! d[i]! = false := by
 rcases Nat.lt_or_ge i j with e | e
 · exact h i j h1 e h3
 · have : i = j := by omega
   subst this; exact hS.irrefl _
theorem sm_left (hS : SWO lt) {a b i : Nat} (hb : b ≤ d.size) (h : SortedIn lt (a + 1) b d) (i1 : a + 1 ≤ i) (i2 : i ≤ b) (hl : a + 1 < i → lt d[i - 1]! d[a]! = true) (hr : i < b → lt d[i]! d[a]! = false) (hR : RotBy d d1 a (a + 1) i) : PermIn a b d d1 ∧ SortedIn lt a b d1 := by
 refine ⟨permIn_mono _ _ _ _ _ _ (Nat.le_refl _) i2 hb hR.perm, ?_⟩
 have v1 : ∀ k, a ≤ k → k < i - 1 → d1[k]! = d[k + 1]! := fun k k1 k2 => by rw [hR.lo k k1 (by omega)]; congr 1; omega
 have v2 : d1[i - 1]! = d[a]! := by rw [hR.hi (i - 1) (by omega) (by omega)]; congr 1; omega
 have v3 : ∀ k, i ≤ k → d1[k]! = d[k]! := fun k k1 => hR.perm.2.1 k (Or.inr k1)
 intro p q p1 pq q1
 rcases Nat.lt_trichotomy q (i - 1) with hq | hq | hq
 · rw [v1 q (by omega) hq, v1 p p1 (by omega)]; exact leS hS h (by omega) (by omega) (by omega)
 · subst hq
   rw [v2, v1 p p1 pq]
   have := hS.asymmA (hl (by omega))
   exact hS.ntrans _ _ _ this (leS hS h (by omega) (by omega) (by omega))
 · rw [v3 q (by omega)]
   have hy := hr (by omega)
   have hq2 : lt d[q]! d[a]! = false := hS.ntrans _ _ _ (leS hS h i1 (by omega) q1) hy
   rcases Nat.lt_trichotomy p (i - 1) with hp | hp | hp
   · rw [v1 p p1 hp]; exact leS hS h (by omega) (by omega) q1
   · subst hp; rw [v2]; exact hq2
   · rw [v3 p (by omega)]; exact leS hS h (by omega) (by omega) q1
theorem sm_right (hS : SWO lt) {a m i : Nat} (hb : m < d.size) (h : SortedIn lt a m d) (i1 : a ≤ i) (i2 : i ≤ m) (hl : a < i → lt d[m]! d[i - 1]! = false) (hr : i < m → lt d[m]! d[i]! = true) (hR : RotBy d d1 i m (m + 1)) : PermIn a (m + 1) d d1 ∧ SortedIn lt a (m + 1) d1 := by
 refine ⟨permIn_mono _ _ _ _ _ _ i1 (Nat.le_refl _) hb hR.perm, ?_⟩
 have v1 : ∀ k, k < i → d1[k]! = d[k]! := fun k k1 => hR.perm.2.1 k (Or.inl k1)
 have v2 : d1[i]! = d[m]! := by rw [hR.lo i (Nat.le_refl _) (by omega)]; congr 1; omega
 have v3 : ∀ k, i < k → k ≤ m → d1[k]! = d[k - 1]! := fun k k1 k2 => by rw [hR.hi k (by omega) (by omega)]; congr 1; omega
 intro p q p1 pq q1
 rcases Nat.lt_trichotomy p i with hp | hp | hp
 · rw [v1 p hp]
   have hx := hl (by omega)
   have hp2 : lt d[i - 1]! d[p]! = false := leS hS h p1 (by omega) (by omega)
   rcases Nat.lt_trichotomy q i with hq | hq | hq
   · rw [v1 q hq]; exact h p q p1 pq (by omega)
   · subst hq; rw [v2]; exact hS.ntrans _ _ _ hx hp2
   · rw [v3 q hq (by omega)]; exact leS hS h p1 (by omega) (by omega)
 · subst hp
   rw [v2, v3 q pq (by omega)]
   exact hS.ntrans _ _ _ (leS hS h p1 (by omega) (by omega)) (hS.asymmA (hr (by omega)))
 · rw [v3 p hp (by omega), v3 q (by omega) (by omega)]
   exact leS hS h (by omega) (by omega) (by omega)
structure CutAt (lt : α → α → Bool) (d : Array α) (a m b s : Nat) : Prop where
 s1 : (if (a + b) / 2 < m then (a + b) / 2 + m - b else a) ≤ s
 s2 : s ≤ (if (a + b) / 2 < m then (a + b) / 2 else m)
 hl : (if (a + b) / 2 < m then (a + b) / 2 + m - b else a) < s → lt d[(a + b) / 2 + m - s]! d[s - 1]! = false
 hr : s < (if (a + b) / 2 < m then (a + b) / 2 else m) → lt d[(a + b) / 2 + m - 1 - s]! d[s]! = true
theorem CutAt.hi {a m b s M P : Nat} (hM : M = (a + b) / 2) (hP : P + 1 = M + m) (hm : M < m) (s1 : M + m - b ≤ s) (s2 : s ≤ M) (hl : M + m - b < s → lt d[P - (s - 1)]! d[s - 1]! = false) (hr : s < M → lt d[P - s]! d[s]! = true) : CutAt lt d a m b s := by
 constructor
 · rw [← hM, if_pos hm]; exact s1
 · rw [← hM, if_pos hm]; exact s2
 · rw [← hM, if_pos hm]; intro h; have := hl h; rwa [show P - (s - 1) = M + m - s by omega] at this
 · rw [← hM, if_pos hm]; intro h; have := hr h; rwa [show P - s = M + m - 1 - s by omega] at this
theorem CutAt.low {a m b s M P : Nat} (hM : M = (a + b) / 2) (hP : P + 1 = M + m) (hm : ¬ M < m) (s1 : a ≤ s) (s2 : s ≤ m) (hl : a < s → lt d[P - (s - 1)]! d[s - 1]! = false) (hr : s < m → lt d[P - s]! d[s]! = true) : CutAt lt d a m b s := by
 constructor
 · rw [← hM, if_neg hm]; exact s1
 · rw [← hM, if_neg hm]; exact s2
 · rw [← hM, if_neg hm]; intro h; have := hl h; rwa [show P - (s - 1) = M + m - s by omega] at this
 · rw [← hM, if_neg hm]; intro h; have := hr h; rwa [show P - s = M + m - 1 - s by omega] at this
structure CutDone (lt : α → α → Bool) (d d1 : Array α) (a m b s : Nat) : Prop where
 perm : PermIn a b d d1
 b1 : a ≤ s ∧ s ≤ (a + b) / 2 ∧ s ≤ m ∧ (a + b) / 2 ≤ (a + b) / 2 + m - s ∧ (a + b) / 2 + m - s ≤ b ∧ m ≤ (a + b) / 2 + m - s
 q1 : SortedIn lt a s d1
 q2 : SortedIn lt s ((a + b) / 2) d1
 q3 : SortedIn lt ((a + b) / 2) ((a + b) / 2 + m - s) d1
 q4 : SortedIn lt ((a + b) / 2 + m - s) b d1
 cross : ∀ x y, a ≤ x → x < (a + b) / 2 → (a + b) / 2 ≤ y → y < b → lt d1[y]! d1[x]! = false
theorem sm_cut (hS : SWO lt) {a m b s : Nat} (hb : b ≤ d.size) (h1 : a < m) (h2 : m < b) (hA : SortedIn lt a m d) (hB : SortedIn lt m b d) (hc : CutAt lt d a m b s) (hR : RotBy d d1 s m ((a + b) / 2 + m - s)) : CutDone lt d d1 a m b s := by
 obtain ⟨c1, c2, cl, cr⟩ := hc
 obtain ⟨M, hM⟩ : ∃ M, M = (a + b) / 2 := ⟨_, rfl⟩
 rw [← hM] at c1 c2 cl cr hR
 have hM1 : a + b ≤ 2 * M + 1 := by omega
 have hM2 : 2 * M ≤ a + b := by omega
 have key : a ≤ s ∧ s ≤ M ∧ s ≤ m ∧ M ≤ M + m - s ∧ M + m - s ≤ b ∧ m ≤ M + m - s := by
  by_cases e : M < m
  · rw [if_pos e] at c1 c2; omega
  · rw [if_neg e] at c1 c2; omega
 obtain ⟨E, hE⟩ : ∃ E, E = M + m - s := ⟨_, rfl⟩
 rw [← hE] at hR cl key
 have v1 : ∀ k, k < s → d1[k]! = d[k]! := fun k k1 => hR.perm.2.1 k (Or.inl k1)
 have v2 : ∀ k, s ≤ k → k < M → d1[k]! = d[k + (m - s)]! := fun k k1 k2 => hR.lo k k1 (by omega)
 have v3 : ∀ k, M ≤ k → k < E → d1[k]! = d[k - (E - m)]! := fun k k1 k2 => hR.hi k (by omega) k2
 have v4 : ∀ k, E ≤ k → d1[k]! = d[k]! := fun k k1 => hR.perm.2.1 k (Or.inr k1)
 have hcross : ∀ x y, a ≤ x → x < M → M ≤ y → y < b → lt d1[y]! d1[x]! = false := fun x y x1 x2 y1 y2 => by
  rcases Nat.lt_or_ge x s with hx | hx <;> rcases Nat.lt_or_ge y E with hy | hy
  · rw [v1 x hx, v3 y y1 hy]; exact leS hS hA x1 (by omega) (by omega)
  · rw [v1 x hx, v4 y hy]
    have hlo : (if M < m then M + m - b else a) < s := by
     by_cases e : M < m
     · rw [if_pos e] at c1 ⊢; omega
     · rw [if_neg e] at c1 ⊢; omega
    exact hS.ntrans _ _ _ (leS hS hB (by omega) hy y2) (hS.ntrans _ _ _ (cl hlo) (leS hS hA x1 (by omega) (by omega)))
  · rw [v2 x hx x2, v3 y y1 hy]
    have hhi : s < (if M < m then M else m) := by
     by_cases e : M < m
     · rw [if_pos e] at c2 ⊢; omega
     · rw [if_neg e] at c2 ⊢; omega
    have := hS.asymmA (cr hhi)
    rw [show M + m - 1 - s = E - 1 by omega] at this
    exact hS.ntrans _ _ _ (leS hS hA (Nat.le_of_lt_succ (by omega)) (show s ≤ y - (E - m) by omega) (by omega)) (hS.ntrans _ _ _ this (leS hS hB (by omega) (by omega) (by omega)))
  · rw [v2 x hx x2, v4 y hy]; exact leS hS hB (by omega) (by omega) y2
 have r : CutDone lt d d1 a m b s := by
  constructor
  · exact permIn_mono _ _ _ _ _ _ (by omega) (by omega) hb hR.perm
  · rw [← hM, ← hE]; exact key
  · intro i j i1 ij j1; rw [v1 i (by omega), v1 j j1]; exact hA i j i1 ij (by omega)
  · rw [← hM]; intro i j i1 ij j1; rw [v2 i i1 (by omega), v2 j (by omega) j1]; exact hB _ _ (by omega) (by omega) (by omega)
  · rw [← hM, ← hE]; intro i j i1 ij j1; rw [v3 i i1 (by omega), v3 j (by omega) j1]; exact hA _ _ (by omega) (by omega) (by omega)
  · rw [← hM, ← hE]; intro i j i1 ij j1; rw [v4 i i1, v4 j (by omega)]; exact hB i j (by omega) ij j1
  · rw [← hM]; exact hcross
 exact r
theorem sm_end {a M b : Nat} (hb : b ≤ d.size) (h1 : a ≤ M) (h2 : M ≤ b) (hx : ∀ x y, a ≤ x → x < M → M ≤ y → y < b → lt d[y]! d[x]! = false) (p1 : PermIn a M d d1) (q1 : SortedIn lt a M d1) (p2 : PermIn M b d1 d2) (q2 : SortedIn lt M b d2) : PermIn a b d d2 ∧ SortedIn lt a b d2 := by
 have e1 := p1.1
 refine ⟨permIn_trans _ _ _ _ _ (permIn_mono _ _ _ _ _ _ (Nat.le_refl _) h2 hb p1) (permIn_mono _ _ _ _ _ _ h1 (Nat.le_refl _) (by omega) p2), ?_⟩
 have hx1 : ∀ x y, a ≤ x → x < M → M ≤ y → y < b → lt d1[y]! d1[x]! = false := fun x y x1 x2 y1 y2 => by
  rw [p1.2.1 y (Or.inr y1)]
  exact permIn_all d d1 a M (fun v => lt d[y]! v = false) (by omega) p1 (fun i i1 i2 => hx i y i1 i2 y1 y2) x x1 x2
 have hx2 : ∀ x y, a ≤ x → x < M → M ≤ y → y < b → lt d2[y]! d2[x]! = false := fun x y x1 x2 y1 y2 => by
  rw [p2.2.1 x (Or.inl x2)]
  exact permIn_all d1 d2 M b (fun v => lt v d1[x]! = false) (by omega) p2 (fun i i1 i2 => hx1 x i x1 x2 i1 i2) y y1 y2
 intro i j i1 ij j1
 rcases Nat.lt_or_ge j M with e | e
 · rw [p2.2.1 i (Or.inl (by omega)), p2.2.1 j (Or.inl e)]; exact q1 i j i1 ij e
 · rcases Nat.lt_or_ge i M with e2 | e2
   · exact hx2 i j i1 e2 e j1
   · exact q2 i j e2 ij j1
theorem sorted_same {a b : Nat} (h : SortedIn lt a b d) (he : ∀ i, a ≤ i → i < b → d1[i]! = d[i]!) : SortedIn lt a b d1 := fun i j h1 h2 h3 => by
 rw [he i h1 (by omega), he j (by omega) h3]; exact h i j h1 h2 h3
theorem sm_all {a m b s M E : Nat} (hM : M = (a + b) / 2) (hE : E = M + m - s) (hb : b ≤ d.size) (hab : a ≤ b) (hc : CutDone lt d d1 a m b s) (p1 : PermIn a M d1 d2) (q1 : SortedIn lt a M d2) (p2 : PermIn M b d2 d3) (q2 : SortedIn lt M b d3) : PermIn a b d d3 ∧ SortedIn lt a b d3 := by
 have e1 := hc.perm.1
 obtain ⟨h1, h2⟩ := sm_end (d := d1) (d1 := d2) (d2 := d3) (a := a) (M := M) (b := b) (by omega) (by omega) (by omega) (by rw [hM]; exact hc.cross) p1 q1 p2 q2
 exact ⟨permIn_trans _ _ _ _ _ hc.perm h1, h2⟩
theorem sm_rest {a m b s M E : Nat} (hM : M = (a + b) / 2) (hE : E = M + m - s) (hc : CutDone lt d d1 a m b s) (p1 : PermIn a M d1 d2) : SortedIn lt M E d2 ∧ SortedIn lt E b d2 := by
 have hb := hc.b1
 rw [← hM, ← hE] at hb
 have q3 := hc.q3
 have q4 := hc.q4
 rw [← hM, ← hE] at q3 q4
 exact ⟨sorted_same q3 (fun i h1 _ => p1.2.1 i (Or.inr h1)), sorted_same q4 (fun i h1 _ => p1.2.1 i (Or.inr (by omega)))⟩
def BS (lt : α → α → Bool) (s lo n : Nat) (d : Array α) : Prop := ∀ t i j, lo ≤ s * t → s * t ≤ i → i < j → j < s * t + s → j < n → lt d[j]! d[i]! = false
theorem BS.add {s t b : Nat} (h : BS lt s 0 (s * t) d) (hp : PermIn (s * t) b d d1) (hs : SortedIn lt (s * t) b d1) (hb : b ≤ s * t + s) : BS lt s 0 b d1 := by
 intro t' i j _ h1 h2 h3 h4
 rcases Nat.lt_or_ge i (s * t) with e | e
 · have ht : t' < t := Nat.lt_of_not_le (fun hle => by have := Nat.mul_le_mul_left s hle; omega)
   have hm := Nat.mul_le_mul_left s (show t' + 1 ≤ t from ht)
   rw [Nat.mul_add, Nat.mul_one] at hm
   rw [hp.2.1 i (Or.inl e), hp.2.1 j (Or.inl (by omega))]
   exact h t' i j (Nat.zero_le _) h1 h2 h3 (by omega)
 · exact hs i j e h2 h4
theorem BS.rest {s a b n : Nat} (h : BS lt s a n d) (hp : PermIn a b d d1) (hab : a ≤ b) : BS lt s b n d1 := by
 intro t i j h0 h1 h2 h3 h4
 rw [hp.2.1 i (Or.inr (by omega)), hp.2.1 j (Or.inr (by omega))]
 exact h t i j (by omega) h1 h2 h3 h4
theorem BS.at {s t lo n m : Nat} (h : BS lt s lo n d) (h0 : lo ≤ s * t) (hm : m ≤ s * t + s) (hn : m ≤ n) : SortedIn lt (s * t) m d :=
 fun i j h1 h2 h3 => h t i j h0 h1 h2 (by omega) (by omega)
theorem BS.all {s n : Nat} (h : BS lt s 0 n d) (hn : n ≤ s) : SortedIn lt 0 n d :=
 fun i j h1 h2 h3 => h 0 i j (Nat.zero_le _) (by omega) h2 (by omega) h3
theorem BS.nil (s n : Nat) : BS lt s 0 0 d := fun _ _ _ _ _ _ _ h => by omega
end
end Go.Proofs.Ytgdkgahbmfhgcaa.PN
