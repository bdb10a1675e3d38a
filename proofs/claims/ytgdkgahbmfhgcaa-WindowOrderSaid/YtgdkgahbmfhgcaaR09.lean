/- What the statement rests on, part 9: WC WD WE NA4 WI. -/
import Derived.Test.YtgdkgahbmfhgcaaR08
set_option linter.unusedVariables false
set_option linter.unusedSimpArgs false
set_option maxHeartbeats 4000000
set_option maxRecDepth 100000
namespace Go.Proofs.Ytgdkgahbmfhgcaa.PN
open Go.RowKit Go.Proofs.Ytgdkgahbmfhgcaa.NS Go.Proofs.Ytgdkgahbmfhgcaa.Limbs Go.Proofs.YtgdkgahbmfhgcaaW.PrintWords Go.Proofs.YtgdkgahbmfhgcaaW.PrintLast Go.Proofs.YtgdkgahbmfhgcaaW.PrintMore
def addO (o : Option Rat) (x : Rat) : Option Rat := doO o.isNone (fun x y => x + y) o (some x)
def sumO (o : Option Rat) (l : List Rat) : Option Rat := l.foldl addO o
theorem addO_er (o : Option Rat) (x : Rat) : (o.isNone || (addO o x).isNone) = (addO o x).isNone := by
 cases o with
 | none => rfl
 | some y => rfl
theorem addO_dom (o : Option Rat) (x : Rat) : o.isNone = false → ∃ a b, o = some a ∧ (some x : Option Rat) = some b ∧ True := fun h => by
 cases o with
 | none => cases h
 | some y => exact ⟨y, x, rfl, rfl, trivial⟩
theorem getD_mem (qs : List Rat) (k : Nat) (h : k < qs.length) : qs.drop k = qs.getD k 0 :: qs.drop (k + 1) := by
 rw [List.getD_eq_getElem?_getD, List.getElem?_eq_getElem h]
 exact List.drop_eq_getElem_cons h
theorem rsum_calls (rb : Nat) (qs : List Rat) (w : World) (vl : Value) (hr : Rk w rb false) (hl : RowQ (fun k => k ≠ rb) w vl qs) (hsz : qs.length < 4611686018427387904) :
 Calls Try.prog 41 #[.pointer (some ⟨rb, 0, none⟩), vl] w fun e w' => ∃ v, e = .returned v ∧ Res (fun k => w.heap.size ≤ k) w' v (sumO (some 0) qs) ∧ Rk w' rb (sumO (some 0) qs).isNone ∧ Kb (fun k => k = rb) w w' := by
 have hu30 := Try.underlying30
 obtain ⟨Al, cl, rfl⟩ := hl.slice
 obtain ⟨so, hso⟩ : ∃ so, so = sumO (some 0) qs := ⟨_, rfl⟩
 rw [← hso]
 have HSO := a0_ hso
 clear hso
 obtain ⟨nl, hnl⟩ : ∃ nl, nl = qs.length := ⟨_, rfl⟩
 rw [← hnl] at hl
 have HNL := a0_ hnl
 clear hnl
 rw [← HNL.out]
 have hsz2 : nl < 4611686018427387904 := by rw [HNL.out]; exact hsz
 clear hsz
 have HB := kr_ rb w
 have HL := a0_ (Rk.lt hr)
 have RK := a0_ hr
 clear hr
 have V_l := a0_ hl
 clear hl
 have B_l := kr_ rb w
 go_enter Try.func41, Try.ntmps41
 go_wp2_with (first | ((with_reducible refine gd_ 4 rfl ?_); refine bx_ (N := 4) #[.bool false, .slice none 0 0, .slice none 0 0] 30 ?_; intro g_r hg w101 hbox hb; have G_r := kb_g HB hg; replace HB := kb_b HB hb; replace B_l := kb_b B_l hb; replace RK := rk_b RK hb; clear hb; have V_r := a0_ hbox; have B_r := kr_ rb w101; have N_r : Aside0 (¬ (fun k => k = rb) g_r) := ⟨by show ¬ (_ = _); have := HL.out; have := G_r.out; omega⟩; clear hbox hg))
 with_reducible refine (qof_calls 0 (by omega) (by omega) _).mono ?_
 rintro e w102 ⟨⟨v, rfl, hv⟩, hb⟩
 obtain ⟨tz, Az, nz, cz, Dz, kz, zz, rfl⟩ := hv.agg
 have hle := Kb.size HB.out
 have hl_r := blk_lt (bk_ V_r B_r N_r)
 have hv_ := IsR.mono' (ok' := fun k => k ≠ rb ∧ k ≠ g_r ∧ w.heap.size ≤ k) hv (fun k hk _ => by have := HL.out; refine ⟨?_, ?_, ?_⟩ <;> omega)
 clear hv hle hl_r
 replace HB := kb_b HB hb
 replace B_l := kb_b B_l hb
 replace B_r := kb_b B_r hb
 replace RK := rk_b RK hb
 clear hb
 have V_z := a0_ hv_
 clear hv_
 have B_z := a0_ (Kb.refl (fun k => k = rb ∨ k = g_r) w102)
 go_wp2_with (first | ((with_reducible refine gd_ 5 rfl ?_); refine bx_ (N := 5) #[.bool false, .slice none 0 0, .slice none 0 0] 30 ?_; intro g_a hg w103 hbox hb; have G_a := kb_g HB hg; have O_a_l := kb_g B_l hg; have O_a_r := kb_g B_r hg; have O_a_z := kb_g B_z hg; replace HB := kb_b HB hb; replace B_l := kb_b B_l hb; replace B_r := kb_b B_r hb; replace B_z := kb_b B_z hb; replace RK := rk_b RK hb; clear hb; have V_a := a0_ hbox; have B_a := kr_ rb w103; have N_a : Aside0 (¬ (fun k => k = rb) g_a) := ⟨by show ¬ (_ = _); have := HL.out; have := G_a.out; omega⟩; clear hbox hg) | ((with_reducible refine gt_ 30 5 8 rfl ?_); refine store_ev (p := .tmp 5) (v := .tmp 8) rfl rfl rfl (g := g_a) rfl rfl (bk_ V_a B_a N_a) ?_; intro w104 hbox hk; replace HB := kb_o HB hk G_a; replace B_l := kb_o B_l hk O_a_l; replace B_r := kb_o B_r hk O_a_r; replace B_z := kb_o B_z hk O_a_z; have Z_ := a0_ (Rk.kb RK.out hk (by have := HL.out; have := G_a.out; omega)); clear RK; have RK := Z_; clear Z_; clear V_a B_a; have V_a := a0_ hbox; have B_a := kr_ rb w104; clear hbox hk))
 go_loopg [11] nl (fun kg v11 wr => ∃ (k : Nat) (o : Option Rat) (tx : Bool) (Ax : Option Addr) (nx cx : Nat) (Dx : Option Addr) (kx zx : Nat), v11 = .int .i64 k ∧ Aside0 (k + kg = nl ∧ sumO o (qs.drop k) = so) ∧ Aside0 (Rk wr rb o.isNone) ∧ Aside0 (wr.heap[g_a]? = some (.cells #[.bool tx, .slice Ax nx cx, .slice Dx kx zx] 30 (0, 0))) ∧ Aside0 (Kb (fun k => k = rb) w101 wr) ∧ Aside0 (Res (fun k => k ≠ rb ∧ k ≠ g_a ∧ k ≠ g_r ∧ w.heap.size ≤ k) wr (.agg #[.bool tx, .slice Ax nx cx, .slice Dx kx zx]) o) ∧ Aside0 (Kb (fun k => k = rb) w wr))
 case atStart => exact ⟨0, some 0, tz, Az, nz, cz, Dz, kz, zz, rfl, ⟨by omega, by rw [List.drop_zero]; exact HSO.out.symm⟩, RK, V_a, B_r, ⟨IsR.kb (IsR.mono (IsR.bound V_z.out) (ok' := fun k => k ≠ rb ∧ k ≠ g_a ∧ k ≠ g_r ∧ w.heap.size ≤ k) (fun k hk => ⟨hk.1.1, fun e => by have := O_a_z.out; omega, hk.1.2⟩)) B_z.out (fun k hk h => h.elim hk.1 hk.2.2.1)⟩, HB⟩
 case round =>
  obtain ⟨k, o, tx, Ax, nx, cx, Dx, kx, zx, rfl, HK, RK2, HA, HR, HV, HB2⟩ := hrel
  clear RK V_a B_a B_r V_z B_z HB B_l
  have RK := RK2
  clear RK2
  have HB := HB2
  clear HB2
  have B_l := HB
  have B_r := HR
  clear HR
  have V_a := HA
  clear HA
  have B_a := kr_ rb wr
  have V_x := HV
  clear HV
  have B_x := a0_ (Kb.refl (fun k => k = rb ∨ k = g_a ∨ k = g_r) wr)
  by_cases hlt : k < nl
  · have hz : (k : Int) < (nl : Int) := by omega
    obtain ⟨bl, ol, rfl⟩ := RowQ.some_ V_l.out (by omega)
    obtain ⟨ty, Ay, ny, cy, Dy, ky, zy, hy, c0, c1, c2⟩ := RowQ.get (RowQ.kb V_l.out B_l.out (fun _ h => h)) k (by rw [← HNL.out]; exact hlt)
    have C0 := a0_ (And.intro c0 (And.intro c1 c2))
    clear c0 c1 c2
    have V_y := a0_ hy
    clear hy
    have B_y := kr_ rb wr
    have e1 : IntKind.i64.wrap ((k : Int) + 1) = ((k + 1 : Nat) : Int) := (i64_w _).trans ((w64 (by omega) (by omega)).trans (by omega))
    go_wp2_with (first | ((with_reducible refine gd_ 14 rfl ?_); refine load_at rfl rfl (g := bl) (k := (ol + k * 3)) rfl (by have := C0.out.1; exact this) (by have := C0.out.2.1; exact this) (by have := C0.out.2.2; exact this) ?_) | ((with_reducible refine gd_ 7 rfl ?_); refine bx_ (N := 7) #[.bool false, .slice none 0 0, .slice none 0 0] 30 ?_; intro g_v hg w106 hbox hb; have G_v := kb_g HB hg; have O_v_a := kb_g B_a hg; have O_v_x := kb_g B_x hg; have O_v_y := kb_g B_y hg; have O_v_r := kb_g B_r hg; have O_v_l := kb_g B_l hg; replace HB := kb_b HB hb; replace B_a := kb_b B_a hb; replace B_x := kb_b B_x hb; replace B_y := kb_b B_y hb; replace B_r := kb_b B_r hb; replace B_l := kb_b B_l hb; replace RK := rk_b RK hb; clear hb; have V_v := a0_ hbox; have B_v := kr_ rb w106; have N_v : Aside0 (¬ (fun k => k = rb) g_v) := ⟨by show ¬ (_ = _); have := HL.out; have := G_v.out; omega⟩; clear hbox hg) | ((with_reducible refine gt_ 30 7 14 rfl ?_); refine store_ev (p := .tmp 7) (v := .tmp 14) rfl rfl rfl (g := g_v) rfl rfl (bk_ V_v B_v N_v) ?_; intro w107 hbox hk; replace HB := kb_o HB hk G_v; replace B_a := kb_o B_a hk O_v_a; replace B_x := kb_o B_x hk O_v_x; replace B_y := kb_o B_y hk O_v_y; replace B_r := kb_o B_r hk O_v_r; replace B_l := kb_o B_l hk O_v_l; have Z_ := a0_ (Rk.kb RK.out hk (by have := HL.out; have := G_v.out; omega)); clear RK; have RK := Z_; clear Z_; clear V_v B_v; have V_v := a0_ hbox; have B_v := kr_ rb w107; clear hbox hk) | ((with_reducible refine gd_ 16 rfl ?_); refine load_ev rfl rfl (g := g_a) rfl (bk_ V_a B_a N_a) ?_) | ((with_reducible refine gd_ 17 rfl ?_); refine load_ev rfl rfl (g := g_v) rfl (bk_ V_v B_v N_v) ?_))
    with_reducible refine (do_any qadd_op (enters_run (enters_of (P := Try.prog) Try.func20 (by kernel_rfl) rfl)) rb o.isNone o (some (qs.getD k 0)) _ _ _ RK.out (Res.mono (Res.kb (S := fun k => k = rb ∨ k = g_a ∨ k = g_r) V_x.out B_x.out (fun k h hs => hs.elim h.1 (fun hs2 => hs2.elim h.2.1 h.2.2.1))) (fun k h => h.1)) (IsR.res (IsR.kb (S := fun k => k = rb) V_y.out B_y.out (fun _ h => h))) (addO_dom o _)).mono ?_
    rintro e w108 ⟨v, rfl, hv, hrk, hk⟩
    obtain ⟨tu, Au, nu, cu, Du, ku, zu, rfl⟩ := hv.agg
    clear V_x B_x
    clear V_y B_y
    clear V_v B_v
    have hrk2 : Rk w108 rb (addO o (qs.getD k 0)).isNone := by rw [← addO_er]; exact hrk
    clear RK hrk
    have RK := a0_ hrk2
    clear hrk2
    have hle := Kb.size HB.out
    have hl_a := blk_lt (bk_ V_a B_a N_a)
    have hl_r := blk_lt (bk_ V_r B_r N_r)
    have hv_ := Res.mono' (ok' := fun k => k ≠ rb ∧ k ≠ g_a ∧ k ≠ g_r ∧ w.heap.size ≤ k) hv (fun k hk _ => by have := HL.out; refine ⟨?_, ?_, ?_, ?_⟩ <;> omega)
    clear hv hle hl_a hl_r
    replace HB := kb_t HB hk (fun i hi => Or.inl hi)
    replace B_a := kb_t B_a hk (fun i hi => Or.inl hi)
    replace B_r := kb_t B_r hk (fun i hi => Or.inl hi)
    replace B_l := kb_t B_l hk (fun i hi => Or.inl hi)
    clear hk
    have V_u := a0_ hv_
    clear hv_
    have B_u := a0_ (Kb.refl (fun k => k = rb ∨ k = g_a ∨ k = g_r) w108)
    go_wp2_with (first | ((with_reducible refine gt_ 30 5 18 rfl ?_); refine store_ev (p := .tmp 5) (v := .tmp 18) rfl rfl rfl (g := g_a) rfl rfl (bk_ V_a B_a N_a) ?_; intro w109 hbox hk; replace HB := kb_o HB hk G_a; replace B_r := kb_o B_r hk O_a_r; replace B_l := kb_o B_l hk O_a_l; replace B_u := kb_t B_u hk (fun i hi => by exact Or.inl (Or.inr (Or.inl hi))); have Z_ := a0_ (Rk.kb RK.out hk (by have := HL.out; have := G_a.out; omega)); clear RK; have RK := Z_; clear Z_; clear V_a B_a; have V_a := a0_ hbox; have B_a := kr_ rb w109; clear hbox hk))
    go_roundg (nl - (k + 1))
    case measure => have := HK.out.1; omega
    case rel => exact ⟨k + 1, addO o (qs.getD k 0), tu, Au, nu, cu, Du, ku, zu, by first | rfl | rw [e1], ⟨by omega, by have := HK.out.2; rw [getD_mem qs k (by rw [← HNL.out]; exact hlt)] at this; exact this⟩, RK, V_a, B_r, ⟨Res.kb V_u.out B_u.out (fun k h hs => hs.elim h.1 (fun hs => hs.elim h.2.1 h.2.2.1))⟩, HB⟩
  · have hz : ¬ (k : Int) < (nl : Int) := by omega
    have hkn : k = nl := by have := HK.out.1; omega
    have ho : o = so := by have := HK.out.2; rw [hkn, HNL.out, List.drop_length] at this; exact this
    have HO := a0_ ho
    clear hkn ho hlt
    clear V_l B_l
    go_wp2_with (first | ((with_reducible refine gd_ 20 rfl ?_); refine load_ev rfl rfl (g := g_a) rfl (bk_ V_a B_a N_a) ?_) | ((with_reducible refine gt_ 30 4 20 rfl ?_); refine store_ev (p := .tmp 4) (v := .tmp 20) rfl rfl rfl (g := g_r) rfl rfl (bk_ V_r B_r N_r) ?_; intro w106 hbox hk; replace HB := kb_o HB hk G_r; replace B_x := kb_t B_x hk (fun i hi => by exact Or.inl (Or.inr (Or.inr hi))); have Z_ := a0_ (Rk.kb RK.out hk (by have := HL.out; have := G_r.out; omega)); clear RK; have RK := Z_; clear Z_; clear V_r B_r; have V_r := a0_ hbox; have B_r := kr_ rb w106; clear hbox hk))
    refine bodyPost_ret (results_cell_row rfl _ _ g_r 30 #[.bool tx, .slice Ax nx cx, .slice Dx kx zx] (0, 0) _ rfl (bk_ V_r B_r N_r) Try.underlying30 rfl (by kernel_rfl)) rfl ?_
    exact ⟨_, rfl, by rw [← HO.out]; exact (Res.mono (Res.kb (S := fun k => k = rb ∨ k = g_a ∨ k = g_r) V_x.out B_x.out (fun k h hs => hs.elim h.1 (fun hs2 => hs2.elim h.2.1 h.2.2.1))) (fun k h => h.2.2.2)), by rw [← HO.out]; exact RK.out, HB.out⟩
def rateO (o : Option Rat) (n : Rat) : Option Rat := doO (doO o.isNone (fun x y => x * y) o (some 1000)).isNone (fun x y => x / y) (doO o.isNone (fun x y => x * y) o (some 1000)) (some n)
theorem doO_er (o : Option Rat) (g : Rat → Rat → Rat) (p : Option Rat) : (o.isNone || (doO o.isNone g o p).isNone) = (doO o.isNone g o p).isNone := by
 cases o with
 | none => cases p <;> rfl
 | some y => rfl
theorem one_dom {p : Rat → Rat → Prop} (o : Option Rat) (x : Rat) (h : ∀ a, p a x) : o.isNone = false → ∃ a b, o = some a ∧ (some x : Option Rat) = some b ∧ p a b := fun e => by
 cases o with
 | none => cases e
 | some y => exact ⟨y, x, rfl, rfl, h y⟩
def WRate.T1 : Bool × List (List Nat × List Nat) := (true, [([], []), ([], []), ([], []), ([], []), ([1, 2, 3, 3], [1, 2, 3]), ([], []), ([5, 4], [5]), ([0, 4, 6, 6], [0, 4, 6]), ([7, 7, 0, 1, 2, 3, 4, 5, 6, 7], [7])])
def WRate.B1 : List Nat := [0, 0, 0, 0, 14, 0, 62, 127, 255]
theorem WRate.tab1 : rtab .any (opsOf Try.f40 1) = WRate.T1 := by kernel_rfl
theorem WRate.bits1 : waitsOk WRate.T1.2 WRate.B1 = true := by kernel_rfl
theorem rate_calls (rb : Nat) (oa : Option Rat) (n : Int) (h0 : 0 < n) (h1 : n ≤ 9223372036854775807) (w : World) (va : Value) (hr : Rk w rb oa.isNone) (ha : Res (fun k => k ≠ rb) w va oa) :
 Calls Try.prog 40 #[.pointer (some ⟨rb, 0, none⟩), va, .int .i64 n] w fun e w' => ∃ v, e = .returned v ∧ Res (fun k => w.heap.size ≤ k) w' v (rateO oa (n : Rat)) ∧ Rk w' rb (rateO oa (n : Rat)).isNone ∧ Kb (fun k => k = rb) w w' := by
 have hu30 := Try.underlying30
 obtain ⟨o1, ho1⟩ : ∃ o1, o1 = doO oa.isNone (fun x y => x * y) oa (some 1000) := ⟨_, rfl⟩
 obtain ⟨o2, ho2⟩ : ∃ o2, o2 = rateO oa (n : Rat) := ⟨_, rfl⟩
 rw [← ho2]
 have ho3 : o2 = doO o1.isNone (fun x y => x / y) o1 (some (n : Rat)) := by rw [ho2, ho1]; rfl
 have HO := a0_ (And.intro ho1 ho3)
 clear ho1 ho2 ho3
 obtain ⟨tx, Ax, nx, cx, Dx, kx, zx, rfl⟩ := ha.agg
 have HB := kr_ rb w
 have HL := a0_ (Rk.lt hr)
 have RK := a0_ hr
 clear hr
 have V_p := a0_ ha
 clear ha
 have B_p := kr_ rb w
 go_enter Try.func40, Try.ntmps40
 go_wp2_with (first | ((with_reducible refine gd_ 4 rfl ?_); refine bx_ (N := 4) #[.bool tx, .slice Ax nx cx, .slice Dx kx zx] 30 ?_; intro g_x hg w101 hbox hb; have G_x := kb_g HB hg; replace HB := kb_b HB hb; replace B_p := kb_b B_p hb; replace RK := rk_b RK hb; clear hb; have V_x := a0_ hbox; have B_x := kr_ rb w101; have N_x : Aside0 (¬ (fun k => k = rb) g_x) := ⟨by show ¬ (_ = _); have := HL.out; have := G_x.out; omega⟩; clear hbox hg) | ((with_reducible refine gd_ 6 rfl ?_); refine bx_ (N := 6) #[.bool false, .slice none 0 0, .slice none 0 0] 30 ?_; intro g_r hg w102 hbox hb; have G_r := kb_g HB hg; have O_r_x := kb_g B_x hg; replace HB := kb_b HB hb; replace B_p := kb_b B_p hb; replace B_x := kb_b B_x hb; replace RK := rk_b RK hb; clear hb; have V_r := a0_ hbox; have B_r := kr_ rb w102; have N_r : Aside0 (¬ (fun k => k = rb) g_r) := ⟨by show ¬ (_ = _); have := HL.out; have := G_r.out; omega⟩; clear hbox hg))
 have hb : Below w102.heap.size w102 w102.drew := below_drew1 (Below.refl _ _)
 replace HB := kb_b HB hb
 replace B_p := kb_b B_p hb
 replace B_x := kb_b B_x hb
 replace B_r := kb_b B_r hb
 replace RK := rk_b RK hb
 clear hb
 refine start_ (n := 9) (S := fun w' => w'.heap[g_x]? = some (.cells #[.bool tx, .slice Ax nx cx, .slice Dx kx zx] 30 (0, 0))) (ds := []) (tB_ 9 0) (by kernel_rfl) rfl (by kernel_rfl) (bk_ V_x B_x N_x) (fun hHeld => ?_)
 refine with_tabW WRate.tab1 WRate.bits1 (fun HT_ HW_ => ?_)
 generalize w102.drew = w103 at HB RK B_p B_x B_r hHeld ⊢
 refine pu_ 0 (some 7) 1 HT_ ?_
 refine pu_ 1 (some 8) 3 HT_ ?_
 refine pu_ 5 (some 12) 35 HT_ ?_
 refine tk_ 2 (some 9) 39 HT_ HW_ hHeld ?_ ?_ ?_ ?_ ?_
 rotate_left
 · intro w' hs
   have hb_ := hs
   obtain ⟨c0_, c1_, c2_⟩ := b3_ hb_
   clear hb_ hs
   go_simp
   with_reducible rfl
 rotate_left
 · simp only [PU]
   rfl
 refine on_ 3 (some 10) 47 HT_ (fun K hK => ?_)
 refine gs_ Try.func12 #[.int .i64 1000] ?_
 refine (qof_calls 1000 (by omega) (by omega) _).mono ?_
 rintro e w104 ⟨⟨v10, rfl, hv⟩, hb⟩
 obtain ⟨tu, Au, nu, cu, Du, ku, zu, rfl⟩ := hv.agg
 refine ⟨_, rfl, ?_⟩
 refine hK.out _ _ (by exact blk_below hHeld hb) (fun hHeld => ?_)
 clear hK K
 refine nm_ (some 10) ?_
 have hle := Kb.size HB.out
 have hv_ := IsR.mono' (ok' := fun k => k ≠ rb) hv (fun k hk _ => by have := HL.out; omega)
 clear hv hle
 replace HB := kb_b HB hb
 replace B_p := kb_b B_p hb
 replace B_x := kb_b B_x hb
 replace B_r := kb_b B_r hb
 replace RK := rk_b RK hb
 clear hb
 have V_u := a0_ hv_
 clear hv_
 have B_u := kr_ rb w104
 refine on_ 4 (some 11) 63 HT_ (fun K hK => ?_)
 refine gs_ Try.func45 #[.pointer (some ⟨rb, 0, none⟩), .func (.func 19) #[] #[], .agg #[.bool tx, .slice Ax nx cx, .slice Dx kx zx], .agg #[.bool tu, .slice Au nu cu, .slice Du ku zu]] ?_
 refine (do_any qmul_op (enters_run (enters_of (P := Try.prog) Try.func19 (by kernel_rfl) rfl)) rb oa.isNone oa (some 1000) _ _ _ RK.out (Res.kb (S := fun k => k = rb) V_p.out B_p.out (fun _ h => h)) (IsR.res (IsR.kb (S := fun k => k = rb) V_u.out B_u.out (fun _ h => h))) (one_dom oa _ (fun _ => trivial))).mono ?_
 rintro e w105 ⟨v11, rfl, hv, hrk, hk⟩
 obtain ⟨tq, Aq, nq, cq, Dq, kq, zq, rfl⟩ := hv.agg
 refine ⟨_, rfl, ?_⟩
 refine hK.out _ _ (by exact Kb.blk hHeld hk N_x.out) (fun hHeld => ?_)
 clear hK K
 refine nm_ (some 11) ?_
 have hrk2 : Rk w105 rb o1.isNone := by rw [HO.out.1, ← doO_er]; exact hrk
 clear RK hrk
 have RK := a0_ hrk2
 clear hrk2
 rw [← HO.out.1] at hv
 have hle := Kb.size HB.out
 have hv_ := Res.mono' (ok' := fun k => k ≠ rb) hv (fun k hk _ => by have := HL.out; omega)
 clear hv hle
 replace HB := kb_t HB hk (fun i hi => Or.inl hi)
 replace B_p := kb_t B_p hk (fun i hi => Or.inl hi)
 replace B_x := kb_t B_x hk (fun i hi => Or.inl hi)
 replace B_r := kb_t B_r hk (fun i hi => Or.inl hi)
 replace B_u := kb_t B_u hk (fun i hi => Or.inl hi)
 clear hk
 have V_q := a0_ hv_
 clear hv_
 have B_q := kr_ rb w105
 refine on_ 6 (some 13) 127 HT_ (fun K hK => ?_)
 refine gs_ Try.func12 #[.int .i64 n] ?_
 refine (qof_calls n (by omega) h1 _).mono ?_
 rintro e w106 ⟨⟨v13, rfl, hv⟩, hb⟩
 obtain ⟨ty, Ay, ny, cy, Dy, ky, zy, rfl⟩ := hv.agg
 refine ⟨_, rfl, ?_⟩
 refine hK.out _ _ (by exact blk_below hHeld hb) (fun hHeld => ?_)
 clear hK K
 refine nm_ (some 13) ?_
 have hle := Kb.size HB.out
 have hv_ := IsR.mono' (ok' := fun k => k ≠ rb) hv (fun k hk _ => by have := HL.out; omega)
 clear hv hle
 replace HB := kb_b HB hb
 replace B_p := kb_b B_p hb
 replace B_x := kb_b B_x hb
 replace B_r := kb_b B_r hb
 replace B_u := kb_b B_u hb
 replace B_q := kb_b B_q hb
 replace RK := rk_b RK hb
 clear hb
 have V_y := a0_ hv_
 clear hv_
 have B_y := kr_ rb w106
 refine on_ 7 (some 14) 255 HT_ (fun K hK => ?_)
 refine gs_ Try.func45 #[.pointer (some ⟨rb, 0, none⟩), .func (.func 27) #[] #[], .agg #[.bool tq, .slice Aq nq cq, .slice Dq kq zq], .agg #[.bool ty, .slice Ay ny cy, .slice Dy ky zy]] ?_
 refine (do_any qdiv_op (enters_run (enters_of (P := Try.prog) Try.func27 (by kernel_rfl) rfl)) rb o1.isNone o1 (some (n : Rat)) _ _ _ RK.out (Res.kb (S := fun k => k = rb) V_q.out B_q.out (fun _ h => h)) (IsR.res (IsR.kb (S := fun k => k = rb) V_y.out B_y.out (fun _ h => h))) (one_dom o1 _ (fun _ => by show n ≠ 0; omega))).mono ?_
 rintro e w107 ⟨v14, rfl, hv, hrk, hk⟩
 obtain ⟨tv, Av, nv, cv, Dv, kv, zv, rfl⟩ := hv.agg
 refine ⟨_, rfl, ?_⟩
 refine hK.out _ _ (by exact Kb.blk hHeld hk N_x.out) (fun hHeld => ?_)
 clear hK K
 refine nm_ (some 14) ?_
 have hrk2 : Rk w107 rb o2.isNone := by rw [HO.out.2, ← doO_er]; exact hrk
 clear RK hrk
 have RK := a0_ hrk2
 clear hrk2
 rw [← HO.out.2] at hv
 have hle := Kb.size HB.out
 have hl_r := blk_lt (bk_ V_r B_r N_r)
 have hv_ := Res.mono' (ok' := fun k => k ≠ rb ∧ k ≠ g_r ∧ w.heap.size ≤ k) hv (fun k hk _ => by have := HL.out; refine ⟨?_, ?_, ?_⟩ <;> omega)
 clear hv hle hl_r
 replace HB := kb_t HB hk (fun i hi => Or.inl hi)
 replace B_p := kb_t B_p hk (fun i hi => Or.inl hi)
 replace B_x := kb_t B_x hk (fun i hi => Or.inl hi)
 replace B_r := kb_t B_r hk (fun i hi => Or.inl hi)
 replace B_u := kb_t B_u hk (fun i hi => Or.inl hi)
 replace B_q := kb_t B_q hk (fun i hi => Or.inl hi)
 replace B_y := kb_t B_y hk (fun i hi => Or.inl hi)
 clear hk
 have V_v := a0_ hv_
 clear hv_
 have B_v := a0_ (Kb.refl (fun k => k = rb ∨ k = g_r) w107)
 clear V_p B_p
 clear V_q B_q
 clear V_y B_y
 clear V_u B_u
 refine on_ 8 none 511 HT_ (fun K hK => ?_)
 have bk_r := bk_ V_r B_r N_r
 have hz_r_0 : w107.cell? ⟨g_r, 0, none⟩ = some (.bool false) := (blk_cell bk_r 0).trans rfl
 have hf_r_0 := blk_frozen bk_r 0
 have hz_r_1 : w107.cell? ⟨g_r, 1, none⟩ = some (.slice none 0 0) := (blk_cell bk_r 1).trans rfl
 have hf_r_1 := blk_frozen bk_r 1
 have hz_r_2 : w107.cell? ⟨g_r, 2, none⟩ = some (.slice none 0 0) := (blk_cell bk_r 2).trans rfl
 have hf_r_2 := blk_frozen bk_r 2
 clear bk_r
 refine skip_ (w1 := ((w107.setCell ⟨g_r, 0, none⟩ (.bool tv)).setCell ⟨g_r, 1, none⟩ (.slice Av nv cv)).setCell ⟨g_r, 2, none⟩ (.slice Dv kv zv)) (by rfl) rfl ?_ ?_
 · first | (go_simp; done) | (go_simp; rfl)
 clear hz_r_0 hf_r_0 hz_r_1 hf_r_1 hz_r_2 hf_r_2
 have hbox : (((w107.setCell ⟨g_r, 0, none⟩ (.bool tv)).setCell ⟨g_r, 1, none⟩ (.slice Av nv cv)).setCell ⟨g_r, 2, none⟩ (.slice Dv kv zv)).heap[g_r]? = some (.cells #[.bool tv, .slice Av nv cv, .slice Dv kv zv] 30 (0, 0)) := blk_put (blk_put (blk_put (bk_ V_r B_r N_r) 0 _ rfl) 1 _ rfl) 2 _ rfl
 have hk : Kb (fun k => k = g_r) w107 (((w107.setCell ⟨g_r, 0, none⟩ (.bool tv)).setCell ⟨g_r, 1, none⟩ (.slice Av nv cv)).setCell ⟨g_r, 2, none⟩ (.slice Dv kv zv)) := (((Kb.refl (fun k => k = g_r) w107).setCell (p := ⟨g_r, 0, none⟩) (Or.inl rfl) _).setCell (p := ⟨g_r, 1, none⟩) (Or.inl rfl) _).setCell (p := ⟨g_r, 2, none⟩) (Or.inl rfl) _
 refine hK.out _ _ (by have q_ := hHeld; exact Kb.blk q_ hk (show ¬ (g_x = g_r) from fun e => by have := blk_lt V_x.out; have := O_r_x.out; omega)) (fun hHeld => ?_)
 clear hK K
 obtain ⟨w108, hw_⟩ : ∃ x, x = ((w107.setCell ⟨g_r, 0, none⟩ (.bool tv)).setCell ⟨g_r, 1, none⟩ (.slice Av nv cv)).setCell ⟨g_r, 2, none⟩ (.slice Dv kv zv) := ⟨_, rfl⟩
 rw [← hw_] at hk hbox hHeld ⊢
 clear hw_
 replace HB := kb_o HB hk G_r
 replace B_x := kb_o B_x hk O_r_x
 replace B_v := kb_t B_v hk (fun i hi => by exact Or.inl (Or.inr hi))
 have Z_ := a0_ (Rk.kb RK.out hk (by have := HL.out; have := G_r.out; omega))
 clear RK
 have RK := Z_
 clear Z_
 clear V_r B_r
 have V_r := a0_ hbox
 have B_r := kr_ rb w108
 clear hbox hk
 refine do_ HT_ ?_
 clear HT_ HW_ hHeld
 go_wp2_with fail
 refine bodyPost_ret (results_cell_row rfl _ _ g_r 30 #[.bool tv, .slice Av nv cv, .slice Dv kv zv] (0, 0) _ rfl (bk_ V_r B_r N_r) Try.underlying30 rfl (by kernel_rfl)) rfl ?_
 exact ⟨_, rfl, (Res.mono (Res.kb (S := fun k => k = rb ∨ k = g_r) V_v.out B_v.out (fun k h hs => hs.elim h.1 h.2.1)) (fun k h => h.2.2)), RK.out, HB.out⟩
theorem value_calls (sa sb : Int) (tx : Bool) (Ax : Option Addr) (nx cx : Nat) (Dx : Option Addr) (kx zx : Nat) (w : World) :
 Calls Try.prog 44 #[.agg #[.int .i64 sa, .int .i64 sb, .bool tx, .slice Ax nx cx, .slice Dx kx zx]] w fun e w' => e = .returned (.agg #[.bool tx, .slice Ax nx cx, .slice Dx kx zx]) ∧ Below w.heap.size w w' := by
 have hu30 := Try.underlying30
 have hu39 := Try.underlying39
 have HB := kf_ w
 go_enter Try.func44, Try.ntmps44
 go_wp2_with (first | ((with_reducible refine gd_ 1 rfl ?_); refine bx_ (N := 1) #[.int .i64 sa, .int .i64 sb, .bool tx, .slice Ax nx cx, .slice Dx kx zx] 39 ?_; intro g_s hg w101 hbox hb; have G_s := kb_g HB hg; replace HB := kb_b HB hb; clear hb; have V_s := a0_ hbox; have B_s := kf_ w101; have N_s := nf_ g_s; clear hbox hg) | ((with_reducible refine gd_ 2 rfl ?_); refine bx_ (N := 2) #[.bool false, .slice none 0 0, .slice none 0 0] 30 ?_; intro g_r hg w102 hbox hb; have G_r := kb_g HB hg; have O_r_s := kb_g B_s hg; replace HB := kb_b HB hb; replace B_s := kb_b B_s hb; clear hb; have V_r := a0_ hbox; have B_r := kf_ w102; have N_r := nf_ g_r; clear hbox hg; have bk_s := bk_ V_s B_s N_s; have hz_s_0 : w102.cell? ⟨g_s, 0, none⟩ = some (.int .i64 sa) := (blk_cell bk_s 0).trans rfl; have hz_s_1 : w102.cell? ⟨g_s, 1, none⟩ = some (.int .i64 sb) := (blk_cell bk_s 1).trans rfl; have hz_s_2 : w102.cell? ⟨g_s, 2, none⟩ = some (.bool tx) := (blk_cell bk_s 2).trans rfl; have hz_s_3 : w102.cell? ⟨g_s, 3, none⟩ = some (.slice Ax nx cx) := (blk_cell bk_s 3).trans rfl; have hz_s_4 : w102.cell? ⟨g_s, 4, none⟩ = some (.slice Dx kx zx) := (blk_cell bk_s 4).trans rfl; clear bk_s) | ((with_reducible refine gt_ 30 2 4 rfl ?_); refine store_ev (p := .tmp 2) (v := .tmp 4) rfl rfl rfl (g := g_r) rfl rfl (bk_ V_r B_r N_r) ?_; intro w103 hbox hk; replace HB := kb_o HB hk G_r; replace B_s := kb_o B_s hk O_r_s; clear V_r B_r; have V_r := a0_ hbox; have B_r := kf_ w103; clear hbox hk))
 refine bodyPost_ret (results_cell_row rfl _ _ g_r 30 #[.bool tx, .slice Ax nx cx, .slice Dx kx zx] (0, 0) _ rfl (bk_ V_r B_r N_r) Try.underlying30 rfl (by kernel_rfl)) rfl ?_
 exact ⟨rfl, (Kb.to_below HB.out (fun _ h => h.elim))⟩
theorem size_calls (sa sb : Int) (tx : Bool) (Ax : Option Addr) (nx cx : Nat) (Dx : Option Addr) (kx zx : Nat) (h0 : -9223372036854775808 ≤ sb) (h1 : sb ≤ 9223372036854775807) (w : World) :
 Calls Try.prog 43 #[.agg #[.int .i64 sa, .int .i64 sb, .bool tx, .slice Ax nx cx, .slice Dx kx zx]] w fun e w' => (∃ v, e = .returned v ∧ IsR (fun k => w.heap.size ≤ k) w' v (sb : Rat)) ∧ Below w.heap.size w w' := by
 have hu30 := Try.underlying30
 have hu39 := Try.underlying39
 have HB := kf_ w
 go_enter Try.func43, Try.ntmps43
 go_wp2_with (first | ((with_reducible refine gd_ 1 rfl ?_); refine bx_ (N := 1) #[.int .i64 sa, .int .i64 sb, .bool tx, .slice Ax nx cx, .slice Dx kx zx] 39 ?_; intro g_s hg w101 hbox hb; have G_s := kb_g HB hg; replace HB := kb_b HB hb; clear hb; have V_s := a0_ hbox; have B_s := kf_ w101; have N_s := nf_ g_s; clear hbox hg) | ((with_reducible refine gd_ 2 rfl ?_); refine bx_ (N := 2) #[.bool false, .slice none 0 0, .slice none 0 0] 30 ?_; intro g_r hg w102 hbox hb; have G_r := kb_g HB hg; have O_r_s := kb_g B_s hg; replace HB := kb_b HB hb; replace B_s := kb_b B_s hb; clear hb; have V_r := a0_ hbox; have B_r := kf_ w102; have N_r := nf_ g_r; clear hbox hg; have bk_s := bk_ V_s B_s N_s; have hz_s_0 : w102.cell? ⟨g_s, 0, none⟩ = some (.int .i64 sa) := (blk_cell bk_s 0).trans rfl; have hz_s_1 : w102.cell? ⟨g_s, 1, none⟩ = some (.int .i64 sb) := (blk_cell bk_s 1).trans rfl; have hz_s_2 : w102.cell? ⟨g_s, 2, none⟩ = some (.bool tx) := (blk_cell bk_s 2).trans rfl; have hz_s_3 : w102.cell? ⟨g_s, 3, none⟩ = some (.slice Ax nx cx) := (blk_cell bk_s 3).trans rfl; have hz_s_4 : w102.cell? ⟨g_s, 4, none⟩ = some (.slice Dx kx zx) := (blk_cell bk_s 4).trans rfl; clear bk_s))
 with_reducible refine (qof_calls sb h0 h1 _).mono ?_
 rintro e w103 ⟨⟨v, rfl, hv⟩, hb⟩
 obtain ⟨tv, Av, nv, cv, Dv, kv, zv, rfl⟩ := hv.agg
 clear hz_s_0 hz_s_1 hz_s_2 hz_s_3 hz_s_4
 have hle := Kb.size HB.out
 have hl_r := blk_lt (bk_ V_r B_r N_r)
 have hv_ := IsR.mono' (ok' := fun k => True ∧ k ≠ g_r ∧ w.heap.size ≤ k) hv (fun k hk _ => by refine ⟨?_, ?_, ?_⟩ <;> first | trivial | omega)
 clear hv hle hl_r
 replace HB := kb_b HB hb
 replace B_s := kb_b B_s hb
 replace B_r := kb_b B_r hb
 clear hb
 have V_v := a0_ hv_
 clear hv_
 have B_v := a0_ (Kb.refl (fun k => False ∨ k = g_r) w103)
 go_wp2_with (first | ((with_reducible refine gt_ 30 2 5 rfl ?_); refine store_ev (p := .tmp 2) (v := .tmp 5) rfl rfl rfl (g := g_r) rfl rfl (bk_ V_r B_r N_r) ?_; intro w104 hbox hk; replace HB := kb_o HB hk G_r; replace B_s := kb_o B_s hk O_r_s; replace B_v := kb_t B_v hk (fun i hi => by exact Or.inl (Or.inr hi)); clear V_r B_r; have V_r := a0_ hbox; have B_r := kf_ w104; clear hbox hk))
 refine bodyPost_ret (results_cell_row rfl _ _ g_r 30 #[.bool tv, .slice Av nv cv, .slice Dv kv zv] (0, 0) _ rfl (bk_ V_r B_r N_r) Try.underlying30 rfl (by kernel_rfl)) rfl ?_
 exact ⟨⟨_, rfl, (IsR.mono (IsR.kb (S := fun k => False ∨ k = g_r) V_v.out B_v.out (fun k h hs => hs.elim (fun f => f) h.2.1)) (fun k h => h.2.2))⟩, (Kb.to_below HB.out (fun _ h => h.elim))⟩
theorem wcompare_calls {ok1 ok2 : Nat → Prop} (x y : Rat) (w : World) (va vb : Value) (ha : IsR ok1 w va x) (hb : IsR ok2 w vb y) :
 Calls Try.prog 39 #[va, vb] w fun e w' => e = .returned (.int .i64 (if x < y then -1 else if x = y then 0 else 1)) ∧ Below w.heap.size w w' := by
 have hu30 := Try.underlying30
 obtain ⟨cv, hcv⟩ : ∃ c : Int, c = (if x < y then -1 else if x = y then 0 else 1) := ⟨_, rfl⟩
 rw [← hcv]
 have HC := a0_ hcv
 clear hcv
 obtain ⟨tx, Ax, nx, cx, Dx, kx, zx, rfl⟩ := ha.agg
 obtain ⟨ty, Ay, ny, cy, Dy, ky, zy, rfl⟩ := hb.agg
 have HB := kf_ w
 have V_p := a0_ ha
 clear ha
 have B_p := kf_ w
 have V_q := a0_ hb
 clear hb
 have B_q := kf_ w
 go_enter Try.func39, Try.ntmps39
 go_wp2_with (first | ((with_reducible refine gd_ 2 rfl ?_); refine bx_ (N := 2) #[.bool tx, .slice Ax nx cx, .slice Dx kx zx] 30 ?_; intro g_x hg w101 hbox hb; have G_x := kb_g HB hg; replace HB := kb_b HB hb; replace B_p := kb_b B_p hb; replace B_q := kb_b B_q hb; clear hb; have V_x := a0_ hbox; have B_x := kf_ w101; have N_x := nf_ g_x; clear hbox hg) | ((with_reducible refine gd_ 3 rfl ?_); refine bx_ (N := 3) #[.bool ty, .slice Ay ny cy, .slice Dy ky zy] 30 ?_; intro g_y hg w102 hbox hb; have G_y := kb_g HB hg; replace HB := kb_b HB hb; replace B_p := kb_b B_p hb; replace B_q := kb_b B_q hb; replace B_x := kb_b B_x hb; clear hb; have V_y := a0_ hbox; have B_y := kf_ w102; have N_y := nf_ g_y; clear hbox hg) | ((with_reducible refine gd_ 8 rfl ?_); refine load_ev rfl rfl (g := g_x) rfl (bk_ V_x B_x N_x) ?_) | ((with_reducible refine gd_ 9 rfl ?_); refine load_ev rfl rfl (g := g_y) rfl (bk_ V_y B_y N_y) ?_))
 with_reducible refine (qcmp_calls x y _ _ _ (IsR.kb (S := fun k => False) V_p.out B_p.out (fun _ _ h => h)) (IsR.kb (S := fun k => False) V_q.out B_q.out (fun _ _ h => h))).mono ?_
 rintro e w103 ⟨rfl, hb⟩
 rw [← HC.out]
 replace HB := kb_b HB hb
 replace B_p := kb_b B_p hb
 replace B_q := kb_b B_q hb
 replace B_x := kb_b B_x hb
 replace B_y := kb_b B_y hb
 clear hb
 go_wp2_with fail
 go_ret
 exact ⟨rfl, (Kb.to_below HB.out (fun _ h => h.elim))⟩
section
variable {ops : Array Oper} {rest : List Oper} {o : Oper} {a : Act} {Q : Exit → Act → World → Prop} {W : World}
theorem load_at5 (hgd : o.guard = none) {p : Operand} (ho : o.op = .load 39 p) {g k : Nat} {x y z u v : Value} (hp : a.eval p = .pointer (some ⟨g, k, none⟩)) (h0 : W.cell? ⟨g, k, none⟩ = some x) (h1 : W.cell? ⟨g, k + 1, none⟩ = some y) (h2 : W.cell? ⟨g, k + 2, none⟩ = some z) (h3 : W.cell? ⟨g, k + 3, none⟩ = some u) (h4 : W.cell? ⟨g, k + 4, none⟩ = some v)
 (h : wpList Try.prog ops Q rest (a.put o.dst (.agg #[x, y, z, u, v])) W) : wpList Try.prog ops Q (o :: rest) a W := by
 refine Kd.event_run hgd ?_ h
 have hu := Try.underlying39
 have key : ∀ ev : Operand → Value, ev p = .pointer (some ⟨g, k, none⟩) → (execOp ev o).run Try.prog W = .ok (.value (.agg #[x, y, z, u, v])) W := by
  intro ev hev
  unfold execOp
  rw [ho]
  simp only [hev]
  go_simp
 exact key _ hp
theorem load_ev5 (hgd : o.guard = none) {p : Operand} (ho : o.op = .load 39 p) {g t : Nat} {x y z u v : Value} (hp : a.eval p = .pointer (some ⟨g, 0, none⟩)) (hb : W.heap[g]? = some (.cells #[x, y, z, u, v] t (0, 0)))
 (h : wpList Try.prog ops Q rest (a.put o.dst (.agg #[x, y, z, u, v])) W) : wpList Try.prog ops Q (o :: rest) a W :=
 load_at5 hgd ho hp ((blk_cell hb 0).trans rfl) ((blk_cell hb 1).trans rfl) ((blk_cell hb 2).trans rfl) ((blk_cell hb 3).trans rfl) ((blk_cell hb 4).trans rfl) h
theorem store_ev5 (hgd : o.guard = none) (hd : o.dst = none) {p v : Operand} (ho : o.op = .store 39 p v) {sa sb : Int} {b : Bool} {A0 A1 : Option Addr} {n0 c0 n1 c1 : Nat} {g t : Nat} {y0 y1 y2 y3 y4 : Value} (hp : a.eval p = .pointer (some ⟨g, 0, none⟩)) (hv : a.eval v = .agg #[.int .i64 sa, .int .i64 sb, .bool b, .slice A0 n0 c0, .slice A1 n1 c1]) (hb : W.heap[g]? = some (.cells #[y0, y1, y2, y3, y4] t (0, 0)))
 (h : ∀ w1, w1.heap[g]? = some (.cells #[.int .i64 sa, .int .i64 sb, .bool b, .slice A0 n0 c0, .slice A1 n1 c1] t (0, 0)) → Kb (fun k => k = g) W w1 → wpList Try.prog ops Q rest a w1) : wpList Try.prog ops Q (o :: rest) a W := by
 have h0 : W.cell? ⟨g, 0, none⟩ = some y0 := (blk_cell hb 0).trans rfl
 have h1 : W.cell? ⟨g, 1, none⟩ = some y1 := (blk_cell hb 1).trans rfl
 have h2 : W.cell? ⟨g, 2, none⟩ = some y2 := (blk_cell hb 2).trans rfl
 have h3 : W.cell? ⟨g, 3, none⟩ = some y3 := (blk_cell hb 3).trans rfl
 have h4 : W.cell? ⟨g, 4, none⟩ = some y4 := (blk_cell hb 4).trans rfl
 have f0 := blk_frozen hb 0
 have f1 := blk_frozen hb 1
 have f2 := blk_frozen hb 2
 have f3 := blk_frozen hb 3
 have f4 := blk_frozen hb 4
 have hu := Try.underlying39
 have hw := h (((((W.setCell ⟨g, 0, none⟩ (.int .i64 sa)).setCell ⟨g, 1, none⟩ (.int .i64 sb)).setCell ⟨g, 2, none⟩ (.bool b)).setCell ⟨g, 3, none⟩ (.slice A0 n0 c0)).setCell ⟨g, 4, none⟩ (.slice A1 n1 c1)) (blk_put (blk_put (blk_put (blk_put (blk_put hb 0 _ rfl) 1 _ rfl) 2 _ rfl) 3 _ rfl) 4 _ rfl) ((((((Kb.refl (fun k => k = g) W).setCell (p := ⟨g, 0, none⟩) (.inl rfl) _).setCell (p := ⟨g, 1, none⟩) (.inl rfl) _).setCell (p := ⟨g, 2, none⟩) (.inl rfl) _).setCell (p := ⟨g, 3, none⟩) (.inl rfl) _).setCell (p := ⟨g, 4, none⟩) (.inl rfl) _)
 refine wpList_plain hgd fun K hK => ?_
 unfold Oper.wp
 have key : ∀ ev : Operand → Value, ev p = .pointer (some ⟨g, 0, none⟩) → ev v = .agg #[.int .i64 sa, .int .i64 sb, .bool b, .slice A0 n0 c0, .slice A1 n1 c1] → (execOp ev o).run Try.prog W = .ok .skip (((((W.setCell ⟨g, 0, none⟩ (.int .i64 sa)).setCell ⟨g, 1, none⟩ (.int .i64 sb)).setCell ⟨g, 2, none⟩ (.bool b)).setCell ⟨g, 3, none⟩ (.slice A0 n0 c0)).setCell ⟨g, 4, none⟩ (.slice A1 n1 c1)) := by
  intro ev hev hev2
  unfold execOp
  rw [ho]
  simp only [hev, hev2]
  go_simp
 rw [key _ hp hv]
 exact hK _ _ (by rw [hd]; exact hw)
end
theorem IsR.mk' {ok : Nat → Prop} {w : World} {t : Bool} {A0 A1 : Option Addr} {n0 c0 n1 c1 : Nat} {x : Rat} (h : IsR ok w (.agg #[.bool t, .slice A0 n0 c0, .slice A1 n1 c1]) x) : Kd.FK kdR w ok x [.bool t, .slice A0 n0 c0, .slice A1 n1 c1] := kdR_FK' (c := ⟨t, A0, n0, c0, A1, n1, c1⟩) h
theorem take_getD (qs : List Rat) (k : Nat) (h : k < qs.length) : qs.take k ++ [qs.getD k 0] = qs.take (k + 1) := by
 rw [List.getD_eq_getElem?_getD, List.getElem?_eq_getElem h, List.take_add_one, List.getElem?_eq_getElem h]
 rfl
theorem each_calls {ok : Nat → Prop} (G : Nat) (ss : List Smp) (qs : List Rat) (hlen : qs.length = ss.length) (hsz : ss.length ≤ 1000000) (hen : ∀ args w, (callFunc G args).run Try.prog w = .ok (.enter G args) w) (w : World) (hG : ∀ (ok : Nat → Prop) i, i < ss.length → ∀ (W : World) (t : Bool) (A0 : Option Addr) (n0 c0 : Nat) (A1 : Option Addr) (n1 c1 : Nat), (∀ q, (ss.getD i ⟨0, 0, none⟩).q = some q → IsR ok W (.agg #[.bool t, .slice A0 n0 c0, .slice A1 n1 c1]) q) → Calls Try.prog G #[.agg #[.int .i64 (ss.getD i ⟨0, 0, none⟩).at_, .int .i64 (ss.getD i ⟨0, 0, none⟩).by_, .bool t, .slice A0 n0 c0, .slice A1 n1 c1]] W fun e w' => (∃ v, e = .returned v ∧ IsR (fun k => ok k ∨ W.heap.size ≤ k) w' v (qs.getD i 0)) ∧ Below W.heap.size W w') (vl : Value) (hl : RowS ok w vl ss) :
 Calls Try.prog 42 #[vl, .func (.func G) #[] #[]] w fun e w' => (∃ v, e = .returned v ∧ RowQ (fun k => ok k ∨ w.heap.size ≤ k) w' v qs) ∧ Below w.heap.size w w' := by
 have hu30 := Try.underlying30
 have hu39 := Try.underlying39
 obtain ⟨Al, cl, rfl⟩ := hl.slice
 obtain ⟨nl, hnl⟩ : ∃ nl, nl = ss.length := ⟨_, rfl⟩
 rw [← hnl] at hl hsz ⊢
 have HNL := a0_ hnl
 have HQL := a0_ hlen
 have HG := a0_ (hG (fun j => ok j ∧ j < w.heap.size))
 have hl := RowS.mono' (ok' := fun j => ok j ∧ j < w.heap.size) hl (fun k h1 h2 => ⟨h1, h2⟩)
 clear hnl hlen hG
 have HB := kf_ w
 have V_l := a0_ hl
 clear hl
 have B_l := kf_ w
 obtain ⟨okN, hokN⟩ : ∃ okN : Nat → Prop, okN = fun k => (ok k ∧ k < w.heap.size) ∨ w.heap.size ≤ k := ⟨_, rfl⟩
 have HOK := a0_ hokN
 clear hokN
 go_enter Try.func42, Try.ntmps42
 go_wp2_with fail
 go_loopg [4, 9] nl (fun kg v4 v9 wr => ∃ (k : Nat), v9 = .int .i64 k ∧ Aside0 (k + kg = nl) ∧ Aside0 (Kd.N kdR 30 wr w.heap.size okN v4 (qs.take k)) ∧ Aside0 (Kb (fun k => False) w wr))
 case atStart => exact ⟨0, rfl, ⟨by omega⟩, ⟨by rw [List.take_zero]; exact Kd.N_nil _ _ _ _ _⟩, HB⟩
 case round =>
  obtain ⟨k, rfl, HK, HN, HB2⟩ := hrel
  clear HB B_l
  have HB := HB2
  clear HB2
  have B_l := HB
  by_cases hlt : k < nl
  · have hz : (k : Int) < (nl : Int) := by omega
    obtain ⟨bl, ol, rfl⟩ := RowS.some_ V_l.out (by omega)
    obtain ⟨ty, Ay, ny, cy, Dy, ky, zy, hy, c0, c1, c2, c3, c4⟩ := RowS.get (RowS.kb V_l.out B_l.out (fun _ _ h => h)) k (by rw [← HNL.out]; exact hlt)
    have C0 := a0_ (And.intro c0 (And.intro c1 (And.intro c2 (And.intro c3 c4))))
    clear c0 c1 c2 c3 c4
    obtain ⟨sa, hsa⟩ : ∃ x, x = (ss.getD k ⟨0, 0, none⟩).at_ := ⟨_, rfl⟩
    obtain ⟨sb, hsb⟩ : ∃ x, x = (ss.getD k ⟨0, 0, none⟩).by_ := ⟨_, rfl⟩
    have hg := HG.out k (by rw [← HNL.out]; exact hlt)
    rw [← hsa, ← hsb] at C0 hg
    have HGk := a0_ hg
    have HY := a0_ hy
    have B_y := kf_ wr
    clear hg hy hsa hsb
    have e1 : IntKind.i64.wrap ((k : Int) + 1) = ((k + 1 : Nat) : Int) := (i64_w _).trans ((w64 (by omega) (by omega)).trans (by omega))
    go_wp2_with (first | ((with_reducible refine gd_ 12 rfl ?_); refine load_at5 rfl rfl (g := bl) (k := ol + k * 5) rfl C0.out.1 C0.out.2.1 C0.out.2.2.1 C0.out.2.2.2.1 C0.out.2.2.2.2 ?_) | ((with_reducible refine gd_ 6 rfl ?_); refine bx_ (N := 6) #[.int .i64 0, .int .i64 0, .bool false, .slice none 0 0, .slice none 0 0] 39 ?_; intro g_s hg w102 hbox hb; have G_s := kb_g HB hg; replace HB := kb_b HB hb; replace B_l := kb_b B_l hb; replace B_y := kb_b B_y hb; clear hb; have V_s := a0_ hbox; have B_s := kf_ w102; have N_s := nf_ g_s; have O_s_wr : Aside0 (wr.heap.size ≤ g_s) := ⟨by rw [hg]; exact Kb.size (Kb.refl (fun k => False) wr)⟩; clear hbox hg) | ((with_reducible refine gt_ 39 6 12 rfl ?_); refine store_ev5 (p := .tmp 6) (v := .tmp 12) rfl rfl rfl (g := g_s) rfl rfl (bk_ V_s B_s N_s) ?_; intro w103 hbox hk; have hle1 := G_s.out; have O_s_l : Aside0 (w.heap.size ≤ g_s) := ⟨hle1⟩; have O_s_y : Aside0 (wr.heap.size ≤ g_s) := O_s_wr; clear hle1; replace HB := kb_o HB hk G_s; replace B_l := kb_o B_l hk O_s_l; replace B_y := kb_o B_y hk O_s_y; clear V_s B_s; have V_s := a0_ hbox; have B_s := kf_ w103; clear hbox hk) | ((with_reducible refine gd_ 15 rfl ?_); refine load_ev5 rfl rfl (g := g_s) rfl (bk_ V_s B_s N_s) ?_))
    with_reducible refine (HGk.out _ _ _ _ _ _ _ _ (fun q hq => IsR.kb (HY.out q hq) B_y.out (fun _ _ h => h))).mono ?_
    rintro e w104 ⟨⟨v, rfl, hv⟩, hb⟩
    obtain ⟨tu, Au, nu, cu, Du, ku, zu, rfl⟩ := hv.agg
    have hs1 := Kb.size HB.out
    have hs2 := Kb.size B_y.out
    obtain ⟨okp, hokp⟩ : ∃ okp : Nat → Prop, okp = fun j => (ok j ∧ j < w.heap.size) ∨ w103.heap.size ≤ j := ⟨_, rfl⟩
    rw [← hokp] at hv
    have hpk : ∀ j, okp j → okN j ∧ some j ≠ u4.ownBlock := by
     intro j hj
     rw [hokp] at hj
     rw [HOK.out]
     have k1 := Kd.N_base HN.out
     have k2 := Kd.N_lt HN.out
     rcases hj with hj | hj
     · exact ⟨.inl hj, fun e => by have := k1 j e.symm; omega⟩
     · exact ⟨.inr (by omega), fun e => by have := k2 j e.symm; omega⟩
    have HPK := a0_ hpk
    have HFK := a0_ (IsR.mk' hv)
    clear hpk hv hokp hs1 hs2
    replace HB := kb_b HB hb
    replace B_l := kb_b B_l hb
    replace B_y := kb_b B_y hb
    clear hb
    have hn := Kd.N_step (w1 := w104) HN.out (fun k _ hl => Kb.block B_y.out k hl (fun f => f))
    clear HN
    have HN := a0_ hn
    clear hn
    have hfr : ∀ k, w104.heap.size ≤ k → okN k := by
     intro j hj
     rw [HOK.out]
     have := Kb.size HB.out
     exact .inr (by omega)
    have HFR := a0_ hfr
    clear hfr
    have hlen : (qs.take k).length = k := by rw [List.length_take]; have := HQL.out; have := HNL.out; omega
    have HLEN := a0_ hlen
    clear hlen
    go_wp2_with (first | ((with_reducible refine gate_builtin (b := .append) (xs := #[.tmp 13, .tmp 17]) rfl ?_); at_builtin; refine Kd.N_append kdR (w0 := w104) w.heap.size rfl (.tmp 13) (.tmp 17) 72 30 (.agg #[.bool false, .slice none 0 0, .slice none 0 0]) 56 rfl Try.underlying72 (by kernel_rfl) rfl (by decide) (by omega) u4 (qs.take k) (qs.getD k 0) [.bool tu, .slice Au nu cu, .slice Du ku zu] okN okp rfl rfl HFK.out HPK.out HFR.out HN.out (Below.refl _ _) (Kb.size HB.out) (by have := HLEN.out; omega) ?_; intro v_ w_ hn hb hg hat; have hk := Kb.grown HB.out hg (fun j hj => .inr (Kd.N_base HN.out j hj)); have HN2 := a0_ hn; have HB2 := a0_ hk; clear hn hb hg hat hk))
    go_roundg (nl - (k + 1))
    case measure => have := HK.out; omega
    case rel => exact ⟨k + 1, by first | rfl | rw [e1], ⟨by have := HK.out; omega⟩, ⟨by rw [← take_getD qs k (by rw [HQL.out, ← HNL.out]; exact hlt)]; exact HN2.out⟩, HB2⟩
  · have hz : ¬ (k : Int) < (nl : Int) := by omega
    have hkn : qs.take k = qs := List.take_of_length_le (by have := HK.out; have := HQL.out; have := HNL.out; omega)
    have hn := HN.out
    rw [hkn] at hn
    clear HN hkn hlt
    have HN := a0_ hn
    clear hn
    go_wp2_with fail
    go_ret
    refine ⟨⟨_, rfl, ?_⟩, (Kb.to_below HB.out (fun _ h => h.elim))⟩
    exact RowQ.mono (Kd.N_V HN.out) (fun j hj => by rw [HOK.out] at hj; exact hj.elim (fun h => .inl h.1) .inr)
open Go.RowKit Go.Proofs.YtgdkgahbmfhgcaaW.PrintWords Go.Proofs.YtgdkgahbmfhgcaaW.PrintLast Go.Proofs.YtgdkgahbmfhgcaaW.PrintMore
attribute [local go_sem] max2_int min2_int max_two min_two max_three min_three max_four min_four
mutual
def nat_Small.j0 : Nat → List Int → Int → Bool → Option (Int × Bool)
 | 0, _, _, _ => none
 | k + 1, x0, x2, x13 => if x13 = true then (some (0, false)) else (nat_Small.l0 k x2 x0 (x0.length : Int) 0)
def nat_Small.l0 : Nat → Int → List Int → Int → Int → Option (Int × Bool)
 | 0, _, _, _, _ => none
 | k + 1, x2, x14, x15, x16 => if x16 < x15 then (if 0 ≤ x16 then (if x16 < (x14.length : Int) then (if 0 ≤ (wrap64 (32 * x16)) then (nat_Small.l0 k (Go.bits .or .u64 x2 (shl .u64 (IntKind.u64.wrap (rd x14 x16)) (wrap64 (32 * x16)))) x14 x15 (wrap64 (x16 + 1))) else (none)) else (none)) else (none)) else (some (x2, true))
end
def nat_Small.f (k : Nat) (l0 : List Int) : Option (Int × Bool) := (nat_Check.f l0).bind fun t484 => (if t484 = 0 then (nat_Small.j0 k l0 0 (decide ((l0.length : Int) > 2))) else (nat_Small.j0 k l0 0 true))
theorem nat_Small.mono_l : ∀ k, (∀ y0 y1 y2, LeO (nat_Small.j0 k y0 y1 y2) (nat_Small.j0 (k + 1) y0 y1 y2)) ∧ (∀ y0 y1 y2 y3, LeO (nat_Small.l0 k y0 y1 y2 y3) (nat_Small.l0 (k + 1) y0 y1 y2 y3))
 | 0 => ⟨fun _ _ _ r h => by simp [nat_Small.j0] at h, fun _ _ _ _ r h => by simp [nat_Small.l0] at h⟩
 | k + 1 => by
  obtain ⟨ih0, ih1⟩ := nat_Small.mono_l k
  refine ⟨?_, ?_⟩
  · intro y0 y1 y2
    unfold nat_Small.j0
    repeat' first
    | (with_reducible exact ih0 _ _ _)
    | (with_reducible exact ih1 _ _ _ _)
    | (with_reducible exact LeO.refl _)
    | (with_reducible exact LeO.none _)
    | (with_reducible refine LeO.ite ?_ ?_)
    | (with_reducible refine LeO.bind ?_ (fun _ => ?_))
    | exact ih0 _ _ _
    | exact ih1 _ _ _ _
    | exact LeO.none _
    | refine LeO.ite ?_ ?_
    | refine LeO.bind ?_ (fun _ => ?_)
  · intro y0 y1 y2 y3
    unfold nat_Small.l0
    repeat' first
    | (with_reducible exact ih0 _ _ _)
    | (with_reducible exact ih1 _ _ _ _)
    | (with_reducible exact LeO.refl _)
    | (with_reducible exact LeO.none _)
    | (with_reducible refine LeO.ite ?_ ?_)
    | (with_reducible refine LeO.bind ?_ (fun _ => ?_))
    | exact ih0 _ _ _
    | exact ih1 _ _ _ _
    | exact LeO.none _
    | refine LeO.ite ?_ ?_
    | refine LeO.bind ?_ (fun _ => ?_)
theorem nat_Small.mono : ∀ a0 k, LeO (nat_Small.f k a0) (nat_Small.f (k + 1) a0) := by
 intro a0 k
 obtain ⟨ih0, ih1⟩ := nat_Small.mono_l k
 unfold nat_Small.f
 repeat' first
  | (with_reducible exact ih0 _ _ _)
  | (with_reducible exact ih1 _ _ _ _)
  | (with_reducible exact LeO.refl _)
  | (with_reducible exact LeO.none _)
  | (with_reducible refine LeO.ite ?_ ?_)
  | (with_reducible refine LeO.bind ?_ (fun _ => ?_))
  | exact ih0 _ _ _
  | exact ih1 _ _ _ _
  | exact LeO.none _
  | refine LeO.ite ?_ ?_
  | refine LeO.bind ?_ (fun _ => ?_)
theorem nat_Small.calls (k : Nat) (A0 : Option Addr) (c0 : Nat) (l0 : List Int) (r1 : Int) (r2 : Bool) (w : World) (hr0 : Kd.C (Kd.int .u32) w A0 l0.length l0) (hc0 : l0.length ≤ c0) (h : nat_Small.f k l0 = some (r1, r2)) :
 Calls Try.prog 71 #[.slice A0 l0.length c0] w fun e w' => e = .returned (.tuple #[.int .u64 r1, .bool r2]) ∧ Drawn0 w w' := by
 have HR0 := Aside0.mk hr0
 have HC0 := Aside0.mk hc0
 clear hr0 hc0
 have H : ((nat_Check.f l0).bind fun t484 => (if t484 = 0 then (nat_Small.j0 k l0 0 (decide ((l0.length : Int) > 2))) else (nat_Small.j0 k l0 0 true))) = some (r1, r2) := h
 clear h
 have HC2 := Aside0.mk H
 clear H
 go_enter Try.func71, Try.ntmps71
 go_upto_region 1 with (fail)
 go_cut [13] (fun v13 wc => ∃ (kq : Nat) (x13_1 : Bool), v13 = .bool x13_1 ∧ Aside0 (nat_Small.j0 kq l0 0 x13_1 = some (r1, r2)) ∧ Aside0 (kq ≤ k) ∧ Drawn0 w wc)
 case first =>
  have H := HC2.out
  clear HC2
  replace H := Option.bind_eq_some_iff.mp H
  obtain ⟨t484, A30, H⟩ := H
  replace H : (if t484 = 0 then (nat_Small.j0 k l0 0 (decide ((l0.length : Int) > 2))) else (nat_Small.j0 k l0 0 true)) = some (r1, r2) := H
  have A3 := Aside0.mk A30
  clear A30
  by_cases c4 : t484 = 0
  · rw [if_pos c4] at H
    have c4b0 : (t484 == 0) = true := beq_iff_eq.mpr c4
    have c4b1 : (t484 != 0) = false := bne_eq_false_iff_eq.mpr c4
    clear c4
    (first | rw [c4b0] | (simp only [i64_w, i32_w]; rw [c4b0]) | skip)
    have H' := Aside0.mk H
    clear H
    go_wp2_with (first | ((with_reducible refine gate_callee (f := 63) rfl ?_); refine goesL_ (some 7) rfl rfl Try.func63 (by kernel_rfl) rfl #[.slice A0 l0.length c0] rfl (by (try simp only [List.map_toArray, List.map_cons, List.map_nil]); first | done | rfl | (simp only [List.length_drop, List.length_take]; rfl)) ?_; (with_reducible refine (nat_Check.calls _ _ l0 t484 _ ?side1 ?side2 A3.out).mono ?_); (case side1 => repeat (first | exact HR0.out | (with_reducible refine Kd.C_alloc ?_ _) | (with_reducible refine Kd.C_drewN ?_ _) | (with_reducible refine Kd.C_drew ?_))); (case side2 => exact HC0.out); rintro e w' ⟨rfl, ⟨nd, rfl⟩⟩; refine ⟨_, rfl, ?_⟩))
    go_meet
    case rel => exact ⟨_, (decide ((l0.length : Int) > 2)), (by first | rfl | (simp; done) | (simp [*]; done)), H', ⟨by first | omega | exact Nat.le_refl _⟩, by repeat (first | exact Drawn0.refl _ | apply Drawn0.step)⟩
  · rw [if_neg c4] at H
    have c4b0 : (t484 == 0) = false := beq_eq_false_iff_ne.mpr c4
    have c4b1 : (t484 != 0) = true := bne_iff_ne.mpr c4
    (first | rw [c4b0] | (simp only [i64_w, i32_w]; rw [c4b0]) | skip)
    have H' := Aside0.mk H
    clear H
    go_wp2_with (first | ((with_reducible refine gate_callee (f := 63) rfl ?_); refine goesL_ (some 7) rfl rfl Try.func63 (by kernel_rfl) rfl #[.slice A0 l0.length c0] rfl (by (try simp only [List.map_toArray, List.map_cons, List.map_nil]); first | done | rfl | (simp only [List.length_drop, List.length_take]; rfl)) ?_; (with_reducible refine (nat_Check.calls _ _ l0 t484 _ ?side1 ?side2 A3.out).mono ?_); (case side1 => repeat (first | exact HR0.out | (with_reducible refine Kd.C_alloc ?_ _) | (with_reducible refine Kd.C_drewN ?_ _) | (with_reducible refine Kd.C_drew ?_))); (case side2 => exact HC0.out); rintro e w' ⟨rfl, ⟨nd, rfl⟩⟩; refine ⟨_, rfl, ?_⟩))
    go_meet
    case rel => exact ⟨_, (true), (by first | rfl | (simp; done) | (simp [*]; done)), H', ⟨by first | omega | exact Nat.le_refl _⟩, by repeat (first | exact Drawn0.refl _ | apply Drawn0.step)⟩
 case rest =>
  clear HC2
  try clear p2
  try clear c4
  try clear c4b0
  try clear c4b1
  obtain ⟨kq, x13_1, rfl, HA, HJ1, ⟨mc1, rfl⟩⟩ := hcut
  cases kq with
  | zero => exact absurd HA.out (by simp [nat_Small.j0])
  | succ kj1 =>
   have H := HA.out
   clear HA
   simp only [nat_Small.j0] at H
   by_cases c5 : x13_1 = true
   · subst c5
     have H1 : (some (0, false)) = some (r1, r2) := by rw [if_pos rfl] at H; exact H
     clear H
     have H := H1
     clear H1
     simp only [Option.some.injEq, Prod.mk.injEq] at H
     obtain ⟨rfl, rfl⟩ := H
     go_wp2
     go_ret2
     exact ⟨by first | rfl | (simp; done) | (simp [*]; done), by repeat (first | exact Drawn0.refl _ | apply Drawn0.step)⟩
   · replace c5 := Bool.eq_false_iff.mpr c5
     subst c5
     have H1 : (nat_Small.l0 kj1 0 l0 (l0.length : Int) 0) = some (r1, r2) := by rw [if_neg (show ¬ (false = true) by decide)] at H; exact H
     clear H
     have H := H1
     clear H1
     have H' := Aside0.mk H
     clear H
     go_wp2
     go_loopg [2, 16] kj1 (fun kq v2 v16 w' => ∃ (x2_2 : Int) (x16_2 : Int), v2 = .int .u64 x2_2 ∧ v16 = .int .i64 x16_2 ∧ Aside0 (nat_Small.l0 kq x2_2 l0 (l0.length : Int) x16_2 = some (r1, r2)) ∧ Aside0 (kq ≤ kj1) ∧ Drawn0 w w')
     case atStart => exact ⟨(0), (0), (by first | rfl | (simp; done) | (simp [*]; done)), (by first | rfl | (simp; done) | (simp [*]; done)), H', ⟨Nat.le_refl _⟩, by repeat (first | exact Drawn0.refl _ | apply Drawn0.step)⟩
     case round =>
      clear H'
      try clear c1
      try clear p2
      try clear c4
      try clear c4b0
      try clear c4b1
      try clear c5
      try clear p2
      obtain ⟨x2_2, x16_2, rfl, rfl, HA, HK2, ⟨m2, rfl⟩⟩ := hrel
      cases gk with
      | zero => exact absurd HA.out (by simp [nat_Small.l0])
      | succ k2 =>
       have H := HA.out
       clear HA
       simp only [nat_Small.l0] at H
       by_cases c6 : x16_2 < (l0.length : Int)
       · rw [if_pos c6] at H
         have c6b0 : decide (x16_2 < (l0.length : Int)) = true := decide_eq_true c6
         clear c6
         by_cases c7 : 0 ≤ x16_2
         · rw [if_pos c7] at H
           have c7b0 : decide (0 ≤ x16_2) = true := decide_eq_true c7
           clear c7
           by_cases c8 : x16_2 < (l0.length : Int)
           · rw [if_pos c8] at H
             have c8b0 : decide (x16_2 < (l0.length : Int)) = true := decide_eq_true c8
             clear c8
             obtain ⟨ji9, hji9⟩ : ∃ j_ : Int, (wrap64 (32 * x16_2)) = j_ := ⟨_, rfl⟩
             replace H : (if 0 ≤ (ji9) then (nat_Small.l0 k2 (Go.bits .or .u64 x2_2 (shl .u64 (IntKind.u64.wrap (rd l0 x16_2)) (ji9))) l0 (l0.length : Int) (wrap64 (x16_2 + 1))) else (none)) = some (r1, r2) := by first | (rw [hji9] at H; exact H) | (simp only [hji9] at H ⊢; exact H)
             have hji9w : (IntKind.i64.wrap (32 * x16_2)) = ji9 := (i64_w _).trans hji9
             by_cases c10 : 0 ≤ (ji9)
             · rw [if_pos c10] at H
               have c10b0 := eq_true c10
               have c10b1 : decide (0 ≤ (ji9)) = true := decide_eq_true c10
               clear c10
               obtain ⟨ji11, hji11⟩ : ∃ j_ : Int, (shl .u64 (IntKind.u64.wrap (rd l0 x16_2)) (ji9)) = j_ := ⟨_, rfl⟩
               replace H : (nat_Small.l0 k2 (Go.bits .or .u64 x2_2 (ji11)) l0 (l0.length : Int) (wrap64 (x16_2 + 1))) = some (r1, r2) := by first | (rw [hji11] at H; exact H) | (simp only [hji11] at H ⊢; exact H)
               have hji11_ : (IntKind.u64.wrap ((IntKind.u64.wrap (rd l0 x16_2)) * 2 ^ min (ji9).toNat 64)) = ji11 := hji11
               have hji11z : (ji9) ≤ 64 → (IntKind.u64.wrap ((IntKind.u64.wrap (rd l0 x16_2)) * 2 ^ (ji9).toNat)) = ji11 := shl_small hji11
               have H' := Aside0.mk H
               clear H
               have p485 : 0 ≤ (x16_2 : Int) := of_decide_eq_true (by first | (with_reducible assumption) | assumption)
               have q485 : x16_2 < (l0.length : Int) := of_decide_eq_true (by first | (with_reducible assumption) | assumption)
               obtain ⟨ad485, e485, hx485_0⟩ := Kd.at_int HR0.out x16_2 p485 q485
               cases e485
               replace p485 := eq_true p485
               replace q485 := eq_true q485
               go_wp2
               go_roundg k2
               case measure => have := HJ1.out; have := HK2.out; omega
               case rel => exact ⟨(Go.bits .or .u64 x2_2 (ji11)), (wrap64 (x16_2 + 1)), (by first | rfl | (simp; done) | (simp only [← hji11] <;> (first | rfl | simp)) | (simp [*]; done)), (by first | rfl | (simp; done) | (simp [*]; done)), H', ⟨by have := HJ1.out; have := HK2.out; omega⟩, by repeat (first | exact Drawn0.refl _ | apply Drawn0.step)⟩
             · rw [if_neg c10] at H
               exact absurd H (by simp)
           · rw [if_neg c8] at H
             exact absurd H (by simp)
         · rw [if_neg c7] at H
           exact absurd H (by simp)
       · rw [if_neg c6] at H
         have c6b0 : decide (x16_2 < (l0.length : Int)) = false := decide_eq_false c6
         clear c6
         simp only [Option.some.injEq, Prod.mk.injEq] at H
         obtain ⟨rfl, rfl⟩ := H
         go_wp2
         go_ret2
         exact ⟨by first | rfl | (simp; done) | (simp [*]; done), by repeat (first | exact Drawn0.refl _ | apply Drawn0.step)⟩
theorem bits_or0 (m : Nat) (h : m < 4294967296) : Go.bits .or .u64 0 (shl .u64 (IntKind.u64.wrap (m : Int)) (wrap64 (32 * 0))) = (m : Int) := by
 have e0 : wrap64 (32 * 0) = 0 := (w64 (by decide) (by decide)).trans (by decide)
 have e1 : IntKind.u64.wrap (m : Int) = m := by simp [IntKind.wrap, IntKind.bits, IntKind.signed]; omega
 have e2 : shl .u64 (m : Int) 0 = m := by
  unfold shl
  have : ((m : Int) * 2 ^ min (0 : Int).toNat IntKind.u64.bits) = m := by simp
  rw [this]; exact e1
 rw [e0, e1, e2]
 unfold Go.bits
 simp
 rw [show (m : Int) % 2 ^ IntKind.u64.bits = m by simp [IntKind.bits]; omega]
 exact e1
theorem Small_ev (m : Nat) (h : m < 4294967296) : Ev (fun k => nat_Small.f k (limbs m)) ((m : Int), true) := by
 have hf : Fits m := Nat.lt_of_lt_of_le (show m < 4294967296 ^ 1 by omega) (Nat.pow_le_pow_right (by omega) (by omega))
 unfold nat_Small.f
 refine Ev.one (by rw [Check_limbs, if_pos hf]) ?_
 refine Ev.pos rfl ?_
 have hl : (limbs m).length ≤ 1 := limbs_len_le (by omega)
 rw [decide_eq_false (by omega)]
 refine Ev.succ ?_
 refine Ev.congr (fun n => by rw [nat_Small.j0]) ?_
 refine Ev.neg (by decide) ?_
 rcases Nat.eq_zero_or_pos m with h0 | h0
 · subst h0
   rw [limbs_zero]
   refine Ev.succ ?_
   refine Ev.congr (fun n => by rw [nat_Small.l0]) ?_
   exact Ev.neg (by decide) (Ev.now _)
 · have e : limbs m = [(m : Int)] := by
    rw [limbs_pos h0, Nat.mod_eq_of_lt h, Nat.div_eq_of_lt h, limbs_zero]
   rw [e]
   refine Ev.succ ?_
   refine Ev.congr (fun n => by rw [nat_Small.l0]) ?_
   refine Ev.pos (by simp) (Ev.pos (by decide) (Ev.pos (by simp) (Ev.pos (by rw [show wrap64 (32 * 0) = 0 from (w64 (by decide) (by decide)).trans (by decide)]; decide) ?_)))
   rw [show rd [(m : Int)] 0 = m from rfl, bits_or0 m h, show wrap64 (0 + 1) = 1 from (w64 (by decide) (by decide)).trans (by decide)]
   refine Ev.succ ?_
   refine Ev.congr (fun n => by rw [nat_Small.l0]) ?_
   exact Ev.neg (by simp) (Ev.now _)
theorem nsmall_calls (m : Nat) (h : m < 4294967296) (A0 : Option Addr) (c0 : Nat) (w : World) (hr0 : Kd.C (Kd.int .u32) w A0 (limbs m).length (limbs m)) (hc0 : (limbs m).length ≤ c0) :
 Calls Try.prog 71 #[.slice A0 (limbs m).length c0] w fun e w' => e = .returned (.tuple #[.int .u64 m, .bool true]) ∧ Below w.heap.size w w' := by
 obtain ⟨k, hk⟩ := (Small_ev m h).rounds
 exact (nat_Small.calls k A0 c0 _ _ _ w hr0 hc0 hk).mono (fun e w' h => ⟨h.1, h.2.below⟩)
def RowL (ok : Nat → Prop) (w : World) (v : Value) (l : List Int) : Prop := Kd.V (Kd.int .u32) 48 w 0 ok v l
section
variable {ok ok' S : Nat → Prop} {w w1 : World} {v : Value} {l : List Int}
theorem RowL.kb (h : RowL ok w v l) (hb : Kb S w w1) (hne : ∀ k, ok k → ¬ S k) : RowL ok w1 v l := Kd.V_step h (fun k hk hl => hb.block k hl (hne k hk))
theorem RowL.mono' (h : RowL ok w v l) (hok : ∀ k, ok k → k < w.heap.size → ok' k) : RowL ok' w v l := Kd.V_mono (Kd.V_bound h) (fun k hk => hok k hk.1 hk.2)
theorem RowL.c {A : Option Addr} {n c : Nat} (h : RowL ok w (.slice A n c) l) : Kd.C (Kd.int .u32) w A l.length l := (Kd.V_reads' h).2.2
theorem RowL.le {A : Option Addr} {c : Nat} (h : RowL ok w (.slice A l.length c) l) : l.length ≤ c := (Kd.V_reads' h).2.1
theorem RowL.of_rd {B : Nat} (h : Rd B w v l) : RowL (fun k => B ≤ k) w v l := h
theorem RowL.slice (h : RowL ok w v l) : ∃ A c, v = .slice A l.length c := Kd.V_slice h
end
theorem IsR.rows {ok : Nat → Prop} {w : World} {v : Value} {x : Rat} (h : IsR ok w v x) : ∃ A0 c0 A1 c1, v = .agg #[.bool (decide (x.num < 0)), .slice A0 (limbs x.num.natAbs).length c0, .slice A1 (limbs x.den).length c1] ∧ RowL ok w (.slice A0 (limbs x.num.natAbs).length c0) (limbs x.num.natAbs) ∧ RowL ok w (.slice A1 (limbs x.den).length c1) (limbs x.den) := by
 obtain ⟨_, v1, v2, e, ⟨A0, c0, rfl, l0, f0⟩, ⟨A1, c1, rfl, l1, f1⟩⟩ := h
 exact ⟨A0, c0, A1, c1, e, ⟨A0, c0, rfl, l0, f0⟩, ⟨A1, c1, rfl, l1, f1⟩⟩
theorem fit_nat (q : Nat) (h : q < 4294967296 ^ 16) : FitR (q : Rat) := ⟨h, Nat.one_lt_pow (by omega) (by omega)⟩
theorem qreduced_nat (q : Nat) (h : q < 4294967296 ^ 16) (A0 : Option Addr) (c0 : Nat) (A1 : Option Addr) (c1 : Nat) (w : World) (hra : Kd.C (Kd.int .u32) w A0 (limbs q).length (limbs q)) (hca : (limbs q).length ≤ c0) (hrb : Kd.C (Kd.int .u32) w A1 (limbs 1).length (limbs 1)) (hcb : (limbs 1).length ≤ c1) :
 Calls Try.prog 35 #[.bool false, .slice A0 (limbs q).length c0, .slice A1 (limbs 1).length c1] w fun e w' => (∃ v, e = .returned (.tuple #[v, .int .i64 0]) ∧ IsR (fun k => w.heap.size ≤ k) w' v (q : Rat)) ∧ Below w.heap.size w w' := by
 refine (reduced_calls false q 1 (by omega) (fits16 h) (by unfold Fits; exact Nat.one_lt_pow (by omega) (by omega)) _ _ _ _ _ hra hca hrb hcb).mono ?_
 have e0 : mkRat (if false = true then -(q : Int) else (q : Int)) 1 = (q : Rat) := by
  rw [if_neg (by decide)]
  exact Rat.mkRat_self (q : Rat)
 rw [red_ans _ _ _ (by omega), e0]
 have hf := fit_nat q h
 rintro e w' ⟨v1, v2, rfl, k1, k2, k3⟩
 have e1 : ansR (q : Rat) = (decide ((q : Rat).num < 0), (q : Rat).num.natAbs, (q : Rat).den, 0) := by unfold ansR; rw [if_pos hf]
 rw [e1] at k1 k2 ⊢
 exact ⟨⟨_, rfl, IsR.of_calls hf k1 k2⟩, k3⟩
def QFloor.T9 : Bool × List (List Nat × List Nat) := (true, [([], []), ([0], [0]), ([], []), ([], []), ([1, 2, 3, 3], [1, 2, 3]), ([4], [4]), ([4], [4]), ([5, 4, 0, 1, 2, 3, 4, 5, 6], [5]), ([6, 7, 0, 1, 2, 3, 4, 5, 6, 7], [6])])
def QFloor.B9 : List Nat := [0, 1, 0, 0, 15, 31, 31, 127, 255]
theorem QFloor.tab9 : rtab .any (opsOf Try.f57 9) = QFloor.T9 := by kernel_rfl
theorem QFloor.bits9 : waitsOk QFloor.T9.2 QFloor.B9 = true := by kernel_rfl
theorem qfloor_calls {ok : Nat → Prop} (x : Rat) (h0 : 0 ≤ x.num) (w : World) (va : Value) (ha : IsR ok w va x) :
 Calls Try.prog 57 #[va] w fun e w' => (∃ v, e = .returned (.tuple #[v, .int .i64 0]) ∧ IsR (fun k => w.heap.size ≤ k) w' v ((x.num.natAbs / x.den : Nat) : Rat)) ∧ Below w.heap.size w w' := by
 have hu30 := Try.underlying30
 obtain ⟨A0, c0, A1, c1, rfl, hr0, hr1⟩ := ha.rows
 have hd : decide (x.num < 0) = false := decide_eq_false (by omega)
 rw [hd] at ha ⊢
 obtain ⟨m, hm⟩ : ∃ m, m = x.num.natAbs := ⟨_, rfl⟩
 obtain ⟨d, hd2⟩ : ∃ d, d = x.den := ⟨_, rfl⟩
 have hm16 : m < 4294967296 ^ 16 := by rw [hm]; exact ha.1.1
 have hd16 : d < 4294967296 ^ 16 := by rw [hd2]; exact ha.1.2
 have hd0 : 0 < d := by rw [hd2]; exact x.den_pos
 rw [← hm, ← hd2]
 rw [← hm] at ha hr0
 rw [← hd2] at ha hr1
 have HF := a0_ (And.intro hm16 (And.intro hd16 hd0))
 clear hm hd2 hm16 hd16 hd0 hd h0
 have HB := kf_ w
 have V_p := a0_ ha
 clear ha
 have B_p := kf_ w
 have V_m := a0_ hr0
 clear hr0
 have B_m := kf_ w
 have V_d := a0_ hr1
 clear hr1
 have B_d := kf_ w
 go_enter Try.func57, Try.ntmps57
 go_wp2_with (first | ((with_reducible refine gd_ 1 rfl ?_); refine bx_ (N := 1) #[.bool false, .slice A0 (limbs m).length c0, .slice A1 (limbs d).length c1] 30 ?_; intro g_x hg w101 hbox hb; have G_x := kb_g HB hg; replace HB := kb_b HB hb; replace B_p := kb_b B_p hb; replace B_m := kb_b B_m hb; replace B_d := kb_b B_d hb; clear hb; have V_x := a0_ hbox; have B_x := kf_ w101; have N_x := nf_ g_x; clear hbox hg) | ((with_reducible refine gd_ 2 rfl ?_); refine bx_ (N := 2) #[.bool false, .slice none 0 0, .slice none 0 0] 30 ?_; intro g_r hg w102 hbox hb; have G_r := kb_g HB hg; have O_r_x := kb_g B_x hg; replace HB := kb_b HB hb; replace B_p := kb_b B_p hb; replace B_m := kb_b B_m hb; replace B_d := kb_b B_d hb; replace B_x := kb_b B_x hb; clear hb; have V_r := a0_ hbox; have B_r := kf_ w102; have N_r := nf_ g_r; clear hbox hg) | ((with_reducible refine gd_ 8 rfl ?_); refine load_ev rfl rfl (g := g_x) rfl (bk_ V_x B_x N_x) ?_))
 with_reducible refine (qcheck_calls x _ _ (IsR.kb (S := fun k => False) V_p.out B_p.out (fun _ _ h => h))).mono ?_
 rintro e w103 ⟨rfl, hb⟩
 replace HB := kb_b HB hb
 replace B_p := kb_b B_p hb
 replace B_m := kb_b B_m hb
 replace B_d := kb_b B_d hb
 replace B_x := kb_b B_x hb
 replace B_r := kb_b B_r hb
 clear hb
 have bk_x := bk_ V_x B_x N_x
 have hz_x_0 : w103.cell? ⟨g_x, 0, none⟩ = some (.bool false) := (blk_cell bk_x 0).trans rfl
 have hz_x_1 : w103.cell? ⟨g_x, 1, none⟩ = some (.slice A0 (limbs m).length c0) := (blk_cell bk_x 1).trans rfl
 have hz_x_2 : w103.cell? ⟨g_x, 2, none⟩ = some (.slice A1 (limbs d).length c1) := (blk_cell bk_x 2).trans rfl
 clear bk_x
 go_wp2_with fail
 with_reducible refine (ndiv_calls m d HF.out.2.2 (fits16 HF.out.1) (fits16 HF.out.2.1) _ _ _ _ _ (RowL.c (RowL.kb (S := fun k => False) V_m.out B_m.out (fun _ _ h => h))) (RowL.le V_m.out) (RowL.c (RowL.kb (S := fun k => False) V_d.out B_d.out (fun _ _ h => h))) (RowL.le V_d.out)).mono ?_
 rintro e w104 ⟨v1, v2, rfl, h1, h2, hb⟩
 have h1 := RowL.of_rd h1
 obtain ⟨A2, c2, rfl⟩ := RowL.slice h1
 obtain ⟨A3, c3, rfl⟩ := RowL.slice (RowL.of_rd h2)
 have h1 := RowL.mono' (ok' := fun _ => True) h1 (fun _ _ _ => trivial)
 clear h2
 clear hz_x_0 hz_x_1 hz_x_2
 replace HB := kb_b HB hb
 replace B_p := kb_b B_p hb
 replace B_m := kb_b B_m hb
 replace B_d := kb_b B_d hb
 replace B_x := kb_b B_x hb
 replace B_r := kb_b B_r hb
 clear hb
 have V_q := a0_ h1
 clear h1
 have B_q := kf_ w104
 clear V_m B_m
 clear V_d B_d
 clear V_p B_p
 have bk_x := bk_ V_x B_x N_x
 have hz_x_0 : w104.cell? ⟨g_x, 0, none⟩ = some (.bool false) := (blk_cell bk_x 0).trans rfl
 have hz_x_1 : w104.cell? ⟨g_x, 1, none⟩ = some (.slice A0 (limbs m).length c0) := (blk_cell bk_x 1).trans rfl
 have hz_x_2 : w104.cell? ⟨g_x, 2, none⟩ = some (.slice A1 (limbs d).length c1) := (blk_cell bk_x 2).trans rfl
 clear bk_x
 go_wp2_with fail
 clear hz_x_0 hz_x_1 hz_x_2
 have hb : Below w104.heap.size w104 w104.drew := below_drew1 (Below.refl _ _)
 replace HB := kb_b HB hb
 replace B_x := kb_b B_x hb
 replace B_r := kb_b B_r hb
 replace B_q := kb_b B_q hb
 clear hb
 refine start_ (n := 9) (S := fun w' => w'.heap[g_x]? = some (.cells #[.bool false, .slice A0 (limbs m).length c0, .slice A1 (limbs d).length c1] 30 (0, 0))) (ds := []) (tB_ 9 0) (by kernel_rfl) rfl (by kernel_rfl) (bk_ V_x B_x N_x) (fun hHeld => ?_)
 refine with_tabW QFloor.tab9 QFloor.bits9 (fun HT_ HW_ => ?_)
 generalize w104.drew = w105 at HB B_x B_r B_q hHeld ⊢
 refine pu_ 0 (some 44) 1 HT_ ?_
 refine tk_ 1 (some 45) 3 HT_ HW_ hHeld ?_ ?_ ?_ ?_ ?_
 rotate_left
 · intro w' hs
   have hb_ := hs
   obtain ⟨c0_, c1_, c2_⟩ := b3_ hb_
   clear hb_ hs
   go_simp
   with_reducible rfl
 rotate_left
 · simp only [PU]
   rfl
 refine pu_ 2 (some 46) 7 HT_ ?_
 refine on_ 3 (some 47) 15 HT_ (fun K hK => ?_)
 refine gs_ Try.func26 #[] ?_
 refine (one_calls _).mono ?_
 rintro e w106 ⟨v47, rfl, h1, hb⟩
 have h1 := RowL.of_rd h1
 obtain ⟨A4, c4, rfl⟩ := RowL.slice h1
 have h1 := RowL.mono' (ok' := fun _ => True) h1 (fun _ _ _ => trivial)
 refine ⟨_, rfl, ?_⟩
 refine hK.out _ _ (by exact blk_below hHeld hb) (fun hHeld => ?_)
 clear hK K
 refine nm_ (some 47) ?_
 replace HB := kb_b HB hb
 replace B_x := kb_b B_x hb
 replace B_r := kb_b B_r hb
 replace B_q := kb_b B_q hb
 clear hb
 have V_o := a0_ h1
 clear h1
 have B_o := kf_ w106
 refine on_ 4 (some 48) 31 HT_ (fun K hK => ?_)
 refine gs_ Try.func35 #[.bool false, .slice A2 (limbs (m / d)).length c2, .slice A4 (limbs 1).length c4] ?_
 refine (qreduced_nat (m / d) (Nat.lt_of_le_of_lt (Nat.div_le_self _ _) HF.out.1) _ _ _ _ _ (RowL.c (RowL.kb (S := fun k => False) V_q.out B_q.out (fun _ _ h => h))) (RowL.le V_q.out) (RowL.c (RowL.kb (S := fun k => False) V_o.out B_o.out (fun _ _ h => h))) (RowL.le V_o.out)).mono ?_
 rintro e w107 ⟨⟨v48, rfl, hv⟩, hb⟩
 obtain ⟨tv, Av, nv, cv, Dv, kv, zv, rfl⟩ := hv.agg
 refine ⟨_, rfl, ?_⟩
 refine hK.out _ _ (by exact blk_below hHeld hb) (fun hHeld => ?_)
 clear hK K
 refine nm_ (some 48) ?_
 have hle := Kb.size HB.out
 have hl_r := blk_lt (bk_ V_r B_r N_r)
 have hv_ := IsR.mono' (ok' := fun k => True ∧ k ≠ g_r ∧ w.heap.size ≤ k) hv (fun k hk _ => by refine ⟨?_, ?_, ?_⟩ <;> first | trivial | omega)
 clear hv hle hl_r
 replace HB := kb_b HB hb
 replace B_x := kb_b B_x hb
 replace B_r := kb_b B_r hb
 replace B_q := kb_b B_q hb
 replace B_o := kb_b B_o hb
 clear hb
 have V_v := a0_ hv_
 clear hv_
 have B_v := a0_ (Kb.refl (fun k => False ∨ k = g_r) w107)
 clear V_q B_q
 clear V_o B_o
 refine pu_ 5 (some 49) 63 HT_ ?_
 refine pu_ 6 (some 50) 127 HT_ ?_
 refine on_ 7 none 255 HT_ (fun K hK => ?_)
 have bk_r := bk_ V_r B_r N_r
 have hz_r_0 : w107.cell? ⟨g_r, 0, none⟩ = some (.bool false) := (blk_cell bk_r 0).trans rfl
 have hf_r_0 := blk_frozen bk_r 0
 have hz_r_1 : w107.cell? ⟨g_r, 1, none⟩ = some (.slice none 0 0) := (blk_cell bk_r 1).trans rfl
 have hf_r_1 := blk_frozen bk_r 1
 have hz_r_2 : w107.cell? ⟨g_r, 2, none⟩ = some (.slice none 0 0) := (blk_cell bk_r 2).trans rfl
 have hf_r_2 := blk_frozen bk_r 2
 clear bk_r
 refine skip_ (w1 := ((w107.setCell ⟨g_r, 0, none⟩ (.bool tv)).setCell ⟨g_r, 1, none⟩ (.slice Av nv cv)).setCell ⟨g_r, 2, none⟩ (.slice Dv kv zv)) (by rfl) rfl ?_ ?_
 · first | (go_simp; done) | (go_simp; rfl)
 clear hz_r_0 hf_r_0 hz_r_1 hf_r_1 hz_r_2 hf_r_2
 have hbox : (((w107.setCell ⟨g_r, 0, none⟩ (.bool tv)).setCell ⟨g_r, 1, none⟩ (.slice Av nv cv)).setCell ⟨g_r, 2, none⟩ (.slice Dv kv zv)).heap[g_r]? = some (.cells #[.bool tv, .slice Av nv cv, .slice Dv kv zv] 30 (0, 0)) := blk_put (blk_put (blk_put (bk_ V_r B_r N_r) 0 _ rfl) 1 _ rfl) 2 _ rfl
 have hk : Kb (fun k => k = g_r) w107 (((w107.setCell ⟨g_r, 0, none⟩ (.bool tv)).setCell ⟨g_r, 1, none⟩ (.slice Av nv cv)).setCell ⟨g_r, 2, none⟩ (.slice Dv kv zv)) := (((Kb.refl (fun k => k = g_r) w107).setCell (p := ⟨g_r, 0, none⟩) (Or.inl rfl) _).setCell (p := ⟨g_r, 1, none⟩) (Or.inl rfl) _).setCell (p := ⟨g_r, 2, none⟩) (Or.inl rfl) _
 refine hK.out _ _ (by have q_ := hHeld; exact Kb.blk q_ hk (show ¬ (g_x = g_r) from fun e => by have := blk_lt V_x.out; have := O_r_x.out; omega)) (fun hHeld => ?_)
 clear hK K
 obtain ⟨w108, hw_⟩ : ∃ x, x = ((w107.setCell ⟨g_r, 0, none⟩ (.bool tv)).setCell ⟨g_r, 1, none⟩ (.slice Av nv cv)).setCell ⟨g_r, 2, none⟩ (.slice Dv kv zv) := ⟨_, rfl⟩
 rw [← hw_] at hk hbox hHeld ⊢
 clear hw_
 replace HB := kb_o HB hk G_r
 replace B_x := kb_o B_x hk O_r_x
 replace B_v := kb_t B_v hk (fun i hi => by exact Or.inl (Or.inr hi))
 clear V_r B_r
 have V_r := a0_ hbox
 have B_r := kf_ w108
 clear hbox hk
 refine pu_ 8 (some 3) 511 HT_ ?_
 refine do_ HT_ ?_
 clear HT_ HW_ hHeld
 go_wp2_with fail
 refine bodyPost_ret (results_ct rfl _ _ g_r 30 #[.bool tv, .slice Av nv cv, .slice Dv kv zv] (0, 0) _ rfl (bk_ V_r B_r N_r) Try.underlying30 rfl (by kernel_rfl)) rfl ?_
 exact ⟨⟨_, rfl, (IsR.mono (IsR.kb (S := fun k => False ∨ k = g_r) V_v.out B_v.out (fun k h hs => hs.elim (fun f => f) h.2.1)) (fun k h => h.2.2))⟩, (Kb.to_below HB.out (fun _ h => h.elim))⟩
def QWhole.T2 : Bool × List (List Nat × List Nat) := (true, [([], []), ([0], [0]), ([1], [1]), ([2, 1], [2]), ([3], [3]), ([4, 3], [3, 4]), ([3, 5], [3, 5]), ([6, 3], [6]), ([7], [7]), ([8, 7], [7, 8]), ([7, 7], [7]), ([9, 10, 10, 7], [7, 9, 10]), ([11, 7], [7, 11]), ([7, 12], [7, 12])])
def QWhole.B2 : List Nat := [0, 1, 3, 7, 15, 31, 63, 127, 255, 511, 255, 2047, 4095, 8191]
theorem QWhole.tab2 : rtab .any (opsOf Try.f58 2) = QWhole.T2 := by kernel_rfl
theorem QWhole.bits2 : waitsOk QWhole.T2.2 QWhole.B2 = true := by kernel_rfl
theorem qwhole_calls {ok : Nat → Prop} (i : Nat) (hi : i < 4294967296) (w : World) (va : Value) (ha : IsR ok w va (i : Rat)) :
 Calls Try.prog 58 #[va] w fun e w' => e = .returned (.tuple #[.int .i64 i, .bool true]) ∧ Below w.heap.size w w' := by
 have hu30 := Try.underlying30
 obtain ⟨A0, c0, A1, c1, rfl, hr0, hr1⟩ := ha.rows
 have hd : decide ((i : Rat).num < 0) = false := decide_eq_false (by show ¬ ((i : Int) < 0); omega)
 have hm : (i : Rat).num.natAbs = i := rfl
 have hd2 : (i : Rat).den = 1 := rfl
 rw [hd, hm, hd2] at ha ⊢
 rw [hm] at hr0
 rw [hd2] at hr1
 clear hm hd2 hd
 obtain ⟨ke, hke⟩ := (equal_ev (limbs 1) (limbs 1) (by have := len_fits (n := 1) (by unfold Fits; exact Nat.one_lt_pow (by omega) (by omega)); omega)).rounds
 rw [decide_eq_true rfl] at hke
 have HE := a0_ hke
 have HI := a0_ hi
 clear hke
 have e1 : IntKind.i64.wrap (i : Int) = (i : Int) := (i64_w _).trans (w64 (by omega) (by omega))
 have e2 : decide ((i : Int) < 0) = false := decide_eq_false (by omega)
 have e3 : ¬ ((i : Int) < 0) := by omega
 clear hi
 have HB := kf_ w
 have V_p := a0_ ha
 clear ha
 have B_p := kf_ w
 have V_m := a0_ hr0
 clear hr0
 have B_m := kf_ w
 have V_d := a0_ hr1
 clear hr1
 have B_d := kf_ w
 go_enter Try.func58, Try.ntmps58
 go_wp2_with (first | ((with_reducible refine gd_ 1 rfl ?_); refine bx_ (N := 1) #[.bool false, .slice A0 (limbs i).length c0, .slice A1 (limbs 1).length c1] 30 ?_; intro g_x hg w101 hbox hb; have G_x := kb_g HB hg; replace HB := kb_b HB hb; replace B_p := kb_b B_p hb; replace B_m := kb_b B_m hb; replace B_d := kb_b B_d hb; clear hb; have V_x := a0_ hbox; have B_x := kf_ w101; have N_x := nf_ g_x; clear hbox hg; have bk_x := bk_ V_x B_x N_x; have hz_x_0 : w101.cell? ⟨g_x, 0, none⟩ = some (.bool false) := (blk_cell bk_x 0).trans rfl; have hz_x_1 : w101.cell? ⟨g_x, 1, none⟩ = some (.slice A0 (limbs i).length c0) := (blk_cell bk_x 1).trans rfl; have hz_x_2 : w101.cell? ⟨g_x, 2, none⟩ = some (.slice A1 (limbs 1).length c1) := (blk_cell bk_x 2).trans rfl; clear bk_x))
 with_reducible refine (nsmall_calls i HI.out _ _ _ (RowL.c (RowL.kb (S := fun k => False) V_m.out B_m.out (fun _ _ h => h))) (RowL.le V_m.out)).mono ?_
 rintro e w102 ⟨rfl, hb⟩
 clear hz_x_0 hz_x_1 hz_x_2
 replace HB := kb_b HB hb
 replace B_p := kb_b B_p hb
 replace B_m := kb_b B_m hb
 replace B_d := kb_b B_d hb
 replace B_x := kb_b B_x hb
 clear hb
 clear V_m B_m
 go_wp2_with fail
 have hb : Below w102.heap.size w102 w102.drew := below_drew1 (Below.refl _ _)
 replace HB := kb_b HB hb
 replace B_p := kb_b B_p hb
 replace B_d := kb_b B_d hb
 replace B_x := kb_b B_x hb
 clear hb
 refine start_ (n := 14) (S := fun w' => w'.heap[g_x]? = some (.cells #[.bool false, .slice A0 (limbs i).length c0, .slice A1 (limbs 1).length c1] 30 (0, 0))) (ds := []) (tB_ 14 0) (by kernel_rfl) rfl (by kernel_rfl) (bk_ V_x B_x N_x) (fun hHeld => ?_)
 refine with_tabW QWhole.tab2 QWhole.bits2 (fun HT_ HW_ => ?_)
 generalize w102.drew = w103 at HB B_p B_d B_x hHeld ⊢
 refine tk_ 0 (some 13) 1 HT_ HW_ hHeld ?_ ?_ ?_ ?_ ?_
 rotate_left
 · intro w' hs
   have hb_ := hs
   obtain ⟨c0_, c1_, c2_⟩ := b3_ hb_
   clear hb_ hs
   go_simp
   with_reducible rfl
 rotate_left
 · simp only [PU]
   rfl
 refine on_ 1 (some 14) 3 HT_ (fun K hK => ?_)
 refine gs_ Try.func17 #[.agg #[.bool false, .slice A0 (limbs i).length c0, .slice A1 (limbs 1).length c1]] ?_
 refine (qcheck_calls (i : Rat) _ _ (IsR.kb (S := fun k => False) V_p.out B_p.out (fun _ _ h => h))).mono ?_
 rintro e w104 ⟨rfl, hb⟩
 refine ⟨_, rfl, ?_⟩
 refine hK.out _ _ (by exact blk_below hHeld hb) (fun hHeld => ?_)
 clear hK K
 refine nm_ (some 14) ?_
 replace HB := kb_b HB hb
 replace B_p := kb_b B_p hb
 replace B_d := kb_b B_d hb
 replace B_x := kb_b B_x hb
 clear hb
 clear V_p B_p
 refine pu_ 2 (some 15) 7 HT_ ?_
 refine pu_ 3 (some 16) 15 HT_ ?_
 refine pu_ 4 (some 17) 31 HT_ ?_
 refine pu_ 5 (some 18) 63 HT_ ?_
 refine pu_ 6 (some 19) 127 HT_ ?_
 refine pu_ 7 (some 20) 255 HT_ ?_
 refine pu_ 8 (some 21) 511 HT_ ?_
 refine tk_ 9 (some 22) 1023 HT_ HW_ hHeld ?_ ?_ ?_ ?_ ?_
 rotate_left
 · intro w' hs
   have hb_ := hs
   obtain ⟨c0_, c1_, c2_⟩ := b3_ hb_
   clear hb_ hs
   go_simp
   with_reducible rfl
 rotate_left
 · simp only [PU]
   rfl
 refine on_ 10 (some 23) 2047 HT_ (fun K hK => ?_)
 refine gs_ Try.func26 #[] ?_
 refine (one_calls _).mono ?_
 rintro e w105 ⟨v47, rfl, h1, hb⟩
 have h1 := RowL.of_rd h1
 obtain ⟨A4, c4, rfl⟩ := RowL.slice h1
 have h1 := RowL.mono' (ok' := fun _ => True) h1 (fun _ _ _ => trivial)
 refine ⟨_, rfl, ?_⟩
 refine hK.out _ _ (by exact blk_below hHeld hb) (fun hHeld => ?_)
 clear hK K
 refine nm_ (some 23) ?_
 replace HB := kb_b HB hb
 replace B_d := kb_b B_d hb
 replace B_x := kb_b B_x hb
 clear hb
 have V_o := a0_ h1
 clear h1
 have B_o := kf_ w105
 refine on_ 11 (some 24) 4095 HT_ (fun K hK => ?_)
 refine gs_ Try.func33 #[.slice A1 (limbs 1).length c1, .slice A4 (limbs 1).length c4] ?_
 refine (slices_Equal_uint32_uint32.calls _ _ _ _ _ _ _ _ _ (RowL.c (RowL.kb (S := fun k => False) V_d.out B_d.out (fun _ _ h => h))) (RowL.le V_d.out) (RowL.c (RowL.kb (S := fun k => False) V_o.out B_o.out (fun _ _ h => h))) (RowL.le V_o.out) HE.out).mono ?_
 rintro e w106 ⟨rfl, hb0⟩
 have hb := hb0.below
 clear hb0
 refine ⟨_, rfl, ?_⟩
 refine hK.out _ _ (by exact blk_below hHeld hb) (fun hHeld => ?_)
 clear hK K
 refine nm_ (some 24) ?_
 replace HB := kb_b HB hb
 replace B_d := kb_b B_d hb
 replace B_x := kb_b B_x hb
 replace B_o := kb_b B_o hb
 clear hb
 clear V_d B_d
 clear V_o B_o
 refine pu_ 12 (some 25) 8191 HT_ ?_
 refine pu_ 13 (some 26) 16383 HT_ ?_
 refine do_ HT_ ?_
 clear HT_ HW_ hHeld
 have bk_x := bk_ V_x B_x N_x
 have hz_x_0 : w106.cell? ⟨g_x, 0, none⟩ = some (.bool false) := (blk_cell bk_x 0).trans rfl
 have hz_x_1 : w106.cell? ⟨g_x, 1, none⟩ = some (.slice A0 (limbs i).length c0) := (blk_cell bk_x 1).trans rfl
 have hz_x_2 : w106.cell? ⟨g_x, 2, none⟩ = some (.slice A1 (limbs 1).length c1) := (blk_cell bk_x 2).trans rfl
 clear bk_x
 go_wp2_with fail
 go_ret2
 exact ⟨rfl, (Kb.to_below HB.out (fun _ h => h.elim))⟩
end Go.Proofs.Ytgdkgahbmfhgcaa.PN
