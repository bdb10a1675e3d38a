/- What the statement rests on, part 14: LC NA5 LD LE YB YC YD YE YJ. -/
import Derived.Test.YtgdkgahbmfhgcaaR13
set_option linter.unusedVariables false
set_option linter.unusedSimpArgs false
set_option maxHeartbeats 4000000
set_option maxRecDepth 100000
namespace Go.Proofs.Ytgdkgahbmfhgcaa.PN
open Go.RowKit Go.Proofs.Ytgdkgahbmfhgcaa.NS Go.Proofs.Ytgdkgahbmfhgcaa.Limbs Go.Proofs.YtgdkgahbmfhgcaaW.PrintWords Go.Proofs.YtgdkgahbmfhgcaaW.PrintLast Go.Proofs.YtgdkgahbmfhgcaaW.PrintMore
theorem run_some {args : Array Value} {W : World} {P : Option Rat → Prop} {x : Rat} (h : Calls Try.prog 16 args W fun e w' => (∃ v ans, P ans ∧ e = .returned (.tuple #[v, .bool ans.isSome, .int .i64 (eno ans)]) ∧ Res (fun k => W.heap.size ≤ k) w' v ans) ∧ Below W.heap.size W w') (hp : ∀ a, P a → a = some x) :
 Calls Try.prog 16 args W fun e w' => (∃ v, e = .returned (.tuple #[v, .bool true, .int .i64 0]) ∧ IsR (fun k => W.heap.size ≤ k) w' v x) ∧ Below W.heap.size W w' := by
 refine h.mono ?_
 rintro e w' ⟨⟨v, ans, hP, rfl, hv⟩, hb⟩
 obtain rfl := hp ans hP
 exact ⟨⟨v, rfl, hv⟩, hb⟩
theorem makes_true {okw : Nat → Prop} (fn over : Int) (x : Rat) (w : World) (tq : Bool) (Aq : Option Addr) (nq cq : Nat) (Dq : Option Addr) (kq zq : Nat) (Al : Option Addr) (nl cl : Nat) (vw : Value) (hy : IsR okw w vw x) (hrun : ∀ W, Kb (fun k => False) w W → Calls Try.prog 16 #[.int .i64 fn, .int .i64 over, .agg #[.bool tq, .slice Aq nq cq, .slice Dq kq zq], .slice Al nl cl] W fun e w' => (∃ v, e = .returned (.tuple #[v, .bool true, .int .i64 0]) ∧ IsR (fun k => W.heap.size ≤ k) w' v x) ∧ Below W.heap.size W w') : Calls Try.prog 14 #[.int .i64 fn, .int .i64 over, .agg #[.bool tq, .slice Aq nq cq, .slice Dq kq zq], .slice Al nl cl, vw] w fun e w' => e = .returned (.bool true) ∧ Below w.heap.size w w' := by
 have h := makes_calls fn over x x w tq Aq nq cq Dq kq zq Al nl cl vw hy hrun
 rw [decide_eq_true (show x = x from rfl)] at h
 exact h
theorem reps3 {ok : Nat → Prop} {w : World} {x0 x1 x2 : Rat} {a0 a1 a2 b0 b1 b2 c0 c1 c2 : Value} (h0 : Kd.FK kdR w ok x0 [a0, a1, a2]) (h1 : Kd.FK kdR w ok x1 [b0, b1, b2]) (h2 : Kd.FK kdR w ok x2 [c0, c1, c2]) : Reps (Kd.FK kdR w ok) kdR.sz [x0, x1, x2] [a0, a1, a2, b0, b1, b2, c0, c1, c2] := ⟨rfl, fun j p hp => by
 match j, hp with
 | 0, hp => obtain rfl := Option.some.inj hp; exact h0
 | 1, hp => obtain rfl := Option.some.inj hp; exact h1
 | 2, hp => obtain rfl := Option.some.inj hp; exact h2
 | j + 3, hp => simp at hp⟩
theorem reps_by {ok : Nat → Prop} {w : World} : Reps (Kd.FK kdS w ok) kdS.sz [⟨0, 4, none⟩, ⟨0, 6, none⟩] [.int .i64 0, .int .i64 4, .bool false, .slice none 0 0, .slice none 0 0, .int .i64 0, .int .i64 6, .bool false, .slice none 0 0, .slice none 0 0] := ⟨rfl, fun j p hp => by
 match j, hp with
 | 0, hp => obtain rfl := Option.some.inj hp; exact kdS_FK' (x := ⟨0, 4, none⟩) (c := ⟨false, none, 0, 0, none, 0, 0⟩) (fun q hq => by cases hq)
 | 1, hp => obtain rfl := Option.some.inj hp; exact kdS_FK' (x := ⟨0, 6, none⟩) (c := ⟨false, none, 0, 0, none, 0, 0⟩) (fun q hq => by cases hq)
 | j + 2, hp => simp at hp⟩
theorem by2 : ByS [⟨0, 4, none⟩, ⟨0, 6, none⟩] := fun i hi => by
 match i, hi with
 | 0, _ => exact ⟨by decide, by decide⟩
 | 1, _ => exact ⟨by decide, by decide⟩
 | j + 2, hi => exact absurd hi (by simp)
def l3 : List Rat := [((3 : Int) : Rat), (((1 : Int) : Rat) / ((2 : Int) : Rat)), ((5 : Int) : Rat)]
theorem smpsOf_val (qs : List Rat) : ValS (smpsOf qs) qs := ⟨(smpsOf_len qs).symm, fun i hi => by
 rw [smpsOf_len] at hi
 rw [List.getD_eq_getElem?_getD, smpsOf_get qs i hi]
 rfl⟩
theorem smpsOf_by (qs : List Rat) (h : qs.length ≤ 1000000) : ByS (smpsOf qs) := fun i hi => by
 rw [smpsOf_len] at hi
 rw [List.getD_eq_getElem?_getD, smpsOf_get qs i hi]
 show (0 : Int) ≤ (i : Int) ∧ (i : Int) ≤ 9007199254740991
 omega
theorem sorted3 {qs : List Rat} (hp : qs.Perm l3) (hw : qs.Pairwise (· ≤ ·)) : qs = [(((1 : Int) : Rat) / ((2 : Int) : Rat)), ((3 : Int) : Rat), ((5 : Int) : Rat)] :=
 List.Perm.eq_of_pairwise (fun a b _ _ h1 h2 => Rat.le_antisymm h1 h2) hw (by decide +kernel) (hp.trans (by unfold l3; exact List.Perm.swap _ _ _))
def Works5.T5 : Bool × List (List Nat × List Nat) := (true, [([], []), ([], []), ([], []), ([0, 1, 2, 2], [0, 1, 2]), ([3, 3], [3]), ([4], [4]), ([4], [4]), ([4, 4], [4]), ([5, 6, 7, 7, 4], [4, 5, 6, 7]), ([4, 8], [4, 8]), ([9, 8], [9]), ([10], [10]), ([10], [10]), ([10, 10], [10]), ([11, 12, 13, 13, 10], [10, 11, 12, 13]), ([10, 14], [10, 14]), ([15, 14], [15]), ([16, 16], [16]), ([16], [16]), ([17, 16], [16]), ([17, 18, 19, 19, 16], [16, 17, 18, 19]), ([16, 20], [16, 20]), ([21, 20], [21]), ([22, 22], [22]), ([22], [22]), ([23, 22], [22]), ([23, 24, 25, 25, 22], [22, 23, 24, 25]), ([22, 26], [22, 26]), ([27, 26], [27]), ([28], [28]), ([28, 28], [28]), ([29, 30, 30, 28], [28, 29, 30]), ([28, 31], [28, 31]), ([32, 31], [32]), ([33], [33]), ([34, 33], [33, 34]), ([33, 35], [33, 35]), ([36, 33], [36]), ([37], [37]), ([38, 37], [37, 38]), ([37, 39], [37, 39]), ([40, 37, 0, 1, 2, 3, 4, 5, 6, 7, 8, 9, 10, 11, 12, 13, 14, 15, 16, 17, 18, 19, 20, 21, 22, 23, 24, 25, 26, 27, 28, 29, 30, 31, 32, 33, 34, 35, 36, 37, 38, 39, 40], [40])])
def Works5.B5 : List Nat := [0, 0, 0, 7, 15, 31, 31, 31, 255, 511, 1023, 2047, 2047, 2047, 16383, 32767, 65535, 131071, 131071, 262143, 1048575, 2097151, 4194303, 8388607, 8388607, 16777215, 67108863, 134217727, 268435455, 536870911, 536870911, 2147483647, 4294967295, 8589934591, 17179869183, 34359738367, 68719476735, 137438953471, 274877906943, 549755813887, 1099511627775, 2199023255551]
theorem Works5.tab5 : rtab .any (opsOf Try.f8 5) = Works5.T5 := by kernel_rfl
theorem Works5.bits5 : waitsOk Works5.T5.2 Works5.B5 = true := by kernel_rfl
theorem works_calls (w : World) :
 Calls Try.prog 8 #[] w fun e w' => e = .returned (.bool true) ∧ Below w.heap.size w w' := by
 have hu30 := Try.underlying30
 have hu39 := Try.underlying39
 have HB := kf_ w
 go_enter Try.func8, Try.ntmps8
 go_wp2_with fail
 with_reducible refine (qof_calls 3 (by omega) (by omega) _).mono ?_
 rintro e w101 ⟨⟨v, rfl, hv⟩, hb⟩
 obtain ⟨tx, Ax, nx, cx, Dx, kx, zx, rfl⟩ := hv.agg
 have hle := Kb.size HB.out
 have hv_ := IsR.mono' (ok' := fun k => True) hv (fun k hk _ => by trivial)
 clear hv hle
 replace HB := kb_b HB hb
 clear hb
 have V_x := a0_ hv_
 clear hv_
 have B_x := kf_ w101
 go_wp2_with fail
 with_reducible refine (part_calls 1 2 (by omega) (by omega) (by omega) (by omega) (by decide +kernel) _).mono ?_
 rintro e w102 ⟨⟨v, rfl, hv⟩, hb⟩
 obtain ⟨ty, Ay, ny, cy, Dy, ky, zy, rfl⟩ := hv.agg
 have hle := Kb.size HB.out
 have hv_ := IsR.mono' (ok' := fun k => True) hv (fun k hk _ => by trivial)
 clear hv hle
 replace HB := kb_b HB hb
 replace B_x := kb_b B_x hb
 clear hb
 have V_y := a0_ hv_
 clear hv_
 have B_y := kf_ w102
 go_wp2_with fail
 with_reducible refine (qof_calls 5 (by omega) (by omega) _).mono ?_
 rintro e w103 ⟨⟨v, rfl, hv⟩, hb⟩
 obtain ⟨tz, Az, nz, cz, Dz, kz, zz, rfl⟩ := hv.agg
 have hle := Kb.size HB.out
 have hv_ := IsR.mono' (ok' := fun k => True) hv (fun k hk _ => by trivial)
 clear hv hle
 replace HB := kb_b HB hb
 replace B_x := kb_b B_x hb
 replace B_y := kb_b B_y hb
 clear hb
 have V_z := a0_ hv_
 clear hv_
 have B_z := kf_ w103
 go_wp2_with (first | ((with_reducible refine gd_ 10 rfl ?_); refine Kd.N_lit kdR (w0 := w103) w103.heap.size 30 ?hg (N' := 10) ?hd (xs := l3) (inner := [.bool tx, .slice Ax nx cx, .slice Dx kx zx, .bool ty, .slice Ay ny cy, .slice Dy ky zy, .bool tz, .slice Az nz cz, .slice Dz kz zz]) (ok := fun _ => True) (okp := fun _ => True) ?hr ?hp (fun _ h => h) trivial (Below.refl _ _) (Nat.le_refl _) (by decide) ?_; (case hd => rfl); (case hg => rfl); (case hr => first | (go_simp; done) | (go_simp; rfl)); (case hp => exact reps3 (IsR.mk' (IsR.kb (S := fun k => False) V_x.out B_x.out (fun _ _ h => h))) (IsR.mk' (IsR.kb (S := fun k => False) V_y.out B_y.out (fun _ _ h => h))) (IsR.mk' (IsR.kb (S := fun k => False) V_z.out B_z.out (fun _ _ h => h)))); intro v_ w120 hn hb hg_ hnew_; have hl3 : RowQ (fun _ => True) w120 v_ l3 := Kd.N_V hn; clear hn hg_ hnew_; replace HB := kb_b HB hb; replace B_x := kb_b B_x hb; replace B_y := kb_b B_y hb; replace B_z := kb_b B_z hb; clear hb))
 clear V_x B_x
 clear V_y B_y
 clear V_z B_z
 with_reducible refine (of_calls l3 (by decide) _ _ hl3).mono ?_
 rintro e w105 ⟨⟨v, rfl, hv⟩, hb⟩
 clear hl3
 obtain ⟨As, cs, rfl⟩ := RowS.slice hv
 have hv := RowS.mono hv (ok' := fun _ => True) (fun _ _ => trivial)
 replace HB := kb_b HB hb
 clear hb
 obtain ⟨ss, hss⟩ : ∃ s, s = smpsOf l3 := ⟨_, rfl⟩
 rw [← hss] at hv
 rw [← hss]
 have HS := a0_ (show ss.length = 3 ∧ ByS ss ∧ ValS ss l3 from by rw [hss]; exact ⟨by rw [smpsOf_len]; rfl, smpsOf_by _ (by decide), smpsOf_val _⟩)
 clear hss
 have V_s := a0_ hv
 clear hv
 have B_s := kf_ w105
 go_wp2_with fail
 with_reducible refine (qof_calls 0 (by omega) (by omega) _).mono ?_
 rintro e w106 ⟨⟨v, rfl, hv⟩, hb⟩
 obtain ⟨tu, Au, nu, cu, Du, ku, zu, rfl⟩ := hv.agg
 have hle := Kb.size HB.out
 have hv_ := IsR.mono' (ok' := fun k => True) hv (fun k hk _ => by trivial)
 clear hv hle
 replace HB := kb_b HB hb
 replace B_s := kb_b B_s hb
 clear hb
 have V_u := a0_ hv_
 clear hv_
 have B_u := kf_ w106
 go_wp2_with (first | ((with_reducible refine gd_ 2 rfl ?_); refine bx_ (N := 2) #[.bool false, .slice none 0 0, .slice none 0 0] 30 ?_; intro g_n hg w107 hbox hb; have G_n := kb_g HB hg; have O_n_s := kb_g B_s hg; have O_n_u := kb_g B_u hg; replace HB := kb_b HB hb; replace B_s := kb_b B_s hb; replace B_u := kb_b B_u hb; clear hb; have V_n := a0_ hbox; have B_n := kf_ w107; have N_n := nf_ g_n; clear hbox hg) | ((with_reducible refine gt_ 30 2 12 rfl ?_); refine store_ev (p := .tmp 2) (v := .tmp 12) rfl rfl rfl (g := g_n) rfl rfl (bk_ V_n B_n N_n) ?_; intro w108 hbox hk; replace HB := kb_o HB hk G_n; replace B_s := kb_o B_s hk O_n_s; replace B_u := kb_o B_u hk O_n_u; clear V_n B_n; have V_n := a0_ hbox; have B_n := kf_ w108; clear hbox hk) | ((with_reducible refine gd_ 15 rfl ?_); refine Kd.N_lit kdS (w0 := w108) w108.heap.size 39 ?hg (N' := 15) ?hd (xs := [⟨0, 4, none⟩, ⟨0, 6, none⟩]) (inner := [.int .i64 0, .int .i64 4, .bool false, .slice none 0 0, .slice none 0 0, .int .i64 0, .int .i64 6, .bool false, .slice none 0 0, .slice none 0 0]) (ok := fun _ => True) (okp := fun _ => True) ?hr ?hp (fun _ h => h) trivial (Below.refl _ _) (Nat.le_refl _) (by decide) ?_; (case hd => rfl); (case hg => rfl); (case hr => first | (go_simp; done) | (go_simp; rfl)); (case hp => exact reps_by); intro v2_ w140 hn hb hg_ hnew_; have hlb : RowS (fun _ => True) w140 v2_ [⟨0, 4, none⟩, ⟨0, 6, none⟩] := Kd.N_V hn; have HLB := a0_ hlb; clear hn hg_ hnew_ hlb; replace HB := kb_b HB hb; replace B_s := kb_b B_s hb; replace B_u := kb_b B_u hb; replace B_n := kb_b B_n hb; clear hb) | ((with_reducible refine gd_ 17 rfl ?_); refine load_ev rfl rfl (g := g_n) rfl (bk_ V_n B_n N_n) ?_))
 have hlb := HLB.out
 clear HLB
 obtain ⟨Ab, cb, rfl⟩ := RowS.slice hlb
 obtain ⟨sb, hsb⟩ : ∃ s : List Smp, s = [⟨0, 4, none⟩, ⟨0, 6, none⟩] := ⟨_, rfl⟩
 rw [← hsb] at hlb
 rw [← hsb]
 have HSB := a0_ (show sb.length = 2 ∧ ByS sb ∧ bytesQ sb = [((4 : Int) : Rat), ((6 : Int) : Rat)] from by rw [hsb]; exact ⟨rfl, by2, rfl⟩)
 clear hsb
 have V_b := a0_ hlb
 clear hlb
 have B_b := kf_ w140
 with_reducible refine (wrun1_nil 1 (by omega) (by omega) _ _ _ _ _ _ _ _).mono ?_
 rintro e w110 ⟨rfl, hb⟩
 replace HB := kb_b HB hb
 replace B_s := kb_b B_s hb
 replace B_u := kb_b B_u hb
 replace B_n := kb_b B_n hb
 replace B_b := kb_b B_b hb
 clear hb
 go_wp2_with (first | ((with_reducible refine gd_ 4 rfl ?_); refine bx_ (N := 4) #[.bool false, .slice none 0 0, .slice none 0 0] 30 ?_; intro g_p hg w111 hbox hb; have G_p := kb_g HB hg; have O_p_s := kb_g B_s hg; have O_p_u := kb_g B_u hg; have O_p_n := kb_g B_n hg; have O_p_b := kb_g B_b hg; replace HB := kb_b HB hb; replace B_s := kb_b B_s hb; replace B_u := kb_b B_u hb; replace B_n := kb_b B_n hb; replace B_b := kb_b B_b hb; clear hb; have V_p := a0_ hbox; have B_p := kf_ w111; have N_p := nf_ g_p; clear hbox hg) | ((with_reducible refine gt_ 30 4 19 rfl ?_); refine store_ev (p := .tmp 4) (v := .tmp 19) rfl rfl rfl (g := g_p) rfl rfl (bk_ V_p B_p N_p) ?_; intro w112 hbox hk; replace HB := kb_o HB hk G_p; replace B_s := kb_o B_s hk O_p_s; replace B_u := kb_o B_u hk O_p_u; replace B_n := kb_o B_n hk O_p_n; replace B_b := kb_o B_b hk O_p_b; clear V_p B_p; have V_p := a0_ hbox; have B_p := kf_ w112; clear hbox hk))
 clear V_p B_p
 have hb : Below w112.heap.size w112 w112.drew := below_drew1 (Below.refl _ _)
 replace HB := kb_b HB hb
 replace B_s := kb_b B_s hb
 replace B_u := kb_b B_u hb
 replace B_n := kb_b B_n hb
 replace B_b := kb_b B_b hb
 clear hb
 refine start_ (n := 42) (S := fun w' => w'.heap[g_n]? = some (.cells #[.bool tu, .slice Au nu cu, .slice Du ku zu] 30 (0, 0))) (ds := []) (tB_ 42 0) (by kernel_rfl) rfl (by kernel_rfl) (bk_ V_n B_n N_n) (fun hHeld => ?_)
 refine with_tabW Works5.tab5 Works5.bits5 (fun HT_ HW_ => ?_)
 generalize w112.drew = w113 at HB B_s B_u B_n B_b hHeld ⊢
 have hs0 : 0 < ss.length := by rw [HS.out.1]; decide
 have hs1 : ss.length ≤ 1000000 := by rw [HS.out.1]; decide
 have hs2 : ss.length ≤ 1000000 := by rw [HS.out.1]; decide
 have hb0 : 0 < sb.length := by rw [HSB.out.1]; decide
 have hb1 : sb.length ≤ 1000000 := by rw [HSB.out.1]; decide
 have HF := a0_ (And.intro hs0 (And.intro hs1 (And.intro hs2 (And.intro hb0 hb1))))
 clear hs0 hs1 hs2 hb0 hb1
 refine tk_ 0 (some 22) 1 HT_ HW_ hHeld ?_ ?_ ?_ ?_ ?_
 rotate_left
 · intro w' hs
   have hb_ := hs
   obtain ⟨c0_, c1_, c2_⟩ := b3_ hb_
   clear hb_ hs
   go_simp
   with_reducible rfl
 rotate_left
 · simp only [PU]
   rfl
 refine pu_ 1 (some 23) 3 HT_ ?_
 refine on_ 2 (some 24) 7 HT_ (fun K hK => ?_)
 refine gs_ Try.func13 #[.int .i64 3, .int .i64 2] ?_
 refine (part_calls 3 2 (by omega) (by omega) (by omega) (by omega) (by decide +kernel) _).mono ?_
 rintro e w114 ⟨⟨v24, rfl, hv⟩, hb⟩
 obtain ⟨ta, Aa, na, ca, Da, ka, za, rfl⟩ := hv.agg
 refine ⟨_, rfl, ?_⟩
 refine hK.out _ _ (by exact blk_below hHeld hb) (fun hHeld => ?_)
 clear hK K
 refine nm_ (some 24) ?_
 have hle := Kb.size HB.out
 have hv_ := IsR.mono' (ok' := fun k => True) hv (fun k hk _ => by trivial)
 clear hv hle
 replace HB := kb_b HB hb
 replace B_s := kb_b B_s hb
 replace B_u := kb_b B_u hb
 replace B_n := kb_b B_n hb
 replace B_b := kb_b B_b hb
 clear hb
 have V_a := a0_ hv_
 clear hv_
 have B_a := kf_ w114
 refine on_ 3 (some 25) 15 HT_ (fun K hK => ?_)
 refine gs_ Try.func14 #[.int .i64 2, .int .i64 2000, .agg #[.bool tu, .slice Au nu cu, .slice Du ku zu], .slice As ss.length cs, .agg #[.bool ta, .slice Aa na ca, .slice Da ka za]] ?_
 refine (makes_true 2 2000 (((3 : Int) : Rat) / ((2 : Int) : Rat)) _ _ _ _ _ _ _ _ _ _ _ _ (IsR.kb (S := fun k => False) V_a.out B_a.out (fun _ _ h => h)) (fun W hW => run_some (wrun2 2000 (by omega) (by omega) ss HS.out.2.1 HF.out.1 HF.out.2.1 W _ _ _ _ _ _ _ _ _ (RowS.kb (RowS.kb V_s.out B_s.out (fun _ _ h => h)) hW (fun _ _ h => h))) (fun a ha => by rw [ha, HS.out.1]; decide +kernel))).mono ?_
 rintro e w115 ⟨rfl, hb⟩
 refine ⟨_, rfl, ?_⟩
 refine hK.out _ _ (by exact blk_below hHeld hb) (fun hHeld => ?_)
 clear hK K
 refine nm_ (some 25) ?_
 replace HB := kb_b HB hb
 replace B_s := kb_b B_s hb
 replace B_u := kb_b B_u hb
 replace B_n := kb_b B_n hb
 replace B_b := kb_b B_b hb
 replace B_a := kb_b B_a hb
 clear hb
 clear V_a B_a
 refine pu_ 4 (some 26) 31 HT_ ?_
 refine tk_ 5 (some 27) 63 HT_ HW_ hHeld ?_ ?_ ?_ ?_ ?_
 rotate_left
 · intro w' hs
   have hb_ := hs
   obtain ⟨c0_, c1_, c2_⟩ := b3_ hb_
   clear hb_ hs
   go_simp
   with_reducible rfl
 rotate_left
 · simp only [PU]
   rfl
 refine pu_ 6 (some 28) 127 HT_ ?_
 refine on_ 7 (some 29) 255 HT_ (fun K hK => ?_)
 refine gs_ Try.func12 #[.int .i64 2] ?_
 refine (qof_calls 2 (by omega) (by omega) _).mono ?_
 rintro e w116 ⟨⟨v29, rfl, hv⟩, hb⟩
 obtain ⟨ta2, Aa2, na2, ca2, Da2, ka2, za2, rfl⟩ := hv.agg
 refine ⟨_, rfl, ?_⟩
 refine hK.out _ _ (by exact blk_below hHeld hb) (fun hHeld => ?_)
 clear hK K
 refine nm_ (some 29) ?_
 have hle := Kb.size HB.out
 have hv_ := IsR.mono' (ok' := fun k => True) hv (fun k hk _ => by trivial)
 clear hv hle
 replace HB := kb_b HB hb
 replace B_s := kb_b B_s hb
 replace B_u := kb_b B_u hb
 replace B_n := kb_b B_n hb
 replace B_b := kb_b B_b hb
 clear hb
 have V_a2 := a0_ hv_
 clear hv_
 have B_a2 := kf_ w116
 refine on_ 8 (some 30) 511 HT_ (fun K hK => ?_)
 refine gs_ Try.func14 #[.int .i64 4, .int .i64 5000, .agg #[.bool tu, .slice Au nu cu, .slice Du ku zu], .slice Ab sb.length cb, .agg #[.bool ta2, .slice Aa2 na2 ca2, .slice Da2 ka2 za2]] ?_
 refine (makes_true 4 5000 ((2 : Int) : Rat) _ _ _ _ _ _ _ _ _ _ _ _ (IsR.kb (S := fun k => False) V_a2.out B_a2.out (fun _ _ h => h)) (fun W hW => run_some (wrun4 5000 (by omega) (by omega) sb HSB.out.2.1 HF.out.2.2.2.1 HF.out.2.2.2.2 W _ _ _ _ _ _ _ _ _ (RowS.kb (RowS.kb V_b.out B_b.out (fun _ _ h => h)) hW (fun _ _ h => h))) (fun a ha => by rw [ha, HSB.out.2.2]; decide +kernel))).mono ?_
 rintro e w117 ⟨rfl, hb⟩
 refine ⟨_, rfl, ?_⟩
 refine hK.out _ _ (by exact blk_below hHeld hb) (fun hHeld => ?_)
 clear hK K
 refine nm_ (some 30) ?_
 replace HB := kb_b HB hb
 replace B_s := kb_b B_s hb
 replace B_u := kb_b B_u hb
 replace B_n := kb_b B_n hb
 replace B_b := kb_b B_b hb
 replace B_a2 := kb_b B_a2 hb
 clear hb
 clear V_a2 B_a2
 clear V_b B_b
 refine pu_ 9 (some 31) 1023 HT_ ?_
 refine pu_ 10 (some 32) 2047 HT_ ?_
 refine tk_ 11 (some 33) 4095 HT_ HW_ hHeld ?_ ?_ ?_ ?_ ?_
 rotate_left
 · intro w' hs
   have hb_ := hs
   obtain ⟨c0_, c1_, c2_⟩ := b3_ hb_
   clear hb_ hs
   go_simp
   with_reducible rfl
 rotate_left
 · simp only [PU]
   rfl
 refine pu_ 12 (some 34) 8191 HT_ ?_
 refine on_ 13 (some 35) 16383 HT_ (fun K hK => ?_)
 refine gs_ Try.func13 #[.int .i64 17, .int .i64 6] ?_
 refine (part_calls 17 6 (by omega) (by omega) (by omega) (by omega) (by decide +kernel) _).mono ?_
 rintro e w118 ⟨⟨v35, rfl, hv⟩, hb⟩
 obtain ⟨ta3, Aa3, na3, ca3, Da3, ka3, za3, rfl⟩ := hv.agg
 refine ⟨_, rfl, ?_⟩
 refine hK.out _ _ (by exact blk_below hHeld hb) (fun hHeld => ?_)
 clear hK K
 refine nm_ (some 35) ?_
 have hle := Kb.size HB.out
 have hv_ := IsR.mono' (ok' := fun k => True) hv (fun k hk _ => by trivial)
 clear hv hle
 replace HB := kb_b HB hb
 replace B_s := kb_b B_s hb
 replace B_u := kb_b B_u hb
 replace B_n := kb_b B_n hb
 clear hb
 have V_a3 := a0_ hv_
 clear hv_
 have B_a3 := kf_ w118
 refine on_ 14 (some 36) 32767 HT_ (fun K hK => ?_)
 refine gs_ Try.func14 #[.int .i64 7, .int .i64 1, .agg #[.bool tu, .slice Au nu cu, .slice Du ku zu], .slice As ss.length cs, .agg #[.bool ta3, .slice Aa3 na3 ca3, .slice Da3 ka3 za3]] ?_
 refine (makes_true 7 1 (((17 : Int) : Rat) / ((6 : Int) : Rat)) _ _ _ _ _ _ _ _ _ _ _ _ (IsR.kb (S := fun k => False) V_a3.out B_a3.out (fun _ _ h => h)) (fun W hW => run_some (wrun7 1 (by omega) (by omega) ss HS.out.2.1 l3 HS.out.2.2 HF.out.1 HF.out.2.1 W _ _ _ _ _ _ _ _ _ (RowS.kb (RowS.kb V_s.out B_s.out (fun _ _ h => h)) hW (fun _ _ h => h))) (fun a ha => by rw [ha, HS.out.1]; decide +kernel))).mono ?_
 rintro e w119 ⟨rfl, hb⟩
 refine ⟨_, rfl, ?_⟩
 refine hK.out _ _ (by exact blk_below hHeld hb) (fun hHeld => ?_)
 clear hK K
 refine nm_ (some 36) ?_
 replace HB := kb_b HB hb
 replace B_s := kb_b B_s hb
 replace B_u := kb_b B_u hb
 replace B_n := kb_b B_n hb
 replace B_a3 := kb_b B_a3 hb
 clear hb
 clear V_a3 B_a3
 refine pu_ 15 (some 37) 65535 HT_ ?_
 refine pu_ 16 (some 38) 131071 HT_ ?_
 refine pu_ 18 (some 40) 393215 HT_ ?_
 refine on_ 17 (some 39) 524287 HT_ (fun K hK => ?_)
 refine gs_ Try.func13 #[.int .i64 3, .int .i64 4] ?_
 refine (part_calls 3 4 (by omega) (by omega) (by omega) (by omega) (by decide +kernel) _).mono ?_
 rintro e w120 ⟨⟨v39, rfl, hv⟩, hb⟩
 obtain ⟨tq1, Aq1, nq1, cq1, Dq1, kq1, zq1, rfl⟩ := hv.agg
 refine ⟨_, rfl, ?_⟩
 refine hK.out _ _ (by exact blk_below hHeld hb) (fun hHeld => ?_)
 clear hK K
 refine nm_ (some 39) ?_
 have hle := Kb.size HB.out
 have hv_ := IsR.mono' (ok' := fun k => True) hv (fun k hk _ => by trivial)
 clear hv hle
 replace HB := kb_b HB hb
 replace B_s := kb_b B_s hb
 replace B_u := kb_b B_u hb
 replace B_n := kb_b B_n hb
 clear hb
 have V_q1 := a0_ hv_
 clear hv_
 have B_q1 := kf_ w120
 refine on_ 19 (some 41) 1048575 HT_ (fun K hK => ?_)
 refine gs_ Try.func12 #[.int .i64 4] ?_
 refine (qof_calls 4 (by omega) (by omega) _).mono ?_
 rintro e w121 ⟨⟨v41, rfl, hv⟩, hb⟩
 obtain ⟨ta4, Aa4, na4, ca4, Da4, ka4, za4, rfl⟩ := hv.agg
 refine ⟨_, rfl, ?_⟩
 refine hK.out _ _ (by exact blk_below hHeld hb) (fun hHeld => ?_)
 clear hK K
 refine nm_ (some 41) ?_
 have hle := Kb.size HB.out
 have hv_ := IsR.mono' (ok' := fun k => True) hv (fun k hk _ => by trivial)
 clear hv hle
 replace HB := kb_b HB hb
 replace B_s := kb_b B_s hb
 replace B_u := kb_b B_u hb
 replace B_n := kb_b B_n hb
 replace B_q1 := kb_b B_q1 hb
 clear hb
 have V_a4 := a0_ hv_
 clear hv_
 have B_a4 := kf_ w121
 refine on_ 20 (some 42) 2097151 HT_ (fun K hK => ?_)
 refine gs_ Try.func14 #[.int .i64 12, .int .i64 1, .agg #[.bool tq1, .slice Aq1 nq1 cq1, .slice Dq1 kq1 zq1], .slice As ss.length cs, .agg #[.bool ta4, .slice Aa4 na4 ca4, .slice Da4 ka4 za4]] ?_
 refine (makes_true 12 1 ((4 : Int) : Rat) _ _ _ _ _ _ _ _ _ _ _ _ (IsR.kb (S := fun k => False) V_a4.out B_a4.out (fun _ _ h => h)) (fun W hW => run_some (wrun12 1 (by omega) (by omega) ss HS.out.2.1 l3 HS.out.2.2 (((3 : Int) : Rat) / ((4 : Int) : Rat)) (by decide +kernel) (by decide +kernel) HF.out.2.2.1 HF.out.1 HF.out.2.1 W _ _ _ _ _ _ _ _ _ (RowS.kb (RowS.kb V_s.out B_s.out (fun _ _ h => h)) hW (fun _ _ h => h)) (IsR.kb (IsR.kb (S := fun k => False) V_q1.out B_q1.out (fun _ _ h => h)) hW (fun _ _ h => h))) (fun a ha => by obtain ⟨qs', hp, hw, rfl⟩ := ha; rw [sorted3 hp hw]; decide +kernel))).mono ?_
 rintro e w122 ⟨rfl, hb⟩
 refine ⟨_, rfl, ?_⟩
 refine hK.out _ _ (by exact blk_below hHeld hb) (fun hHeld => ?_)
 clear hK K
 refine nm_ (some 42) ?_
 replace HB := kb_b HB hb
 replace B_s := kb_b B_s hb
 replace B_u := kb_b B_u hb
 replace B_n := kb_b B_n hb
 replace B_q1 := kb_b B_q1 hb
 replace B_a4 := kb_b B_a4 hb
 clear hb
 clear V_q1 B_q1
 clear V_a4 B_a4
 refine pu_ 21 (some 43) 4194303 HT_ ?_
 refine pu_ 22 (some 44) 8388607 HT_ ?_
 refine pu_ 24 (some 46) 25165823 HT_ ?_
 refine on_ 23 (some 45) 33554431 HT_ (fun K hK => ?_)
 refine gs_ Try.func13 #[.int .i64 1, .int .i64 2] ?_
 refine (part_calls 1 2 (by omega) (by omega) (by omega) (by omega) (by decide +kernel) _).mono ?_
 rintro e w123 ⟨⟨v45, rfl, hv⟩, hb⟩
 obtain ⟨tq2, Aq2, nq2, cq2, Dq2, kq2, zq2, rfl⟩ := hv.agg
 refine ⟨_, rfl, ?_⟩
 refine hK.out _ _ (by exact blk_below hHeld hb) (fun hHeld => ?_)
 clear hK K
 refine nm_ (some 45) ?_
 have hle := Kb.size HB.out
 have hv_ := IsR.mono' (ok' := fun k => True) hv (fun k hk _ => by trivial)
 clear hv hle
 replace HB := kb_b HB hb
 replace B_s := kb_b B_s hb
 replace B_u := kb_b B_u hb
 replace B_n := kb_b B_n hb
 clear hb
 have V_q2 := a0_ hv_
 clear hv_
 have B_q2 := kf_ w123
 refine on_ 25 (some 47) 67108863 HT_ (fun K hK => ?_)
 refine gs_ Try.func12 #[.int .i64 3] ?_
 refine (qof_calls 3 (by omega) (by omega) _).mono ?_
 rintro e w124 ⟨⟨v47, rfl, hv⟩, hb⟩
 obtain ⟨ta5, Aa5, na5, ca5, Da5, ka5, za5, rfl⟩ := hv.agg
 refine ⟨_, rfl, ?_⟩
 refine hK.out _ _ (by exact blk_below hHeld hb) (fun hHeld => ?_)
 clear hK K
 refine nm_ (some 47) ?_
 have hle := Kb.size HB.out
 have hv_ := IsR.mono' (ok' := fun k => True) hv (fun k hk _ => by trivial)
 clear hv hle
 replace HB := kb_b HB hb
 replace B_s := kb_b B_s hb
 replace B_u := kb_b B_u hb
 replace B_n := kb_b B_n hb
 replace B_q2 := kb_b B_q2 hb
 clear hb
 have V_a5 := a0_ hv_
 clear hv_
 have B_a5 := kf_ w124
 refine on_ 26 (some 48) 134217727 HT_ (fun K hK => ?_)
 refine gs_ Try.func14 #[.int .i64 12, .int .i64 1, .agg #[.bool tq2, .slice Aq2 nq2 cq2, .slice Dq2 kq2 zq2], .slice As ss.length cs, .agg #[.bool ta5, .slice Aa5 na5 ca5, .slice Da5 ka5 za5]] ?_
 refine (makes_true 12 1 ((3 : Int) : Rat) _ _ _ _ _ _ _ _ _ _ _ _ (IsR.kb (S := fun k => False) V_a5.out B_a5.out (fun _ _ h => h)) (fun W hW => run_some (wrun12 1 (by omega) (by omega) ss HS.out.2.1 l3 HS.out.2.2 (((1 : Int) : Rat) / ((2 : Int) : Rat)) (by decide +kernel) (by decide +kernel) HF.out.2.2.1 HF.out.1 HF.out.2.1 W _ _ _ _ _ _ _ _ _ (RowS.kb (RowS.kb V_s.out B_s.out (fun _ _ h => h)) hW (fun _ _ h => h)) (IsR.kb (IsR.kb (S := fun k => False) V_q2.out B_q2.out (fun _ _ h => h)) hW (fun _ _ h => h))) (fun a ha => by obtain ⟨qs', hp, hw, rfl⟩ := ha; rw [sorted3 hp hw]; decide +kernel))).mono ?_
 rintro e w125 ⟨rfl, hb⟩
 refine ⟨_, rfl, ?_⟩
 refine hK.out _ _ (by exact blk_below hHeld hb) (fun hHeld => ?_)
 clear hK K
 refine nm_ (some 48) ?_
 replace HB := kb_b HB hb
 replace B_s := kb_b B_s hb
 replace B_u := kb_b B_u hb
 replace B_n := kb_b B_n hb
 replace B_q2 := kb_b B_q2 hb
 replace B_a5 := kb_b B_a5 hb
 clear hb
 clear V_q2 B_q2
 clear V_a5 B_a5
 clear V_s B_s
 refine pu_ 27 (some 49) 268435455 HT_ ?_
 refine pu_ 28 (some 50) 536870911 HT_ ?_
 refine tk_ 29 (some 51) 1073741823 HT_ HW_ hHeld ?_ ?_ ?_ ?_ ?_
 rotate_left
 · intro w' hs
   have hb_ := hs
   obtain ⟨c0_, c1_, c2_⟩ := b3_ hb_
   clear hb_ hs
   go_simp
   with_reducible rfl
 rotate_left
 · simp only [PU]
   rfl
 refine on_ 30 (some 52) 2147483647 HT_ (fun K hK => ?_)
 refine gs_ Try.func12 #[.int .i64 1] ?_
 refine (qof_calls 1 (by omega) (by omega) _).mono ?_
 rintro e w126 ⟨⟨v52, rfl, hv⟩, hb⟩
 obtain ⟨ta6, Aa6, na6, ca6, Da6, ka6, za6, rfl⟩ := hv.agg
 refine ⟨_, rfl, ?_⟩
 refine hK.out _ _ (by exact blk_below hHeld hb) (fun hHeld => ?_)
 clear hK K
 refine nm_ (some 52) ?_
 have hle := Kb.size HB.out
 have hv_ := IsR.mono' (ok' := fun k => True) hv (fun k hk _ => by trivial)
 clear hv hle
 replace HB := kb_b HB hb
 replace B_u := kb_b B_u hb
 replace B_n := kb_b B_n hb
 clear hb
 have V_a6 := a0_ hv_
 clear hv_
 have B_a6 := kf_ w126
 refine on_ 31 (some 53) 4294967295 HT_ (fun K hK => ?_)
 refine gs_ Try.func14 #[.int .i64 5, .int .i64 1, .agg #[.bool tu, .slice Au nu cu, .slice Du ku zu], .slice none 0 0, .agg #[.bool ta6, .slice Aa6 na6 ca6, .slice Da6 ka6 za6]] ?_
 refine (makes_true 5 1 ((1 : Int) : Rat) _ _ _ _ _ _ _ _ _ _ _ _ (IsR.kb (S := fun k => False) V_a6.out B_a6.out (fun _ _ h => h)) (fun W hW => wrun5_nil 1 (by omega) (by omega) W _ _ _ _ _ _ _)).mono ?_
 rintro e w127 ⟨rfl, hb⟩
 refine ⟨_, rfl, ?_⟩
 refine hK.out _ _ (by exact blk_below hHeld hb) (fun hHeld => ?_)
 clear hK K
 refine nm_ (some 53) ?_
 replace HB := kb_b HB hb
 replace B_u := kb_b B_u hb
 replace B_n := kb_b B_n hb
 replace B_a6 := kb_b B_a6 hb
 clear hb
 refine pu_ 32 (some 54) 8589934591 HT_ ?_
 refine pu_ 33 (some 55) 17179869183 HT_ ?_
 refine pu_ 34 (some 56) 34359738367 HT_ ?_
 refine pu_ 35 (some 57) 68719476735 HT_ ?_
 refine pu_ 36 (some 58) 137438953471 HT_ ?_
 refine pu_ 37 (some 59) 274877906943 HT_ ?_
 refine pu_ 38 (some 60) 549755813887 HT_ ?_
 refine pu_ 39 (some 61) 1099511627775 HT_ ?_
 refine pu_ 40 (some 62) 2199023255551 HT_ ?_
 refine pu_ 41 (some 0) 4398046511103 HT_ ?_
 refine do_ HT_ ?_
 clear HT_ HW_ hHeld
 go_wp2_with fail
 go_ret
 exact ⟨rfl, (Kb.to_below HB.out (fun _ h => h.elim))⟩
open Go.RowKit Go.Proofs.YtgdkgahbmfhgcaaW.PrintWords Go.Proofs.YtgdkgahbmfhgcaaW.PrintLast Go.Proofs.YtgdkgahbmfhgcaaW.PrintMore
attribute [local go_sem] max2_int min2_int max_two min_two max_three min_three max_four min_four
def driftnetref00_Bring.f (a0 : Int) (a1 : Int) : Option (Int) := if a1 ≤ 0 then (some 0) else (if a1 = 0 then (none) else (if (Int.tmod a0 a1) < 0 then (some (wrap64 ((Int.tmod a0 a1) + a1))) else (some (Int.tmod a0 a1))))
theorem driftnetref00_Bring.calls (a0 : Int) (a1 : Int) (r : Int) (w : World) (h : driftnetref00_Bring.f a0 a1 = some r) :
 Calls Try.prog 10 #[.int .i64 a0, .int .i64 a1] w fun e w' => e = .returned (.int .i64 r) ∧ Drawn0 w w' := by
 have H : (if a1 ≤ 0 then (some 0) else (if a1 = 0 then (none) else (if (Int.tmod a0 a1) < 0 then (some (wrap64 ((Int.tmod a0 a1) + a1))) else (some (Int.tmod a0 a1))))) = some r := h
 clear h
 by_cases c3 : a1 ≤ 0
 · rw [if_pos c3] at H
   have c3b0 : decide (a1 ≤ 0) = true := decide_eq_true c3
   clear c3
   obtain rfl := Option.some.inj H
   go_enter Try.func10, Try.ntmps10
   go_wp2
   go_ret
   exact ⟨by first | rfl | (simp; done) | (simp [*]; done), by repeat (first | exact Drawn0.refl _ | apply Drawn0.step)⟩
 · rw [if_neg c3] at H
   have c3b0 : decide (a1 ≤ 0) = false := decide_eq_false c3
   clear c3
   by_cases c4 : a1 = 0
   · rw [if_pos c4] at H
     exact absurd H (by simp)
   · rw [if_neg c4] at H
     have c4b0 : (a1 == 0) = false := beq_eq_false_iff_ne.mpr c4
     have c4b1 : (a1 != 0) = true := bne_iff_ne.mpr c4
     by_cases c5 : (Int.tmod a0 a1) < 0
     · rw [if_pos c5] at H
       have c5b0 : decide ((Int.tmod a0 a1) < 0) = true := decide_eq_true c5
       clear c5
       obtain rfl := Option.some.inj H
       go_enter Try.func10, Try.ntmps10
       go_wp2
       go_ret
       exact ⟨by first | rfl | (simp; done) | (simp [*]; done), by repeat (first | exact Drawn0.refl _ | apply Drawn0.step)⟩
     · rw [if_neg c5] at H
       have c5b0 : decide ((Int.tmod a0 a1) < 0) = false := decide_eq_false c5
       clear c5
       obtain rfl := Option.some.inj H
       go_enter Try.func10, Try.ntmps10
       go_wp2
       go_ret
       exact ⟨by first | rfl | (simp; done) | (simp [*]; done), by repeat (first | exact Drawn0.refl _ | apply Drawn0.step)⟩
theorem bring_f (a n : Int) (h0 : 0 < n) (h1 : n ≤ 1000000000) : driftnetref00_Bring.f a n = some (a % n) := by
 unfold driftnetref00_Bring.f
 rw [if_neg (by omega), if_neg (by omega)]
 by_cases h : a < 0
 · obtain ⟨b, rfl⟩ : ∃ b, a = -b := ⟨-a, by omega⟩
   have hb : 0 ≤ b := by omega
   have k1 := Int.emod_nonneg b (show n ≠ 0 by omega)
   have k2 := Int.emod_lt_of_pos b h0
   rw [Int.neg_tmod, Int.tmod_eq_emod_of_nonneg hb, Int.neg_emod]
   by_cases hd : n ∣ b
   · rw [Int.emod_eq_zero_of_dvd hd, if_neg (by omega), if_pos hd]
     rfl
   · have hz : b % n ≠ 0 := fun e => hd (Int.dvd_iff_emod_eq_zero.2 e)
     rw [if_pos (by omega), if_neg hd, w64 (by omega) (by omega)]
     congr 1
     omega
 · have k1 := Int.emod_nonneg a (show n ≠ 0 by omega)
   rw [Int.tmod_eq_emod_of_nonneg (by omega), if_neg (by omega)]
theorem bring_calls (a n : Int) (h0 : 0 < n) (h1 : n ≤ 1000000000) (w : World) : Calls Try.prog 10 #[.int .i64 a, .int .i64 n] w fun e w' => e = .returned (.int .i64 (a % n)) ∧ Below w.heap.size w w' :=
 (driftnetref00_Bring.calls a n (a % n) w (bring_f a n h0 h1)).mono (fun e w' h => ⟨h.1, h.2.below⟩)
def k3 : Kd (Int × Int × Int) := Kd.pair (Kd.int .i64) (Kd.pair (Kd.int .i64) (Kd.int .i64))
theorem k3_get {w : World} {A : Option Addr} {n : Nat} {l : List (Int × Int × Int)} (h : Kd.C k3 w A n l) (i : Nat) (hi : i < n) : ∃ b o, A = some ⟨b, o, none⟩ ∧ w.cell? ⟨b, o + i * 3, none⟩ = some (.int .i64 (l.getD i (0, 0, 0)).1) ∧ w.cell? ⟨b, o + i * 3 + 1, none⟩ = some (.int .i64 (l.getD i (0, 0, 0)).2.1) ∧ w.cell? ⟨b, o + i * 3 + 2, none⟩ = some (.int .i64 (l.getD i (0, 0, 0)).2.2) := by
 obtain ⟨ad, c, he, hlen, hK, hc⟩ := Kd.C_get h (0, 0, 0) 0 (by omega) (by omega)
 obtain ⟨b, o, s⟩ := ad
 have h3 : c.length = 3 := hlen
 obtain ⟨u, hu⟩ : ∃ u, c[0]? = some u := ⟨c[0], List.getElem?_eq_getElem (by omega)⟩
 obtain rfl := cell_spot (hc 0 u hu)
 obtain ⟨ad, c, he2, hlen, hK, hc⟩ := Kd.C_get h (0, 0, 0) (i : Int) (by omega) (by omega)
 rw [he] at he2
 obtain rfl := Option.some.inj he2
 rw [Int.toNat_natCast] at hc hK
 obtain ⟨c0, c1, rfl, e0, ⟨c2, c4, rfl, e1, e2⟩⟩ := hK
 have e0 : c0 = [.int .i64 (l.getD i (0, 0, 0)).1] := e0
 have e1 : c2 = [.int .i64 (l.getD i (0, 0, 0)).2.1] := e1
 have e2 : c4 = [.int .i64 (l.getD i (0, 0, 0)).2.2] := e2
 subst e0 e1 e2
 refine ⟨b, o, he, ?_, ?_, ?_⟩
 · have e := hc 0 _ rfl
   rw [Addr.add_lit] at e
   exact e
 · have e := hc 1 _ rfl
   rw [Addr.add_lit] at e
   exact e
 · have e := hc 2 _ rfl
   rw [Addr.add_lit] at e
   exact e
theorem div_int (a b : Int) (hb : 0 < b) : (a : Rat) / (b : Rat) = mkRat a b.natAbs := by
 rw [← Rat.divInt_eq_div]
 have e : b = ((b.natAbs : Nat) : Int) := by omega
 conv => lhs; rw [e]
 rw [Rat.divInt_ofNat]
theorem fit_mk (a : Int) (n : Nat) (hn : 0 < n) (ha : a.natAbs < 4294967296 ^ 16) (hb : n < 4294967296 ^ 16) : FitR (mkRat a n) := by
 obtain ⟨e1, e2⟩ := mk_num a n (by omega)
 refine ⟨?_, ?_⟩
 · rw [e1]
   have : (a / ((a.natAbs.gcd n : Nat) : Int)).natAbs ≤ a.natAbs := Int.natAbs_ediv_le_natAbs _ _
   exact Nat.lt_of_le_of_lt this ha
 · rw [e2]
   exact Nat.lt_of_le_of_lt (Nat.div_le_self _ _) hb
theorem big16 (n : Nat) (h : n < 4294967296 ^ 2) : n < 4294967296 ^ 16 := Nat.lt_trans h (Nat.pow_lt_pow_right (by omega) (by omega))
theorem fit_div (a b : Int) (hb : 0 < b) (h1 : a.natAbs < 4294967296 ^ 2) (h2 : b < 4294967296 ^ 2) : FitR ((a : Rat) / (b : Rat)) := by
 rw [div_int a b hb]
 exact fit_mk _ _ (by omega) (big16 _ h1) (big16 _ (by omega))
def someQ (p : Int × Int × Int) : Rat := ((p.1 % 4001 - 2000 : Int) : Rat) / ((1 + p.2.1 % 12 : Int) : Rat)
def someS (l : List (Int × Int × Int)) : List Smp := (l.take 30).zipIdx.map (fun p => ⟨(p.2 : Int), p.1.2.2 % 5000, some (someQ p.1)⟩)
theorem someS_len (l : List (Int × Int × Int)) : (someS l).length = min 30 l.length := by unfold someS; rw [List.length_map, List.length_zipIdx, List.length_take]
theorem someS_get (l : List (Int × Int × Int)) (i : Nat) (h : i < l.length) (h30 : i < 30) : (someS l)[i]? = some ⟨(i : Int), (l.getD i (0, 0, 0)).2.2 % 5000, some (someQ (l.getD i (0, 0, 0)))⟩ := by
 unfold someS
 rw [List.getElem?_map, List.getElem?_zipIdx, List.getElem?_take_of_lt h30, List.getElem?_eq_getElem h, Nat.zero_add, List.getD_eq_getElem?_getD, List.getElem?_eq_getElem h]
 rfl
theorem someS_take (l : List (Int × Int × Int)) (k : Nat) (h : k < l.length) (h30 : k < 30) : (someS l).take k ++ [⟨(k : Int), (l.getD k (0, 0, 0)).2.2 % 5000, some (someQ (l.getD k (0, 0, 0)))⟩] = (someS l).take (k + 1) := by
 rw [List.take_add_one, someS_get l k h h30]
 rfl
def Some5.T5 : Bool × List (List Nat × List Nat) := (true, [([], []), ([], []), ([], []), ([], []), ([2, 3], [2, 3]), ([4], [4]), ([5], [5]), ([6], [6]), ([], []), ([], []), ([8, 9], [8, 9]), ([10], [10]), ([11], [11]), ([12, 7], [12]), ([13], [13]), ([], []), ([], []), ([15, 16], [15, 16]), ([17], [17]), ([18], [18]), ([19, 13], [19]), ([20], [20]), ([14, 21, 20], [14, 21]), ([1, 7, 22], [1, 7, 22]), ([23], [23]), ([0, 24, 22], [0, 24]), ([25, 25, 0, 1, 2, 3, 4, 5, 6, 7, 8, 9, 10, 11, 12, 13, 14, 15, 16, 17, 18, 19, 20, 21, 22, 23, 24, 25], [0, 25])])
def Some5.B5 : List Nat := [0, 0, 0, 0, 12, 28, 60, 124, 0, 0, 768, 1792, 3840, 8188, 16380, 0, 0, 98304, 229376, 491520, 1032188, 2080764, 4194300, 8388606, 16777214, 33554431, 67108863]
theorem Some5.tab5 : rtab .any (opsOf Try.f9 5) = Some5.T5 := by kernel_rfl
theorem Some5.bits5 : waitsOk Some5.T5.2 Some5.B5 = true := by kernel_rfl
theorem some_calls (l : List (Int × Int × Int)) (hsz : l.length ≤ 140737488351232) (w : World) (Al : Option Addr) (cl : Nat) (hl : Kd.C k3 w Al l.length l) :
 Calls Try.prog 9 #[.slice Al l.length cl] w fun e w' => (∃ v, e = .returned v ∧ RowS (fun k => w.heap.size ≤ k) w' v (someS l)) ∧ Below w.heap.size w w' := by
 have hu30 := Try.underlying30
 have hu39 := Try.underlying39
 have hu52 := Try.underlying52
 have hu22 := Try.underlying22
 obtain ⟨nl, hnl⟩ : ∃ nl, nl = l.length := ⟨_, rfl⟩
 rw [← hnl] at hl hsz ⊢
 have HNL := a0_ hnl
 have HLC := a0_ hl
 clear hnl hl
 have HB := kf_ w
 go_enter Try.func9, Try.ntmps9
 go_wp2_with fail
 go_loopg [3, 4] 30 (fun kg v3 v4 wr => ∃ (k : Nat), v4 = .int .i64 k ∧ Aside0 (k + kg = 30 ∧ k ≤ nl) ∧ Aside0 (Kd.N kdS 39 wr w.heap.size (fun k => w.heap.size ≤ k) v3 ((someS l).take k)) ∧ Aside0 (Kb (fun k => False) w wr))
 case atStart => exact ⟨0, rfl, ⟨by omega, by omega⟩, ⟨by rw [List.take_zero]; exact Kd.N_nil _ _ _ _ _⟩, HB⟩
 case round =>
  obtain ⟨k, rfl, HK, HN, HB2⟩ := hrel
  clear HB
  have HB := HB2
  clear HB2
  have HN0 := HN
  by_cases hlt : k < nl ∧ k < 30
  · have hz : (k : Int) < (nl : Int) := by omega
    have hz2 : (k : Int) < 30 := by omega
    have hz3 : k < 30 := hlt.2
    have hz4 : k < nl := hlt.1
    obtain ⟨bl, ol, rfl, c0, c1, c2⟩ := k3_get (Kd.C_below HLC.out (Kb.to_below HB.out (fun _ h => h.elim))) k hlt.1
    obtain ⟨pa, hpa⟩ : ∃ x, x = (l.getD k (0, 0, 0)).1 := ⟨_, rfl⟩
    obtain ⟨pb, hpb⟩ : ∃ x, x = (l.getD k (0, 0, 0)).2.1 := ⟨_, rfl⟩
    obtain ⟨pc, hpc⟩ : ∃ x, x = (l.getD k (0, 0, 0)).2.2 := ⟨_, rfl⟩
    rw [← hpa] at c0
    rw [← hpb] at c1
    rw [← hpc] at c2
    have HP := a0_ (And.intro hpa (And.intro hpb hpc))
    clear hpa hpb hpc
    have C0 := a0_ (And.intro c0 (And.intro c1 c2))
    clear c0 c1 c2
    have e1 : IntKind.i64.wrap ((k : Int) + 1) = ((k + 1 : Nat) : Int) := (i64_w _).trans ((w64 (by omega) (by omega)).trans (by omega))
    obtain ⟨qa, hqa⟩ : ∃ x, x = pa % 4001 := ⟨_, rfl⟩
    obtain ⟨qb, hqb⟩ : ∃ x, x = pb % 12 := ⟨_, rfl⟩
    obtain ⟨qc, hqc⟩ : ∃ x, x = pc % 5000 := ⟨_, rfl⟩
    have HQ := a0_ (And.intro hqa (And.intro hqb hqc))
    have bqa : 0 ≤ qa ∧ qa < 4001 := by omega
    have bqb : 0 ≤ qb ∧ qb < 12 := by omega
    have e29 : IntKind.i64.wrap (qa - 2000) = qa - 2000 := (i64_w _).trans (w64 (by omega) (by omega))
    have e36 : IntKind.i64.wrap (1 + qb) = 1 + qb := (i64_w _).trans (w64 (by omega) (by omega))
    have HBQ := a0_ (And.intro bqa bqb)
    clear hqa hqb hqc bqa bqb
    go_wp2_with fail
    have B_nn := kf_ wr
    have hb : Below wr.heap.size wr wr.drew := below_drew1 (Below.refl _ _)
    replace HB := kb_b HB hb
    replace B_nn := kb_b B_nn hb
    clear hb
    refine start_ (n := 27) (S := fun w' => (w'.cell? ⟨bl, (ol + k * 3), none⟩ = some (.int .i64 pa)) ∧ (w'.cell? ⟨bl, (ol + k * 3 + 1), none⟩ = some (.int .i64 pb)) ∧ (w'.cell? ⟨bl, (ol + k * 3 + 2), none⟩ = some (.int .i64 pc))) (ds := [25]) (tB_ 27 0) (by kernel_rfl) rfl (by kernel_rfl) ⟨C0.out.1, C0.out.2.1, C0.out.2.2⟩ (fun hHeld => ?_)
    refine with_tabW Some5.tab5 Some5.bits5 (fun HT_ HW_ => ?_)
    generalize wr.drew = w102 at HB B_nn hHeld ⊢
    refine pu_ 0 (some 15) 1 HT_ ?_
    refine pu_ 1 (some 16) 3 HT_ ?_
    refine pu_ 2 (some 17) 7 HT_ ?_
    refine pu_ 3 (some 18) 15 HT_ ?_
    refine pu_ 4 (some 19) 31 HT_ ?_
    refine pu_ 5 (some 20) 63 HT_ ?_
    refine tk_ 6 (some 21) 127 HT_ HW_ hHeld ?_ ?_ ?_ ?_ ?_
    rotate_left
    · intro w' hs
      have hb_ := hs.2.2
      have c0_ := hb_
      clear hs
      go_simp
      with_reducible rfl
    rotate_left
    · simp only [PU]
      rfl
    refine pu_ 8 (some 23) 383 HT_ ?_
    refine pu_ 9 (some 24) 895 HT_ ?_
    refine pu_ 10 (some 25) 1919 HT_ ?_
    refine pu_ 11 (some 26) 3967 HT_ ?_
    refine tk_ 12 (some 27) 8063 HT_ HW_ hHeld ?_ ?_ ?_ ?_ ?_
    rotate_left
    · intro w' hs
      have hb_ := hs.1
      have c0_ := hb_
      clear hs
      go_simp
      with_reducible rfl
    rotate_left
    · simp only [PU]
      rfl
    refine pu_ 15 (some 30) 40831 HT_ ?_
    refine pu_ 16 (some 31) 106367 HT_ ?_
    refine pu_ 17 (some 32) 237439 HT_ ?_
    refine pu_ 18 (some 33) 499583 HT_ ?_
    refine tk_ 19 (some 34) 1023871 HT_ HW_ hHeld ?_ ?_ ?_ ?_ ?_
    rotate_left
    · intro w' hs
      have hb_ := hs.2.1
      have c0_ := hb_
      clear hs
      go_simp
      with_reducible rfl
    rotate_left
    · simp only [PU]
      rfl
    refine on_ 7 (some 22) 1023999 HT_ (fun K hK => ?_)
    refine gs_ Try.func10 #[.int .i64 pc, .int .i64 5000] ?_
    refine (bring_calls pc 5000 (by omega) (by omega) _).mono ?_
    rintro e w103 ⟨rfl, hb⟩
    have hq_ := HQ.out.2.2
    rw [← hq_]
    clear hq_
    refine ⟨_, rfl, ?_⟩
    refine hK.out _ _ (by exact ⟨pw_cell_below hb hHeld.1, pw_cell_below hb hHeld.2.1, pw_cell_below hb hHeld.2.2⟩) (fun hHeld => ?_)
    clear hK K
    refine nm_ (some 22) ?_
    replace HB := kb_b HB hb
    replace B_nn := kb_b B_nn hb
    clear hb
    refine on_ 13 (some 28) 1032191 HT_ (fun K hK => ?_)
    refine gs_ Try.func10 #[.int .i64 pa, .int .i64 4001] ?_
    refine (bring_calls pa 4001 (by omega) (by omega) _).mono ?_
    rintro e w104 ⟨rfl, hb⟩
    have hq_ := HQ.out.1
    rw [← hq_]
    clear hq_
    refine ⟨_, rfl, ?_⟩
    refine hK.out _ _ (by exact ⟨pw_cell_below hb hHeld.1, pw_cell_below hb hHeld.2.1, pw_cell_below hb hHeld.2.2⟩) (fun hHeld => ?_)
    clear hK K
    refine nm_ (some 28) ?_
    replace HB := kb_b HB hb
    replace B_nn := kb_b B_nn hb
    clear hb
    refine pu_ 14 (some 29) 1048575 HT_ ?_
    refine on_ 20 (some 35) 2097151 HT_ (fun K hK => ?_)
    refine gs_ Try.func10 #[.int .i64 pb, .int .i64 12] ?_
    refine (bring_calls pb 12 (by omega) (by omega) _).mono ?_
    rintro e w105 ⟨rfl, hb⟩
    have hq_ := HQ.out.2.1
    rw [← hq_]
    clear hq_
    refine ⟨_, rfl, ?_⟩
    refine hK.out _ _ (by exact ⟨pw_cell_below hb hHeld.1, pw_cell_below hb hHeld.2.1, pw_cell_below hb hHeld.2.2⟩) (fun hHeld => ?_)
    clear hK K
    refine nm_ (some 35) ?_
    replace HB := kb_b HB hb
    replace B_nn := kb_b B_nn hb
    clear hb
    refine pu_ 21 (some 36) 4194303 HT_ ?_
    refine on_ 22 (some 37) 8388607 HT_ (fun K hK => ?_)
    have HS1 := a0_ (Kb.size HB.out)
    have HS2 := a0_ (Kb.size B_nn.out)
    refine gs_ Try.func13 #[.int .i64 (qa - 2000), .int .i64 (1 + qb)] ?_
    refine (part_calls (qa - 2000) (1 + qb) (by have := HBQ.out; omega) (by have := HBQ.out; omega) (by have := HBQ.out; omega) (by have := HBQ.out; omega) (fit_div _ _ (by have := HBQ.out; omega) (by have := HBQ.out; omega) (by have := HBQ.out; omega)) _).mono ?_
    rintro e w106 ⟨⟨v37, rfl, hv⟩, hb⟩
    obtain ⟨tu, Au, nu, cu, Du, ku, zu, rfl⟩ := hv.agg
    have HV := a0_ hv
    clear hv
    refine ⟨_, rfl, ?_⟩
    refine hK.out _ _ (by exact ⟨pw_cell_below hb hHeld.1, pw_cell_below hb hHeld.2.1, pw_cell_below hb hHeld.2.2⟩) (fun hHeld => ?_)
    clear hK K
    refine nm_ (some 37) ?_
    replace HB := kb_b HB hb
    replace B_nn := kb_b B_nn hb
    clear hb
    refine pu_ 23 (some 38) 16777215 HT_ ?_
    have hn := Kd.N_step (w1 := w106) HN.out (fun k _ hl => Kb.block B_nn.out k hl (fun f => f))
    clear HN
    have HN := a0_ hn
    clear hn
    have hs1 := HS1.out
    have hs2 := HS2.out
    have HFK := a0_ (IsR.mkS (a := (k : Int)) (b := qc) HV.out)
    have hq1 := HQ.out
    have hp1 := HP.out
    have hsq : ((qa - 2000 : Int) : Rat) / ((1 + qb : Int) : Rat) = someQ (l.getD k (0, 0, 0)) := by unfold someQ; rw [hq1.1, hq1.2.1, hp1.1, hp1.2.1]
    have hsc : qc = (l.getD k (0, 0, 0)).2.2 % 5000 := by rw [hq1.2.2, hp1.2.2]
    have HSQ := a0_ (And.intro hsq hsc)
    clear hq1 hp1 hsq hsc
    have hpk : ∀ j, w105.heap.size ≤ j → w.heap.size ≤ j ∧ some j ≠ u3.ownBlock := by
     intro j hj
     have k2 := Kd.N_lt HN0.out
     exact ⟨by omega, fun e => by have := k2 j e.symm; omega⟩
    have HPK := a0_ hpk
    have hlen : ((someS l).take k).length ≤ 30 := by rw [List.length_take]; have := hlt.2; omega
    have HLEN := a0_ hlen
    clear hpk hlen hs1 hs2
    refine on_ 24 (some 39) 33554431 HT_ (fun K hK => ?_)
    refine vl_ ?_
    refine hK.out _ _ (by exact ⟨pw_cell_below (below_alloc (Below.refl _ _) _) hHeld.1, pw_cell_below (below_alloc (Below.refl _ _) _) hHeld.2.1, pw_cell_below (below_alloc (Below.refl _ _) _) hHeld.2.2⟩) (fun hHeld => ?_)
    clear hK K
    refine nm_ (some 39) ?_
    refine la_ 25 (some 40) 67108863 HT_ (fun K hK => ?_)
    refine Kd.N_append_step kdS (w0 := w106) w.heap.size (by rfl) (.tmp 15) (.tmp 39) 25 39 (.agg #[.int .i64 0, .int .i64 0, .bool false, .slice none 0 0, .slice none 0 0]) 72 rfl Try.underlying25 (by kernel_rfl) rfl (by decide) (by omega) u3 ((someS l).take k) ⟨(k : Int), qc, some (((qa - 2000 : Int) : Rat) / ((1 + qb : Int) : Rat))⟩ [.int .i64 k, .int .i64 qc, .bool tu, .slice Au nu cu, .slice Du ku zu] (fun k => w.heap.size ≤ k) (fun j => w105.heap.size ≤ j) rfl rfl HFK.out HPK.out (fun j hj => by have := Kb.size HB.out; omega) HN.out (Below.refl _ _) (Kb.size HB.out) (by have := HLEN.out; omega) ?_
    intro v_ w_ hn hb hg hat
    have hk := Kb.grown HB.out hg (fun j hj => .inr (Kd.N_base HN.out j hj))
    have HN2 := a0_ hn
    have HB2 := a0_ hk
    clear hn hb hg hat hk
    refine hK.out _ _ ?_
    clear hK K
    refine nm_ (some 40) ?_
    refine pu_ 26 (some 3) 134217727 HT_ ?_
    refine do_ HT_ ?_
    clear HT_ HW_ hHeld
    skip
    go_wp2_with fail
    go_roundg (30 - (k + 1))
    case measure => have := HK.out; omega
    case rel => exact ⟨k + 1, by first | rfl | rw [e1], ⟨by have := HK.out; omega, by have := HK.out; omega⟩, ⟨by rw [← someS_take l k (by rw [← HNL.out]; exact hlt.1) hlt.2, ← HSQ.out.1, ← HSQ.out.2]; exact HN2.out⟩, HB2⟩
  · have hkn : (someS l).take k = someS l := List.take_of_length_le (by rw [someS_len]; have := HK.out; have := HNL.out; omega)
    have hn := HN.out
    rw [hkn] at hn
    clear HN hkn
    have HN := a0_ hn
    clear hn
    by_cases hz : (k : Int) < (nl : Int)
    · have hz2 : ¬ (k : Int) < 30 := by omega
      clear hlt
      go_wp2_with fail
      go_ret
      exact ⟨⟨_, rfl, Kd.N_V HN.out⟩, (Kb.to_below HB.out (fun _ h => h.elim))⟩
    · clear hlt
      go_wp2_with fail
      go_ret
      exact ⟨⟨_, rfl, Kd.N_V HN.out⟩, (Kb.to_below HB.out (fun _ h => h.elim))⟩
def rsum (l : List Rat) : Rat := l.foldr (fun x y => x + y) 0
def Part (x : Rat) : Prop := ∃ n : Int, x = mkRat n 27720 ∧ n.natAbs ≤ 55440000
theorem mk_add (a b : Int) : mkRat a 27720 + mkRat b 27720 = mkRat (a + b) 27720 := by
 rw [Rat.mkRat_add_mkRat _ _ (by decide) (by decide)]
 have e : a * ((27720 : Nat) : Int) + b * ((27720 : Nat) : Int) = (a + b) * ((27720 : Nat) : Int) := by omega
 rw [e]
 exact Rat.mkRat_mul_right (by decide)
theorem sumO_part (qs : List Rat) (hq : ∀ x ∈ qs, Part x) : ∀ s : Int, s.natAbs + qs.length * 55440000 < 4294967296 ^ 2 → sumO (some (mkRat s 27720)) qs = some (mkRat s 27720 + rsum qs) ∧ ∃ t : Int, mkRat s 27720 + rsum qs = mkRat t 27720 ∧ t.natAbs ≤ s.natAbs + qs.length * 55440000 := by
 induction qs with
 | nil =>
  intro s hs
  have e : mkRat s 27720 + rsum [] = mkRat s 27720 := Rat.add_zero _
  rw [e]
  exact ⟨rfl, s, rfl, by omega⟩
 | cons x qs ih =>
  intro s hs
  obtain ⟨n, rfl, hn⟩ := hq x List.mem_cons_self
  rw [List.length_cons] at hs
  have e : mkRat s 27720 + rsum (mkRat n 27720 :: qs) = mkRat (s + n) 27720 + rsum qs := by
   show mkRat s 27720 + (mkRat n 27720 + rsum qs) = _
   rw [← Rat.add_assoc, mk_add]
  have e2 : addO (some (mkRat s 27720)) (mkRat n 27720) = some (mkRat (s + n) 27720) := by
   show fit (mkRat s 27720 + mkRat n 27720) = _
   rw [mk_add]
   unfold fit
   rw [if_pos (fit_mk _ _ (by decide) (big16 _ (by omega)) (big16 _ (by decide)))]
  obtain ⟨h1, t, h2, h3⟩ := ih (fun y hy => hq y (List.mem_cons_of_mem _ hy)) (s + n) (by omega)
  rw [e]
  refine ⟨?_, t, h2, by rw [List.length_cons]; omega⟩
  show sumO (addO (some (mkRat s 27720)) (mkRat n 27720)) qs = _
  rw [e2]
  exact h1
theorem sum0_part (qs : List Rat) (hq : ∀ x ∈ qs, Part x) (hl : qs.length ≤ 30) : sumO (some 0) qs = some (rsum qs) ∧ ∃ t : Int, rsum qs = mkRat t 27720 ∧ t.natAbs ≤ 30 * 55440000 := by
 obtain ⟨h1, t, h2, h3⟩ := sumO_part qs hq 0 (by omega)
 have e : mkRat 0 27720 + rsum qs = rsum qs := by
  have : mkRat 0 27720 = 0 := by decide +kernel
  rw [this, Rat.zero_add]
 have e0 : mkRat 0 27720 = (0 : Rat) := by decide +kernel
 rw [e] at h1 h2
 rw [e0] at h1
 exact ⟨h1, t, h2, by omega⟩
theorem part_some (p : Int × Int × Int) : Part (someQ p) := by
 have ha := Int.emod_nonneg p.1 (show (4001 : Int) ≠ 0 by decide)
 have ha2 := Int.emod_lt_of_pos p.1 (show (0 : Int) < 4001 by decide)
 have hb := Int.emod_nonneg p.2.1 (show (12 : Int) ≠ 0 by decide)
 have hb2 := Int.emod_lt_of_pos p.2.1 (show (0 : Int) < 12 by decide)
 unfold someQ Part
 generalize p.1 % 4001 = a at *
 generalize p.2.1 % 12 = b at *
 rw [div_int _ _ (by omega)]
 have hd : ∃ m : Nat, m * (1 + b).natAbs = 27720 ∧ m ≤ 27720 ∧ m ≠ 0 := by
  have : b = 0 ∨ b = 1 ∨ b = 2 ∨ b = 3 ∨ b = 4 ∨ b = 5 ∨ b = 6 ∨ b = 7 ∨ b = 8 ∨ b = 9 ∨ b = 10 ∨ b = 11 := by omega
  rcases this with rfl | rfl | rfl | rfl | rfl | rfl | rfl | rfl | rfl | rfl | rfl | rfl
  · exact ⟨27720, by decide, by decide, by decide⟩
  · exact ⟨13860, by decide, by decide, by decide⟩
  · exact ⟨9240, by decide, by decide, by decide⟩
  · exact ⟨6930, by decide, by decide, by decide⟩
  · exact ⟨5544, by decide, by decide, by decide⟩
  · exact ⟨4620, by decide, by decide, by decide⟩
  · exact ⟨3960, by decide, by decide, by decide⟩
  · exact ⟨3465, by decide, by decide, by decide⟩
  · exact ⟨3080, by decide, by decide, by decide⟩
  · exact ⟨2772, by decide, by decide, by decide⟩
  · exact ⟨2520, by decide, by decide, by decide⟩
  · exact ⟨2310, by decide, by decide, by decide⟩
 obtain ⟨m, h1, h2, h3⟩ := hd
 refine ⟨(m : Int) * (a - 2000), ?_, ?_⟩
 · rw [← h1]
   exact (Rat.mkRat_mul_left h3).symm
 · rw [Int.natAbs_mul]
   have h4 : (a - 2000).natAbs ≤ 2000 := by omega
   have h5 : ((m : Int)).natAbs = m := by omega
   rw [h5]
   exact Nat.le_trans (Nat.mul_le_mul h2 h4) (by decide)
def someV (l : List (Int × Int × Int)) : List Rat := (l.take 30).map someQ
theorem someV_val (l : List (Int × Int × Int)) : ValS (someS l) (someV l) := by
 refine ⟨by unfold someV; rw [someS_len, List.length_map, List.length_take], fun i hi => ?_⟩
 rw [someS_len] at hi
 rw [List.getD_eq_getElem?_getD, someS_get l i (by omega) (by omega)]
 show some (someQ (l.getD i (0, 0, 0))) = some ((someV l).getD i 0)
 congr 1
 unfold someV
 rw [List.getD_eq_getElem?_getD, List.getD_eq_getElem?_getD, List.getElem?_map, List.getElem?_take_of_lt (by omega), List.getElem?_eq_getElem (show i < l.length by omega)]
 rfl
theorem someV_part (l : List (Int × Int × Int)) : ∀ x ∈ someV l, Part x := fun x hx => by
 unfold someV at hx
 obtain ⟨p, _, rfl⟩ := List.mem_map.1 hx
 exact part_some p
theorem someS_by (l : List (Int × Int × Int)) : ∀ s ∈ someS l, 0 ≤ s.by_ ∧ s.by_ < 5000 := fun s hs => by
 unfold someS at hs
 obtain ⟨p, _, rfl⟩ := List.mem_map.1 hs
 exact ⟨Int.emod_nonneg _ (by decide), Int.emod_lt_of_pos _ (by decide)⟩
theorem bys_of (ss : List Smp) (h : ∀ s ∈ ss, 0 ≤ s.by_ ∧ s.by_ < 5000) : ByS ss := fun i hi => by
 have h1 := h ss[i] (List.getElem_mem hi)
 rw [List.getD_eq_getElem?_getD, List.getElem?_eq_getElem hi]
 show 0 ≤ ss[i].by_ ∧ ss[i].by_ ≤ 9007199254740991
 omega
theorem RowS.take {ok : Nat → Prop} {w : World} {A : Option Addr} {c : Nat} {ss : List Smp} (h : RowS ok w (.slice A ss.length c) ss) (m : Nat) (hm : m ≤ ss.length) : RowS ok w (.slice A (ss.take m).length c) (ss.take m) := by
 have hl := (Kd.V_at h).2.1
 exact Kd.V_mk (by rw [List.length_take]; omega) (Kd.F_take (Kd.V_F h) hm)
theorem RowS.drop {ok : Nat → Prop} {w : World} {A : Option Addr} {c : Nat} {ss : List Smp} (h : RowS ok w (.slice A ss.length c) ss) (m : Nat) (hm : m ≤ ss.length) : RowS ok w (.slice (if c = m then A else A.map (·.add (m * 5))) (ss.drop m).length (c - m)) (ss.drop m) := by
 have hl := (Kd.V_at h).2.1
 exact Kd.V_mk (by rw [List.length_drop]; omega) (Kd.F_imp (Kd.V_F h) (fun W' hC => Kd.C_drop hC hm hl))
def better (mx : Bool) (x m : Rat) : Bool := if mx then decide (m < x) else decide (x < m)
def extF (mx : Bool) (m y : Rat) : Rat := if better mx y m = true then y else m
def extQ (mx : Bool) : List Rat → Rat
 | [] => 0
 | x :: l => l.foldl (extF mx) x
theorem extQ_get (mx : Bool) (qs : List Rat) (h : 0 < qs.length) : (qs.drop 1).foldl (extF mx) (qs.getD 0 0) = extQ mx qs := by
 cases qs with
 | nil => simp at h
 | cons x l => rfl
theorem ext_step (mx : Bool) (qs : List Rat) (k : Nat) (cur ans : Rat) (hk : k < qs.length) (h : (qs.drop k).foldl (extF mx) cur = ans) : (qs.drop (k + 1)).foldl (extF mx) (extF mx cur (qs.getD k 0)) = ans := by
 rw [getD_mem qs k hk] at h
 exact h
theorem goesv_ {P : Program} {ops : Array Oper} {Q : Exit → Act → World → Prop} {oi : Oper} {N : Option Tmp} {a : Act} {w : World} {K : Act → World → Prop} {f : FuncId} {fn : Func} {p : Operand} {sa : Array Operand} {ts : Array TypeId} (hf : P.funcs[f]? = some fn) (hname : (fn.name == "runtime.NumGoroutine") = false) (hb : fn.body.isSome = true) (args : Array Value)
 (hw : Region.wanted oi (yielded ops a.tmps) = true) (hN : oi.dst = N) (hop : oi.op = .call { callee := .value p, args := sa, argTypes := ts }) (hp : a.eval p = .func (.func f) #[] #[]) (hargs : sa.map a.eval = args)
 (h : Calls P f args w fun e w' => ∃ v, e = .returned v ∧ K (a.put N v) w') : if Region.wanted oi (yielded ops a.tmps) = true then Oper.wp P oi a w K Q else K (a.put N undef) w := by
 refine call_ f args hw hN ?_ h
 have he := enters_ hf hname hb args w
 unfold execOp
 simp only [hop]
 simp [hp, resolve, Deferred.ofValue, invoke, hargs, he]
theorem ext_false_yes (qs : List Rat) (k : Nat) (cur ans : Rat) (cv : Int) (hk : k < qs.length) (h : (qs.drop k).foldl (extF false) cur = ans) (hcv : cv = (if qs.getD k 0 < cur then -1 else if qs.getD k 0 = cur then 0 else 1)) (hc : cv < 0) : (qs.drop (k + 1)).foldl (extF false) (qs.getD k 0) = ans := by
 have h1 := ext_step false qs k cur ans hk h
 have h2 : qs.getD k 0 < cur := by
  by_cases c : qs.getD k 0 < cur
  · exact c
  · rw [if_neg c] at hcv; split at hcv <;> omega
 rwa [show extF false cur (qs.getD k 0) = qs.getD k 0 from if_pos (decide_eq_true h2)] at h1
theorem ext_false_no (qs : List Rat) (k : Nat) (cur ans : Rat) (cv : Int) (hk : k < qs.length) (h : (qs.drop k).foldl (extF false) cur = ans) (hcv : cv = (if qs.getD k 0 < cur then -1 else if qs.getD k 0 = cur then 0 else 1)) (hc : ¬ cv < 0) : (qs.drop (k + 1)).foldl (extF false) cur = ans := by
 have h1 := ext_step false qs k cur ans hk h
 have h2 : ¬ qs.getD k 0 < cur := fun c => by rw [if_pos c] at hcv; omega
 rwa [show extF false cur (qs.getD k 0) = cur from if_neg (fun e => h2 (of_decide_eq_true e))] at h1
theorem ext_true_yes (qs : List Rat) (k : Nat) (cur ans : Rat) (cv : Int) (hk : k < qs.length) (h : (qs.drop k).foldl (extF true) cur = ans) (hcv : cv = (if qs.getD k 0 < cur then -1 else if qs.getD k 0 = cur then 0 else 1)) (hc : 0 < cv) : (qs.drop (k + 1)).foldl (extF true) (qs.getD k 0) = ans := by
 have h1 := ext_step true qs k cur ans hk h
 have h2 : cur < qs.getD k 0 := by
  by_cases c : qs.getD k 0 < cur
  · rw [if_pos c] at hcv; omega
  · rw [if_neg c] at hcv
    by_cases d : qs.getD k 0 = cur
    · rw [if_pos d] at hcv; omega
    · exact Rat.lt_iff_le_and_ne.2 ⟨Rat.not_lt.1 c, fun e => d e.symm⟩
 rwa [show extF true cur (qs.getD k 0) = qs.getD k 0 from if_pos (decide_eq_true h2)] at h1
theorem ext_true_no (qs : List Rat) (k : Nat) (cur ans : Rat) (cv : Int) (hk : k < qs.length) (h : (qs.drop k).foldl (extF true) cur = ans) (hcv : cv = (if qs.getD k 0 < cur then -1 else if qs.getD k 0 = cur then 0 else 1)) (hc : ¬ 0 < cv) : (qs.drop (k + 1)).foldl (extF true) cur = ans := by
 have h1 := ext_step true qs k cur ans hk h
 have h2 : ¬ cur < qs.getD k 0 := fun c => by
  rw [if_neg (Rat.not_lt.2 (Rat.le_of_lt c)), if_neg (fun e => Rat.ne_of_gt c e)] at hcv
  omega
 rwa [show extF true cur (qs.getD k 0) = cur from if_neg (fun e => h2 (of_decide_eq_true e))] at h1
def Extfalse.T7 : Bool × List (List Nat × List Nat) := (true, [([], []), ([], []), ([], []), ([1, 2], [1, 2]), ([3], [3]), ([], []), ([0, 4, 5], [0, 4, 5]), ([6], [6])])
def Extfalse.B7 : List Nat := [0, 0, 0, 6, 14, 0, 63, 127]
theorem Extfalse.tab7 : rtab .any (opsOf Try.f46 7) = Extfalse.T7 := by kernel_rfl
theorem Extfalse.bits7 : waitsOk Extfalse.T7.2 Extfalse.B7 = true := by kernel_rfl
theorem min_calls {okl : Nat → Prop} (qs : List Rat) (hn : 0 < qs.length) (hsz : qs.length ≤ 1000000) (w : World) (vl : Value) (hl : RowQ okl w vl qs) :
 Calls Try.prog 46 #[vl, .func (.func 39) #[] #[]] w fun e w' => (∃ v, e = .returned v ∧ IsR okl w' v (extQ false qs)) ∧ Below w.heap.size w w' := by
 have hu30 := Try.underlying30
 obtain ⟨Al, cl, rfl⟩ := hl.slice
 obtain ⟨nl, hnl⟩ : ∃ nl, nl = qs.length := ⟨_, rfl⟩
 obtain ⟨ans, hans⟩ : ∃ a, a = extQ false qs := ⟨_, rfl⟩
 rw [← hans]
 have hfold := extQ_get false qs hn
 rw [← hans] at hfold
 have hl := RowQ.mono' (ok' := fun j => okl j ∧ j < w.heap.size) hl (fun k h1 h2 => ⟨h1, h2⟩)
 rw [← hnl] at hl hsz hn ⊢
 obtain ⟨bl, ol, rfl⟩ := RowQ.some_ hl hn
 have hblw := (RowQ.okb hl hn).2
 have HNL := a0_ (And.intro hnl (And.intro hsz hn))
 have HFO := a0_ hfold
 obtain ⟨tx, Ax, nx, cx, Dx, kx, zx, hx, c0, c1, c2⟩ := RowQ.get hl 0 (by rw [← hnl]; exact hn)
 have e0 : ol + 0 * 3 = ol := by omega
 rw [e0] at c0 c1 c2
 have C0 := a0_ (And.intro c0 (And.intro c1 c2))
 have HBL := a0_ hblw
 have hz0 : ¬ (nl : Int) < 1 := by omega
 have hz1 : (0 : Int) < (nl : Int) := by omega
 have hz2 : decide ((nl : Int) < 1) = false := decide_eq_false hz0
 clear e0 c0 c1 c2 hans hfold hblw hnl hsz hn
 have HB := kf_ w
 have V_l := a0_ hl
 clear hl
 have B_l := kf_ w
 have V_x := a0_ hx
 clear hx
 have B_x := kf_ w
 go_enter Try.func46, Try.ntmps46
 go_wp2_with (first | ((with_reducible refine gd_ 4 rfl ?_); refine bx_ (N := 4) #[.bool false, .slice none 0 0, .slice none 0 0] 30 ?_; intro g_r hg w101 hbox hb; have G_r := kb_g HB hg; have O_r_l := kb_g B_l hg; have O_r_x := kb_g B_x hg; replace HB := kb_b HB hb; replace B_l := kb_b B_l hb; replace B_x := kb_b B_x hb; clear hb; have V_r := a0_ hbox; have B_r := kf_ w101; have N_r := nf_ g_r; clear hbox hg) | ((with_reducible refine gd_ 13 rfl ?_); refine load_at rfl rfl (g := bl) (k := ol) rfl (Kb.cell (S := fun k => False) C0.out.1 B_l.out (fun h => h)) (Kb.cell (S := fun k => False) C0.out.2.1 B_l.out (fun h => h)) (Kb.cell (S := fun k => False) C0.out.2.2 B_l.out (fun h => h)) ?_) | ((with_reducible refine gd_ 5 rfl ?_); refine bx_ (N := 5) #[.bool false, .slice none 0 0, .slice none 0 0] 30 ?_; intro g_m hg w102 hbox hb; have G_m := kb_g HB hg; have O_m_l := kb_g B_l hg; have O_m_x := kb_g B_x hg; have O_m_r := kb_g B_r hg; replace HB := kb_b HB hb; replace B_l := kb_b B_l hb; replace B_x := kb_b B_x hb; replace B_r := kb_b B_r hb; clear hb; have V_m := a0_ hbox; have B_m := kf_ w102; have N_m := nf_ g_m; clear hbox hg) | ((with_reducible refine gt_ 30 5 13 rfl ?_); refine store_ev (p := .tmp 5) (v := .tmp 13) rfl rfl rfl (g := g_m) rfl rfl (bk_ V_m B_m N_m) ?_; intro w103 hbox hk; replace HB := kb_o HB hk G_m; replace B_l := kb_o B_l hk O_m_l; replace B_x := kb_o B_x hk O_m_x; replace B_r := kb_o B_r hk O_m_r; clear V_m B_m; have V_m := a0_ hbox; have B_m := kf_ w103; clear hbox hk))
 go_loopg [6] nl (fun kg v6 wr => ∃ (k : Nat) (cur : Rat) (tx : Bool) (Ax : Option Addr) (nx cx : Nat) (Dx : Option Addr) (kx zx : Nat), v6 = .int .i64 k ∧ Aside0 (0 < k ∧ k + kg = nl + 1 ∧ (qs.drop k).foldl (extF false) cur = ans) ∧ Aside0 (IsR (fun j => okl j ∧ j < w.heap.size) w (.agg #[.bool tx, .slice Ax nx cx, .slice Dx kx zx]) cur) ∧ Aside0 (wr.heap[g_m]? = some (.cells #[.bool tx, .slice Ax nx cx, .slice Dx kx zx] 30 (0, 0))) ∧ Aside0 (Kb (fun k => False) w101 wr) ∧ Aside0 (Kb (fun k => False) w wr))
 case atStart => exact ⟨1, qs.getD 0 0, tx, Ax, nx, cx, Dx, kx, zx, rfl, ⟨by omega, by omega, HFO.out⟩, V_x, V_m, B_r, HB⟩
 case round =>
  obtain ⟨k, cur, tx, Ax, nx, cx, Dx, kx, zx, rfl, HK, HX, HM, HR, HB2⟩ := hrel
  clear V_x B_x V_m B_m B_r HB B_l C0
  have HB := HB2
  clear HB2
  have B_l := HB
  have V_x := HX
  have B_x := HB
  have B_r := HR
  have V_m := HM
  have B_m := kf_ wr
  clear HX HR HM
  by_cases hlt : k < nl
  · have hz : (k : Int) < (nl : Int) := by omega
    have hk0 : (0 : Int) ≤ (k : Int) := by omega
    obtain ⟨ty, Ay, ny, cy, Dy, ky, zy, hy, c0, c1, c2⟩ := RowQ.get V_l.out k (by rw [← HNL.out.1]; exact hlt)
    have C1 := a0_ (And.intro c0 (And.intro c1 c2))
    clear c0 c1 c2
    have V_y := a0_ hy
    clear hy
    have B_y := HB
    have O_m_y := G_m
    have e1 : IntKind.i64.wrap ((k : Int) + 1) = ((k + 1 : Nat) : Int) := (i64_w _).trans ((w64 (by have := HNL.out.2.1; omega) (by have := HNL.out.2.1; omega)).trans (by omega))
    obtain ⟨cv, hcv⟩ : ∃ c : Int, c = (if qs.getD k 0 < cur then -1 else if qs.getD k 0 = cur then 0 else 1) := ⟨_, rfl⟩
    have HCV := a0_ hcv
    clear hcv
    go_wp2_with fail
    have hb : Below wr.heap.size wr wr.drew := below_drew1 (Below.refl _ _)
    replace HB := kb_b HB hb
    replace B_l := kb_b B_l hb
    replace B_x := kb_b B_x hb
    replace B_r := kb_b B_r hb
    replace B_m := kb_b B_m hb
    replace B_y := kb_b B_y hb
    clear hb
    refine start_ (n := 8) (S := fun w' => (w'.cell? ⟨bl, (ol + k * 3), none⟩ = some (.bool ty) ∧ w'.cell? ⟨bl, (ol + k * 3) + 1, none⟩ = some (.slice Ay ny cy) ∧ w'.cell? ⟨bl, (ol + k * 3) + 2, none⟩ = some (.slice Dy ky zy)) ∧ w'.heap[g_m]? = some (.cells #[.bool tx, .slice Ax nx cx, .slice Dx kx zx] 30 (0, 0))) (ds := []) (tB_ 8 0) (by kernel_rfl) rfl (by kernel_rfl) ⟨⟨(Kb.cell (S := fun k => False) C1.out.1 B_l.out (fun h => h)), (Kb.cell (S := fun k => False) C1.out.2.1 B_l.out (fun h => h)), (Kb.cell (S := fun k => False) C1.out.2.2 B_l.out (fun h => h))⟩, bk_ V_m B_m N_m⟩ (fun hHeld => ?_)
    refine with_tabW Extfalse.tab7 Extfalse.bits7 (fun HT_ HW_ => ?_)
    generalize wr.drew = w105 at HB B_l B_x B_r B_m B_y hHeld ⊢
    refine pu_ 0 (some 20) 1 HT_ ?_
    refine pu_ 1 (some 21) 3 HT_ ?_
    refine pu_ 2 (some 22) 7 HT_ ?_
    refine pu_ 3 (some 23) 15 HT_ ?_
    refine tk_ 4 (some 24) 31 HT_ HW_ hHeld ?_ ?_ ?_ ?_ ?_
    rotate_left
    · intro w' hs
      have hb_ := hs.1
      obtain ⟨c0_, c1_, c2_⟩ := hb_
      clear hs
      go_simp
      with_reducible rfl
    rotate_left
    · simp only [PU]
      rfl
    refine tk_ 5 (some 25) 63 HT_ HW_ hHeld ?_ ?_ ?_ ?_ ?_
    rotate_left
    · intro w' hs
      have hb_ := hs.2
      obtain ⟨c0_, c1_, c2_⟩ := b3_ hb_
      clear hb_ hs
      go_simp
      with_reducible rfl
    rotate_left
    · simp only [PU]
      rfl
    refine on_ 6 (some 26) 127 HT_ (fun K hK => ?_)
    refine goesv_ Try.func39 (by kernel_rfl) rfl #[.agg #[.bool ty, .slice Ay ny cy, .slice Dy ky zy], .agg #[.bool tx, .slice Ax nx cx, .slice Dx kx zx]] (by rfl) rfl rfl (by go_simp) (by (try simp only [List.map_toArray, List.map_cons, List.map_nil]); first | done | rfl) ?_
    refine (cmp_as (wcompare_calls (qs.getD k 0) cur _ _ _ (IsR.kb (S := fun k => False) V_y.out B_y.out (fun _ _ h => h)) (IsR.kb (S := fun k => False) V_x.out B_x.out (fun _ _ h => h))) HCV.out).mono ?_
    rintro e w106 ⟨rfl, hb⟩
    refine ⟨_, rfl, ?_⟩
    refine hK.out _ _ (by exact ⟨⟨pw_cell_below hb hHeld.1.1, pw_cell_below hb hHeld.1.2.1, pw_cell_below hb hHeld.1.2.2⟩, blk_below hHeld.2 hb⟩) (fun hHeld => ?_)
    clear hK K
    refine nm_ (some 26) ?_
    replace HB := kb_b HB hb
    replace B_l := kb_b B_l hb
    replace B_x := kb_b B_x hb
    replace B_r := kb_b B_r hb
    replace B_m := kb_b B_m hb
    replace B_y := kb_b B_y hb
    clear hb
    refine pu_ 7 (some 27) 255 HT_ ?_
    refine do_ HT_ ?_
    clear HT_ HW_ hHeld
    by_cases hc : cv < 0
    · skip
      have hst := ext_false_yes qs k cur ans _ (by rw [← HNL.out.1]; exact hlt) HK.out.2.2 HCV.out hc
      have HST := a0_ hst
      clear hst
      go_wp2_with (first | ((with_reducible refine gd_ 31 rfl ?_); refine load_at rfl rfl (g := bl) (k := (ol + k * 3)) rfl (Kb.cell (S := fun k => False) C1.out.1 B_l.out (fun h => h)) (Kb.cell (S := fun k => False) C1.out.2.1 B_l.out (fun h => h)) (Kb.cell (S := fun k => False) C1.out.2.2 B_l.out (fun h => h)) ?_) | ((with_reducible refine gt_ 30 5 31 rfl ?_); refine store_ev (p := .tmp 5) (v := .tmp 31) rfl rfl rfl (g := g_m) rfl rfl (bk_ V_m B_m N_m) ?_; intro w107 hbox hk; replace HB := kb_o HB hk G_m; replace B_l := kb_o B_l hk O_m_l; replace B_x := kb_o B_x hk O_m_x; replace B_r := kb_o B_r hk O_m_r; replace B_y := kb_o B_y hk O_m_y; clear V_m B_m; have V_m := a0_ hbox; have B_m := kf_ w107; clear hbox hk))
      go_roundg (nl - k)
      case measure => have := HK.out.2.1; omega
      case rel => exact ⟨k + 1, qs.getD k 0, ty, Ay, ny, cy, Dy, ky, zy, by first | rfl | rw [e1], ⟨by omega, by have := HK.out.2.1; omega, HST.out⟩, V_y, V_m, B_r, HB⟩
    · skip
      have hst := ext_false_no qs k cur ans _ (by rw [← HNL.out.1]; exact hlt) HK.out.2.2 HCV.out hc
      have HST := a0_ hst
      clear hst
      go_wp2_with fail
      go_roundg (nl - k)
      case measure => have := HK.out.2.1; omega
      case rel => exact ⟨k + 1, cur, tx, Ax, nx, cx, Dx, kx, zx, by first | rfl | rw [e1], ⟨by omega, by have := HK.out.2.1; omega, HST.out⟩, V_x, ⟨Kb.blk V_m.out B_m.out (fun h => h)⟩, B_r, HB⟩
  · have hz : ¬ (k : Int) < (nl : Int) := by omega
    have hcur : cur = ans := by have := HK.out.2.2; rwa [List.drop_of_length_le (by have := HNL.out.1; omega)] at this
    have HC := a0_ hcur
    clear hcur hlt
    go_wp2_with (first | ((with_reducible refine gd_ 32 rfl ?_); refine load_ev rfl rfl (g := g_m) rfl (bk_ V_m B_m N_m) ?_) | ((with_reducible refine gt_ 30 4 32 rfl ?_); refine store_ev (p := .tmp 4) (v := .tmp 32) rfl rfl rfl (g := g_r) rfl rfl (bk_ V_r B_r N_r) ?_; intro w105 hbox hk; replace HB := kb_o HB hk G_r; replace B_l := kb_o B_l hk O_r_l; replace B_x := kb_o B_x hk O_r_x; clear V_r B_r; have V_r := a0_ hbox; have B_r := kf_ w105; clear hbox hk))
    refine bodyPost_ret (results_cell_row rfl _ _ g_r 30 #[.bool tx, .slice Ax nx cx, .slice Dx kx zx] (0, 0) _ rfl (bk_ V_r B_r N_r) Try.underlying30 rfl (by kernel_rfl)) rfl ?_
    exact ⟨⟨_, rfl, by rw [← HC.out]; exact IsR.mono (IsR.kb V_x.out B_x.out (fun _ _ h => h)) (fun k h => h.1)⟩, (Kb.to_below HB.out (fun _ h => h.elim))⟩
def Exttrue.T7 : Bool × List (List Nat × List Nat) := (true, [([], []), ([], []), ([], []), ([1, 2], [1, 2]), ([3], [3]), ([], []), ([0, 4, 5], [0, 4, 5]), ([6], [6])])
def Exttrue.B7 : List Nat := [0, 0, 0, 6, 14, 0, 63, 127]
theorem Exttrue.tab7 : rtab .any (opsOf Try.f47 7) = Exttrue.T7 := by kernel_rfl
theorem Exttrue.bits7 : waitsOk Exttrue.T7.2 Exttrue.B7 = true := by kernel_rfl
theorem max_calls {okl : Nat → Prop} (qs : List Rat) (hn : 0 < qs.length) (hsz : qs.length ≤ 1000000) (w : World) (vl : Value) (hl : RowQ okl w vl qs) :
 Calls Try.prog 47 #[vl, .func (.func 39) #[] #[]] w fun e w' => (∃ v, e = .returned v ∧ IsR okl w' v (extQ true qs)) ∧ Below w.heap.size w w' := by
 have hu30 := Try.underlying30
 obtain ⟨Al, cl, rfl⟩ := hl.slice
 obtain ⟨nl, hnl⟩ : ∃ nl, nl = qs.length := ⟨_, rfl⟩
 obtain ⟨ans, hans⟩ : ∃ a, a = extQ true qs := ⟨_, rfl⟩
 rw [← hans]
 have hfold := extQ_get true qs hn
 rw [← hans] at hfold
 have hl := RowQ.mono' (ok' := fun j => okl j ∧ j < w.heap.size) hl (fun k h1 h2 => ⟨h1, h2⟩)
 rw [← hnl] at hl hsz hn ⊢
 obtain ⟨bl, ol, rfl⟩ := RowQ.some_ hl hn
 have hblw := (RowQ.okb hl hn).2
 have HNL := a0_ (And.intro hnl (And.intro hsz hn))
 have HFO := a0_ hfold
 obtain ⟨tx, Ax, nx, cx, Dx, kx, zx, hx, c0, c1, c2⟩ := RowQ.get hl 0 (by rw [← hnl]; exact hn)
 have e0 : ol + 0 * 3 = ol := by omega
 rw [e0] at c0 c1 c2
 have C0 := a0_ (And.intro c0 (And.intro c1 c2))
 have HBL := a0_ hblw
 have hz0 : ¬ (nl : Int) < 1 := by omega
 have hz1 : (0 : Int) < (nl : Int) := by omega
 have hz2 : decide ((nl : Int) < 1) = false := decide_eq_false hz0
 clear e0 c0 c1 c2 hans hfold hblw hnl hsz hn
 have HB := kf_ w
 have V_l := a0_ hl
 clear hl
 have B_l := kf_ w
 have V_x := a0_ hx
 clear hx
 have B_x := kf_ w
 go_enter Try.func47, Try.ntmps47
 go_wp2_with (first | ((with_reducible refine gd_ 4 rfl ?_); refine bx_ (N := 4) #[.bool false, .slice none 0 0, .slice none 0 0] 30 ?_; intro g_r hg w101 hbox hb; have G_r := kb_g HB hg; have O_r_l := kb_g B_l hg; have O_r_x := kb_g B_x hg; replace HB := kb_b HB hb; replace B_l := kb_b B_l hb; replace B_x := kb_b B_x hb; clear hb; have V_r := a0_ hbox; have B_r := kf_ w101; have N_r := nf_ g_r; clear hbox hg) | ((with_reducible refine gd_ 13 rfl ?_); refine load_at rfl rfl (g := bl) (k := ol) rfl (Kb.cell (S := fun k => False) C0.out.1 B_l.out (fun h => h)) (Kb.cell (S := fun k => False) C0.out.2.1 B_l.out (fun h => h)) (Kb.cell (S := fun k => False) C0.out.2.2 B_l.out (fun h => h)) ?_) | ((with_reducible refine gd_ 5 rfl ?_); refine bx_ (N := 5) #[.bool false, .slice none 0 0, .slice none 0 0] 30 ?_; intro g_m hg w102 hbox hb; have G_m := kb_g HB hg; have O_m_l := kb_g B_l hg; have O_m_x := kb_g B_x hg; have O_m_r := kb_g B_r hg; replace HB := kb_b HB hb; replace B_l := kb_b B_l hb; replace B_x := kb_b B_x hb; replace B_r := kb_b B_r hb; clear hb; have V_m := a0_ hbox; have B_m := kf_ w102; have N_m := nf_ g_m; clear hbox hg) | ((with_reducible refine gt_ 30 5 13 rfl ?_); refine store_ev (p := .tmp 5) (v := .tmp 13) rfl rfl rfl (g := g_m) rfl rfl (bk_ V_m B_m N_m) ?_; intro w103 hbox hk; replace HB := kb_o HB hk G_m; replace B_l := kb_o B_l hk O_m_l; replace B_x := kb_o B_x hk O_m_x; replace B_r := kb_o B_r hk O_m_r; clear V_m B_m; have V_m := a0_ hbox; have B_m := kf_ w103; clear hbox hk))
 go_loopg [6] nl (fun kg v6 wr => ∃ (k : Nat) (cur : Rat) (tx : Bool) (Ax : Option Addr) (nx cx : Nat) (Dx : Option Addr) (kx zx : Nat), v6 = .int .i64 k ∧ Aside0 (0 < k ∧ k + kg = nl + 1 ∧ (qs.drop k).foldl (extF true) cur = ans) ∧ Aside0 (IsR (fun j => okl j ∧ j < w.heap.size) w (.agg #[.bool tx, .slice Ax nx cx, .slice Dx kx zx]) cur) ∧ Aside0 (wr.heap[g_m]? = some (.cells #[.bool tx, .slice Ax nx cx, .slice Dx kx zx] 30 (0, 0))) ∧ Aside0 (Kb (fun k => False) w101 wr) ∧ Aside0 (Kb (fun k => False) w wr))
 case atStart => exact ⟨1, qs.getD 0 0, tx, Ax, nx, cx, Dx, kx, zx, rfl, ⟨by omega, by omega, HFO.out⟩, V_x, V_m, B_r, HB⟩
 case round =>
  obtain ⟨k, cur, tx, Ax, nx, cx, Dx, kx, zx, rfl, HK, HX, HM, HR, HB2⟩ := hrel
  clear V_x B_x V_m B_m B_r HB B_l C0
  have HB := HB2
  clear HB2
  have B_l := HB
  have V_x := HX
  have B_x := HB
  have B_r := HR
  have V_m := HM
  have B_m := kf_ wr
  clear HX HR HM
  by_cases hlt : k < nl
  · have hz : (k : Int) < (nl : Int) := by omega
    have hk0 : (0 : Int) ≤ (k : Int) := by omega
    obtain ⟨ty, Ay, ny, cy, Dy, ky, zy, hy, c0, c1, c2⟩ := RowQ.get V_l.out k (by rw [← HNL.out.1]; exact hlt)
    have C1 := a0_ (And.intro c0 (And.intro c1 c2))
    clear c0 c1 c2
    have V_y := a0_ hy
    clear hy
    have B_y := HB
    have O_m_y := G_m
    have e1 : IntKind.i64.wrap ((k : Int) + 1) = ((k + 1 : Nat) : Int) := (i64_w _).trans ((w64 (by have := HNL.out.2.1; omega) (by have := HNL.out.2.1; omega)).trans (by omega))
    obtain ⟨cv, hcv⟩ : ∃ c : Int, c = (if qs.getD k 0 < cur then -1 else if qs.getD k 0 = cur then 0 else 1) := ⟨_, rfl⟩
    have HCV := a0_ hcv
    clear hcv
    go_wp2_with fail
    have hb : Below wr.heap.size wr wr.drew := below_drew1 (Below.refl _ _)
    replace HB := kb_b HB hb
    replace B_l := kb_b B_l hb
    replace B_x := kb_b B_x hb
    replace B_r := kb_b B_r hb
    replace B_m := kb_b B_m hb
    replace B_y := kb_b B_y hb
    clear hb
    refine start_ (n := 8) (S := fun w' => (w'.cell? ⟨bl, (ol + k * 3), none⟩ = some (.bool ty) ∧ w'.cell? ⟨bl, (ol + k * 3) + 1, none⟩ = some (.slice Ay ny cy) ∧ w'.cell? ⟨bl, (ol + k * 3) + 2, none⟩ = some (.slice Dy ky zy)) ∧ w'.heap[g_m]? = some (.cells #[.bool tx, .slice Ax nx cx, .slice Dx kx zx] 30 (0, 0))) (ds := []) (tB_ 8 0) (by kernel_rfl) rfl (by kernel_rfl) ⟨⟨(Kb.cell (S := fun k => False) C1.out.1 B_l.out (fun h => h)), (Kb.cell (S := fun k => False) C1.out.2.1 B_l.out (fun h => h)), (Kb.cell (S := fun k => False) C1.out.2.2 B_l.out (fun h => h))⟩, bk_ V_m B_m N_m⟩ (fun hHeld => ?_)
    refine with_tabW Exttrue.tab7 Exttrue.bits7 (fun HT_ HW_ => ?_)
    generalize wr.drew = w105 at HB B_l B_x B_r B_m B_y hHeld ⊢
    refine pu_ 0 (some 20) 1 HT_ ?_
    refine pu_ 1 (some 21) 3 HT_ ?_
    refine pu_ 2 (some 22) 7 HT_ ?_
    refine pu_ 3 (some 23) 15 HT_ ?_
    refine tk_ 4 (some 24) 31 HT_ HW_ hHeld ?_ ?_ ?_ ?_ ?_
    rotate_left
    · intro w' hs
      have hb_ := hs.1
      obtain ⟨c0_, c1_, c2_⟩ := hb_
      clear hs
      go_simp
      with_reducible rfl
    rotate_left
    · simp only [PU]
      rfl
    refine tk_ 5 (some 25) 63 HT_ HW_ hHeld ?_ ?_ ?_ ?_ ?_
    rotate_left
    · intro w' hs
      have hb_ := hs.2
      obtain ⟨c0_, c1_, c2_⟩ := b3_ hb_
      clear hb_ hs
      go_simp
      with_reducible rfl
    rotate_left
    · simp only [PU]
      rfl
    refine on_ 6 (some 26) 127 HT_ (fun K hK => ?_)
    refine goesv_ Try.func39 (by kernel_rfl) rfl #[.agg #[.bool ty, .slice Ay ny cy, .slice Dy ky zy], .agg #[.bool tx, .slice Ax nx cx, .slice Dx kx zx]] (by rfl) rfl rfl (by go_simp) (by (try simp only [List.map_toArray, List.map_cons, List.map_nil]); first | done | rfl) ?_
    refine (cmp_as (wcompare_calls (qs.getD k 0) cur _ _ _ (IsR.kb (S := fun k => False) V_y.out B_y.out (fun _ _ h => h)) (IsR.kb (S := fun k => False) V_x.out B_x.out (fun _ _ h => h))) HCV.out).mono ?_
    rintro e w106 ⟨rfl, hb⟩
    refine ⟨_, rfl, ?_⟩
    refine hK.out _ _ (by exact ⟨⟨pw_cell_below hb hHeld.1.1, pw_cell_below hb hHeld.1.2.1, pw_cell_below hb hHeld.1.2.2⟩, blk_below hHeld.2 hb⟩) (fun hHeld => ?_)
    clear hK K
    refine nm_ (some 26) ?_
    replace HB := kb_b HB hb
    replace B_l := kb_b B_l hb
    replace B_x := kb_b B_x hb
    replace B_r := kb_b B_r hb
    replace B_m := kb_b B_m hb
    replace B_y := kb_b B_y hb
    clear hb
    refine pu_ 7 (some 27) 255 HT_ ?_
    refine do_ HT_ ?_
    clear HT_ HW_ hHeld
    by_cases hc : 0 < cv
    · skip
      have hst := ext_true_yes qs k cur ans _ (by rw [← HNL.out.1]; exact hlt) HK.out.2.2 HCV.out hc
      have HST := a0_ hst
      clear hst
      go_wp2_with (first | ((with_reducible refine gd_ 31 rfl ?_); refine load_at rfl rfl (g := bl) (k := (ol + k * 3)) rfl (Kb.cell (S := fun k => False) C1.out.1 B_l.out (fun h => h)) (Kb.cell (S := fun k => False) C1.out.2.1 B_l.out (fun h => h)) (Kb.cell (S := fun k => False) C1.out.2.2 B_l.out (fun h => h)) ?_) | ((with_reducible refine gt_ 30 5 31 rfl ?_); refine store_ev (p := .tmp 5) (v := .tmp 31) rfl rfl rfl (g := g_m) rfl rfl (bk_ V_m B_m N_m) ?_; intro w107 hbox hk; replace HB := kb_o HB hk G_m; replace B_l := kb_o B_l hk O_m_l; replace B_x := kb_o B_x hk O_m_x; replace B_r := kb_o B_r hk O_m_r; replace B_y := kb_o B_y hk O_m_y; clear V_m B_m; have V_m := a0_ hbox; have B_m := kf_ w107; clear hbox hk))
      go_roundg (nl - k)
      case measure => have := HK.out.2.1; omega
      case rel => exact ⟨k + 1, qs.getD k 0, ty, Ay, ny, cy, Dy, ky, zy, by first | rfl | rw [e1], ⟨by omega, by have := HK.out.2.1; omega, HST.out⟩, V_y, V_m, B_r, HB⟩
    · skip
      have hst := ext_true_no qs k cur ans _ (by rw [← HNL.out.1]; exact hlt) HK.out.2.2 HCV.out hc
      have HST := a0_ hst
      clear hst
      go_wp2_with fail
      go_roundg (nl - k)
      case measure => have := HK.out.2.1; omega
      case rel => exact ⟨k + 1, cur, tx, Ax, nx, cx, Dx, kx, zx, by first | rfl | rw [e1], ⟨by omega, by have := HK.out.2.1; omega, HST.out⟩, V_x, ⟨Kb.blk V_m.out B_m.out (fun h => h)⟩, B_r, HB⟩
  · have hz : ¬ (k : Int) < (nl : Int) := by omega
    have hcur : cur = ans := by have := HK.out.2.2; rwa [List.drop_of_length_le (by have := HNL.out.1; omega)] at this
    have HC := a0_ hcur
    clear hcur hlt
    go_wp2_with (first | ((with_reducible refine gd_ 32 rfl ?_); refine load_ev rfl rfl (g := g_m) rfl (bk_ V_m B_m N_m) ?_) | ((with_reducible refine gt_ 30 4 32 rfl ?_); refine store_ev (p := .tmp 4) (v := .tmp 32) rfl rfl rfl (g := g_r) rfl rfl (bk_ V_r B_r N_r) ?_; intro w105 hbox hk; replace HB := kb_o HB hk G_r; replace B_l := kb_o B_l hk O_r_l; replace B_x := kb_o B_x hk O_r_x; clear V_r B_r; have V_r := a0_ hbox; have B_r := kf_ w105; clear hbox hk))
    refine bodyPost_ret (results_cell_row rfl _ _ g_r 30 #[.bool tx, .slice Ax nx cx, .slice Dx kx zx] (0, 0) _ rfl (bk_ V_r B_r N_r) Try.underlying30 rfl (by kernel_rfl)) rfl ?_
    exact ⟨⟨_, rfl, by rw [← HC.out]; exact IsR.mono (IsR.kb V_x.out B_x.out (fun _ _ h => h)) (fun k h => h.1)⟩, (Kb.to_below HB.out (fun _ h => h.elim))⟩
theorem RowS.okb {ok : Nat → Prop} {w : World} {b o n c : Nat} {ss : List Smp} (h : RowS ok w (.slice (some ⟨b, o, none⟩) n c) ss) (h0 : 0 < n) : ok b := by
 obtain ⟨ad, cs, he, hlen, hK, hc, hok⟩ := Kd.F_get (Kd.V_F h) ⟨0, 0, none⟩ 0 (by omega) (by omega)
 injection he with he
 subst he
 exact hok (by decide)
theorem ValS.get {ss : List Smp} {qs : List Rat} (h : ValS ss qs) (i : Nat) (hi : i < ss.length) : (ss.getD i ⟨0, 0, none⟩).q = some (qs.getD i 0) := h.2 i hi
theorem run8_calls {okl : Nat → Prop} (rb : Nat) (over : Int) (ss : List Smp) (qs : List Rat) (hn0 : 0 < ss.length) (hsz : ss.length ≤ 1000000) (w : World) (tq : Bool) (Aq : Option Addr) (nq cq : Nat) (Dq : Option Addr) (kq zq : Nat) (vl : Value) (hr : Rk w rb false) (hl : RowS okl w vl ss) (hok : ∀ k, okl k → k ≠ rb) (hvs : ValS ss qs) :
 Calls Try.prog 30 #[.pointer (some ⟨rb, 0, none⟩), .int .i64 8, .int .i64 over, .agg #[.bool tq, .slice Aq nq cq, .slice Dq kq zq], vl] w fun e w' => ∃ v, e = .returned v ∧ Res (fun k => okl k ∨ w.heap.size ≤ k) w' v (some (extQ false qs)) ∧ Rk w' rb (some (extQ false qs)).isNone ∧ Kb (fun k => k = rb) w w' := by
 obtain ⟨ans, hans⟩ : ∃ a, a = some (extQ false qs) := ⟨_, rfl⟩
 rw [← hans]
 have HANS := a0_ hans
 clear hans
 have hu30 := Try.underlying30
 have hu39 := Try.underlying39
 obtain ⟨Al, cl, rfl⟩ := hl.slice
 obtain ⟨nl, hnl⟩ : ∃ nl, nl = ss.length := ⟨_, rfl⟩
 rw [← hnl] at hl hn0 hsz ⊢
 have HNL := a0_ (And.intro hnl (And.intro hn0 hsz))
 have hl2 : RowS (fun k => k ≠ rb ∧ (okl k ∧ k < w.heap.size)) w (.slice Al nl cl) ss := RowS.mono' hl (fun k h1 h2 => ⟨hok k h1, h1, h2⟩)
 have HOKL := a0_ hok
 clear hnl hl hok
 have HB := kr_ rb w
 have HL := a0_ (Rk.lt hr)
 have RK := a0_ hr
 clear hr
 have V_l := a0_ hl2
 clear hl2
 have B_l := kr_ rb w
 clear hn0 hsz
 go_enter Try.func30, Try.ntmps30
 go_wp2_with (first | ((with_reducible refine gd_ 8 rfl ?_); refine bx_ (N := 8) #[.bool tq, .slice Aq nq cq, .slice Dq kq zq] 30 ?_; intro g_q hg w101 hbox hb; have G_q := kb_g HB hg; replace HB := kb_b HB hb; replace B_l := kb_b B_l hb; replace RK := rk_b RK hb; clear hb; have V_q := a0_ hbox; have B_q := kr_ rb w101; have N_q : Aside0 (¬ (fun k => k = rb) g_q) := ⟨by show ¬ (_ = _); have := HL.out; have := G_q.out; omega⟩; clear hbox hg) | ((with_reducible refine gd_ 10 rfl ?_); refine bx_ (N := 10) #[.bool false, .slice none 0 0, .slice none 0 0] 30 ?_; intro g_r hg w102 hbox hb; have G_r := kb_g HB hg; replace HB := kb_b HB hb; replace B_l := kb_b B_l hb; replace B_q := kb_b B_q hb; replace RK := rk_b RK hb; clear hb; have V_r := a0_ hbox; have B_r := kr_ rb w102; have N_r : Aside0 (¬ (fun k => k = rb) g_r) := ⟨by show ¬ (_ = _); have := HL.out; have := G_r.out; omega⟩; clear hbox hg))
 with_reducible refine (qofn_calls nl HNL.out.2.2 _).mono ?_
 rintro e w103 ⟨⟨v, rfl, hv⟩, hb⟩
 obtain ⟨tn, An, nn, cn, Dn, kn, zn, rfl⟩ := hv.agg
 have hle := Kb.size HB.out
 have hl_r := blk_lt (bk_ V_r B_r N_r)
 have hv_ := IsR.mono' (ok' := fun k => k ≠ rb ∧ k ≠ g_r ∧ w.heap.size ≤ k) hv (fun k hk _ => by have := HL.out; refine ⟨?_, ?_, ?_⟩ <;> omega)
 clear hv hle hl_r
 replace HB := kb_b HB hb
 replace B_l := kb_b B_l hb
 replace B_q := kb_b B_q hb
 replace B_r := kb_b B_r hb
 replace RK := rk_b RK hb
 clear hb
 have V_vn := a0_ hv_
 clear hv_
 have B_vn := a0_ (Kb.refl (fun k => k = rb ∨ k = g_r) w103)
 go_wp2_with (first | ((with_reducible refine gd_ 11 rfl ?_); refine bx_ (N := 11) #[.bool false, .slice none 0 0, .slice none 0 0] 30 ?_; intro g_n hg w104 hbox hb; have G_n := kb_g HB hg; have O_n_l := kb_g B_l hg; have O_n_q := kb_g B_q hg; have O_n_r := kb_g B_r hg; have O_n_vn := kb_g B_vn hg; replace HB := kb_b HB hb; replace B_l := kb_b B_l hb; replace B_q := kb_b B_q hb; replace B_r := kb_b B_r hb; replace B_vn := kb_b B_vn hb; replace RK := rk_b RK hb; clear hb; have V_n := a0_ hbox; have B_n := kr_ rb w104; have N_n : Aside0 (¬ (fun k => k = rb) g_n) := ⟨by show ¬ (_ = _); have := HL.out; have := G_n.out; omega⟩; clear hbox hg) | ((with_reducible refine gt_ 30 11 14 rfl ?_); refine store_ev (p := .tmp 11) (v := .tmp 14) rfl rfl rfl (g := g_n) rfl rfl (bk_ V_n B_n N_n) ?_; intro w105 hbox hk; replace HB := kb_o HB hk G_n; replace B_l := kb_o B_l hk O_n_l; replace B_q := kb_o B_q hk O_n_q; replace B_r := kb_o B_r hk O_n_r; replace B_vn := kb_o B_vn hk O_n_vn; have Z_ := a0_ (Rk.kb RK.out hk (by have := HL.out; have := G_n.out; omega)); clear RK; have RK := Z_; clear Z_; clear V_n B_n; have V_n := a0_ hbox; have B_n := kr_ rb w105; clear hbox hk))
 clear V_vn B_vn
 with_reducible refine (each_value ss qs hvs (by rw [← HNL.out.1]; exact HNL.out.2.2) _ _ (RowS.kb (S := fun k => k = rb) V_l.out B_l.out (fun k h hs => absurd hs h.1))).mono ?_
 rintro e w106 ⟨⟨v, rfl, hv⟩, hb⟩
 obtain ⟨Ae, ce, rfl⟩ := RowQ.slice hv
 have hle := Kb.size HB.out
 have hlr := blk_lt (bk_ V_r B_r N_r)
 have hv_ := RowQ.mono' (ok' := fun k => k ≠ rb ∧ k ≠ g_r ∧ (okl k ∨ w.heap.size ≤ k)) hv (fun k hk _ => by
  have := HL.out
  have h3 := G_r.out
  rcases hk with hk | hk
  · exact ⟨hk.1, fun e => by have := hk.2.2; omega, Or.inl hk.2.1⟩
  · exact ⟨by omega, by omega, Or.inr (by omega)⟩)
 clear hv hle hlr
 replace HB := kb_b HB hb
 replace B_l := kb_b B_l hb
 replace B_q := kb_b B_q hb
 replace B_r := kb_b B_r hb
 replace B_n := kb_b B_n hb
 replace RK := rk_b RK hb
 clear hb
 have V_e := a0_ hv_
 clear hv_
 have B_e := a0_ (Kb.refl (fun k => k = rb ∨ k = g_r) w106)
 go_wp2_with fail
 with_reducible refine (min_calls qs (by rw [ValS.len hvs, ← HNL.out.1]; exact HNL.out.2.1) (by rw [ValS.len hvs, ← HNL.out.1]; exact HNL.out.2.2) _ _ (RowQ.kb (S := fun k => k = rb ∨ k = g_r) V_e.out B_e.out (fun k h hs => hs.elim h.1 h.2.1))).mono ?_
 rintro e w107 ⟨⟨v, rfl, hv⟩, hb⟩
 obtain ⟨tv, Av, nv, cv, Dv, kv, zv, rfl⟩ := hv.agg
 replace HB := kb_b HB hb
 replace B_l := kb_b B_l hb
 replace B_q := kb_b B_q hb
 replace B_r := kb_b B_r hb
 replace B_n := kb_b B_n hb
 replace B_e := kb_b B_e hb
 replace RK := rk_b RK hb
 clear hb
 have V_v := a0_ hv
 clear hv
 have B_v := a0_ (Kb.refl (fun k => k = rb ∨ k = g_r) w107)
 clear V_l B_l
 clear V_e B_e
 clear V_q B_q
 clear V_n B_n
 go_wp2_with (first | ((with_reducible refine gt_ 30 10 59 rfl ?_); refine store_ev (p := .tmp 10) (v := .tmp 59) rfl rfl rfl (g := g_r) rfl rfl (bk_ V_r B_r N_r) ?_; intro w108 hbox hk; replace HB := kb_o HB hk G_r; replace B_v := kb_t B_v hk (fun i hi => by exact Or.inl (Or.inr hi)); have Z_ := a0_ (Rk.kb RK.out hk (by have := HL.out; have := G_r.out; omega)); clear RK; have RK := Z_; clear Z_; clear V_r B_r; have V_r := a0_ hbox; have B_r := kr_ rb w108; clear hbox hk))
 have ha := HANS.out
 refine bodyPost_ret (results_cell_row rfl _ _ g_r 30 #[.bool tv, .slice Av nv cv, .slice Dv kv zv] (0, 0) _ rfl (bk_ V_r B_r N_r) Try.underlying30 rfl (by kernel_rfl)) rfl ?_
 exact ⟨_, rfl, by rw [ha]; exact ((IsR.mono (IsR.kb (S := fun k => k = rb ∨ k = g_r) V_v.out B_v.out (fun k h hs => hs.elim h.1 h.2.1)) (fun k h => h.2.2))), by rw [ha]; exact RK.out, HB.out⟩
theorem run9_calls {okl : Nat → Prop} (rb : Nat) (over : Int) (ss : List Smp) (qs : List Rat) (hn0 : 0 < ss.length) (hsz : ss.length ≤ 1000000) (w : World) (tq : Bool) (Aq : Option Addr) (nq cq : Nat) (Dq : Option Addr) (kq zq : Nat) (vl : Value) (hr : Rk w rb false) (hl : RowS okl w vl ss) (hok : ∀ k, okl k → k ≠ rb) (hvs : ValS ss qs) :
 Calls Try.prog 30 #[.pointer (some ⟨rb, 0, none⟩), .int .i64 9, .int .i64 over, .agg #[.bool tq, .slice Aq nq cq, .slice Dq kq zq], vl] w fun e w' => ∃ v, e = .returned v ∧ Res (fun k => okl k ∨ w.heap.size ≤ k) w' v (some (extQ true qs)) ∧ Rk w' rb (some (extQ true qs)).isNone ∧ Kb (fun k => k = rb) w w' := by
 obtain ⟨ans, hans⟩ : ∃ a, a = some (extQ true qs) := ⟨_, rfl⟩
 rw [← hans]
 have HANS := a0_ hans
 clear hans
 have hu30 := Try.underlying30
 have hu39 := Try.underlying39
 obtain ⟨Al, cl, rfl⟩ := hl.slice
 obtain ⟨nl, hnl⟩ : ∃ nl, nl = ss.length := ⟨_, rfl⟩
 rw [← hnl] at hl hn0 hsz ⊢
 have HNL := a0_ (And.intro hnl (And.intro hn0 hsz))
 have hl2 : RowS (fun k => k ≠ rb ∧ (okl k ∧ k < w.heap.size)) w (.slice Al nl cl) ss := RowS.mono' hl (fun k h1 h2 => ⟨hok k h1, h1, h2⟩)
 have HOKL := a0_ hok
 clear hnl hl hok
 have HB := kr_ rb w
 have HL := a0_ (Rk.lt hr)
 have RK := a0_ hr
 clear hr
 have V_l := a0_ hl2
 clear hl2
 have B_l := kr_ rb w
 clear hn0 hsz
 go_enter Try.func30, Try.ntmps30
 go_wp2_with (first | ((with_reducible refine gd_ 8 rfl ?_); refine bx_ (N := 8) #[.bool tq, .slice Aq nq cq, .slice Dq kq zq] 30 ?_; intro g_q hg w101 hbox hb; have G_q := kb_g HB hg; replace HB := kb_b HB hb; replace B_l := kb_b B_l hb; replace RK := rk_b RK hb; clear hb; have V_q := a0_ hbox; have B_q := kr_ rb w101; have N_q : Aside0 (¬ (fun k => k = rb) g_q) := ⟨by show ¬ (_ = _); have := HL.out; have := G_q.out; omega⟩; clear hbox hg) | ((with_reducible refine gd_ 10 rfl ?_); refine bx_ (N := 10) #[.bool false, .slice none 0 0, .slice none 0 0] 30 ?_; intro g_r hg w102 hbox hb; have G_r := kb_g HB hg; replace HB := kb_b HB hb; replace B_l := kb_b B_l hb; replace B_q := kb_b B_q hb; replace RK := rk_b RK hb; clear hb; have V_r := a0_ hbox; have B_r := kr_ rb w102; have N_r : Aside0 (¬ (fun k => k = rb) g_r) := ⟨by show ¬ (_ = _); have := HL.out; have := G_r.out; omega⟩; clear hbox hg))
 with_reducible refine (qofn_calls nl HNL.out.2.2 _).mono ?_
 rintro e w103 ⟨⟨v, rfl, hv⟩, hb⟩
 obtain ⟨tn, An, nn, cn, Dn, kn, zn, rfl⟩ := hv.agg
 have hle := Kb.size HB.out
 have hl_r := blk_lt (bk_ V_r B_r N_r)
 have hv_ := IsR.mono' (ok' := fun k => k ≠ rb ∧ k ≠ g_r ∧ w.heap.size ≤ k) hv (fun k hk _ => by have := HL.out; refine ⟨?_, ?_, ?_⟩ <;> omega)
 clear hv hle hl_r
 replace HB := kb_b HB hb
 replace B_l := kb_b B_l hb
 replace B_q := kb_b B_q hb
 replace B_r := kb_b B_r hb
 replace RK := rk_b RK hb
 clear hb
 have V_vn := a0_ hv_
 clear hv_
 have B_vn := a0_ (Kb.refl (fun k => k = rb ∨ k = g_r) w103)
 go_wp2_with (first | ((with_reducible refine gd_ 11 rfl ?_); refine bx_ (N := 11) #[.bool false, .slice none 0 0, .slice none 0 0] 30 ?_; intro g_n hg w104 hbox hb; have G_n := kb_g HB hg; have O_n_l := kb_g B_l hg; have O_n_q := kb_g B_q hg; have O_n_r := kb_g B_r hg; have O_n_vn := kb_g B_vn hg; replace HB := kb_b HB hb; replace B_l := kb_b B_l hb; replace B_q := kb_b B_q hb; replace B_r := kb_b B_r hb; replace B_vn := kb_b B_vn hb; replace RK := rk_b RK hb; clear hb; have V_n := a0_ hbox; have B_n := kr_ rb w104; have N_n : Aside0 (¬ (fun k => k = rb) g_n) := ⟨by show ¬ (_ = _); have := HL.out; have := G_n.out; omega⟩; clear hbox hg) | ((with_reducible refine gt_ 30 11 14 rfl ?_); refine store_ev (p := .tmp 11) (v := .tmp 14) rfl rfl rfl (g := g_n) rfl rfl (bk_ V_n B_n N_n) ?_; intro w105 hbox hk; replace HB := kb_o HB hk G_n; replace B_l := kb_o B_l hk O_n_l; replace B_q := kb_o B_q hk O_n_q; replace B_r := kb_o B_r hk O_n_r; replace B_vn := kb_o B_vn hk O_n_vn; have Z_ := a0_ (Rk.kb RK.out hk (by have := HL.out; have := G_n.out; omega)); clear RK; have RK := Z_; clear Z_; clear V_n B_n; have V_n := a0_ hbox; have B_n := kr_ rb w105; clear hbox hk))
 clear V_vn B_vn
 with_reducible refine (each_value ss qs hvs (by rw [← HNL.out.1]; exact HNL.out.2.2) _ _ (RowS.kb (S := fun k => k = rb) V_l.out B_l.out (fun k h hs => absurd hs h.1))).mono ?_
 rintro e w106 ⟨⟨v, rfl, hv⟩, hb⟩
 obtain ⟨Ae, ce, rfl⟩ := RowQ.slice hv
 have hle := Kb.size HB.out
 have hlr := blk_lt (bk_ V_r B_r N_r)
 have hv_ := RowQ.mono' (ok' := fun k => k ≠ rb ∧ k ≠ g_r ∧ (okl k ∨ w.heap.size ≤ k)) hv (fun k hk _ => by
  have := HL.out
  have h3 := G_r.out
  rcases hk with hk | hk
  · exact ⟨hk.1, fun e => by have := hk.2.2; omega, Or.inl hk.2.1⟩
  · exact ⟨by omega, by omega, Or.inr (by omega)⟩)
 clear hv hle hlr
 replace HB := kb_b HB hb
 replace B_l := kb_b B_l hb
 replace B_q := kb_b B_q hb
 replace B_r := kb_b B_r hb
 replace B_n := kb_b B_n hb
 replace RK := rk_b RK hb
 clear hb
 have V_e := a0_ hv_
 clear hv_
 have B_e := a0_ (Kb.refl (fun k => k = rb ∨ k = g_r) w106)
 go_wp2_with fail
 with_reducible refine (max_calls qs (by rw [ValS.len hvs, ← HNL.out.1]; exact HNL.out.2.1) (by rw [ValS.len hvs, ← HNL.out.1]; exact HNL.out.2.2) _ _ (RowQ.kb (S := fun k => k = rb ∨ k = g_r) V_e.out B_e.out (fun k h hs => hs.elim h.1 h.2.1))).mono ?_
 rintro e w107 ⟨⟨v, rfl, hv⟩, hb⟩
 obtain ⟨tv, Av, nv, cv, Dv, kv, zv, rfl⟩ := hv.agg
 replace HB := kb_b HB hb
 replace B_l := kb_b B_l hb
 replace B_q := kb_b B_q hb
 replace B_r := kb_b B_r hb
 replace B_n := kb_b B_n hb
 replace B_e := kb_b B_e hb
 replace RK := rk_b RK hb
 clear hb
 have V_v := a0_ hv
 clear hv
 have B_v := a0_ (Kb.refl (fun k => k = rb ∨ k = g_r) w107)
 clear V_l B_l
 clear V_e B_e
 clear V_q B_q
 clear V_n B_n
 go_wp2_with (first | ((with_reducible refine gt_ 30 10 64 rfl ?_); refine store_ev (p := .tmp 10) (v := .tmp 64) rfl rfl rfl (g := g_r) rfl rfl (bk_ V_r B_r N_r) ?_; intro w108 hbox hk; replace HB := kb_o HB hk G_r; replace B_v := kb_t B_v hk (fun i hi => by exact Or.inl (Or.inr hi)); have Z_ := a0_ (Rk.kb RK.out hk (by have := HL.out; have := G_r.out; omega)); clear RK; have RK := Z_; clear Z_; clear V_r B_r; have V_r := a0_ hbox; have B_r := kr_ rb w108; clear hbox hk))
 have ha := HANS.out
 refine bodyPost_ret (results_cell_row rfl _ _ g_r 30 #[.bool tv, .slice Av nv cv, .slice Dv kv zv] (0, 0) _ rfl (bk_ V_r B_r N_r) Try.underlying30 rfl (by kernel_rfl)) rfl ?_
 exact ⟨_, rfl, by rw [ha]; exact ((IsR.mono (IsR.kb (S := fun k => k = rb ∨ k = g_r) V_v.out B_v.out (fun k h hs => hs.elim h.1 h.2.1)) (fun k h => h.2.2))), by rw [ha]; exact RK.out, HB.out⟩
def May8.T9 : Bool × List (List Nat × List Nat) := (true, [([], []), ([0], [0]), ([1], [1]), ([2], [2]), ([3, 2, 2], [2, 3]), ([4, 2], [2, 4]), ([5, 4, 2], [2, 5]), ([6], [6]), ([7, 6], [6, 7]), ([8, 6], [6, 8]), ([6, 9, 2], [2, 6, 9]), ([10, 6, 2], [2, 10]), ([11], [11]), ([11, 11], [11]), ([12, 13, 13, 11], [11, 12, 13]), ([14, 11], [11, 14]), ([11, 15, 2], [2, 11, 15]), ([2, 16], [2, 16]), ([17, 14, 0, 1, 2, 3, 4, 5, 6, 7, 8, 9, 10, 11, 12, 13, 14, 15, 16, 17], [17])])
def May8.B9 : List Nat := [0, 1, 3, 7, 15, 31, 63, 127, 255, 511, 1023, 2047, 4095, 4095, 16383, 32767, 65535, 131071, 262143]
theorem May8.tab9 : rtab .any (opsOf Try.f29 9) = May8.T9 := by kernel_rfl
theorem May8.bits9 : waitsOk May8.T9.2 May8.B9 = true := by kernel_rfl
theorem may8_calls {okl : Nat → Prop} (over : Int) (h0 : 1 ≤ over) (h1 : over ≤ 9007199254740991) (ss : List Smp) (hby : ByS ss) (qs : List Rat) (hvs : ValS ss qs) (hsz : ss.length ≤ 1000000) (w : World) (tq : Bool) (Aq : Option Addr) (nq cq : Nat) (Dq : Option Addr) (kq zq : Nat) (vl : Value) (hl : RowS okl w vl ss) :
 Calls Try.prog 29 #[.int .i64 8, .int .i64 over, .agg #[.bool tq, .slice Aq nq cq, .slice Dq kq zq], vl] w fun e w' => e = .returned (.bool true) ∧ Below w.heap.size w w' := by
 have hu30 := Try.underlying30
 have hu39 := Try.underlying39
 obtain ⟨Al, cl, rfl⟩ := hl.slice
 obtain ⟨nl, hnl⟩ : ∃ nl, nl = ss.length := ⟨_, rfl⟩
 rw [← hnl] at hl hsz ⊢
 have HNL := a0_ (And.intro hnl hsz)
 have HBY := a0_ hby
 have e3 : ¬ over < 1 := by omega
 have e4 : ¬ 9007199254740991 < over := by omega
 clear hnl hby hsz h0 h1
 have HVS := a0_ hvs
 clear hvs
 have HB := kf_ w
 have V_l := a0_ hl
 clear hl
 have B_l := kf_ w
 go_enter Try.func29, Try.ntmps29
 go_wp2_with (first | ((with_reducible refine gd_ 6 rfl ?_); refine bx_ (N := 6) #[.bool tq, .slice Aq nq cq, .slice Dq kq zq] 30 ?_; intro g_q hg w101 hbox hb; have G_q := kb_g HB hg; replace HB := kb_b HB hb; replace B_l := kb_b B_l hb; clear hb; have V_q := a0_ hbox; have B_q := kf_ w101; have N_q := nf_ g_q; clear hbox hg))
 go_loopg [27] nl (fun kg v27 wr => ∃ (j : Nat), v27 = .int .i64 j ∧ Aside0 (j + kg = nl) ∧ Aside0 (Kb (fun k => False) w wr) ∧ Aside0 (Kb (fun k => False) w101 wr))
 case atStart => exact ⟨0, rfl, ⟨by omega⟩, HB, B_q⟩
 case round =>
  obtain ⟨j, rfl, HJ, HB2, HQB⟩ := hrel
  clear HB B_l B_q
  have HB := HB2
  clear HB2
  have B_l := HB
  have B_q := HQB
  clear HQB
  by_cases hlt : j < nl
  · have hz : (j : Int) < (nl : Int) := by omega
    have e1 : IntKind.i64.wrap ((j : Int) + 1) = ((j + 1 : Nat) : Int) := (i64_w _).trans ((w64 (by have := HNL.out.2; omega) (by have := HNL.out.2; omega)).trans (by omega))
    obtain ⟨bl, ol, rfl⟩ := RowS.some_ V_l.out (by omega)
    obtain ⟨ty, Ay, ny, cy, Dy, ky, zy, hy, c0, c1, c2, c3, c4⟩ := RowS.get (RowS.kb V_l.out B_l.out (fun _ _ h => h)) j (by rw [← HNL.out.1]; exact hlt)
    have C0 := a0_ (And.intro c0 (And.intro c1 (And.intro c2 (And.intro c3 c4))))
    clear c0 c1 c2 c3 c4
    have hbj := HBY.out j (by rw [← HNL.out.1]; exact hlt)
    obtain ⟨sa, hsa⟩ : ∃ x, x = (ss.getD j ⟨0, 0, none⟩).at_ := ⟨_, rfl⟩
    obtain ⟨sb, hsb⟩ : ∃ x, x = (ss.getD j ⟨0, 0, none⟩).by_ := ⟨_, rfl⟩
    rw [← hsa, ← hsb] at C0
    rw [← hsb] at hbj
    have f1 : ¬ sb < 0 := by omega
    have f2 : ¬ 9007199254740991 < sb := by omega
    clear hsa hsb hbj
    have hyv := hy _ (HVS.out.2 j (by rw [← HNL.out.1]; exact hlt))
    clear hy
    have V_y := a0_ hyv
    clear hyv
    have B_y := kf_ wr
    go_wp2_with (first | ((with_reducible refine gd_ 30 rfl ?_); refine load_at5 rfl rfl (g := bl) (k := ol + j * 5) rfl C0.out.1 C0.out.2.1 C0.out.2.2.1 C0.out.2.2.2.1 C0.out.2.2.2.2 ?_) | ((with_reducible refine gd_ 10 rfl ?_); refine bx_ (N := 10) #[.int .i64 0, .int .i64 0, .bool false, .slice none 0 0, .slice none 0 0] 39 ?_; intro g_s hg w103 hbox hb; have G_s := kb_g HB hg; have O_s_l := kb_g B_l hg; have O_s_q := kb_g B_q hg; have O_s_y := kb_g B_y hg; replace HB := kb_b HB hb; replace B_l := kb_b B_l hb; replace B_q := kb_b B_q hb; replace B_y := kb_b B_y hb; clear hb; have V_s := a0_ hbox; have B_s := kf_ w103; have N_s := nf_ g_s; clear hbox hg) | ((with_reducible refine gt_ 39 10 30 rfl ?_); refine store_ev5 (p := .tmp 10) (v := .tmp 30) rfl rfl rfl (g := g_s) rfl rfl (bk_ V_s B_s N_s) ?_; intro w104 hbox hk; replace HB := kb_o HB hk G_s; replace B_l := kb_o B_l hk O_s_l; replace B_q := kb_o B_q hk O_s_q; replace B_y := kb_o B_y hk O_s_y; clear V_s B_s; have V_s := a0_ hbox; have B_s := kf_ w104; clear hbox hk; have bk_s := bk_ V_s B_s N_s; have hz_s_0 : w104.cell? ⟨g_s, 0, none⟩ = some (.int .i64 sa) := (blk_cell bk_s 0).trans rfl; have hz_s_1 : w104.cell? ⟨g_s, 1, none⟩ = some (.int .i64 sb) := (blk_cell bk_s 1).trans rfl; have hz_s_2 : w104.cell? ⟨g_s, 2, none⟩ = some (.bool ty) := (blk_cell bk_s 2).trans rfl; have hz_s_3 : w104.cell? ⟨g_s, 3, none⟩ = some (.slice Ay ny cy) := (blk_cell bk_s 3).trans rfl; have hz_s_4 : w104.cell? ⟨g_s, 4, none⟩ = some (.slice Dy ky zy) := (blk_cell bk_s 4).trans rfl; clear bk_s))
    with_reducible refine (qcheck_calls (qs.getD j 0) _ _ (IsR.kb (S := fun k => False) V_y.out B_y.out (fun _ _ h => h))).mono ?_
    rintro e w105 ⟨rfl, hb⟩
    clear hz_s_0 hz_s_1 hz_s_2 hz_s_3 hz_s_4
    replace HB := kb_b HB hb
    replace B_l := kb_b B_l hb
    replace B_q := kb_b B_q hb
    replace B_y := kb_b B_y hb
    replace B_s := kb_b B_s hb
    clear hb
    go_wp2_with fail
    go_roundg (nl - (j + 1))
    case measure => have := HJ.out; omega
    case rel => exact ⟨j + 1, by first | rfl | rw [e1], ⟨by have := HJ.out; omega⟩, HB, B_q⟩
  · have hz : ¬ (j : Int) < (nl : Int) := by omega
    clear hlt
    go_wp2_with fail
    have hb : Below wr.heap.size wr wr.drew := below_drew1 (Below.refl _ _)
    replace HB := kb_b HB hb
    replace B_l := kb_b B_l hb
    replace B_q := kb_b B_q hb
    clear hb
    refine start_ (n := 19) (S := fun w' => w'.heap[g_q]? = some (.cells #[.bool tq, .slice Aq nq cq, .slice Dq kq zq] 30 (0, 0))) (ds := []) (tB_ 19 0) (by kernel_rfl) rfl (by kernel_rfl) (bk_ V_q B_q N_q) (fun hHeld => ?_)
    refine with_tabW May8.tab9 May8.bits9 (fun HT_ HW_ => ?_)
    generalize wr.drew = w103 at HB B_l B_q hHeld ⊢
    refine pu_ 0 (some 50) 1 HT_ ?_
    refine pu_ 1 (some 51) 3 HT_ ?_
    refine pu_ 2 (some 52) 7 HT_ ?_
    refine sk_ 3 (some 53) 15 HT_ ?_
    refine sk_ 4 (some 54) 31 HT_ ?_
    refine sk_ 5 (some 55) 63 HT_ ?_
    refine sk_ 6 (some 56) 127 HT_ ?_
    refine sk_ 7 (some 57) 255 HT_ ?_
    refine sk_ 8 (some 58) 511 HT_ ?_
    refine sk_ 9 (some 59) 1023 HT_ ?_
    refine sk_ 10 (some 60) 2047 HT_ ?_
    refine sk_ 11 (some 61) 4095 HT_ ?_
    refine sk_ 12 (some 62) 8191 HT_ ?_
    refine sk_ 13 (some 63) 16383 HT_ ?_
    refine sk_ 14 (some 64) 32767 HT_ ?_
    refine sk_ 15 (some 65) 65535 HT_ ?_
    refine sk_ 16 (some 66) 131071 HT_ ?_
    refine pu_ 17 (some 67) 262143 HT_ ?_
    refine pu_ 18 (some 8) 524287 HT_ ?_
    refine do_ HT_ ?_
    clear HT_ HW_ hHeld
    go_wp2_with fail
    go_ret
    exact ⟨rfl, (Kb.to_below HB.out (fun _ h => h.elim))⟩
def May9.T9 : Bool × List (List Nat × List Nat) := (true, [([], []), ([0], [0]), ([1], [1]), ([2], [2]), ([3, 2, 2], [2, 3]), ([4, 2], [2, 4]), ([5, 4, 2], [2, 5]), ([6], [6]), ([7, 6], [6, 7]), ([8, 6], [6, 8]), ([6, 9, 2], [2, 6, 9]), ([10, 6, 2], [2, 10]), ([11], [11]), ([11, 11], [11]), ([12, 13, 13, 11], [11, 12, 13]), ([14, 11], [11, 14]), ([11, 15, 2], [2, 11, 15]), ([2, 16], [2, 16]), ([17, 14, 0, 1, 2, 3, 4, 5, 6, 7, 8, 9, 10, 11, 12, 13, 14, 15, 16, 17], [17])])
def May9.B9 : List Nat := [0, 1, 3, 7, 15, 31, 63, 127, 255, 511, 1023, 2047, 4095, 4095, 16383, 32767, 65535, 131071, 262143]
theorem May9.tab9 : rtab .any (opsOf Try.f29 9) = May9.T9 := by kernel_rfl
theorem May9.bits9 : waitsOk May9.T9.2 May9.B9 = true := by kernel_rfl
theorem may9_calls {okl : Nat → Prop} (over : Int) (h0 : 1 ≤ over) (h1 : over ≤ 9007199254740991) (ss : List Smp) (hby : ByS ss) (qs : List Rat) (hvs : ValS ss qs) (hsz : ss.length ≤ 1000000) (w : World) (tq : Bool) (Aq : Option Addr) (nq cq : Nat) (Dq : Option Addr) (kq zq : Nat) (vl : Value) (hl : RowS okl w vl ss) :
 Calls Try.prog 29 #[.int .i64 9, .int .i64 over, .agg #[.bool tq, .slice Aq nq cq, .slice Dq kq zq], vl] w fun e w' => e = .returned (.bool true) ∧ Below w.heap.size w w' := by
 have hu30 := Try.underlying30
 have hu39 := Try.underlying39
 obtain ⟨Al, cl, rfl⟩ := hl.slice
 obtain ⟨nl, hnl⟩ : ∃ nl, nl = ss.length := ⟨_, rfl⟩
 rw [← hnl] at hl hsz ⊢
 have HNL := a0_ (And.intro hnl hsz)
 have HBY := a0_ hby
 have e3 : ¬ over < 1 := by omega
 have e4 : ¬ 9007199254740991 < over := by omega
 clear hnl hby hsz h0 h1
 have HVS := a0_ hvs
 clear hvs
 have HB := kf_ w
 have V_l := a0_ hl
 clear hl
 have B_l := kf_ w
 go_enter Try.func29, Try.ntmps29
 go_wp2_with (first | ((with_reducible refine gd_ 6 rfl ?_); refine bx_ (N := 6) #[.bool tq, .slice Aq nq cq, .slice Dq kq zq] 30 ?_; intro g_q hg w101 hbox hb; have G_q := kb_g HB hg; replace HB := kb_b HB hb; replace B_l := kb_b B_l hb; clear hb; have V_q := a0_ hbox; have B_q := kf_ w101; have N_q := nf_ g_q; clear hbox hg))
 go_loopg [27] nl (fun kg v27 wr => ∃ (j : Nat), v27 = .int .i64 j ∧ Aside0 (j + kg = nl) ∧ Aside0 (Kb (fun k => False) w wr) ∧ Aside0 (Kb (fun k => False) w101 wr))
 case atStart => exact ⟨0, rfl, ⟨by omega⟩, HB, B_q⟩
 case round =>
  obtain ⟨j, rfl, HJ, HB2, HQB⟩ := hrel
  clear HB B_l B_q
  have HB := HB2
  clear HB2
  have B_l := HB
  have B_q := HQB
  clear HQB
  by_cases hlt : j < nl
  · have hz : (j : Int) < (nl : Int) := by omega
    have e1 : IntKind.i64.wrap ((j : Int) + 1) = ((j + 1 : Nat) : Int) := (i64_w _).trans ((w64 (by have := HNL.out.2; omega) (by have := HNL.out.2; omega)).trans (by omega))
    obtain ⟨bl, ol, rfl⟩ := RowS.some_ V_l.out (by omega)
    obtain ⟨ty, Ay, ny, cy, Dy, ky, zy, hy, c0, c1, c2, c3, c4⟩ := RowS.get (RowS.kb V_l.out B_l.out (fun _ _ h => h)) j (by rw [← HNL.out.1]; exact hlt)
    have C0 := a0_ (And.intro c0 (And.intro c1 (And.intro c2 (And.intro c3 c4))))
    clear c0 c1 c2 c3 c4
    have hbj := HBY.out j (by rw [← HNL.out.1]; exact hlt)
    obtain ⟨sa, hsa⟩ : ∃ x, x = (ss.getD j ⟨0, 0, none⟩).at_ := ⟨_, rfl⟩
    obtain ⟨sb, hsb⟩ : ∃ x, x = (ss.getD j ⟨0, 0, none⟩).by_ := ⟨_, rfl⟩
    rw [← hsa, ← hsb] at C0
    rw [← hsb] at hbj
    have f1 : ¬ sb < 0 := by omega
    have f2 : ¬ 9007199254740991 < sb := by omega
    clear hsa hsb hbj
    have hyv := hy _ (HVS.out.2 j (by rw [← HNL.out.1]; exact hlt))
    clear hy
    have V_y := a0_ hyv
    clear hyv
    have B_y := kf_ wr
    go_wp2_with (first | ((with_reducible refine gd_ 30 rfl ?_); refine load_at5 rfl rfl (g := bl) (k := ol + j * 5) rfl C0.out.1 C0.out.2.1 C0.out.2.2.1 C0.out.2.2.2.1 C0.out.2.2.2.2 ?_) | ((with_reducible refine gd_ 10 rfl ?_); refine bx_ (N := 10) #[.int .i64 0, .int .i64 0, .bool false, .slice none 0 0, .slice none 0 0] 39 ?_; intro g_s hg w103 hbox hb; have G_s := kb_g HB hg; have O_s_l := kb_g B_l hg; have O_s_q := kb_g B_q hg; have O_s_y := kb_g B_y hg; replace HB := kb_b HB hb; replace B_l := kb_b B_l hb; replace B_q := kb_b B_q hb; replace B_y := kb_b B_y hb; clear hb; have V_s := a0_ hbox; have B_s := kf_ w103; have N_s := nf_ g_s; clear hbox hg) | ((with_reducible refine gt_ 39 10 30 rfl ?_); refine store_ev5 (p := .tmp 10) (v := .tmp 30) rfl rfl rfl (g := g_s) rfl rfl (bk_ V_s B_s N_s) ?_; intro w104 hbox hk; replace HB := kb_o HB hk G_s; replace B_l := kb_o B_l hk O_s_l; replace B_q := kb_o B_q hk O_s_q; replace B_y := kb_o B_y hk O_s_y; clear V_s B_s; have V_s := a0_ hbox; have B_s := kf_ w104; clear hbox hk; have bk_s := bk_ V_s B_s N_s; have hz_s_0 : w104.cell? ⟨g_s, 0, none⟩ = some (.int .i64 sa) := (blk_cell bk_s 0).trans rfl; have hz_s_1 : w104.cell? ⟨g_s, 1, none⟩ = some (.int .i64 sb) := (blk_cell bk_s 1).trans rfl; have hz_s_2 : w104.cell? ⟨g_s, 2, none⟩ = some (.bool ty) := (blk_cell bk_s 2).trans rfl; have hz_s_3 : w104.cell? ⟨g_s, 3, none⟩ = some (.slice Ay ny cy) := (blk_cell bk_s 3).trans rfl; have hz_s_4 : w104.cell? ⟨g_s, 4, none⟩ = some (.slice Dy ky zy) := (blk_cell bk_s 4).trans rfl; clear bk_s))
    with_reducible refine (qcheck_calls (qs.getD j 0) _ _ (IsR.kb (S := fun k => False) V_y.out B_y.out (fun _ _ h => h))).mono ?_
    rintro e w105 ⟨rfl, hb⟩
    clear hz_s_0 hz_s_1 hz_s_2 hz_s_3 hz_s_4
    replace HB := kb_b HB hb
    replace B_l := kb_b B_l hb
    replace B_q := kb_b B_q hb
    replace B_y := kb_b B_y hb
    replace B_s := kb_b B_s hb
    clear hb
    go_wp2_with fail
    go_roundg (nl - (j + 1))
    case measure => have := HJ.out; omega
    case rel => exact ⟨j + 1, by first | rfl | rw [e1], ⟨by have := HJ.out; omega⟩, HB, B_q⟩
  · have hz : ¬ (j : Int) < (nl : Int) := by omega
    clear hlt
    go_wp2_with fail
    have hb : Below wr.heap.size wr wr.drew := below_drew1 (Below.refl _ _)
    replace HB := kb_b HB hb
    replace B_l := kb_b B_l hb
    replace B_q := kb_b B_q hb
    clear hb
    refine start_ (n := 19) (S := fun w' => w'.heap[g_q]? = some (.cells #[.bool tq, .slice Aq nq cq, .slice Dq kq zq] 30 (0, 0))) (ds := []) (tB_ 19 0) (by kernel_rfl) rfl (by kernel_rfl) (bk_ V_q B_q N_q) (fun hHeld => ?_)
    refine with_tabW May9.tab9 May9.bits9 (fun HT_ HW_ => ?_)
    generalize wr.drew = w103 at HB B_l B_q hHeld ⊢
    refine pu_ 0 (some 50) 1 HT_ ?_
    refine pu_ 1 (some 51) 3 HT_ ?_
    refine pu_ 2 (some 52) 7 HT_ ?_
    refine sk_ 3 (some 53) 15 HT_ ?_
    refine sk_ 4 (some 54) 31 HT_ ?_
    refine sk_ 5 (some 55) 63 HT_ ?_
    refine sk_ 6 (some 56) 127 HT_ ?_
    refine sk_ 7 (some 57) 255 HT_ ?_
    refine sk_ 8 (some 58) 511 HT_ ?_
    refine sk_ 9 (some 59) 1023 HT_ ?_
    refine sk_ 10 (some 60) 2047 HT_ ?_
    refine sk_ 11 (some 61) 4095 HT_ ?_
    refine sk_ 12 (some 62) 8191 HT_ ?_
    refine sk_ 13 (some 63) 16383 HT_ ?_
    refine sk_ 14 (some 64) 32767 HT_ ?_
    refine sk_ 15 (some 65) 65535 HT_ ?_
    refine sk_ 16 (some 66) 131071 HT_ ?_
    refine pu_ 17 (some 67) 262143 HT_ ?_
    refine pu_ 18 (some 8) 524287 HT_ ?_
    refine do_ HT_ ?_
    clear HT_ HW_ hHeld
    go_wp2_with fail
    go_ret
    exact ⟨rfl, (Kb.to_below HB.out (fun _ h => h.elim))⟩
def May10.T9 : Bool × List (List Nat × List Nat) := (true, [([], []), ([0], [0]), ([1], [1]), ([2], [2]), ([3, 2, 2], [2, 3]), ([4, 2], [2, 4]), ([5, 4, 2], [2, 5]), ([6], [6]), ([7, 6], [6, 7]), ([8, 6], [6, 8]), ([6, 9, 2], [2, 6, 9]), ([10, 6, 2], [2, 10]), ([11], [11]), ([11, 11], [11]), ([12, 13, 13, 11], [11, 12, 13]), ([14, 11], [11, 14]), ([11, 15, 2], [2, 11, 15]), ([2, 16], [2, 16]), ([17, 14, 0, 1, 2, 3, 4, 5, 6, 7, 8, 9, 10, 11, 12, 13, 14, 15, 16, 17], [17])])
def May10.B9 : List Nat := [0, 1, 3, 7, 15, 31, 63, 127, 255, 511, 1023, 2047, 4095, 4095, 16383, 32767, 65535, 131071, 262143]
theorem May10.tab9 : rtab .any (opsOf Try.f29 9) = May10.T9 := by kernel_rfl
theorem May10.bits9 : waitsOk May10.T9.2 May10.B9 = true := by kernel_rfl
def May11.T9 : Bool × List (List Nat × List Nat) := (true, [([], []), ([0], [0]), ([1], [1]), ([2], [2]), ([3, 2, 2], [2, 3]), ([4, 2], [2, 4]), ([5, 4, 2], [2, 5]), ([6], [6]), ([7, 6], [6, 7]), ([8, 6], [6, 8]), ([6, 9, 2], [2, 6, 9]), ([10, 6, 2], [2, 10]), ([11], [11]), ([11, 11], [11]), ([12, 13, 13, 11], [11, 12, 13]), ([14, 11], [11, 14]), ([11, 15, 2], [2, 11, 15]), ([2, 16], [2, 16]), ([17, 14, 0, 1, 2, 3, 4, 5, 6, 7, 8, 9, 10, 11, 12, 13, 14, 15, 16, 17], [17])])
def May11.B9 : List Nat := [0, 1, 3, 7, 15, 31, 63, 127, 255, 511, 1023, 2047, 4095, 4095, 16383, 32767, 65535, 131071, 262143]
theorem May11.tab9 : rtab .any (opsOf Try.f29 9) = May11.T9 := by kernel_rfl
theorem May11.bits9 : waitsOk May11.T9.2 May11.B9 = true := by kernel_rfl
theorem wrun8 {okl : Nat → Prop} (over : Int) (h0 : 1 ≤ over) (h1 : over ≤ 9007199254740991) (ss : List Smp) (hby : ByS ss) (qs : List Rat) (hvs : ValS ss qs) (hn0 : 0 < ss.length) (hsz : ss.length ≤ 1000000) (w : World) (tq : Bool) (Aq : Option Addr) (nq cq : Nat) (Dq : Option Addr) (kq zq : Nat) (Al : Option Addr) (cl : Nat) (hl : RowS okl w (.slice Al ss.length cl) ss) :
 Calls Try.prog 16 #[.int .i64 8, .int .i64 over, .agg #[.bool tq, .slice Aq nq cq, .slice Dq kq zq], .slice Al ss.length cl] w fun e w' => (∃ v ans, (fun a => a = some (extQ false qs)) ans ∧ e = .returned (.tuple #[v, .bool ans.isSome, .int .i64 (eno ans)]) ∧ Res (fun k => w.heap.size ≤ k) w' v ans) ∧ Below w.heap.size w w' := by
 have hl2 : RowS (fun k => okl k ∧ k < w.heap.size) w (.slice Al ss.length cl) ss := RowS.mono' hl (fun k h1 h2 => ⟨h1, h2⟩)
 refine wrun_calls (fun a => a = some (extQ false qs)) 8 over (by decide) ss.length hn0 w _ _ _ _ _ _ _ _ _ (fun W hW => may8_calls over h0 h1 ss hby qs hvs hsz W _ _ _ _ _ _ _ _ (RowS.kb hl2 hW (fun _ _ h => h))) (fun W rb hW hrb hr => (run8_calls rb over ss qs hn0 hsz W _ _ _ _ _ _ _ _ hr (RowS.kb hl2 hW (fun _ _ h => h)) (fun k h => by have := h.2; omega) hvs).mono ?_)
 rintro e w' ⟨v, rfl, hv, hk1, hk2⟩
 exact ⟨v, _, rfl, rfl, Res.mono hv (fun k h => h.elim (fun h => .inl h.2) .inr), hk1, hk2⟩
theorem wrun9 {okl : Nat → Prop} (over : Int) (h0 : 1 ≤ over) (h1 : over ≤ 9007199254740991) (ss : List Smp) (hby : ByS ss) (qs : List Rat) (hvs : ValS ss qs) (hn0 : 0 < ss.length) (hsz : ss.length ≤ 1000000) (w : World) (tq : Bool) (Aq : Option Addr) (nq cq : Nat) (Dq : Option Addr) (kq zq : Nat) (Al : Option Addr) (cl : Nat) (hl : RowS okl w (.slice Al ss.length cl) ss) :
 Calls Try.prog 16 #[.int .i64 9, .int .i64 over, .agg #[.bool tq, .slice Aq nq cq, .slice Dq kq zq], .slice Al ss.length cl] w fun e w' => (∃ v ans, (fun a => a = some (extQ true qs)) ans ∧ e = .returned (.tuple #[v, .bool ans.isSome, .int .i64 (eno ans)]) ∧ Res (fun k => w.heap.size ≤ k) w' v ans) ∧ Below w.heap.size w w' := by
 have hl2 : RowS (fun k => okl k ∧ k < w.heap.size) w (.slice Al ss.length cl) ss := RowS.mono' hl (fun k h1 h2 => ⟨h1, h2⟩)
 refine wrun_calls (fun a => a = some (extQ true qs)) 9 over (by decide) ss.length hn0 w _ _ _ _ _ _ _ _ _ (fun W hW => may9_calls over h0 h1 ss hby qs hvs hsz W _ _ _ _ _ _ _ _ (RowS.kb hl2 hW (fun _ _ h => h))) (fun W rb hW hrb hr => (run9_calls rb over ss qs hn0 hsz W _ _ _ _ _ _ _ _ hr (RowS.kb hl2 hW (fun _ _ h => h)) (fun k h => by have := h.2; omega) hvs).mono ?_)
 rintro e w' ⟨v, rfl, hv, hk1, hk2⟩
 exact ⟨v, _, rfl, rfl, Res.mono hv (fun k h => h.elim (fun h => .inl h.2) .inr), hk1, hk2⟩
theorem ext_fold (mx : Bool) (l : List Rat) : ∀ x : Rat, (l.foldl (extF mx) x = x ∨ l.foldl (extF mx) x ∈ l) ∧ ∀ y, (y = x ∨ y ∈ l) → (if mx = true then y ≤ l.foldl (extF mx) x else l.foldl (extF mx) x ≤ y) := by
 induction l with
 | nil =>
  intro x
  refine ⟨.inl rfl, fun y hy => ?_⟩
  rcases hy with rfl | hy
  · cases mx <;> exact Rat.le_refl
  · cases hy
 | cons z l ih =>
  intro x
  obtain ⟨h1, h2⟩ := ih (extF mx x z)
  have hz : extF mx x z = x ∨ extF mx x z = z := by unfold extF; split <;> simp
  refine ⟨?_, fun y hy => ?_⟩
  · rcases h1 with h1 | h1
    · rcases hz with hz | hz
      · left; show l.foldl (extF mx) (extF mx x z) = x; rw [h1, hz]
      · right; show l.foldl (extF mx) (extF mx x z) ∈ _; rw [h1, hz]; exact List.mem_cons_self
    · right; exact List.mem_cons_of_mem _ h1
  · show (if mx = true then y ≤ l.foldl (extF mx) (extF mx x z) else l.foldl (extF mx) (extF mx x z) ≤ y)
    have h0 := h2 (extF mx x z) (.inl rfl)
    rcases hy with rfl | hy
    · cases mx with
      | false =>
       refine Rat.le_trans h0 ?_
       show (if better false z y = true then z else y) ≤ y
       split
       · exact Rat.le_of_lt (of_decide_eq_true ‹_›)
       · exact Rat.le_refl
      | true =>
       refine Rat.le_trans ?_ h0
       show y ≤ (if better true z y = true then z else y)
       split
       · exact Rat.le_of_lt (of_decide_eq_true ‹_›)
       · exact Rat.le_refl
    · rcases List.mem_cons.1 hy with rfl | hy
      · cases mx with
        | false =>
         refine Rat.le_trans h0 ?_
         show (if better false y x = true then y else x) ≤ y
         split
         · exact Rat.le_refl
         · rename_i hb
           exact Rat.not_lt.1 (fun hlt => hb (decide_eq_true hlt))
        | true =>
         refine Rat.le_trans ?_ h0
         show y ≤ (if better true y x = true then y else x)
         split
         · exact Rat.le_refl
         · rename_i hb
           exact Rat.not_lt.1 (fun hlt => hb (decide_eq_true hlt))
      · exact h2 y (.inr hy)
theorem ext_mem (mx : Bool) (qs : List Rat) (h : 0 < qs.length) : extQ mx qs ∈ qs ∧ ∀ y ∈ qs, (if mx = true then y ≤ extQ mx qs else extQ mx qs ≤ y) := by
 cases qs with
 | nil => simp at h
 | cons x l =>
  obtain ⟨h1, h2⟩ := ext_fold mx l x
  refine ⟨?_, fun y hy => h2 y (List.mem_cons.1 hy)⟩
  show l.foldl (extF mx) x ∈ x :: l
  rcases h1 with h1 | h1
  · rw [h1]; exact List.mem_cons_self
  · exact List.mem_cons_of_mem _ h1
structure Betw (qs s0 : List Rat) (lo hi : Nat) (av low high : Rat) : Prop where
 avg : doO (sumO (some 0) qs).isNone (fun x y => x / y) (sumO (some 0) qs) (some (qs.length : Rat)) = some av
 q0 : quantO ((0 : Int) : Rat) s0 = some (extQ false qs)
 q1 : quantO ((1 : Int) : Rat) s0 = some (extQ true qs)
 ql : quantO (((lo : Int) : Rat) / ((100 : Int) : Rat)) s0 = some low
 qh : quantO (((hi : Int) : Rat) / ((100 : Int) : Rat)) s0 = some high
 o1 : extQ false qs ≤ av
 o2 : av ≤ extQ true qs
 o3 : extQ false qs ≤ low
 o4 : low ≤ high
 o5 : high ≤ extQ true qs
end Go.Proofs.Ytgdkgahbmfhgcaa.PN
