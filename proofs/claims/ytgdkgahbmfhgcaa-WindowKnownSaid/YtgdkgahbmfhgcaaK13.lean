/- What the statement rests on, part 13: YB YC YD YE. -/
import Derived.Test.YtgdkgahbmfhgcaaK12
set_option linter.unusedVariables false
set_option linter.unusedSimpArgs false
set_option maxHeartbeats 4000000
set_option maxRecDepth 100000
namespace Go.Proofs.Ytgdkgahbmfhgcaa.PN
open Go.RowKit Go.Proofs.Ytgdkgahbmfhgcaa.NS Go.Proofs.Ytgdkgahbmfhgcaa.Limbs Go.Proofs.YtgdkgahbmfhgcaaW.PrintWords Go.Proofs.YtgdkgahbmfhgcaaW.PrintLast Go.Proofs.YtgdkgahbmfhgcaaW.PrintMore
def better (mx : Bool) (x m : Rat) : Bool := if mx then decide (m < x) else decide (x < m)
def extF (mx : Bool) (m y : Rat) : Rat := if better mx y m = true then y else m
def extQ (mx : Bool) : List Rat → Rat
 | [] => 0
 | x :: l => l.foldl (extF mx) x
theorem extQ_get (mx : Bool) (qs : List Rat) (h : 0 < qs.length) : (qs.drop 1).foldl (extF mx) (qs.getD 0 0) = extQ mx qs := by
 cases qs with
 | nil => simp at h
 | cons x l => rfl
theorem ext_step (mx : Bool) (qs : List Rat) (k : Nat) (cur ans : Rat) (hk : k < qs.length) (h : (qs.drop k).foldl (extF mx) cur = ans) : (qs.drop (k + 1)).foldl (extF mx) (extF mx cur (qs.getD k 0)) = ans := by
 rw [getD_mem qs k hk] at h
 exact h
theorem goesv_ {P : Program} {ops : Array Oper} {Q : Exit → Act → World → Prop} {oi : Oper} {N : Option Tmp} {a : Act} {w : World} {K : Act → World → Prop} {f : FuncId} {fn : Func} {p : Operand} {sa : Array Operand} {ts : Array TypeId} (hf : P.funcs[f]? = some fn) (hname : (fn.name == "runtime.NumGoroutine") = false) (hb : fn.body.isSome = true) (args : Array Value)
 (hw : Region.wanted oi (yielded ops a.tmps) = true) (hN : oi.dst = N) (hop : oi.op = .call { callee := .value p, args := sa, argTypes := ts }) (hp : a.eval p = .func (.func f) #[] #[]) (hargs : sa.map a.eval = args)
 (h : Calls P f args w fun e w' => ∃ v, e = .returned v ∧ K (a.put N v) w') : if Region.wanted oi (yielded ops a.tmps) = true then Oper.wp P oi a w K Q else K (a.put N undef) w := by
 refine call_ f args hw hN ?_ h
 have he := enters_ hf hname hb args w
 unfold execOp
 simp only [hop]
 simp [hp, resolve, Deferred.ofValue, invoke, hargs, he]
theorem ext_false_yes (qs : List Rat) (k : Nat) (cur ans : Rat) (cv : Int) (hk : k < qs.length) (h : (qs.drop k).foldl (extF false) cur = ans) (hcv : cv = (if qs.getD k 0 < cur then -1 else if qs.getD k 0 = cur then 0 else 1)) (hc : cv < 0) : (qs.drop (k + 1)).foldl (extF false) (qs.getD k 0) = ans := by
 have h1 := ext_step false qs k cur ans hk h
 have h2 : qs.getD k 0 < cur := by
  by_cases c : qs.getD k 0 < cur
  · exact c
  · rw [if_neg c] at hcv; split at hcv <;> omega
 rwa [show extF false cur (qs.getD k 0) = qs.getD k 0 from if_pos (decide_eq_true h2)] at h1
theorem ext_false_no (qs : List Rat) (k : Nat) (cur ans : Rat) (cv : Int) (hk : k < qs.length) (h : (qs.drop k).foldl (extF false) cur = ans) (hcv : cv = (if qs.getD k 0 < cur then -1 else if qs.getD k 0 = cur then 0 else 1)) (hc : ¬ cv < 0) : (qs.drop (k + 1)).foldl (extF false) cur = ans := by
 have h1 := ext_step false qs k cur ans hk h
 have h2 : ¬ qs.getD k 0 < cur := fun c => by rw [if_pos c] at hcv; omega
 rwa [show extF false cur (qs.getD k 0) = cur from if_neg (fun e => h2 (of_decide_eq_true e))] at h1
theorem ext_true_yes (qs : List Rat) (k : Nat) (cur ans : Rat) (cv : Int) (hk : k < qs.length) (h : (qs.drop k).foldl (extF true) cur = ans) (hcv : cv = (if qs.getD k 0 < cur then -1 else if qs.getD k 0 = cur then 0 else 1)) (hc : 0 < cv) : (qs.drop (k + 1)).foldl (extF true) (qs.getD k 0) = ans := by
 have h1 := ext_step true qs k cur ans hk h
 have h2 : cur < qs.getD k 0 := by
  by_cases c : qs.getD k 0 < cur
  · rw [if_pos c] at hcv; omega
  · rw [if_neg c] at hcv
    by_cases d : qs.getD k 0 = cur
    · rw [if_pos d] at hcv; omega
    · exact Rat.lt_iff_le_and_ne.2 ⟨Rat.not_lt.1 c, fun e => d e.symm⟩
 rwa [show extF true cur (qs.getD k 0) = qs.getD k 0 from if_pos (decide_eq_true h2)] at h1
theorem ext_true_no (qs : List Rat) (k : Nat) (cur ans : Rat) (cv : Int) (hk : k < qs.length) (h : (qs.drop k).foldl (extF true) cur = ans) (hcv : cv = (if qs.getD k 0 < cur then -1 else if qs.getD k 0 = cur then 0 else 1)) (hc : ¬ 0 < cv) : (qs.drop (k + 1)).foldl (extF true) cur = ans := by
 have h1 := ext_step true qs k cur ans hk h
 have h2 : ¬ cur < qs.getD k 0 := fun c => by
  rw [if_neg (Rat.not_lt.2 (Rat.le_of_lt c)), if_neg (fun e => Rat.ne_of_gt c e)] at hcv
  omega
 rwa [show extF true cur (qs.getD k 0) = cur from if_neg (fun e => h2 (of_decide_eq_true e))] at h1
def Extfalse.T7 : Bool × List (List Nat × List Nat) := (true, [([], []), ([], []), ([], []), ([1, 2], [1, 2]), ([3], [3]), ([], []), ([0, 4, 5], [0, 4, 5]), ([6], [6])])
def Extfalse.B7 : List Nat := [0, 0, 0, 6, 14, 0, 63, 127]
theorem Extfalse.tab7 : rtab .any (opsOf Try.f46 7) = Extfalse.T7 := by kernel_rfl
theorem Extfalse.bits7 : waitsOk Extfalse.T7.2 Extfalse.B7 = true := by kernel_rfl
theorem min_calls {okl : Nat → Prop} (qs : List Rat) (hn : 0 < qs.length) (hsz : qs.length ≤ 1000000) (w : World) (vl : Value) (hl : RowQ okl w vl qs) :
 Calls Try.prog 46 #[vl, .func (.func 39) #[] #[]] w fun e w' => (∃ v, e = .returned v ∧ IsR okl w' v (extQ false qs)) ∧ Below w.heap.size w w' := by
 have hu30 := Try.underlying30
 obtain ⟨Al, cl, rfl⟩ := hl.slice
 obtain ⟨nl, hnl⟩ : ∃ nl, nl = qs.length := ⟨_, rfl⟩
 obtain ⟨ans, hans⟩ : ∃ a, a = extQ false qs := ⟨_, rfl⟩
 rw [← hans]
 have hfold := extQ_get false qs hn
 rw [← hans] at hfold
 have hl := RowQ.mono' (ok' := fun j => okl j ∧ j < w.heap.size) hl (fun k h1 h2 => ⟨h1, h2⟩)
 rw [← hnl] at hl hsz hn ⊢
 obtain ⟨bl, ol, rfl⟩ := RowQ.some_ hl hn
 have hblw := (RowQ.okb hl hn).2
 have HNL := a0_ (And.intro hnl (And.intro hsz hn))
 have HFO := a0_ hfold
 obtain ⟨tx, Ax, nx, cx, Dx, kx, zx, hx, c0, c1, c2⟩ := RowQ.get hl 0 (by rw [← hnl]; exact hn)
 have e0 : ol + 0 * 3 = ol := by omega
 rw [e0] at c0 c1 c2
 have C0 := a0_ (And.intro c0 (And.intro c1 c2))
 have HBL := a0_ hblw
 have hz0 : ¬ (nl : Int) < 1 := by omega
 have hz1 : (0 : Int) < (nl : Int) := by omega
 have hz2 : decide ((nl : Int) < 1) = false := decide_eq_false hz0
 clear e0 c0 c1 c2 hans hfold hblw hnl hsz hn
 have HB := kf_ w
 have V_l := a0_ hl
 clear hl
 have B_l := kf_ w
 have V_x := a0_ hx
 clear hx
 have B_x := kf_ w
 go_enter Try.func46, Try.ntmps46
 go_wp2_with (first | ((with_reducible refine gd_ 4 rfl ?_); refine bx_ (N := 4) #[.bool false, .slice none 0 0, .slice none 0 0] 30 ?_; intro g_r hg w101 hbox hb; have G_r := kb_g HB hg; have O_r_l := kb_g B_l hg; have O_r_x := kb_g B_x hg; replace HB := kb_b HB hb; replace B_l := kb_b B_l hb; replace B_x := kb_b B_x hb; clear hb; have V_r := a0_ hbox; have B_r := kf_ w101; have N_r := nf_ g_r; clear hbox hg) | ((with_reducible refine gd_ 13 rfl ?_); refine load_at rfl rfl (g := bl) (k := ol) rfl (Kb.cell (S := fun k => False) C0.out.1 B_l.out (fun h => h)) (Kb.cell (S := fun k => False) C0.out.2.1 B_l.out (fun h => h)) (Kb.cell (S := fun k => False) C0.out.2.2 B_l.out (fun h => h)) ?_) | ((with_reducible refine gd_ 5 rfl ?_); refine bx_ (N := 5) #[.bool false, .slice none 0 0, .slice none 0 0] 30 ?_; intro g_m hg w102 hbox hb; have G_m := kb_g HB hg; have O_m_l := kb_g B_l hg; have O_m_x := kb_g B_x hg; have O_m_r := kb_g B_r hg; replace HB := kb_b HB hb; replace B_l := kb_b B_l hb; replace B_x := kb_b B_x hb; replace B_r := kb_b B_r hb; clear hb; have V_m := a0_ hbox; have B_m := kf_ w102; have N_m := nf_ g_m; clear hbox hg) | ((with_reducible refine gt_ 30 5 13 rfl ?_); refine store_ev (p := .tmp 5) (v := .tmp 13) rfl rfl rfl (g := g_m) rfl rfl (bk_ V_m B_m N_m) ?_; intro w103 hbox hk; replace HB := kb_o HB hk G_m; replace B_l := kb_o B_l hk O_m_l; replace B_x := kb_o B_x hk O_m_x; replace B_r := kb_o B_r hk O_m_r; clear V_m B_m; have V_m := a0_ hbox; have B_m := kf_ w103; clear hbox hk))
 go_loopg [6] nl (fun kg v6 wr => ∃ (k : Nat) (cur : Rat) (tx : Bool) (Ax : Option Addr) (nx cx : Nat) (Dx : Option Addr) (kx zx : Nat), v6 = .int .i64 k ∧ Aside0 (0 < k ∧ k + kg = nl + 1 ∧ (qs.drop k).foldl (extF false) cur = ans) ∧ Aside0 (IsR (fun j => okl j ∧ j < w.heap.size) w (.agg #[.bool tx, .slice Ax nx cx, .slice Dx kx zx]) cur) ∧ Aside0 (wr.heap[g_m]? = some (.cells #[.bool tx, .slice Ax nx cx, .slice Dx kx zx] 30 (0, 0))) ∧ Aside0 (Kb (fun k => False) w101 wr) ∧ Aside0 (Kb (fun k => False) w wr))
 case atStart => exact ⟨1, qs.getD 0 0, tx, Ax, nx, cx, Dx, kx, zx, rfl, ⟨by omega, by omega, HFO.out⟩, V_x, V_m, B_r, HB⟩
 case round =>
  obtain ⟨k, cur, tx, Ax, nx, cx, Dx, kx, zx, rfl, HK, HX, HM, HR, HB2⟩ := hrel
  clear V_x B_x V_m B_m B_r HB B_l C0
  have HB := HB2
  clear HB2
  have B_l := HB
  have V_x := HX
  have B_x := HB
  have B_r := HR
  have V_m := HM
  have B_m := kf_ wr
  clear HX HR HM
  by_cases hlt : k < nl
  · have hz : (k : Int) < (nl : Int) := by omega
    have hk0 : (0 : Int) ≤ (k : Int) := by omega
    obtain ⟨ty, Ay, ny, cy, Dy, ky, zy, hy, c0, c1, c2⟩ := RowQ.get V_l.out k (by rw [← HNL.out.1]; exact hlt)
    have C1 := a0_ (And.intro c0 (And.intro c1 c2))
    clear c0 c1 c2
    have V_y := a0_ hy
    clear hy
    have B_y := HB
    have O_m_y := G_m
    have e1 : IntKind.i64.wrap ((k : Int) + 1) = ((k + 1 : Nat) : Int) := (i64_w _).trans ((w64 (by have := HNL.out.2.1; omega) (by have := HNL.out.2.1; omega)).trans (by omega))
    obtain ⟨cv, hcv⟩ : ∃ c : Int, c = (if qs.getD k 0 < cur then -1 else if qs.getD k 0 = cur then 0 else 1) := ⟨_, rfl⟩
    have HCV := a0_ hcv
    clear hcv
    go_wp2_with fail
    have hb : Below wr.heap.size wr wr.drew := below_drew1 (Below.refl _ _)
    replace HB := kb_b HB hb
    replace B_l := kb_b B_l hb
    replace B_x := kb_b B_x hb
    replace B_r := kb_b B_r hb
    replace B_m := kb_b B_m hb
    replace B_y := kb_b B_y hb
    clear hb
    refine start_ (n := 8) (S := fun w' => (w'.cell? ⟨bl, (ol + k * 3), none⟩ = some (.bool ty) ∧ w'.cell? ⟨bl, (ol + k * 3) + 1, none⟩ = some (.slice Ay ny cy) ∧ w'.cell? ⟨bl, (ol + k * 3) + 2, none⟩ = some (.slice Dy ky zy)) ∧ w'.heap[g_m]? = some (.cells #[.bool tx, .slice Ax nx cx, .slice Dx kx zx] 30 (0, 0))) (ds := []) (tB_ 8 0) (by kernel_rfl) rfl (by kernel_rfl) ⟨⟨(Kb.cell (S := fun k => False) C1.out.1 B_l.out (fun h => h)), (Kb.cell (S := fun k => False) C1.out.2.1 B_l.out (fun h => h)), (Kb.cell (S := fun k => False) C1.out.2.2 B_l.out (fun h => h))⟩, bk_ V_m B_m N_m⟩ (fun hHeld => ?_)
    refine with_tabW Extfalse.tab7 Extfalse.bits7 (fun HT_ HW_ => ?_)
    generalize wr.drew = w105 at HB B_l B_x B_r B_m B_y hHeld ⊢
    refine pu_ 0 (some 20) 1 HT_ ?_
    refine pu_ 1 (some 21) 3 HT_ ?_
    refine pu_ 2 (some 22) 7 HT_ ?_
    refine pu_ 3 (some 23) 15 HT_ ?_
    refine tk_ 4 (some 24) 31 HT_ HW_ hHeld ?_ ?_ ?_ ?_ ?_
    rotate_left
    · intro w' hs
      have hb_ := hs.1
      obtain ⟨c0_, c1_, c2_⟩ := hb_
      clear hs
      go_simp
      with_reducible rfl
    rotate_left
    · simp only [PU]
      rfl
    refine tk_ 5 (some 25) 63 HT_ HW_ hHeld ?_ ?_ ?_ ?_ ?_
    rotate_left
    · intro w' hs
      have hb_ := hs.2
      obtain ⟨c0_, c1_, c2_⟩ := b3_ hb_
      clear hb_ hs
      go_simp
      with_reducible rfl
    rotate_left
    · simp only [PU]
      rfl
    refine on_ 6 (some 26) 127 HT_ (fun K hK => ?_)
    refine goesv_ Try.func39 (by kernel_rfl) rfl #[.agg #[.bool ty, .slice Ay ny cy, .slice Dy ky zy], .agg #[.bool tx, .slice Ax nx cx, .slice Dx kx zx]] (by rfl) rfl rfl (by go_simp) (by (try simp only [List.map_toArray, List.map_cons, List.map_nil]); first | done | rfl) ?_
    refine (cmp_as (wcompare_calls (qs.getD k 0) cur _ _ _ (IsR.kb (S := fun k => False) V_y.out B_y.out (fun _ _ h => h)) (IsR.kb (S := fun k => False) V_x.out B_x.out (fun _ _ h => h))) HCV.out).mono ?_
    rintro e w106 ⟨rfl, hb⟩
    refine ⟨_, rfl, ?_⟩
    refine hK.out _ _ (by exact ⟨⟨pw_cell_below hb hHeld.1.1, pw_cell_below hb hHeld.1.2.1, pw_cell_below hb hHeld.1.2.2⟩, blk_below hHeld.2 hb⟩) (fun hHeld => ?_)
    clear hK K
    refine nm_ (some 26) ?_
    replace HB := kb_b HB hb
    replace B_l := kb_b B_l hb
    replace B_x := kb_b B_x hb
    replace B_r := kb_b B_r hb
    replace B_m := kb_b B_m hb
    replace B_y := kb_b B_y hb
    clear hb
    refine pu_ 7 (some 27) 255 HT_ ?_
    refine do_ HT_ ?_
    clear HT_ HW_ hHeld
    by_cases hc : cv < 0
    · skip
      have hst := ext_false_yes qs k cur ans _ (by rw [← HNL.out.1]; exact hlt) HK.out.2.2 HCV.out hc
      have HST := a0_ hst
      clear hst
      go_wp2_with (first | ((with_reducible refine gd_ 31 rfl ?_); refine load_at rfl rfl (g := bl) (k := (ol + k * 3)) rfl (Kb.cell (S := fun k => False) C1.out.1 B_l.out (fun h => h)) (Kb.cell (S := fun k => False) C1.out.2.1 B_l.out (fun h => h)) (Kb.cell (S := fun k => False) C1.out.2.2 B_l.out (fun h => h)) ?_) | ((with_reducible refine gt_ 30 5 31 rfl ?_); refine store_ev (p := .tmp 5) (v := .tmp 31) rfl rfl rfl (g := g_m) rfl rfl (bk_ V_m B_m N_m) ?_; intro w107 hbox hk; replace HB := kb_o HB hk G_m; replace B_l := kb_o B_l hk O_m_l; replace B_x := kb_o B_x hk O_m_x; replace B_r := kb_o B_r hk O_m_r; replace B_y := kb_o B_y hk O_m_y; clear V_m B_m; have V_m := a0_ hbox; have B_m := kf_ w107; clear hbox hk))
      go_roundg (nl - k)
      case measure => have := HK.out.2.1; omega
      case rel => exact ⟨k + 1, qs.getD k 0, ty, Ay, ny, cy, Dy, ky, zy, by first | rfl | rw [e1], ⟨by omega, by have := HK.out.2.1; omega, HST.out⟩, V_y, V_m, B_r, HB⟩
    · skip
      have hst := ext_false_no qs k cur ans _ (by rw [← HNL.out.1]; exact hlt) HK.out.2.2 HCV.out hc
      have HST := a0_ hst
      clear hst
      go_wp2_with fail
      go_roundg (nl - k)
      case measure => have := HK.out.2.1; omega
      case rel => exact ⟨k + 1, cur, tx, Ax, nx, cx, Dx, kx, zx, by first | rfl | rw [e1], ⟨by omega, by have := HK.out.2.1; omega, HST.out⟩, V_x, ⟨Kb.blk V_m.out B_m.out (fun h => h)⟩, B_r, HB⟩
  · have hz : ¬ (k : Int) < (nl : Int) := by omega
    have hcur : cur = ans := by have := HK.out.2.2; rwa [List.drop_of_length_le (by have := HNL.out.1; omega)] at this
    have HC := a0_ hcur
    clear hcur hlt
    go_wp2_with (first | ((with_reducible refine gd_ 32 rfl ?_); refine load_ev rfl rfl (g := g_m) rfl (bk_ V_m B_m N_m) ?_) | ((with_reducible refine gt_ 30 4 32 rfl ?_); refine store_ev (p := .tmp 4) (v := .tmp 32) rfl rfl rfl (g := g_r) rfl rfl (bk_ V_r B_r N_r) ?_; intro w105 hbox hk; replace HB := kb_o HB hk G_r; replace B_l := kb_o B_l hk O_r_l; replace B_x := kb_o B_x hk O_r_x; clear V_r B_r; have V_r := a0_ hbox; have B_r := kf_ w105; clear hbox hk))
    refine bodyPost_ret (results_cell_row rfl _ _ g_r 30 #[.bool tx, .slice Ax nx cx, .slice Dx kx zx] (0, 0) _ rfl (bk_ V_r B_r N_r) Try.underlying30 rfl (by kernel_rfl)) rfl ?_
    exact ⟨⟨_, rfl, by rw [← HC.out]; exact IsR.mono (IsR.kb V_x.out B_x.out (fun _ _ h => h)) (fun k h => h.1)⟩, (Kb.to_below HB.out (fun _ h => h.elim))⟩
def Exttrue.T7 : Bool × List (List Nat × List Nat) := (true, [([], []), ([], []), ([], []), ([1, 2], [1, 2]), ([3], [3]), ([], []), ([0, 4, 5], [0, 4, 5]), ([6], [6])])
def Exttrue.B7 : List Nat := [0, 0, 0, 6, 14, 0, 63, 127]
theorem Exttrue.tab7 : rtab .any (opsOf Try.f47 7) = Exttrue.T7 := by kernel_rfl
theorem Exttrue.bits7 : waitsOk Exttrue.T7.2 Exttrue.B7 = true := by kernel_rfl
theorem max_calls {okl : Nat → Prop} (qs : List Rat) (hn : 0 < qs.length) (hsz : qs.length ≤ 1000000) (w : World) (vl : Value) (hl : RowQ okl w vl qs) :
 Calls Try.prog 47 #[vl, .func (.func 39) #[] #[]] w fun e w' => (∃ v, e = .returned v ∧ IsR okl w' v (extQ true qs)) ∧ Below w.heap.size w w' := by
 have hu30 := Try.underlying30
 obtain ⟨Al, cl, rfl⟩ := hl.slice
 obtain ⟨nl, hnl⟩ : ∃ nl, nl = qs.length := ⟨_, rfl⟩
 obtain ⟨ans, hans⟩ : ∃ a, a = extQ true qs := ⟨_, rfl⟩
 rw [← hans]
 have hfold := extQ_get true qs hn
 rw [← hans] at hfold
 have hl := RowQ.mono' (ok' := fun j => okl j ∧ j < w.heap.size) hl (fun k h1 h2 => ⟨h1, h2⟩)
 rw [← hnl] at hl hsz hn ⊢
 obtain ⟨bl, ol, rfl⟩ := RowQ.some_ hl hn
 have hblw := (RowQ.okb hl hn).2
 have HNL := a0_ (And.intro hnl (And.intro hsz hn))
 have HFO := a0_ hfold
 obtain ⟨tx, Ax, nx, cx, Dx, kx, zx, hx, c0, c1, c2⟩ := RowQ.get hl 0 (by rw [← hnl]; exact hn)
 have e0 : ol + 0 * 3 = ol := by omega
 rw [e0] at c0 c1 c2
 have C0 := a0_ (And.intro c0 (And.intro c1 c2))
 have HBL := a0_ hblw
 have hz0 : ¬ (nl : Int) < 1 := by omega
 have hz1 : (0 : Int) < (nl : Int) := by omega
 have hz2 : decide ((nl : Int) < 1) = false := decide_eq_false hz0
 clear e0 c0 c1 c2 hans hfold hblw hnl hsz hn
 have HB := kf_ w
 have V_l := a0_ hl
 clear hl
 have B_l := kf_ w
 have V_x := a0_ hx
 clear hx
 have B_x := kf_ w
 go_enter Try.func47, Try.ntmps47
 go_wp2_with (first | ((with_reducible refine gd_ 4 rfl ?_); refine bx_ (N := 4) #[.bool false, .slice none 0 0, .slice none 0 0] 30 ?_; intro g_r hg w101 hbox hb; have G_r := kb_g HB hg; have O_r_l := kb_g B_l hg; have O_r_x := kb_g B_x hg; replace HB := kb_b HB hb; replace B_l := kb_b B_l hb; replace B_x := kb_b B_x hb; clear hb; have V_r := a0_ hbox; have B_r := kf_ w101; have N_r := nf_ g_r; clear hbox hg) | ((with_reducible refine gd_ 13 rfl ?_); refine load_at rfl rfl (g := bl) (k := ol) rfl (Kb.cell (S := fun k => False) C0.out.1 B_l.out (fun h => h)) (Kb.cell (S := fun k => False) C0.out.2.1 B_l.out (fun h => h)) (Kb.cell (S := fun k => False) C0.out.2.2 B_l.out (fun h => h)) ?_) | ((with_reducible refine gd_ 5 rfl ?_); refine bx_ (N := 5) #[.bool false, .slice none 0 0, .slice none 0 0] 30 ?_; intro g_m hg w102 hbox hb; have G_m := kb_g HB hg; have O_m_l := kb_g B_l hg; have O_m_x := kb_g B_x hg; have O_m_r := kb_g B_r hg; replace HB := kb_b HB hb; replace B_l := kb_b B_l hb; replace B_x := kb_b B_x hb; replace B_r := kb_b B_r hb; clear hb; have V_m := a0_ hbox; have B_m := kf_ w102; have N_m := nf_ g_m; clear hbox hg) | ((with_reducible refine gt_ 30 5 13 rfl ?_); refine store_ev (p := .tmp 5) (v := .tmp 13) rfl rfl rfl (g := g_m) rfl rfl (bk_ V_m B_m N_m) ?_; intro w103 hbox hk; replace HB := kb_o HB hk G_m; replace B_l := kb_o B_l hk O_m_l; replace B_x := kb_o B_x hk O_m_x; replace B_r := kb_o B_r hk O_m_r; clear V_m B_m; have V_m := a0_ hbox; have B_m := kf_ w103; clear hbox hk))
 go_loopg [6] nl (fun kg v6 wr => ∃ (k : Nat) (cur : Rat) (tx : Bool) (Ax : Option Addr) (nx cx : Nat) (Dx : Option Addr) (kx zx : Nat), v6 = .int .i64 k ∧ Aside0 (0 < k ∧ k + kg = nl + 1 ∧ (qs.drop k).foldl (extF true) cur = ans) ∧ Aside0 (IsR (fun j => okl j ∧ j < w.heap.size) w (.agg #[.bool tx, .slice Ax nx cx, .slice Dx kx zx]) cur) ∧ Aside0 (wr.heap[g_m]? = some (.cells #[.bool tx, .slice Ax nx cx, .slice Dx kx zx] 30 (0, 0))) ∧ Aside0 (Kb (fun k => False) w101 wr) ∧ Aside0 (Kb (fun k => False) w wr))
 case atStart => exact ⟨1, qs.getD 0 0, tx, Ax, nx, cx, Dx, kx, zx, rfl, ⟨by omega, by omega, HFO.out⟩, V_x, V_m, B_r, HB⟩
 case round =>
  obtain ⟨k, cur, tx, Ax, nx, cx, Dx, kx, zx, rfl, HK, HX, HM, HR, HB2⟩ := hrel
  clear V_x B_x V_m B_m B_r HB B_l C0
  have HB := HB2
  clear HB2
  have B_l := HB
  have V_x := HX
  have B_x := HB
  have B_r := HR
  have V_m := HM
  have B_m := kf_ wr
  clear HX HR HM
  by_cases hlt : k < nl
  · have hz : (k : Int) < (nl : Int) := by omega
    have hk0 : (0 : Int) ≤ (k : Int) := by omega
    obtain ⟨ty, Ay, ny, cy, Dy, ky, zy, hy, c0, c1, c2⟩ := RowQ.get V_l.out k (by rw [← HNL.out.1]; exact hlt)
    have C1 := a0_ (And.intro c0 (And.intro c1 c2))
    clear c0 c1 c2
    have V_y := a0_ hy
    clear hy
    have B_y := HB
    have O_m_y := G_m
    have e1 : IntKind.i64.wrap ((k : Int) + 1) = ((k + 1 : Nat) : Int) := (i64_w _).trans ((w64 (by have := HNL.out.2.1; omega) (by have := HNL.out.2.1; omega)).trans (by omega))
    obtain ⟨cv, hcv⟩ : ∃ c : Int, c = (if qs.getD k 0 < cur then -1 else if qs.getD k 0 = cur then 0 else 1) := ⟨_, rfl⟩
    have HCV := a0_ hcv
    clear hcv
    go_wp2_with fail
    have hb : Below wr.heap.size wr wr.drew := below_drew1 (Below.refl _ _)
    replace HB := kb_b HB hb
    replace B_l := kb_b B_l hb
    replace B_x := kb_b B_x hb
    replace B_r := kb_b B_r hb
    replace B_m := kb_b B_m hb
    replace B_y := kb_b B_y hb
    clear hb
    refine start_ (n := 8) (S := fun w' => (w'.cell? ⟨bl, (ol + k * 3), none⟩ = some (.bool ty) ∧ w'.cell? ⟨bl, (ol + k * 3) + 1, none⟩ = some (.slice Ay ny cy) ∧ w'.cell? ⟨bl, (ol + k * 3) + 2, none⟩ = some (.slice Dy ky zy)) ∧ w'.heap[g_m]? = some (.cells #[.bool tx, .slice Ax nx cx, .slice Dx kx zx] 30 (0, 0))) (ds := []) (tB_ 8 0) (by kernel_rfl) rfl (by kernel_rfl) ⟨⟨(Kb.cell (S := fun k => False) C1.out.1 B_l.out (fun h => h)), (Kb.cell (S := fun k => False) C1.out.2.1 B_l.out (fun h => h)), (Kb.cell (S := fun k => False) C1.out.2.2 B_l.out (fun h => h))⟩, bk_ V_m B_m N_m⟩ (fun hHeld => ?_)
    refine with_tabW Exttrue.tab7 Exttrue.bits7 (fun HT_ HW_ => ?_)
    generalize wr.drew = w105 at HB B_l B_x B_r B_m B_y hHeld ⊢
    refine pu_ 0 (some 20) 1 HT_ ?_
    refine pu_ 1 (some 21) 3 HT_ ?_
    refine pu_ 2 (some 22) 7 HT_ ?_
    refine pu_ 3 (some 23) 15 HT_ ?_
    refine tk_ 4 (some 24) 31 HT_ HW_ hHeld ?_ ?_ ?_ ?_ ?_
    rotate_left
    · intro w' hs
      have hb_ := hs.1
      obtain ⟨c0_, c1_, c2_⟩ := hb_
      clear hs
      go_simp
      with_reducible rfl
    rotate_left
    · simp only [PU]
      rfl
    refine tk_ 5 (some 25) 63 HT_ HW_ hHeld ?_ ?_ ?_ ?_ ?_
    rotate_left
    · intro w' hs
      have hb_ := hs.2
      obtain ⟨c0_, c1_, c2_⟩ := b3_ hb_
      clear hb_ hs
      go_simp
      with_reducible rfl
    rotate_left
    · simp only [PU]
      rfl
    refine on_ 6 (some 26) 127 HT_ (fun K hK => ?_)
    refine goesv_ Try.func39 (by kernel_rfl) rfl #[.agg #[.bool ty, .slice Ay ny cy, .slice Dy ky zy], .agg #[.bool tx, .slice Ax nx cx, .slice Dx kx zx]] (by rfl) rfl rfl (by go_simp) (by (try simp only [List.map_toArray, List.map_cons, List.map_nil]); first | done | rfl) ?_
    refine (cmp_as (wcompare_calls (qs.getD k 0) cur _ _ _ (IsR.kb (S := fun k => False) V_y.out B_y.out (fun _ _ h => h)) (IsR.kb (S := fun k => False) V_x.out B_x.out (fun _ _ h => h))) HCV.out).mono ?_
    rintro e w106 ⟨rfl, hb⟩
    refine ⟨_, rfl, ?_⟩
    refine hK.out _ _ (by exact ⟨⟨pw_cell_below hb hHeld.1.1, pw_cell_below hb hHeld.1.2.1, pw_cell_below hb hHeld.1.2.2⟩, blk_below hHeld.2 hb⟩) (fun hHeld => ?_)
    clear hK K
    refine nm_ (some 26) ?_
    replace HB := kb_b HB hb
    replace B_l := kb_b B_l hb
    replace B_x := kb_b B_x hb
    replace B_r := kb_b B_r hb
    replace B_m := kb_b B_m hb
    replace B_y := kb_b B_y hb
    clear hb
    refine pu_ 7 (some 27) 255 HT_ ?_
    refine do_ HT_ ?_
    clear HT_ HW_ hHeld
    by_cases hc : 0 < cv
    · skip
      have hst := ext_true_yes qs k cur ans _ (by rw [← HNL.out.1]; exact hlt) HK.out.2.2 HCV.out hc
      have HST := a0_ hst
      clear hst
      go_wp2_with (first | ((with_reducible refine gd_ 31 rfl ?_); refine load_at rfl rfl (g := bl) (k := (ol + k * 3)) rfl (Kb.cell (S := fun k => False) C1.out.1 B_l.out (fun h => h)) (Kb.cell (S := fun k => False) C1.out.2.1 B_l.out (fun h => h)) (Kb.cell (S := fun k => False) C1.out.2.2 B_l.out (fun h => h)) ?_) | ((with_reducible refine gt_ 30 5 31 rfl ?_); refine store_ev (p := .tmp 5) (v := .tmp 31) rfl rfl rfl (g := g_m) rfl rfl (bk_ V_m B_m N_m) ?_; intro w107 hbox hk; replace HB := kb_o HB hk G_m; replace B_l := kb_o B_l hk O_m_l; replace B_x := kb_o B_x hk O_m_x; replace B_r := kb_o B_r hk O_m_r; replace B_y := kb_o B_y hk O_m_y; clear V_m B_m; have V_m := a0_ hbox; have B_m := kf_ w107; clear hbox hk))
      go_roundg (nl - k)
      case measure => have := HK.out.2.1; omega
      case rel => exact ⟨k + 1, qs.getD k 0, ty, Ay, ny, cy, Dy, ky, zy, by first | rfl | rw [e1], ⟨by omega, by have := HK.out.2.1; omega, HST.out⟩, V_y, V_m, B_r, HB⟩
    · skip
      have hst := ext_true_no qs k cur ans _ (by rw [← HNL.out.1]; exact hlt) HK.out.2.2 HCV.out hc
      have HST := a0_ hst
      clear hst
      go_wp2_with fail
      go_roundg (nl - k)
      case measure => have := HK.out.2.1; omega
      case rel => exact ⟨k + 1, cur, tx, Ax, nx, cx, Dx, kx, zx, by first | rfl | rw [e1], ⟨by omega, by have := HK.out.2.1; omega, HST.out⟩, V_x, ⟨Kb.blk V_m.out B_m.out (fun h => h)⟩, B_r, HB⟩
  · have hz : ¬ (k : Int) < (nl : Int) := by omega
    have hcur : cur = ans := by have := HK.out.2.2; rwa [List.drop_of_length_le (by have := HNL.out.1; omega)] at this
    have HC := a0_ hcur
    clear hcur hlt
    go_wp2_with (first | ((with_reducible refine gd_ 32 rfl ?_); refine load_ev rfl rfl (g := g_m) rfl (bk_ V_m B_m N_m) ?_) | ((with_reducible refine gt_ 30 4 32 rfl ?_); refine store_ev (p := .tmp 4) (v := .tmp 32) rfl rfl rfl (g := g_r) rfl rfl (bk_ V_r B_r N_r) ?_; intro w105 hbox hk; replace HB := kb_o HB hk G_r; replace B_l := kb_o B_l hk O_r_l; replace B_x := kb_o B_x hk O_r_x; clear V_r B_r; have V_r := a0_ hbox; have B_r := kf_ w105; clear hbox hk))
    refine bodyPost_ret (results_cell_row rfl _ _ g_r 30 #[.bool tx, .slice Ax nx cx, .slice Dx kx zx] (0, 0) _ rfl (bk_ V_r B_r N_r) Try.underlying30 rfl (by kernel_rfl)) rfl ?_
    exact ⟨⟨_, rfl, by rw [← HC.out]; exact IsR.mono (IsR.kb V_x.out B_x.out (fun _ _ h => h)) (fun k h => h.1)⟩, (Kb.to_below HB.out (fun _ h => h.elim))⟩
theorem RowS.okb {ok : Nat → Prop} {w : World} {b o n c : Nat} {ss : List Smp} (h : RowS ok w (.slice (some ⟨b, o, none⟩) n c) ss) (h0 : 0 < n) : ok b := by
 obtain ⟨ad, cs, he, hlen, hK, hc, hok⟩ := Kd.F_get (Kd.V_F h) ⟨0, 0, none⟩ 0 (by omega) (by omega)
 injection he with he
 subst he
 exact hok (by decide)
theorem ValS.get {ss : List Smp} {qs : List Rat} (h : ValS ss qs) (i : Nat) (hi : i < ss.length) : (ss.getD i ⟨0, 0, none⟩).q = some (qs.getD i 0) := h.2 i hi
theorem run8_calls {okl : Nat → Prop} (rb : Nat) (over : Int) (ss : List Smp) (qs : List Rat) (hn0 : 0 < ss.length) (hsz : ss.length ≤ 1000000) (w : World) (tq : Bool) (Aq : Option Addr) (nq cq : Nat) (Dq : Option Addr) (kq zq : Nat) (vl : Value) (hr : Rk w rb false) (hl : RowS okl w vl ss) (hok : ∀ k, okl k → k ≠ rb) (hvs : ValS ss qs) :
 Calls Try.prog 30 #[.pointer (some ⟨rb, 0, none⟩), .int .i64 8, .int .i64 over, .agg #[.bool tq, .slice Aq nq cq, .slice Dq kq zq], vl] w fun e w' => ∃ v, e = .returned v ∧ Res (fun k => okl k ∨ w.heap.size ≤ k) w' v (some (extQ false qs)) ∧ Rk w' rb (some (extQ false qs)).isNone ∧ Kb (fun k => k = rb) w w' := by
 obtain ⟨ans, hans⟩ : ∃ a, a = some (extQ false qs) := ⟨_, rfl⟩
 rw [← hans]
 have HANS := a0_ hans
 clear hans
 have hu30 := Try.underlying30
 have hu39 := Try.underlying39
 obtain ⟨Al, cl, rfl⟩ := hl.slice
 obtain ⟨nl, hnl⟩ : ∃ nl, nl = ss.length := ⟨_, rfl⟩
 rw [← hnl] at hl hn0 hsz ⊢
 have HNL := a0_ (And.intro hnl (And.intro hn0 hsz))
 have hl2 : RowS (fun k => k ≠ rb ∧ (okl k ∧ k < w.heap.size)) w (.slice Al nl cl) ss := RowS.mono' hl (fun k h1 h2 => ⟨hok k h1, h1, h2⟩)
 have HOKL := a0_ hok
 clear hnl hl hok
 have HB := kr_ rb w
 have HL := a0_ (Rk.lt hr)
 have RK := a0_ hr
 clear hr
 have V_l := a0_ hl2
 clear hl2
 have B_l := kr_ rb w
 clear hn0 hsz
 go_enter Try.func30, Try.ntmps30
 go_wp2_with (first | ((with_reducible refine gd_ 8 rfl ?_); refine bx_ (N := 8) #[.bool tq, .slice Aq nq cq, .slice Dq kq zq] 30 ?_; intro g_q hg w101 hbox hb; have G_q := kb_g HB hg; replace HB := kb_b HB hb; replace B_l := kb_b B_l hb; replace RK := rk_b RK hb; clear hb; have V_q := a0_ hbox; have B_q := kr_ rb w101; have N_q : Aside0 (¬ (fun k => k = rb) g_q) := ⟨by show ¬ (_ = _); have := HL.out; have := G_q.out; omega⟩; clear hbox hg) | ((with_reducible refine gd_ 10 rfl ?_); refine bx_ (N := 10) #[.bool false, .slice none 0 0, .slice none 0 0] 30 ?_; intro g_r hg w102 hbox hb; have G_r := kb_g HB hg; replace HB := kb_b HB hb; replace B_l := kb_b B_l hb; replace B_q := kb_b B_q hb; replace RK := rk_b RK hb; clear hb; have V_r := a0_ hbox; have B_r := kr_ rb w102; have N_r : Aside0 (¬ (fun k => k = rb) g_r) := ⟨by show ¬ (_ = _); have := HL.out; have := G_r.out; omega⟩; clear hbox hg))
 with_reducible refine (qofn_calls nl HNL.out.2.2 _).mono ?_
 rintro e w103 ⟨⟨v, rfl, hv⟩, hb⟩
 obtain ⟨tn, An, nn, cn, Dn, kn, zn, rfl⟩ := hv.agg
 have hle := Kb.size HB.out
 have hl_r := blk_lt (bk_ V_r B_r N_r)
 have hv_ := IsR.mono' (ok' := fun k => k ≠ rb ∧ k ≠ g_r ∧ w.heap.size ≤ k) hv (fun k hk _ => by have := HL.out; refine ⟨?_, ?_, ?_⟩ <;> omega)
 clear hv hle hl_r
 replace HB := kb_b HB hb
 replace B_l := kb_b B_l hb
 replace B_q := kb_b B_q hb
 replace B_r := kb_b B_r hb
 replace RK := rk_b RK hb
 clear hb
 have V_vn := a0_ hv_
 clear hv_
 have B_vn := a0_ (Kb.refl (fun k => k = rb ∨ k = g_r) w103)
 go_wp2_with (first | ((with_reducible refine gd_ 11 rfl ?_); refine bx_ (N := 11) #[.bool false, .slice none 0 0, .slice none 0 0] 30 ?_; intro g_n hg w104 hbox hb; have G_n := kb_g HB hg; have O_n_l := kb_g B_l hg; have O_n_q := kb_g B_q hg; have O_n_r := kb_g B_r hg; have O_n_vn := kb_g B_vn hg; replace HB := kb_b HB hb; replace B_l := kb_b B_l hb; replace B_q := kb_b B_q hb; replace B_r := kb_b B_r hb; replace B_vn := kb_b B_vn hb; replace RK := rk_b RK hb; clear hb; have V_n := a0_ hbox; have B_n := kr_ rb w104; have N_n : Aside0 (¬ (fun k => k = rb) g_n) := ⟨by show ¬ (_ = _); have := HL.out; have := G_n.out; omega⟩; clear hbox hg) | ((with_reducible refine gt_ 30 11 14 rfl ?_); refine store_ev (p := .tmp 11) (v := .tmp 14) rfl rfl rfl (g := g_n) rfl rfl (bk_ V_n B_n N_n) ?_; intro w105 hbox hk; replace HB := kb_o HB hk G_n; replace B_l := kb_o B_l hk O_n_l; replace B_q := kb_o B_q hk O_n_q; replace B_r := kb_o B_r hk O_n_r; replace B_vn := kb_o B_vn hk O_n_vn; have Z_ := a0_ (Rk.kb RK.out hk (by have := HL.out; have := G_n.out; omega)); clear RK; have RK := Z_; clear Z_; clear V_n B_n; have V_n := a0_ hbox; have B_n := kr_ rb w105; clear hbox hk))
 clear V_vn B_vn
 with_reducible refine (each_value ss qs hvs (by rw [← HNL.out.1]; exact HNL.out.2.2) _ _ (RowS.kb (S := fun k => k = rb) V_l.out B_l.out (fun k h hs => absurd hs h.1))).mono ?_
 rintro e w106 ⟨⟨v, rfl, hv⟩, hb⟩
 obtain ⟨Ae, ce, rfl⟩ := RowQ.slice hv
 have hle := Kb.size HB.out
 have hlr := blk_lt (bk_ V_r B_r N_r)
 have hv_ := RowQ.mono' (ok' := fun k => k ≠ rb ∧ k ≠ g_r ∧ (okl k ∨ w.heap.size ≤ k)) hv (fun k hk _ => by
  have := HL.out
  have h3 := G_r.out
  rcases hk with hk | hk
  · exact ⟨hk.1, fun e => by have := hk.2.2; omega, Or.inl hk.2.1⟩
  · exact ⟨by omega, by omega, Or.inr (by omega)⟩)
 clear hv hle hlr
 replace HB := kb_b HB hb
 replace B_l := kb_b B_l hb
 replace B_q := kb_b B_q hb
 replace B_r := kb_b B_r hb
 replace B_n := kb_b B_n hb
 replace RK := rk_b RK hb
 clear hb
 have V_e := a0_ hv_
 clear hv_
 have B_e := a0_ (Kb.refl (fun k => k = rb ∨ k = g_r) w106)
 go_wp2_with fail
 with_reducible refine (min_calls qs (by rw [ValS.len hvs, ← HNL.out.1]; exact HNL.out.2.1) (by rw [ValS.len hvs, ← HNL.out.1]; exact HNL.out.2.2) _ _ (RowQ.kb (S := fun k => k = rb ∨ k = g_r) V_e.out B_e.out (fun k h hs => hs.elim h.1 h.2.1))).mono ?_
 rintro e w107 ⟨⟨v, rfl, hv⟩, hb⟩
 obtain ⟨tv, Av, nv, cv, Dv, kv, zv, rfl⟩ := hv.agg
 replace HB := kb_b HB hb
 replace B_l := kb_b B_l hb
 replace B_q := kb_b B_q hb
 replace B_r := kb_b B_r hb
 replace B_n := kb_b B_n hb
 replace B_e := kb_b B_e hb
 replace RK := rk_b RK hb
 clear hb
 have V_v := a0_ hv
 clear hv
 have B_v := a0_ (Kb.refl (fun k => k = rb ∨ k = g_r) w107)
 clear V_l B_l
 clear V_e B_e
 clear V_q B_q
 clear V_n B_n
 go_wp2_with (first | ((with_reducible refine gt_ 30 10 59 rfl ?_); refine store_ev (p := .tmp 10) (v := .tmp 59) rfl rfl rfl (g := g_r) rfl rfl (bk_ V_r B_r N_r) ?_; intro w108 hbox hk; replace HB := kb_o HB hk G_r; replace B_v := kb_t B_v hk (fun i hi => by exact Or.inl (Or.inr hi)); have Z_ := a0_ (Rk.kb RK.out hk (by have := HL.out; have := G_r.out; omega)); clear RK; have RK := Z_; clear Z_; clear V_r B_r; have V_r := a0_ hbox; have B_r := kr_ rb w108; clear hbox hk))
 have ha := HANS.out
 refine bodyPost_ret (results_cell_row rfl _ _ g_r 30 #[.bool tv, .slice Av nv cv, .slice Dv kv zv] (0, 0) _ rfl (bk_ V_r B_r N_r) Try.underlying30 rfl (by kernel_rfl)) rfl ?_
 exact ⟨_, rfl, by rw [ha]; exact ((IsR.mono (IsR.kb (S := fun k => k = rb ∨ k = g_r) V_v.out B_v.out (fun k h hs => hs.elim h.1 h.2.1)) (fun k h => h.2.2))), by rw [ha]; exact RK.out, HB.out⟩
theorem run9_calls {okl : Nat → Prop} (rb : Nat) (over : Int) (ss : List Smp) (qs : List Rat) (hn0 : 0 < ss.length) (hsz : ss.length ≤ 1000000) (w : World) (tq : Bool) (Aq : Option Addr) (nq cq : Nat) (Dq : Option Addr) (kq zq : Nat) (vl : Value) (hr : Rk w rb false) (hl : RowS okl w vl ss) (hok : ∀ k, okl k → k ≠ rb) (hvs : ValS ss qs) :
 Calls Try.prog 30 #[.pointer (some ⟨rb, 0, none⟩), .int .i64 9, .int .i64 over, .agg #[.bool tq, .slice Aq nq cq, .slice Dq kq zq], vl] w fun e w' => ∃ v, e = .returned v ∧ Res (fun k => okl k ∨ w.heap.size ≤ k) w' v (some (extQ true qs)) ∧ Rk w' rb (some (extQ true qs)).isNone ∧ Kb (fun k => k = rb) w w' := by
 obtain ⟨ans, hans⟩ : ∃ a, a = some (extQ true qs) := ⟨_, rfl⟩
 rw [← hans]
 have HANS := a0_ hans
 clear hans
 have hu30 := Try.underlying30
 have hu39 := Try.underlying39
 obtain ⟨Al, cl, rfl⟩ := hl.slice
 obtain ⟨nl, hnl⟩ : ∃ nl, nl = ss.length := ⟨_, rfl⟩
 rw [← hnl] at hl hn0 hsz ⊢
 have HNL := a0_ (And.intro hnl (And.intro hn0 hsz))
 have hl2 : RowS (fun k => k ≠ rb ∧ (okl k ∧ k < w.heap.size)) w (.slice Al nl cl) ss := RowS.mono' hl (fun k h1 h2 => ⟨hok k h1, h1, h2⟩)
 have HOKL := a0_ hok
 clear hnl hl hok
 have HB := kr_ rb w
 have HL := a0_ (Rk.lt hr)
 have RK := a0_ hr
 clear hr
 have V_l := a0_ hl2
 clear hl2
 have B_l := kr_ rb w
 clear hn0 hsz
 go_enter Try.func30, Try.ntmps30
 go_wp2_with (first | ((with_reducible refine gd_ 8 rfl ?_); refine bx_ (N := 8) #[.bool tq, .slice Aq nq cq, .slice Dq kq zq] 30 ?_; intro g_q hg w101 hbox hb; have G_q := kb_g HB hg; replace HB := kb_b HB hb; replace B_l := kb_b B_l hb; replace RK := rk_b RK hb; clear hb; have V_q := a0_ hbox; have B_q := kr_ rb w101; have N_q : Aside0 (¬ (fun k => k = rb) g_q) := ⟨by show ¬ (_ = _); have := HL.out; have := G_q.out; omega⟩; clear hbox hg) | ((with_reducible refine gd_ 10 rfl ?_); refine bx_ (N := 10) #[.bool false, .slice none 0 0, .slice none 0 0] 30 ?_; intro g_r hg w102 hbox hb; have G_r := kb_g HB hg; replace HB := kb_b HB hb; replace B_l := kb_b B_l hb; replace B_q := kb_b B_q hb; replace RK := rk_b RK hb; clear hb; have V_r := a0_ hbox; have B_r := kr_ rb w102; have N_r : Aside0 (¬ (fun k => k = rb) g_r) := ⟨by show ¬ (_ = _); have := HL.out; have := G_r.out; omega⟩; clear hbox hg))
 with_reducible refine (qofn_calls nl HNL.out.2.2 _).mono ?_
 rintro e w103 ⟨⟨v, rfl, hv⟩, hb⟩
 obtain ⟨tn, An, nn, cn, Dn, kn, zn, rfl⟩ := hv.agg
 have hle := Kb.size HB.out
 have hl_r := blk_lt (bk_ V_r B_r N_r)
 have hv_ := IsR.mono' (ok' := fun k => k ≠ rb ∧ k ≠ g_r ∧ w.heap.size ≤ k) hv (fun k hk _ => by have := HL.out; refine ⟨?_, ?_, ?_⟩ <;> omega)
 clear hv hle hl_r
 replace HB := kb_b HB hb
 replace B_l := kb_b B_l hb
 replace B_q := kb_b B_q hb
 replace B_r := kb_b B_r hb
 replace RK := rk_b RK hb
 clear hb
 have V_vn := a0_ hv_
 clear hv_
 have B_vn := a0_ (Kb.refl (fun k => k = rb ∨ k = g_r) w103)
 go_wp2_with (first | ((with_reducible refine gd_ 11 rfl ?_); refine bx_ (N := 11) #[.bool false, .slice none 0 0, .slice none 0 0] 30 ?_; intro g_n hg w104 hbox hb; have G_n := kb_g HB hg; have O_n_l := kb_g B_l hg; have O_n_q := kb_g B_q hg; have O_n_r := kb_g B_r hg; have O_n_vn := kb_g B_vn hg; replace HB := kb_b HB hb; replace B_l := kb_b B_l hb; replace B_q := kb_b B_q hb; replace B_r := kb_b B_r hb; replace B_vn := kb_b B_vn hb; replace RK := rk_b RK hb; clear hb; have V_n := a0_ hbox; have B_n := kr_ rb w104; have N_n : Aside0 (¬ (fun k => k = rb) g_n) := ⟨by show ¬ (_ = _); have := HL.out; have := G_n.out; omega⟩; clear hbox hg) | ((with_reducible refine gt_ 30 11 14 rfl ?_); refine store_ev (p := .tmp 11) (v := .tmp 14) rfl rfl rfl (g := g_n) rfl rfl (bk_ V_n B_n N_n) ?_; intro w105 hbox hk; replace HB := kb_o HB hk G_n; replace B_l := kb_o B_l hk O_n_l; replace B_q := kb_o B_q hk O_n_q; replace B_r := kb_o B_r hk O_n_r; replace B_vn := kb_o B_vn hk O_n_vn; have Z_ := a0_ (Rk.kb RK.out hk (by have := HL.out; have := G_n.out; omega)); clear RK; have RK := Z_; clear Z_; clear V_n B_n; have V_n := a0_ hbox; have B_n := kr_ rb w105; clear hbox hk))
 clear V_vn B_vn
 with_reducible refine (each_value ss qs hvs (by rw [← HNL.out.1]; exact HNL.out.2.2) _ _ (RowS.kb (S := fun k => k = rb) V_l.out B_l.out (fun k h hs => absurd hs h.1))).mono ?_
 rintro e w106 ⟨⟨v, rfl, hv⟩, hb⟩
 obtain ⟨Ae, ce, rfl⟩ := RowQ.slice hv
 have hle := Kb.size HB.out
 have hlr := blk_lt (bk_ V_r B_r N_r)
 have hv_ := RowQ.mono' (ok' := fun k => k ≠ rb ∧ k ≠ g_r ∧ (okl k ∨ w.heap.size ≤ k)) hv (fun k hk _ => by
  have := HL.out
  have h3 := G_r.out
  rcases hk with hk | hk
  · exact ⟨hk.1, fun e => by have := hk.2.2; omega, Or.inl hk.2.1⟩
  · exact ⟨by omega, by omega, Or.inr (by omega)⟩)
 clear hv hle hlr
 replace HB := kb_b HB hb
 replace B_l := kb_b B_l hb
 replace B_q := kb_b B_q hb
 replace B_r := kb_b B_r hb
 replace B_n := kb_b B_n hb
 replace RK := rk_b RK hb
 clear hb
 have V_e := a0_ hv_
 clear hv_
 have B_e := a0_ (Kb.refl (fun k => k = rb ∨ k = g_r) w106)
 go_wp2_with fail
 with_reducible refine (max_calls qs (by rw [ValS.len hvs, ← HNL.out.1]; exact HNL.out.2.1) (by rw [ValS.len hvs, ← HNL.out.1]; exact HNL.out.2.2) _ _ (RowQ.kb (S := fun k => k = rb ∨ k = g_r) V_e.out B_e.out (fun k h hs => hs.elim h.1 h.2.1))).mono ?_
 rintro e w107 ⟨⟨v, rfl, hv⟩, hb⟩
 obtain ⟨tv, Av, nv, cv, Dv, kv, zv, rfl⟩ := hv.agg
 replace HB := kb_b HB hb
 replace B_l := kb_b B_l hb
 replace B_q := kb_b B_q hb
 replace B_r := kb_b B_r hb
 replace B_n := kb_b B_n hb
 replace B_e := kb_b B_e hb
 replace RK := rk_b RK hb
 clear hb
 have V_v := a0_ hv
 clear hv
 have B_v := a0_ (Kb.refl (fun k => k = rb ∨ k = g_r) w107)
 clear V_l B_l
 clear V_e B_e
 clear V_q B_q
 clear V_n B_n
 go_wp2_with (first | ((with_reducible refine gt_ 30 10 64 rfl ?_); refine store_ev (p := .tmp 10) (v := .tmp 64) rfl rfl rfl (g := g_r) rfl rfl (bk_ V_r B_r N_r) ?_; intro w108 hbox hk; replace HB := kb_o HB hk G_r; replace B_v := kb_t B_v hk (fun i hi => by exact Or.inl (Or.inr hi)); have Z_ := a0_ (Rk.kb RK.out hk (by have := HL.out; have := G_r.out; omega)); clear RK; have RK := Z_; clear Z_; clear V_r B_r; have V_r := a0_ hbox; have B_r := kr_ rb w108; clear hbox hk))
 have ha := HANS.out
 refine bodyPost_ret (results_cell_row rfl _ _ g_r 30 #[.bool tv, .slice Av nv cv, .slice Dv kv zv] (0, 0) _ rfl (bk_ V_r B_r N_r) Try.underlying30 rfl (by kernel_rfl)) rfl ?_
 exact ⟨_, rfl, by rw [ha]; exact ((IsR.mono (IsR.kb (S := fun k => k = rb ∨ k = g_r) V_v.out B_v.out (fun k h hs => hs.elim h.1 h.2.1)) (fun k h => h.2.2))), by rw [ha]; exact RK.out, HB.out⟩
theorem run10_calls {okl : Nat → Prop} (rb : Nat) (over : Int) (ss : List Smp) (qs : List Rat) (hn0 : 0 < ss.length) (hsz : ss.length ≤ 1000000) (w : World) (tq : Bool) (Aq : Option Addr) (nq cq : Nat) (Dq : Option Addr) (kq zq : Nat) (vl : Value) (hr : Rk w rb false) (hl : RowS okl w vl ss) (hok : ∀ k, okl k → k ≠ rb) (hvs : ValS ss qs) :
 Calls Try.prog 30 #[.pointer (some ⟨rb, 0, none⟩), .int .i64 10, .int .i64 over, .agg #[.bool tq, .slice Aq nq cq, .slice Dq kq zq], vl] w fun e w' => ∃ v, e = .returned v ∧ Res (fun k => okl k ∨ w.heap.size ≤ k) w' v (some (qs.getD 0 0)) ∧ Rk w' rb (some (qs.getD 0 0)).isNone ∧ Kb (fun k => k = rb) w w' := by
 obtain ⟨ans, hans⟩ : ∃ a, a = some (qs.getD 0 0) := ⟨_, rfl⟩
 rw [← hans]
 have HANS := a0_ hans
 clear hans
 have hu30 := Try.underlying30
 have hu39 := Try.underlying39
 obtain ⟨Al, cl, rfl⟩ := hl.slice
 obtain ⟨nl, hnl⟩ : ∃ nl, nl = ss.length := ⟨_, rfl⟩
 rw [← hnl] at hl hn0 hsz ⊢
 have HNL := a0_ (And.intro hnl (And.intro hn0 hsz))
 have hl2 : RowS (fun k => k ≠ rb ∧ (okl k ∧ k < w.heap.size)) w (.slice Al nl cl) ss := RowS.mono' hl (fun k h1 h2 => ⟨hok k h1, h1, h2⟩)
 have HOKL := a0_ hok
 clear hnl hl hok
 have hj1 : (0 : Int) < (nl : Int) := by omega
 obtain ⟨bl, ol, rfl⟩ := RowS.some_ hl2 hn0
 have hbl := a0_ (RowS.okb hl2 hn0).1
 obtain ⟨ty, Ay, ny, cy, Dy, ky, zy, hy, c0, c1, c2, c3, c4⟩ := RowS.get hl2 0 (by rw [← HNL.out.1]; omega)
 have hyv := hy _ (ValS.get hvs 0 (by rw [← HNL.out.1]; omega))
 clear hy c0 c1
 have e0 : ol + 0 * 5 = ol := by omega
 rw [e0] at c2 c3 c4
 clear e0
 have C0 := a0_ (And.intro c2 (And.intro c3 c4))
 clear c2 c3 c4
 have V_y := a0_ hyv
 clear hyv
 have B_y := kr_ rb w
 have HB := kr_ rb w
 have HL := a0_ (Rk.lt hr)
 have RK := a0_ hr
 clear hr
 have V_l := a0_ hl2
 clear hl2
 have B_l := kr_ rb w
 clear hn0 hsz
 go_enter Try.func30, Try.ntmps30
 go_wp2_with (first | ((with_reducible refine gd_ 8 rfl ?_); refine bx_ (N := 8) #[.bool tq, .slice Aq nq cq, .slice Dq kq zq] 30 ?_; intro g_q hg w101 hbox hb; have G_q := kb_g HB hg; replace HB := kb_b HB hb; replace B_y := kb_b B_y hb; replace B_l := kb_b B_l hb; replace RK := rk_b RK hb; clear hb; have V_q := a0_ hbox; have B_q := kr_ rb w101; have N_q : Aside0 (¬ (fun k => k = rb) g_q) := ⟨by show ¬ (_ = _); have := HL.out; have := G_q.out; omega⟩; clear hbox hg) | ((with_reducible refine gd_ 10 rfl ?_); refine bx_ (N := 10) #[.bool false, .slice none 0 0, .slice none 0 0] 30 ?_; intro g_r hg w102 hbox hb; have G_r := kb_g HB hg; have O_r_y := kb_g B_y hg; replace HB := kb_b HB hb; replace B_y := kb_b B_y hb; replace B_l := kb_b B_l hb; replace B_q := kb_b B_q hb; replace RK := rk_b RK hb; clear hb; have V_r := a0_ hbox; have B_r := kr_ rb w102; have N_r : Aside0 (¬ (fun k => k = rb) g_r) := ⟨by show ¬ (_ = _); have := HL.out; have := G_r.out; omega⟩; clear hbox hg))
 with_reducible refine (qofn_calls nl HNL.out.2.2 _).mono ?_
 rintro e w103 ⟨⟨v, rfl, hv⟩, hb⟩
 obtain ⟨tn, An, nn, cn, Dn, kn, zn, rfl⟩ := hv.agg
 have hle := Kb.size HB.out
 have hl_r := blk_lt (bk_ V_r B_r N_r)
 have hv_ := IsR.mono' (ok' := fun k => k ≠ rb ∧ k ≠ g_r ∧ w.heap.size ≤ k) hv (fun k hk _ => by have := HL.out; refine ⟨?_, ?_, ?_⟩ <;> omega)
 clear hv hle hl_r
 replace HB := kb_b HB hb
 replace B_y := kb_b B_y hb
 replace B_l := kb_b B_l hb
 replace B_q := kb_b B_q hb
 replace B_r := kb_b B_r hb
 replace RK := rk_b RK hb
 clear hb
 have V_vn := a0_ hv_
 clear hv_
 have B_vn := a0_ (Kb.refl (fun k => k = rb ∨ k = g_r) w103)
 go_wp2_with (first | ((with_reducible refine gd_ 11 rfl ?_); refine bx_ (N := 11) #[.bool false, .slice none 0 0, .slice none 0 0] 30 ?_; intro g_n hg w104 hbox hb; have G_n := kb_g HB hg; have O_n_y := kb_g B_y hg; have O_n_l := kb_g B_l hg; have O_n_q := kb_g B_q hg; have O_n_r := kb_g B_r hg; have O_n_vn := kb_g B_vn hg; replace HB := kb_b HB hb; replace B_y := kb_b B_y hb; replace B_l := kb_b B_l hb; replace B_q := kb_b B_q hb; replace B_r := kb_b B_r hb; replace B_vn := kb_b B_vn hb; replace RK := rk_b RK hb; clear hb; have V_n := a0_ hbox; have B_n := kr_ rb w104; have N_n : Aside0 (¬ (fun k => k = rb) g_n) := ⟨by show ¬ (_ = _); have := HL.out; have := G_n.out; omega⟩; clear hbox hg) | ((with_reducible refine gt_ 30 11 14 rfl ?_); refine store_ev (p := .tmp 11) (v := .tmp 14) rfl rfl rfl (g := g_n) rfl rfl (bk_ V_n B_n N_n) ?_; intro w105 hbox hk; replace HB := kb_o HB hk G_n; replace B_y := kb_o B_y hk O_n_y; replace B_l := kb_o B_l hk O_n_l; replace B_q := kb_o B_q hk O_n_q; replace B_r := kb_o B_r hk O_n_r; replace B_vn := kb_o B_vn hk O_n_vn; have Z_ := a0_ (Rk.kb RK.out hk (by have := HL.out; have := G_n.out; omega)); clear RK; have RK := Z_; clear Z_; clear V_n B_n; have V_n := a0_ hbox; have B_n := kr_ rb w105; clear hbox hk) | ((with_reducible refine gd_ 70 rfl ?_); refine load_at rfl rfl (g := bl) (k := (ol + 2)) rfl (Kb.cell (S := fun k => k = rb) C0.out.1 B_l.out hbl.out) (Kb.cell (S := fun k => k = rb) C0.out.2.1 B_l.out hbl.out) (Kb.cell (S := fun k => k = rb) C0.out.2.2 B_l.out hbl.out) ?_) | ((with_reducible refine gt_ 30 10 70 rfl ?_); refine store_ev (p := .tmp 10) (v := .tmp 70) rfl rfl rfl (g := g_r) rfl rfl (bk_ V_r B_r N_r) ?_; intro w106 hbox hk; replace HB := kb_o HB hk G_r; replace B_y := kb_o B_y hk O_r_y; have Z_ := a0_ (Rk.kb RK.out hk (by have := HL.out; have := G_r.out; omega)); clear RK; have RK := Z_; clear Z_; clear V_r B_r; have V_r := a0_ hbox; have B_r := kr_ rb w106; clear hbox hk))
 have ha := HANS.out
 refine bodyPost_ret (results_cell_row rfl _ _ g_r 30 #[.bool ty, .slice Ay ny cy, .slice Dy ky zy] (0, 0) _ rfl (bk_ V_r B_r N_r) Try.underlying30 rfl (by kernel_rfl)) rfl ?_
 exact ⟨_, rfl, by rw [ha]; exact ((IsR.mono (IsR.kb (S := fun k => k = rb) V_y.out B_y.out (fun k h hs => h.1 hs)) (fun k h => Or.inl h.2.1))), by rw [ha]; exact RK.out, HB.out⟩
theorem run11_calls {okl : Nat → Prop} (rb : Nat) (over : Int) (ss : List Smp) (qs : List Rat) (hn0 : 0 < ss.length) (hsz : ss.length ≤ 1000000) (w : World) (tq : Bool) (Aq : Option Addr) (nq cq : Nat) (Dq : Option Addr) (kq zq : Nat) (vl : Value) (hr : Rk w rb false) (hl : RowS okl w vl ss) (hok : ∀ k, okl k → k ≠ rb) (hvs : ValS ss qs) :
 Calls Try.prog 30 #[.pointer (some ⟨rb, 0, none⟩), .int .i64 11, .int .i64 over, .agg #[.bool tq, .slice Aq nq cq, .slice Dq kq zq], vl] w fun e w' => ∃ v, e = .returned v ∧ Res (fun k => okl k ∨ w.heap.size ≤ k) w' v (some (qs.getD (ss.length - 1) 0)) ∧ Rk w' rb (some (qs.getD (ss.length - 1) 0)).isNone ∧ Kb (fun k => k = rb) w w' := by
 obtain ⟨ans, hans⟩ : ∃ a, a = some (qs.getD (ss.length - 1) 0) := ⟨_, rfl⟩
 rw [← hans]
 have HANS := a0_ hans
 clear hans
 have hu30 := Try.underlying30
 have hu39 := Try.underlying39
 obtain ⟨Al, cl, rfl⟩ := hl.slice
 obtain ⟨nl, hnl⟩ : ∃ nl, nl = ss.length := ⟨_, rfl⟩
 rw [← hnl] at hl hn0 hsz ⊢
 have HNL := a0_ (And.intro hnl (And.intro hn0 hsz))
 have hl2 : RowS (fun k => k ≠ rb ∧ (okl k ∧ k < w.heap.size)) w (.slice Al nl cl) ss := RowS.mono' hl (fun k h1 h2 => ⟨hok k h1, h1, h2⟩)
 have HOKL := a0_ hok
 clear hnl hl hok
 obtain ⟨n1, hn1⟩ : ∃ n1, n1 = nl - 1 := ⟨_, rfl⟩
 have e1 : IntKind.i64.wrap ((nl : Int) - 1) = (n1 : Int) := (i64_w _).trans ((w64 (by omega) (by omega)).trans (by omega))
 have e2 : Go.RowKit.wrap64 ((nl : Int) - 1) = (n1 : Int) := (w64 (by omega) (by omega)).trans (by omega)
 have hj0 : (0 : Int) ≤ (n1 : Int) := by omega
 have hj1 : (n1 : Int) < (nl : Int) := by omega
 have HN1 := a0_ hn1
 clear hn1
 obtain ⟨bl, ol, rfl⟩ := RowS.some_ hl2 hn0
 have hbl := a0_ (RowS.okb hl2 hn0).1
 obtain ⟨ty, Ay, ny, cy, Dy, ky, zy, hy, c0, c1, c2, c3, c4⟩ := RowS.get hl2 n1 (by rw [← HNL.out.1]; have := HN1.out; omega)
 have hyv := hy _ (ValS.get hvs n1 (by rw [← HNL.out.1]; have := HN1.out; omega))
 clear hy c0 c1
 have C0 := a0_ (And.intro c2 (And.intro c3 c4))
 clear c2 c3 c4
 have V_y := a0_ hyv
 clear hyv
 have B_y := kr_ rb w
 have HB := kr_ rb w
 have HL := a0_ (Rk.lt hr)
 have RK := a0_ hr
 clear hr
 have V_l := a0_ hl2
 clear hl2
 have B_l := kr_ rb w
 clear hn0 hsz
 go_enter Try.func30, Try.ntmps30
 go_wp2_with (first | ((with_reducible refine gd_ 8 rfl ?_); refine bx_ (N := 8) #[.bool tq, .slice Aq nq cq, .slice Dq kq zq] 30 ?_; intro g_q hg w101 hbox hb; have G_q := kb_g HB hg; replace HB := kb_b HB hb; replace B_y := kb_b B_y hb; replace B_l := kb_b B_l hb; replace RK := rk_b RK hb; clear hb; have V_q := a0_ hbox; have B_q := kr_ rb w101; have N_q : Aside0 (¬ (fun k => k = rb) g_q) := ⟨by show ¬ (_ = _); have := HL.out; have := G_q.out; omega⟩; clear hbox hg) | ((with_reducible refine gd_ 10 rfl ?_); refine bx_ (N := 10) #[.bool false, .slice none 0 0, .slice none 0 0] 30 ?_; intro g_r hg w102 hbox hb; have G_r := kb_g HB hg; have O_r_y := kb_g B_y hg; replace HB := kb_b HB hb; replace B_y := kb_b B_y hb; replace B_l := kb_b B_l hb; replace B_q := kb_b B_q hb; replace RK := rk_b RK hb; clear hb; have V_r := a0_ hbox; have B_r := kr_ rb w102; have N_r : Aside0 (¬ (fun k => k = rb) g_r) := ⟨by show ¬ (_ = _); have := HL.out; have := G_r.out; omega⟩; clear hbox hg))
 with_reducible refine (qofn_calls nl HNL.out.2.2 _).mono ?_
 rintro e w103 ⟨⟨v, rfl, hv⟩, hb⟩
 obtain ⟨tn, An, nn, cn, Dn, kn, zn, rfl⟩ := hv.agg
 have hle := Kb.size HB.out
 have hl_r := blk_lt (bk_ V_r B_r N_r)
 have hv_ := IsR.mono' (ok' := fun k => k ≠ rb ∧ k ≠ g_r ∧ w.heap.size ≤ k) hv (fun k hk _ => by have := HL.out; refine ⟨?_, ?_, ?_⟩ <;> omega)
 clear hv hle hl_r
 replace HB := kb_b HB hb
 replace B_y := kb_b B_y hb
 replace B_l := kb_b B_l hb
 replace B_q := kb_b B_q hb
 replace B_r := kb_b B_r hb
 replace RK := rk_b RK hb
 clear hb
 have V_vn := a0_ hv_
 clear hv_
 have B_vn := a0_ (Kb.refl (fun k => k = rb ∨ k = g_r) w103)
 go_wp2_with (first | ((with_reducible refine gd_ 11 rfl ?_); refine bx_ (N := 11) #[.bool false, .slice none 0 0, .slice none 0 0] 30 ?_; intro g_n hg w104 hbox hb; have G_n := kb_g HB hg; have O_n_y := kb_g B_y hg; have O_n_l := kb_g B_l hg; have O_n_q := kb_g B_q hg; have O_n_r := kb_g B_r hg; have O_n_vn := kb_g B_vn hg; replace HB := kb_b HB hb; replace B_y := kb_b B_y hb; replace B_l := kb_b B_l hb; replace B_q := kb_b B_q hb; replace B_r := kb_b B_r hb; replace B_vn := kb_b B_vn hb; replace RK := rk_b RK hb; clear hb; have V_n := a0_ hbox; have B_n := kr_ rb w104; have N_n : Aside0 (¬ (fun k => k = rb) g_n) := ⟨by show ¬ (_ = _); have := HL.out; have := G_n.out; omega⟩; clear hbox hg) | ((with_reducible refine gt_ 30 11 14 rfl ?_); refine store_ev (p := .tmp 11) (v := .tmp 14) rfl rfl rfl (g := g_n) rfl rfl (bk_ V_n B_n N_n) ?_; intro w105 hbox hk; replace HB := kb_o HB hk G_n; replace B_y := kb_o B_y hk O_n_y; replace B_l := kb_o B_l hk O_n_l; replace B_q := kb_o B_q hk O_n_q; replace B_r := kb_o B_r hk O_n_r; replace B_vn := kb_o B_vn hk O_n_vn; have Z_ := a0_ (Rk.kb RK.out hk (by have := HL.out; have := G_n.out; omega)); clear RK; have RK := Z_; clear Z_; clear V_n B_n; have V_n := a0_ hbox; have B_n := kr_ rb w105; clear hbox hk) | ((with_reducible refine gd_ 79 rfl ?_); refine load_at rfl rfl (g := bl) (k := (ol + n1 * 5 + 2)) rfl (Kb.cell (S := fun k => k = rb) C0.out.1 B_l.out hbl.out) (Kb.cell (S := fun k => k = rb) C0.out.2.1 B_l.out hbl.out) (Kb.cell (S := fun k => k = rb) C0.out.2.2 B_l.out hbl.out) ?_) | ((with_reducible refine gt_ 30 10 79 rfl ?_); refine store_ev (p := .tmp 10) (v := .tmp 79) rfl rfl rfl (g := g_r) rfl rfl (bk_ V_r B_r N_r) ?_; intro w106 hbox hk; replace HB := kb_o HB hk G_r; replace B_y := kb_o B_y hk O_r_y; have Z_ := a0_ (Rk.kb RK.out hk (by have := HL.out; have := G_r.out; omega)); clear RK; have RK := Z_; clear Z_; clear V_r B_r; have V_r := a0_ hbox; have B_r := kr_ rb w106; clear hbox hk))
 have ha := HANS.out
 rw [← HNL.out.1] at ha
 rw [← HN1.out] at ha
 refine bodyPost_ret (results_cell_row rfl _ _ g_r 30 #[.bool ty, .slice Ay ny cy, .slice Dy ky zy] (0, 0) _ rfl (bk_ V_r B_r N_r) Try.underlying30 rfl (by kernel_rfl)) rfl ?_
 exact ⟨_, rfl, by rw [ha]; exact ((IsR.mono (IsR.kb (S := fun k => k = rb) V_y.out B_y.out (fun k h hs => h.1 hs)) (fun k h => Or.inl h.2.1))), by rw [ha]; exact RK.out, HB.out⟩
def May8.T9 : Bool × List (List Nat × List Nat) := (true, [([], []), ([0], [0]), ([1], [1]), ([2], [2]), ([3, 2, 2], [2, 3]), ([4, 2], [2, 4]), ([5, 4, 2], [2, 5]), ([6], [6]), ([7, 6], [6, 7]), ([8, 6], [6, 8]), ([6, 9, 2], [2, 6, 9]), ([10, 6, 2], [2, 10]), ([11], [11]), ([11, 11], [11]), ([12, 13, 13, 11], [11, 12, 13]), ([14, 11], [11, 14]), ([11, 15, 2], [2, 11, 15]), ([2, 16], [2, 16]), ([17, 14, 0, 1, 2, 3, 4, 5, 6, 7, 8, 9, 10, 11, 12, 13, 14, 15, 16, 17], [17])])
def May8.B9 : List Nat := [0, 1, 3, 7, 15, 31, 63, 127, 255, 511, 1023, 2047, 4095, 4095, 16383, 32767, 65535, 131071, 262143]
theorem May8.tab9 : rtab .any (opsOf Try.f29 9) = May8.T9 := by kernel_rfl
theorem May8.bits9 : waitsOk May8.T9.2 May8.B9 = true := by kernel_rfl
theorem may8_calls {okl : Nat → Prop} (over : Int) (h0 : 1 ≤ over) (h1 : over ≤ 9007199254740991) (ss : List Smp) (hby : ByS ss) (qs : List Rat) (hvs : ValS ss qs) (hsz : ss.length ≤ 1000000) (w : World) (tq : Bool) (Aq : Option Addr) (nq cq : Nat) (Dq : Option Addr) (kq zq : Nat) (vl : Value) (hl : RowS okl w vl ss) :
 Calls Try.prog 29 #[.int .i64 8, .int .i64 over, .agg #[.bool tq, .slice Aq nq cq, .slice Dq kq zq], vl] w fun e w' => e = .returned (.bool true) ∧ Below w.heap.size w w' := by
 have hu30 := Try.underlying30
 have hu39 := Try.underlying39
 obtain ⟨Al, cl, rfl⟩ := hl.slice
 obtain ⟨nl, hnl⟩ : ∃ nl, nl = ss.length := ⟨_, rfl⟩
 rw [← hnl] at hl hsz ⊢
 have HNL := a0_ (And.intro hnl hsz)
 have HBY := a0_ hby
 have e3 : ¬ over < 1 := by omega
 have e4 : ¬ 9007199254740991 < over := by omega
 clear hnl hby hsz h0 h1
 have HVS := a0_ hvs
 clear hvs
 have HB := kf_ w
 have V_l := a0_ hl
 clear hl
 have B_l := kf_ w
 go_enter Try.func29, Try.ntmps29
 go_wp2_with (first | ((with_reducible refine gd_ 6 rfl ?_); refine bx_ (N := 6) #[.bool tq, .slice Aq nq cq, .slice Dq kq zq] 30 ?_; intro g_q hg w101 hbox hb; have G_q := kb_g HB hg; replace HB := kb_b HB hb; replace B_l := kb_b B_l hb; clear hb; have V_q := a0_ hbox; have B_q := kf_ w101; have N_q := nf_ g_q; clear hbox hg))
 go_loopg [27] nl (fun kg v27 wr => ∃ (j : Nat), v27 = .int .i64 j ∧ Aside0 (j + kg = nl) ∧ Aside0 (Kb (fun k => False) w wr) ∧ Aside0 (Kb (fun k => False) w101 wr))
 case atStart => exact ⟨0, rfl, ⟨by omega⟩, HB, B_q⟩
 case round =>
  obtain ⟨j, rfl, HJ, HB2, HQB⟩ := hrel
  clear HB B_l B_q
  have HB := HB2
  clear HB2
  have B_l := HB
  have B_q := HQB
  clear HQB
  by_cases hlt : j < nl
  · have hz : (j : Int) < (nl : Int) := by omega
    have e1 : IntKind.i64.wrap ((j : Int) + 1) = ((j + 1 : Nat) : Int) := (i64_w _).trans ((w64 (by have := HNL.out.2; omega) (by have := HNL.out.2; omega)).trans (by omega))
    obtain ⟨bl, ol, rfl⟩ := RowS.some_ V_l.out (by omega)
    obtain ⟨ty, Ay, ny, cy, Dy, ky, zy, hy, c0, c1, c2, c3, c4⟩ := RowS.get (RowS.kb V_l.out B_l.out (fun _ _ h => h)) j (by rw [← HNL.out.1]; exact hlt)
    have C0 := a0_ (And.intro c0 (And.intro c1 (And.intro c2 (And.intro c3 c4))))
    clear c0 c1 c2 c3 c4
    have hbj := HBY.out j (by rw [← HNL.out.1]; exact hlt)
    obtain ⟨sa, hsa⟩ : ∃ x, x = (ss.getD j ⟨0, 0, none⟩).at_ := ⟨_, rfl⟩
    obtain ⟨sb, hsb⟩ : ∃ x, x = (ss.getD j ⟨0, 0, none⟩).by_ := ⟨_, rfl⟩
    rw [← hsa, ← hsb] at C0
    rw [← hsb] at hbj
    have f1 : ¬ sb < 0 := by omega
    have f2 : ¬ 9007199254740991 < sb := by omega
    clear hsa hsb hbj
    have hyv := hy _ (HVS.out.2 j (by rw [← HNL.out.1]; exact hlt))
    clear hy
    have V_y := a0_ hyv
    clear hyv
    have B_y := kf_ wr
    go_wp2_with (first | ((with_reducible refine gd_ 30 rfl ?_); refine load_at5 rfl rfl (g := bl) (k := ol + j * 5) rfl C0.out.1 C0.out.2.1 C0.out.2.2.1 C0.out.2.2.2.1 C0.out.2.2.2.2 ?_) | ((with_reducible refine gd_ 10 rfl ?_); refine bx_ (N := 10) #[.int .i64 0, .int .i64 0, .bool false, .slice none 0 0, .slice none 0 0] 39 ?_; intro g_s hg w103 hbox hb; have G_s := kb_g HB hg; have O_s_l := kb_g B_l hg; have O_s_q := kb_g B_q hg; have O_s_y := kb_g B_y hg; replace HB := kb_b HB hb; replace B_l := kb_b B_l hb; replace B_q := kb_b B_q hb; replace B_y := kb_b B_y hb; clear hb; have V_s := a0_ hbox; have B_s := kf_ w103; have N_s := nf_ g_s; clear hbox hg) | ((with_reducible refine gt_ 39 10 30 rfl ?_); refine store_ev5 (p := .tmp 10) (v := .tmp 30) rfl rfl rfl (g := g_s) rfl rfl (bk_ V_s B_s N_s) ?_; intro w104 hbox hk; replace HB := kb_o HB hk G_s; replace B_l := kb_o B_l hk O_s_l; replace B_q := kb_o B_q hk O_s_q; replace B_y := kb_o B_y hk O_s_y; clear V_s B_s; have V_s := a0_ hbox; have B_s := kf_ w104; clear hbox hk; have bk_s := bk_ V_s B_s N_s; have hz_s_0 : w104.cell? ⟨g_s, 0, none⟩ = some (.int .i64 sa) := (blk_cell bk_s 0).trans rfl; have hz_s_1 : w104.cell? ⟨g_s, 1, none⟩ = some (.int .i64 sb) := (blk_cell bk_s 1).trans rfl; have hz_s_2 : w104.cell? ⟨g_s, 2, none⟩ = some (.bool ty) := (blk_cell bk_s 2).trans rfl; have hz_s_3 : w104.cell? ⟨g_s, 3, none⟩ = some (.slice Ay ny cy) := (blk_cell bk_s 3).trans rfl; have hz_s_4 : w104.cell? ⟨g_s, 4, none⟩ = some (.slice Dy ky zy) := (blk_cell bk_s 4).trans rfl; clear bk_s))
    with_reducible refine (qcheck_calls (qs.getD j 0) _ _ (IsR.kb (S := fun k => False) V_y.out B_y.out (fun _ _ h => h))).mono ?_
    rintro e w105 ⟨rfl, hb⟩
    clear hz_s_0 hz_s_1 hz_s_2 hz_s_3 hz_s_4
    replace HB := kb_b HB hb
    replace B_l := kb_b B_l hb
    replace B_q := kb_b B_q hb
    replace B_y := kb_b B_y hb
    replace B_s := kb_b B_s hb
    clear hb
    go_wp2_with fail
    go_roundg (nl - (j + 1))
    case measure => have := HJ.out; omega
    case rel => exact ⟨j + 1, by first | rfl | rw [e1], ⟨by have := HJ.out; omega⟩, HB, B_q⟩
  · have hz : ¬ (j : Int) < (nl : Int) := by omega
    clear hlt
    go_wp2_with fail
    have hb : Below wr.heap.size wr wr.drew := below_drew1 (Below.refl _ _)
    replace HB := kb_b HB hb
    replace B_l := kb_b B_l hb
    replace B_q := kb_b B_q hb
    clear hb
    refine start_ (n := 19) (S := fun w' => w'.heap[g_q]? = some (.cells #[.bool tq, .slice Aq nq cq, .slice Dq kq zq] 30 (0, 0))) (ds := []) (tB_ 19 0) (by kernel_rfl) rfl (by kernel_rfl) (bk_ V_q B_q N_q) (fun hHeld => ?_)
    refine with_tabW May8.tab9 May8.bits9 (fun HT_ HW_ => ?_)
    generalize wr.drew = w103 at HB B_l B_q hHeld ⊢
    refine pu_ 0 (some 50) 1 HT_ ?_
    refine pu_ 1 (some 51) 3 HT_ ?_
    refine pu_ 2 (some 52) 7 HT_ ?_
    refine sk_ 3 (some 53) 15 HT_ ?_
    refine sk_ 4 (some 54) 31 HT_ ?_
    refine sk_ 5 (some 55) 63 HT_ ?_
    refine sk_ 6 (some 56) 127 HT_ ?_
    refine sk_ 7 (some 57) 255 HT_ ?_
    refine sk_ 8 (some 58) 511 HT_ ?_
    refine sk_ 9 (some 59) 1023 HT_ ?_
    refine sk_ 10 (some 60) 2047 HT_ ?_
    refine sk_ 11 (some 61) 4095 HT_ ?_
    refine sk_ 12 (some 62) 8191 HT_ ?_
    refine sk_ 13 (some 63) 16383 HT_ ?_
    refine sk_ 14 (some 64) 32767 HT_ ?_
    refine sk_ 15 (some 65) 65535 HT_ ?_
    refine sk_ 16 (some 66) 131071 HT_ ?_
    refine pu_ 17 (some 67) 262143 HT_ ?_
    refine pu_ 18 (some 8) 524287 HT_ ?_
    refine do_ HT_ ?_
    clear HT_ HW_ hHeld
    go_wp2_with fail
    go_ret
    exact ⟨rfl, (Kb.to_below HB.out (fun _ h => h.elim))⟩
def May9.T9 : Bool × List (List Nat × List Nat) := (true, [([], []), ([0], [0]), ([1], [1]), ([2], [2]), ([3, 2, 2], [2, 3]), ([4, 2], [2, 4]), ([5, 4, 2], [2, 5]), ([6], [6]), ([7, 6], [6, 7]), ([8, 6], [6, 8]), ([6, 9, 2], [2, 6, 9]), ([10, 6, 2], [2, 10]), ([11], [11]), ([11, 11], [11]), ([12, 13, 13, 11], [11, 12, 13]), ([14, 11], [11, 14]), ([11, 15, 2], [2, 11, 15]), ([2, 16], [2, 16]), ([17, 14, 0, 1, 2, 3, 4, 5, 6, 7, 8, 9, 10, 11, 12, 13, 14, 15, 16, 17], [17])])
def May9.B9 : List Nat := [0, 1, 3, 7, 15, 31, 63, 127, 255, 511, 1023, 2047, 4095, 4095, 16383, 32767, 65535, 131071, 262143]
theorem May9.tab9 : rtab .any (opsOf Try.f29 9) = May9.T9 := by kernel_rfl
theorem May9.bits9 : waitsOk May9.T9.2 May9.B9 = true := by kernel_rfl
theorem may9_calls {okl : Nat → Prop} (over : Int) (h0 : 1 ≤ over) (h1 : over ≤ 9007199254740991) (ss : List Smp) (hby : ByS ss) (qs : List Rat) (hvs : ValS ss qs) (hsz : ss.length ≤ 1000000) (w : World) (tq : Bool) (Aq : Option Addr) (nq cq : Nat) (Dq : Option Addr) (kq zq : Nat) (vl : Value) (hl : RowS okl w vl ss) :
 Calls Try.prog 29 #[.int .i64 9, .int .i64 over, .agg #[.bool tq, .slice Aq nq cq, .slice Dq kq zq], vl] w fun e w' => e = .returned (.bool true) ∧ Below w.heap.size w w' := by
 have hu30 := Try.underlying30
 have hu39 := Try.underlying39
 obtain ⟨Al, cl, rfl⟩ := hl.slice
 obtain ⟨nl, hnl⟩ : ∃ nl, nl = ss.length := ⟨_, rfl⟩
 rw [← hnl] at hl hsz ⊢
 have HNL := a0_ (And.intro hnl hsz)
 have HBY := a0_ hby
 have e3 : ¬ over < 1 := by omega
 have e4 : ¬ 9007199254740991 < over := by omega
 clear hnl hby hsz h0 h1
 have HVS := a0_ hvs
 clear hvs
 have HB := kf_ w
 have V_l := a0_ hl
 clear hl
 have B_l := kf_ w
 go_enter Try.func29, Try.ntmps29
 go_wp2_with (first | ((with_reducible refine gd_ 6 rfl ?_); refine bx_ (N := 6) #[.bool tq, .slice Aq nq cq, .slice Dq kq zq] 30 ?_; intro g_q hg w101 hbox hb; have G_q := kb_g HB hg; replace HB := kb_b HB hb; replace B_l := kb_b B_l hb; clear hb; have V_q := a0_ hbox; have B_q := kf_ w101; have N_q := nf_ g_q; clear hbox hg))
 go_loopg [27] nl (fun kg v27 wr => ∃ (j : Nat), v27 = .int .i64 j ∧ Aside0 (j + kg = nl) ∧ Aside0 (Kb (fun k => False) w wr) ∧ Aside0 (Kb (fun k => False) w101 wr))
 case atStart => exact ⟨0, rfl, ⟨by omega⟩, HB, B_q⟩
 case round =>
  obtain ⟨j, rfl, HJ, HB2, HQB⟩ := hrel
  clear HB B_l B_q
  have HB := HB2
  clear HB2
  have B_l := HB
  have B_q := HQB
  clear HQB
  by_cases hlt : j < nl
  · have hz : (j : Int) < (nl : Int) := by omega
    have e1 : IntKind.i64.wrap ((j : Int) + 1) = ((j + 1 : Nat) : Int) := (i64_w _).trans ((w64 (by have := HNL.out.2; omega) (by have := HNL.out.2; omega)).trans (by omega))
    obtain ⟨bl, ol, rfl⟩ := RowS.some_ V_l.out (by omega)
    obtain ⟨ty, Ay, ny, cy, Dy, ky, zy, hy, c0, c1, c2, c3, c4⟩ := RowS.get (RowS.kb V_l.out B_l.out (fun _ _ h => h)) j (by rw [← HNL.out.1]; exact hlt)
    have C0 := a0_ (And.intro c0 (And.intro c1 (And.intro c2 (And.intro c3 c4))))
    clear c0 c1 c2 c3 c4
    have hbj := HBY.out j (by rw [← HNL.out.1]; exact hlt)
    obtain ⟨sa, hsa⟩ : ∃ x, x = (ss.getD j ⟨0, 0, none⟩).at_ := ⟨_, rfl⟩
    obtain ⟨sb, hsb⟩ : ∃ x, x = (ss.getD j ⟨0, 0, none⟩).by_ := ⟨_, rfl⟩
    rw [← hsa, ← hsb] at C0
    rw [← hsb] at hbj
    have f1 : ¬ sb < 0 := by omega
    have f2 : ¬ 9007199254740991 < sb := by omega
    clear hsa hsb hbj
    have hyv := hy _ (HVS.out.2 j (by rw [← HNL.out.1]; exact hlt))
    clear hy
    have V_y := a0_ hyv
    clear hyv
    have B_y := kf_ wr
    go_wp2_with (first | ((with_reducible refine gd_ 30 rfl ?_); refine load_at5 rfl rfl (g := bl) (k := ol + j * 5) rfl C0.out.1 C0.out.2.1 C0.out.2.2.1 C0.out.2.2.2.1 C0.out.2.2.2.2 ?_) | ((with_reducible refine gd_ 10 rfl ?_); refine bx_ (N := 10) #[.int .i64 0, .int .i64 0, .bool false, .slice none 0 0, .slice none 0 0] 39 ?_; intro g_s hg w103 hbox hb; have G_s := kb_g HB hg; have O_s_l := kb_g B_l hg; have O_s_q := kb_g B_q hg; have O_s_y := kb_g B_y hg; replace HB := kb_b HB hb; replace B_l := kb_b B_l hb; replace B_q := kb_b B_q hb; replace B_y := kb_b B_y hb; clear hb; have V_s := a0_ hbox; have B_s := kf_ w103; have N_s := nf_ g_s; clear hbox hg) | ((with_reducible refine gt_ 39 10 30 rfl ?_); refine store_ev5 (p := .tmp 10) (v := .tmp 30) rfl rfl rfl (g := g_s) rfl rfl (bk_ V_s B_s N_s) ?_; intro w104 hbox hk; replace HB := kb_o HB hk G_s; replace B_l := kb_o B_l hk O_s_l; replace B_q := kb_o B_q hk O_s_q; replace B_y := kb_o B_y hk O_s_y; clear V_s B_s; have V_s := a0_ hbox; have B_s := kf_ w104; clear hbox hk; have bk_s := bk_ V_s B_s N_s; have hz_s_0 : w104.cell? ⟨g_s, 0, none⟩ = some (.int .i64 sa) := (blk_cell bk_s 0).trans rfl; have hz_s_1 : w104.cell? ⟨g_s, 1, none⟩ = some (.int .i64 sb) := (blk_cell bk_s 1).trans rfl; have hz_s_2 : w104.cell? ⟨g_s, 2, none⟩ = some (.bool ty) := (blk_cell bk_s 2).trans rfl; have hz_s_3 : w104.cell? ⟨g_s, 3, none⟩ = some (.slice Ay ny cy) := (blk_cell bk_s 3).trans rfl; have hz_s_4 : w104.cell? ⟨g_s, 4, none⟩ = some (.slice Dy ky zy) := (blk_cell bk_s 4).trans rfl; clear bk_s))
    with_reducible refine (qcheck_calls (qs.getD j 0) _ _ (IsR.kb (S := fun k => False) V_y.out B_y.out (fun _ _ h => h))).mono ?_
    rintro e w105 ⟨rfl, hb⟩
    clear hz_s_0 hz_s_1 hz_s_2 hz_s_3 hz_s_4
    replace HB := kb_b HB hb
    replace B_l := kb_b B_l hb
    replace B_q := kb_b B_q hb
    replace B_y := kb_b B_y hb
    replace B_s := kb_b B_s hb
    clear hb
    go_wp2_with fail
    go_roundg (nl - (j + 1))
    case measure => have := HJ.out; omega
    case rel => exact ⟨j + 1, by first | rfl | rw [e1], ⟨by have := HJ.out; omega⟩, HB, B_q⟩
  · have hz : ¬ (j : Int) < (nl : Int) := by omega
    clear hlt
    go_wp2_with fail
    have hb : Below wr.heap.size wr wr.drew := below_drew1 (Below.refl _ _)
    replace HB := kb_b HB hb
    replace B_l := kb_b B_l hb
    replace B_q := kb_b B_q hb
    clear hb
    refine start_ (n := 19) (S := fun w' => w'.heap[g_q]? = some (.cells #[.bool tq, .slice Aq nq cq, .slice Dq kq zq] 30 (0, 0))) (ds := []) (tB_ 19 0) (by kernel_rfl) rfl (by kernel_rfl) (bk_ V_q B_q N_q) (fun hHeld => ?_)
    refine with_tabW May9.tab9 May9.bits9 (fun HT_ HW_ => ?_)
    generalize wr.drew = w103 at HB B_l B_q hHeld ⊢
    refine pu_ 0 (some 50) 1 HT_ ?_
    refine pu_ 1 (some 51) 3 HT_ ?_
    refine pu_ 2 (some 52) 7 HT_ ?_
    refine sk_ 3 (some 53) 15 HT_ ?_
    refine sk_ 4 (some 54) 31 HT_ ?_
    refine sk_ 5 (some 55) 63 HT_ ?_
    refine sk_ 6 (some 56) 127 HT_ ?_
    refine sk_ 7 (some 57) 255 HT_ ?_
    refine sk_ 8 (some 58) 511 HT_ ?_
    refine sk_ 9 (some 59) 1023 HT_ ?_
    refine sk_ 10 (some 60) 2047 HT_ ?_
    refine sk_ 11 (some 61) 4095 HT_ ?_
    refine sk_ 12 (some 62) 8191 HT_ ?_
    refine sk_ 13 (some 63) 16383 HT_ ?_
    refine sk_ 14 (some 64) 32767 HT_ ?_
    refine sk_ 15 (some 65) 65535 HT_ ?_
    refine sk_ 16 (some 66) 131071 HT_ ?_
    refine pu_ 17 (some 67) 262143 HT_ ?_
    refine pu_ 18 (some 8) 524287 HT_ ?_
    refine do_ HT_ ?_
    clear HT_ HW_ hHeld
    go_wp2_with fail
    go_ret
    exact ⟨rfl, (Kb.to_below HB.out (fun _ h => h.elim))⟩
def May10.T9 : Bool × List (List Nat × List Nat) := (true, [([], []), ([0], [0]), ([1], [1]), ([2], [2]), ([3, 2, 2], [2, 3]), ([4, 2], [2, 4]), ([5, 4, 2], [2, 5]), ([6], [6]), ([7, 6], [6, 7]), ([8, 6], [6, 8]), ([6, 9, 2], [2, 6, 9]), ([10, 6, 2], [2, 10]), ([11], [11]), ([11, 11], [11]), ([12, 13, 13, 11], [11, 12, 13]), ([14, 11], [11, 14]), ([11, 15, 2], [2, 11, 15]), ([2, 16], [2, 16]), ([17, 14, 0, 1, 2, 3, 4, 5, 6, 7, 8, 9, 10, 11, 12, 13, 14, 15, 16, 17], [17])])
def May10.B9 : List Nat := [0, 1, 3, 7, 15, 31, 63, 127, 255, 511, 1023, 2047, 4095, 4095, 16383, 32767, 65535, 131071, 262143]
theorem May10.tab9 : rtab .any (opsOf Try.f29 9) = May10.T9 := by kernel_rfl
theorem May10.bits9 : waitsOk May10.T9.2 May10.B9 = true := by kernel_rfl
theorem may10_calls {okl : Nat → Prop} (over : Int) (h0 : 1 ≤ over) (h1 : over ≤ 9007199254740991) (ss : List Smp) (hby : ByS ss) (qs : List Rat) (hvs : ValS ss qs) (hsz : ss.length ≤ 1000000) (w : World) (tq : Bool) (Aq : Option Addr) (nq cq : Nat) (Dq : Option Addr) (kq zq : Nat) (vl : Value) (hl : RowS okl w vl ss) :
 Calls Try.prog 29 #[.int .i64 10, .int .i64 over, .agg #[.bool tq, .slice Aq nq cq, .slice Dq kq zq], vl] w fun e w' => e = .returned (.bool true) ∧ Below w.heap.size w w' := by
 have hu30 := Try.underlying30
 have hu39 := Try.underlying39
 obtain ⟨Al, cl, rfl⟩ := hl.slice
 obtain ⟨nl, hnl⟩ : ∃ nl, nl = ss.length := ⟨_, rfl⟩
 rw [← hnl] at hl hsz ⊢
 have HNL := a0_ (And.intro hnl hsz)
 have HBY := a0_ hby
 have e3 : ¬ over < 1 := by omega
 have e4 : ¬ 9007199254740991 < over := by omega
 clear hnl hby hsz h0 h1
 have HVS := a0_ hvs
 clear hvs
 have HB := kf_ w
 have V_l := a0_ hl
 clear hl
 have B_l := kf_ w
 go_enter Try.func29, Try.ntmps29
 go_wp2_with (first | ((with_reducible refine gd_ 6 rfl ?_); refine bx_ (N := 6) #[.bool tq, .slice Aq nq cq, .slice Dq kq zq] 30 ?_; intro g_q hg w101 hbox hb; have G_q := kb_g HB hg; replace HB := kb_b HB hb; replace B_l := kb_b B_l hb; clear hb; have V_q := a0_ hbox; have B_q := kf_ w101; have N_q := nf_ g_q; clear hbox hg))
 go_loopg [27] nl (fun kg v27 wr => ∃ (j : Nat), v27 = .int .i64 j ∧ Aside0 (j + kg = nl) ∧ Aside0 (Kb (fun k => False) w wr) ∧ Aside0 (Kb (fun k => False) w101 wr))
 case atStart => exact ⟨0, rfl, ⟨by omega⟩, HB, B_q⟩
 case round =>
  obtain ⟨j, rfl, HJ, HB2, HQB⟩ := hrel
  clear HB B_l B_q
  have HB := HB2
  clear HB2
  have B_l := HB
  have B_q := HQB
  clear HQB
  by_cases hlt : j < nl
  · have hz : (j : Int) < (nl : Int) := by omega
    have e1 : IntKind.i64.wrap ((j : Int) + 1) = ((j + 1 : Nat) : Int) := (i64_w _).trans ((w64 (by have := HNL.out.2; omega) (by have := HNL.out.2; omega)).trans (by omega))
    obtain ⟨bl, ol, rfl⟩ := RowS.some_ V_l.out (by omega)
    obtain ⟨ty, Ay, ny, cy, Dy, ky, zy, hy, c0, c1, c2, c3, c4⟩ := RowS.get (RowS.kb V_l.out B_l.out (fun _ _ h => h)) j (by rw [← HNL.out.1]; exact hlt)
    have C0 := a0_ (And.intro c0 (And.intro c1 (And.intro c2 (And.intro c3 c4))))
    clear c0 c1 c2 c3 c4
    have hbj := HBY.out j (by rw [← HNL.out.1]; exact hlt)
    obtain ⟨sa, hsa⟩ : ∃ x, x = (ss.getD j ⟨0, 0, none⟩).at_ := ⟨_, rfl⟩
    obtain ⟨sb, hsb⟩ : ∃ x, x = (ss.getD j ⟨0, 0, none⟩).by_ := ⟨_, rfl⟩
    rw [← hsa, ← hsb] at C0
    rw [← hsb] at hbj
    have f1 : ¬ sb < 0 := by omega
    have f2 : ¬ 9007199254740991 < sb := by omega
    clear hsa hsb hbj
    have hyv := hy _ (HVS.out.2 j (by rw [← HNL.out.1]; exact hlt))
    clear hy
    have V_y := a0_ hyv
    clear hyv
    have B_y := kf_ wr
    go_wp2_with (first | ((with_reducible refine gd_ 30 rfl ?_); refine load_at5 rfl rfl (g := bl) (k := ol + j * 5) rfl C0.out.1 C0.out.2.1 C0.out.2.2.1 C0.out.2.2.2.1 C0.out.2.2.2.2 ?_) | ((with_reducible refine gd_ 10 rfl ?_); refine bx_ (N := 10) #[.int .i64 0, .int .i64 0, .bool false, .slice none 0 0, .slice none 0 0] 39 ?_; intro g_s hg w103 hbox hb; have G_s := kb_g HB hg; have O_s_l := kb_g B_l hg; have O_s_q := kb_g B_q hg; have O_s_y := kb_g B_y hg; replace HB := kb_b HB hb; replace B_l := kb_b B_l hb; replace B_q := kb_b B_q hb; replace B_y := kb_b B_y hb; clear hb; have V_s := a0_ hbox; have B_s := kf_ w103; have N_s := nf_ g_s; clear hbox hg) | ((with_reducible refine gt_ 39 10 30 rfl ?_); refine store_ev5 (p := .tmp 10) (v := .tmp 30) rfl rfl rfl (g := g_s) rfl rfl (bk_ V_s B_s N_s) ?_; intro w104 hbox hk; replace HB := kb_o HB hk G_s; replace B_l := kb_o B_l hk O_s_l; replace B_q := kb_o B_q hk O_s_q; replace B_y := kb_o B_y hk O_s_y; clear V_s B_s; have V_s := a0_ hbox; have B_s := kf_ w104; clear hbox hk; have bk_s := bk_ V_s B_s N_s; have hz_s_0 : w104.cell? ⟨g_s, 0, none⟩ = some (.int .i64 sa) := (blk_cell bk_s 0).trans rfl; have hz_s_1 : w104.cell? ⟨g_s, 1, none⟩ = some (.int .i64 sb) := (blk_cell bk_s 1).trans rfl; have hz_s_2 : w104.cell? ⟨g_s, 2, none⟩ = some (.bool ty) := (blk_cell bk_s 2).trans rfl; have hz_s_3 : w104.cell? ⟨g_s, 3, none⟩ = some (.slice Ay ny cy) := (blk_cell bk_s 3).trans rfl; have hz_s_4 : w104.cell? ⟨g_s, 4, none⟩ = some (.slice Dy ky zy) := (blk_cell bk_s 4).trans rfl; clear bk_s))
    with_reducible refine (qcheck_calls (qs.getD j 0) _ _ (IsR.kb (S := fun k => False) V_y.out B_y.out (fun _ _ h => h))).mono ?_
    rintro e w105 ⟨rfl, hb⟩
    clear hz_s_0 hz_s_1 hz_s_2 hz_s_3 hz_s_4
    replace HB := kb_b HB hb
    replace B_l := kb_b B_l hb
    replace B_q := kb_b B_q hb
    replace B_y := kb_b B_y hb
    replace B_s := kb_b B_s hb
    clear hb
    go_wp2_with fail
    go_roundg (nl - (j + 1))
    case measure => have := HJ.out; omega
    case rel => exact ⟨j + 1, by first | rfl | rw [e1], ⟨by have := HJ.out; omega⟩, HB, B_q⟩
  · have hz : ¬ (j : Int) < (nl : Int) := by omega
    clear hlt
    go_wp2_with fail
    have hb : Below wr.heap.size wr wr.drew := below_drew1 (Below.refl _ _)
    replace HB := kb_b HB hb
    replace B_l := kb_b B_l hb
    replace B_q := kb_b B_q hb
    clear hb
    refine start_ (n := 19) (S := fun w' => w'.heap[g_q]? = some (.cells #[.bool tq, .slice Aq nq cq, .slice Dq kq zq] 30 (0, 0))) (ds := []) (tB_ 19 0) (by kernel_rfl) rfl (by kernel_rfl) (bk_ V_q B_q N_q) (fun hHeld => ?_)
    refine with_tabW May10.tab9 May10.bits9 (fun HT_ HW_ => ?_)
    generalize wr.drew = w103 at HB B_l B_q hHeld ⊢
    refine pu_ 0 (some 50) 1 HT_ ?_
    refine pu_ 1 (some 51) 3 HT_ ?_
    refine pu_ 2 (some 52) 7 HT_ ?_
    refine sk_ 3 (some 53) 15 HT_ ?_
    refine sk_ 4 (some 54) 31 HT_ ?_
    refine sk_ 5 (some 55) 63 HT_ ?_
    refine sk_ 6 (some 56) 127 HT_ ?_
    refine sk_ 7 (some 57) 255 HT_ ?_
    refine sk_ 8 (some 58) 511 HT_ ?_
    refine sk_ 9 (some 59) 1023 HT_ ?_
    refine sk_ 10 (some 60) 2047 HT_ ?_
    refine sk_ 11 (some 61) 4095 HT_ ?_
    refine sk_ 12 (some 62) 8191 HT_ ?_
    refine sk_ 13 (some 63) 16383 HT_ ?_
    refine sk_ 14 (some 64) 32767 HT_ ?_
    refine sk_ 15 (some 65) 65535 HT_ ?_
    refine sk_ 16 (some 66) 131071 HT_ ?_
    refine pu_ 17 (some 67) 262143 HT_ ?_
    refine pu_ 18 (some 8) 524287 HT_ ?_
    refine do_ HT_ ?_
    clear HT_ HW_ hHeld
    go_wp2_with fail
    go_ret
    exact ⟨rfl, (Kb.to_below HB.out (fun _ h => h.elim))⟩
def May11.T9 : Bool × List (List Nat × List Nat) := (true, [([], []), ([0], [0]), ([1], [1]), ([2], [2]), ([3, 2, 2], [2, 3]), ([4, 2], [2, 4]), ([5, 4, 2], [2, 5]), ([6], [6]), ([7, 6], [6, 7]), ([8, 6], [6, 8]), ([6, 9, 2], [2, 6, 9]), ([10, 6, 2], [2, 10]), ([11], [11]), ([11, 11], [11]), ([12, 13, 13, 11], [11, 12, 13]), ([14, 11], [11, 14]), ([11, 15, 2], [2, 11, 15]), ([2, 16], [2, 16]), ([17, 14, 0, 1, 2, 3, 4, 5, 6, 7, 8, 9, 10, 11, 12, 13, 14, 15, 16, 17], [17])])
def May11.B9 : List Nat := [0, 1, 3, 7, 15, 31, 63, 127, 255, 511, 1023, 2047, 4095, 4095, 16383, 32767, 65535, 131071, 262143]
theorem May11.tab9 : rtab .any (opsOf Try.f29 9) = May11.T9 := by kernel_rfl
theorem May11.bits9 : waitsOk May11.T9.2 May11.B9 = true := by kernel_rfl
theorem may11_calls {okl : Nat → Prop} (over : Int) (h0 : 1 ≤ over) (h1 : over ≤ 9007199254740991) (ss : List Smp) (hby : ByS ss) (qs : List Rat) (hvs : ValS ss qs) (hsz : ss.length ≤ 1000000) (w : World) (tq : Bool) (Aq : Option Addr) (nq cq : Nat) (Dq : Option Addr) (kq zq : Nat) (vl : Value) (hl : RowS okl w vl ss) :
 Calls Try.prog 29 #[.int .i64 11, .int .i64 over, .agg #[.bool tq, .slice Aq nq cq, .slice Dq kq zq], vl] w fun e w' => e = .returned (.bool true) ∧ Below w.heap.size w w' := by
 have hu30 := Try.underlying30
 have hu39 := Try.underlying39
 obtain ⟨Al, cl, rfl⟩ := hl.slice
 obtain ⟨nl, hnl⟩ : ∃ nl, nl = ss.length := ⟨_, rfl⟩
 rw [← hnl] at hl hsz ⊢
 have HNL := a0_ (And.intro hnl hsz)
 have HBY := a0_ hby
 have e3 : ¬ over < 1 := by omega
 have e4 : ¬ 9007199254740991 < over := by omega
 clear hnl hby hsz h0 h1
 have HVS := a0_ hvs
 clear hvs
 have HB := kf_ w
 have V_l := a0_ hl
 clear hl
 have B_l := kf_ w
 go_enter Try.func29, Try.ntmps29
 go_wp2_with (first | ((with_reducible refine gd_ 6 rfl ?_); refine bx_ (N := 6) #[.bool tq, .slice Aq nq cq, .slice Dq kq zq] 30 ?_; intro g_q hg w101 hbox hb; have G_q := kb_g HB hg; replace HB := kb_b HB hb; replace B_l := kb_b B_l hb; clear hb; have V_q := a0_ hbox; have B_q := kf_ w101; have N_q := nf_ g_q; clear hbox hg))
 go_loopg [27] nl (fun kg v27 wr => ∃ (j : Nat), v27 = .int .i64 j ∧ Aside0 (j + kg = nl) ∧ Aside0 (Kb (fun k => False) w wr) ∧ Aside0 (Kb (fun k => False) w101 wr))
 case atStart => exact ⟨0, rfl, ⟨by omega⟩, HB, B_q⟩
 case round =>
  obtain ⟨j, rfl, HJ, HB2, HQB⟩ := hrel
  clear HB B_l B_q
  have HB := HB2
  clear HB2
  have B_l := HB
  have B_q := HQB
  clear HQB
  by_cases hlt : j < nl
  · have hz : (j : Int) < (nl : Int) := by omega
    have e1 : IntKind.i64.wrap ((j : Int) + 1) = ((j + 1 : Nat) : Int) := (i64_w _).trans ((w64 (by have := HNL.out.2; omega) (by have := HNL.out.2; omega)).trans (by omega))
    obtain ⟨bl, ol, rfl⟩ := RowS.some_ V_l.out (by omega)
    obtain ⟨ty, Ay, ny, cy, Dy, ky, zy, hy, c0, c1, c2, c3, c4⟩ := RowS.get (RowS.kb V_l.out B_l.out (fun _ _ h => h)) j (by rw [← HNL.out.1]; exact hlt)
    have C0 := a0_ (And.intro c0 (And.intro c1 (And.intro c2 (And.intro c3 c4))))
    clear c0 c1 c2 c3 c4
    have hbj := HBY.out j (by rw [← HNL.out.1]; exact hlt)
    obtain ⟨sa, hsa⟩ : ∃ x, x = (ss.getD j ⟨0, 0, none⟩).at_ := ⟨_, rfl⟩
    obtain ⟨sb, hsb⟩ : ∃ x, x = (ss.getD j ⟨0, 0, none⟩).by_ := ⟨_, rfl⟩
    rw [← hsa, ← hsb] at C0
    rw [← hsb] at hbj
    have f1 : ¬ sb < 0 := by omega
    have f2 : ¬ 9007199254740991 < sb := by omega
    clear hsa hsb hbj
    have hyv := hy _ (HVS.out.2 j (by rw [← HNL.out.1]; exact hlt))
    clear hy
    have V_y := a0_ hyv
    clear hyv
    have B_y := kf_ wr
    go_wp2_with (first | ((with_reducible refine gd_ 30 rfl ?_); refine load_at5 rfl rfl (g := bl) (k := ol + j * 5) rfl C0.out.1 C0.out.2.1 C0.out.2.2.1 C0.out.2.2.2.1 C0.out.2.2.2.2 ?_) | ((with_reducible refine gd_ 10 rfl ?_); refine bx_ (N := 10) #[.int .i64 0, .int .i64 0, .bool false, .slice none 0 0, .slice none 0 0] 39 ?_; intro g_s hg w103 hbox hb; have G_s := kb_g HB hg; have O_s_l := kb_g B_l hg; have O_s_q := kb_g B_q hg; have O_s_y := kb_g B_y hg; replace HB := kb_b HB hb; replace B_l := kb_b B_l hb; replace B_q := kb_b B_q hb; replace B_y := kb_b B_y hb; clear hb; have V_s := a0_ hbox; have B_s := kf_ w103; have N_s := nf_ g_s; clear hbox hg) | ((with_reducible refine gt_ 39 10 30 rfl ?_); refine store_ev5 (p := .tmp 10) (v := .tmp 30) rfl rfl rfl (g := g_s) rfl rfl (bk_ V_s B_s N_s) ?_; intro w104 hbox hk; replace HB := kb_o HB hk G_s; replace B_l := kb_o B_l hk O_s_l; replace B_q := kb_o B_q hk O_s_q; replace B_y := kb_o B_y hk O_s_y; clear V_s B_s; have V_s := a0_ hbox; have B_s := kf_ w104; clear hbox hk; have bk_s := bk_ V_s B_s N_s; have hz_s_0 : w104.cell? ⟨g_s, 0, none⟩ = some (.int .i64 sa) := (blk_cell bk_s 0).trans rfl; have hz_s_1 : w104.cell? ⟨g_s, 1, none⟩ = some (.int .i64 sb) := (blk_cell bk_s 1).trans rfl; have hz_s_2 : w104.cell? ⟨g_s, 2, none⟩ = some (.bool ty) := (blk_cell bk_s 2).trans rfl; have hz_s_3 : w104.cell? ⟨g_s, 3, none⟩ = some (.slice Ay ny cy) := (blk_cell bk_s 3).trans rfl; have hz_s_4 : w104.cell? ⟨g_s, 4, none⟩ = some (.slice Dy ky zy) := (blk_cell bk_s 4).trans rfl; clear bk_s))
    with_reducible refine (qcheck_calls (qs.getD j 0) _ _ (IsR.kb (S := fun k => False) V_y.out B_y.out (fun _ _ h => h))).mono ?_
    rintro e w105 ⟨rfl, hb⟩
    clear hz_s_0 hz_s_1 hz_s_2 hz_s_3 hz_s_4
    replace HB := kb_b HB hb
    replace B_l := kb_b B_l hb
    replace B_q := kb_b B_q hb
    replace B_y := kb_b B_y hb
    replace B_s := kb_b B_s hb
    clear hb
    go_wp2_with fail
    go_roundg (nl - (j + 1))
    case measure => have := HJ.out; omega
    case rel => exact ⟨j + 1, by first | rfl | rw [e1], ⟨by have := HJ.out; omega⟩, HB, B_q⟩
  · have hz : ¬ (j : Int) < (nl : Int) := by omega
    clear hlt
    go_wp2_with fail
    have hb : Below wr.heap.size wr wr.drew := below_drew1 (Below.refl _ _)
    replace HB := kb_b HB hb
    replace B_l := kb_b B_l hb
    replace B_q := kb_b B_q hb
    clear hb
    refine start_ (n := 19) (S := fun w' => w'.heap[g_q]? = some (.cells #[.bool tq, .slice Aq nq cq, .slice Dq kq zq] 30 (0, 0))) (ds := []) (tB_ 19 0) (by kernel_rfl) rfl (by kernel_rfl) (bk_ V_q B_q N_q) (fun hHeld => ?_)
    refine with_tabW May11.tab9 May11.bits9 (fun HT_ HW_ => ?_)
    generalize wr.drew = w103 at HB B_l B_q hHeld ⊢
    refine pu_ 0 (some 50) 1 HT_ ?_
    refine pu_ 1 (some 51) 3 HT_ ?_
    refine pu_ 2 (some 52) 7 HT_ ?_
    refine sk_ 3 (some 53) 15 HT_ ?_
    refine sk_ 4 (some 54) 31 HT_ ?_
    refine sk_ 5 (some 55) 63 HT_ ?_
    refine sk_ 6 (some 56) 127 HT_ ?_
    refine sk_ 7 (some 57) 255 HT_ ?_
    refine sk_ 8 (some 58) 511 HT_ ?_
    refine sk_ 9 (some 59) 1023 HT_ ?_
    refine sk_ 10 (some 60) 2047 HT_ ?_
    refine sk_ 11 (some 61) 4095 HT_ ?_
    refine sk_ 12 (some 62) 8191 HT_ ?_
    refine sk_ 13 (some 63) 16383 HT_ ?_
    refine sk_ 14 (some 64) 32767 HT_ ?_
    refine sk_ 15 (some 65) 65535 HT_ ?_
    refine sk_ 16 (some 66) 131071 HT_ ?_
    refine pu_ 17 (some 67) 262143 HT_ ?_
    refine pu_ 18 (some 8) 524287 HT_ ?_
    refine do_ HT_ ?_
    clear HT_ HW_ hHeld
    go_wp2_with fail
    go_ret
    exact ⟨rfl, (Kb.to_below HB.out (fun _ h => h.elim))⟩
theorem maybad_calls (fn over : Int) (h6 : 6 ≤ fn) (h12 : fn ≤ 12) (h0 : 1 ≤ over) (h1 : over ≤ 9007199254740991) (w : World) (tq : Bool) (Aq : Option Addr) (nq cq : Nat) (Dq : Option Addr) (kq zq : Nat) (bl ol cl : Nat) (sa sb : Int) (hb0 : 0 ≤ sb) (hb1 : sb ≤ 9007199254740991) (ty : Bool) (Ay : Option Addr) (ny cy : Nat) (Dy : Option Addr) (ky zy : Nat) (c0 : w.cell? ⟨bl, ol, none⟩ = some (.int .i64 sa)) (c1 : w.cell? ⟨bl, ol + 1, none⟩ = some (.int .i64 sb)) (c2 : w.cell? ⟨bl, ol + 2, none⟩ = some (.bool ty)) (c3 : w.cell? ⟨bl, ol + 3, none⟩ = some (.slice Ay ny cy)) (c4 : w.cell? ⟨bl, ol + 4, none⟩ = some (.slice Dy ky zy)) (hchk : ∀ W, Kb (fun k => False) w W → Calls Try.prog 17 #[.agg #[.bool ty, .slice Ay ny cy, .slice Dy ky zy]] W fun e w' => (∃ c : Int, c ≠ 0 ∧ e = .returned (.int .i64 c)) ∧ Below W.heap.size W w') :
 Calls Try.prog 29 #[.int .i64 fn, .int .i64 over, .agg #[.bool tq, .slice Aq nq cq, .slice Dq kq zq], .slice (some ⟨bl, ol, none⟩) 1 cl] w fun e w' => e = .returned (.bool false) ∧ Below w.heap.size w w' := by
 have hu30 := Try.underlying30
 have hu39 := Try.underlying39
 have C0 := a0_ (And.intro c0 (And.intro c1 (And.intro c2 (And.intro c3 c4))))
 have HCK := a0_ hchk
 have e1 : ¬ fn < 1 := by omega
 have e2 : ¬ 12 < fn := by omega
 have e3 : ¬ over < 1 := by omega
 have e4 : ¬ 9007199254740991 < over := by omega
 have f1 : ¬ sb < 0 := by omega
 have f2 : ¬ 9007199254740991 < sb := by omega
 have d1 : decide (fn < 1) = false := decide_eq_false e1
 have d2 : decide (12 < fn) = false := decide_eq_false e2
 have d3 : decide (6 ≤ fn) = true := decide_eq_true h6
 clear c0 c1 c2 c3 c4 hchk h12 h0 h1 hb0 hb1
 have HB := kf_ w
 go_enter Try.func29, Try.ntmps29
 go_wp2_with (first | ((with_reducible refine gd_ 6 rfl ?_); refine bx_ (N := 6) #[.bool tq, .slice Aq nq cq, .slice Dq kq zq] 30 ?_; intro g_q hg w101 hbox hb; have G_q := kb_g HB hg; replace HB := kb_b HB hb; clear hb; have V_q := a0_ hbox; have B_q := kf_ w101; have N_q := nf_ g_q; clear hbox hg))
 go_loopg [27] 0 (fun kg v27 wr => v27 = .int .i64 0 ∧ Aside0 (Kb (fun k => False) w wr))
 case atStart => exact ⟨rfl, HB⟩
 case round =>
  obtain ⟨rfl, HB2⟩ := hrel
  clear HB V_q B_q
  have HB := HB2
  clear HB2
  have B_l := HB
  go_wp2_with (first | ((with_reducible refine gd_ 30 rfl ?_); refine load_at5 rfl rfl (g := bl) (k := ol) rfl (Kb.cell (S := fun k => False) C0.out.1 B_l.out (fun h => h)) (Kb.cell (S := fun k => False) C0.out.2.1 B_l.out (fun h => h)) (Kb.cell (S := fun k => False) C0.out.2.2.1 B_l.out (fun h => h)) (Kb.cell (S := fun k => False) C0.out.2.2.2.1 B_l.out (fun h => h)) (Kb.cell (S := fun k => False) C0.out.2.2.2.2 B_l.out (fun h => h)) ?_) | ((with_reducible refine gd_ 10 rfl ?_); refine bx_ (N := 10) #[.int .i64 0, .int .i64 0, .bool false, .slice none 0 0, .slice none 0 0] 39 ?_; intro g_s hg w103 hbox hb; have G_s := kb_g HB hg; have O_s_l := kb_g B_l hg; replace HB := kb_b HB hb; replace B_l := kb_b B_l hb; clear hb; have V_s := a0_ hbox; have B_s := kf_ w103; have N_s := nf_ g_s; clear hbox hg) | ((with_reducible refine gt_ 39 10 30 rfl ?_); refine store_ev5 (p := .tmp 10) (v := .tmp 30) rfl rfl rfl (g := g_s) rfl rfl (bk_ V_s B_s N_s) ?_; intro w104 hbox hk; replace HB := kb_o HB hk G_s; replace B_l := kb_o B_l hk O_s_l; clear V_s B_s; have V_s := a0_ hbox; have B_s := kf_ w104; clear hbox hk; have bk_s := bk_ V_s B_s N_s; have hz_s_0 : w104.cell? ⟨g_s, 0, none⟩ = some (.int .i64 sa) := (blk_cell bk_s 0).trans rfl; have hz_s_1 : w104.cell? ⟨g_s, 1, none⟩ = some (.int .i64 sb) := (blk_cell bk_s 1).trans rfl; have hz_s_2 : w104.cell? ⟨g_s, 2, none⟩ = some (.bool ty) := (blk_cell bk_s 2).trans rfl; have hz_s_3 : w104.cell? ⟨g_s, 3, none⟩ = some (.slice Ay ny cy) := (blk_cell bk_s 3).trans rfl; have hz_s_4 : w104.cell? ⟨g_s, 4, none⟩ = some (.slice Dy ky zy) := (blk_cell bk_s 4).trans rfl; clear bk_s))
  with_reducible refine (HCK.out _ HB.out).mono ?_
  rintro e w105 ⟨⟨cc, hcc, rfl⟩, hb⟩
  clear hz_s_0 hz_s_1 hz_s_2 hz_s_3 hz_s_4
  replace HB := kb_b HB hb
  replace B_l := kb_b B_l hb
  replace B_s := kb_b B_s hb
  clear hb
  have hcb : (cc != 0) = true := bne_iff_ne.2 hcc
  have hcd : decide (cc = 0) = false := decide_eq_false hcc
  go_wp2_with fail
  go_ret
  exact ⟨rfl, (Kb.to_below HB.out (fun _ h => h.elim))⟩
theorem wbad_calls (fn over : Int) (nl : Nat) (w : World) (tq : Bool) (Aq : Option Addr) (nq cq : Nat) (Dq : Option Addr) (kq zq : Nat) (Al : Option Addr) (cl : Nat) (hmay : ∀ W, Kb (fun k => False) w W → Calls Try.prog 29 #[.int .i64 fn, .int .i64 over, .agg #[.bool tq, .slice Aq nq cq, .slice Dq kq zq], .slice Al nl cl] W fun e w' => e = .returned (.bool false) ∧ Below W.heap.size W w') :
 Calls Try.prog 16 #[.int .i64 fn, .int .i64 over, .agg #[.bool tq, .slice Aq nq cq, .slice Dq kq zq], .slice Al nl cl] w fun e w' => e = .returned (.tuple #[.agg #[.bool false, .slice none 0 0, .slice none 0 0], .bool false, .int .i64 2]) ∧ Below w.heap.size w w' := by
 have hu30 := Try.underlying30
 have hu61 := Try.underlying61
 have HM := a0_ hmay
 clear hmay
 have HB := kf_ w
 go_enter Try.func16, Try.ntmps16
 try go_step3
 go_wp2_with (first | ((with_reducible refine gd_ 6 rfl ?_); refine bx_ (N := 6) #[.bool tq, .slice Aq nq cq, .slice Dq kq zq] 30 ?_; intro g_q hg w101 hbox hb; have G_q := kb_g HB hg; replace HB := kb_b HB hb; clear hb; have V_q := a0_ hbox; have B_q := kf_ w101; have N_q := nf_ g_q; clear hbox hg) | ((with_reducible refine gd_ 8 rfl ?_); refine bx_ (N := 8) #[.bool false, .slice none 0 0, .slice none 0 0] 30 ?_; intro g_r hg w102 hbox hb; have G_r := kb_g HB hg; replace HB := kb_b HB hb; replace B_q := kb_b B_q hb; clear hb; have V_r := a0_ hbox; have B_r := kf_ w102; have N_r := nf_ g_r; clear hbox hg) | ((with_reducible refine gd_ 15 rfl ?_); refine load_ev rfl rfl (g := g_q) rfl (bk_ V_q B_q N_q) ?_))
 with_reducible refine (HM.out _ HB.out).mono ?_
 rintro e w103 ⟨rfl, hb⟩
 replace HB := kb_b HB hb
 replace B_q := kb_b B_q hb
 replace B_r := kb_b B_r hb
 clear hb
 clear V_q B_q
 go_wp2_with (first | ((with_reducible refine gt_ 30 8 19 rfl ?_); refine store_ev (p := .tmp 8) (v := .tmp 19) rfl rfl rfl (g := g_r) rfl rfl (bk_ V_r B_r N_r) ?_; intro w104 hbox hk; replace HB := kb_o HB hk G_r; clear V_r B_r; have V_r := a0_ hbox; have B_r := kf_ w104; clear hbox hk))
 refine bodyPost_ret (results_ctt rfl _ _ g_r 30 #[.bool false, .slice none 0 0, .slice none 0 0] (0, 0) _ rfl (bk_ V_r B_r N_r) Try.underlying30 rfl (by kernel_rfl)) rfl ?_
 exact ⟨rfl, (Kb.to_below HB.out (fun _ h => h.elim))⟩
theorem wrun8 {okl : Nat → Prop} (over : Int) (h0 : 1 ≤ over) (h1 : over ≤ 9007199254740991) (ss : List Smp) (hby : ByS ss) (qs : List Rat) (hvs : ValS ss qs) (hn0 : 0 < ss.length) (hsz : ss.length ≤ 1000000) (w : World) (tq : Bool) (Aq : Option Addr) (nq cq : Nat) (Dq : Option Addr) (kq zq : Nat) (Al : Option Addr) (cl : Nat) (hl : RowS okl w (.slice Al ss.length cl) ss) :
 Calls Try.prog 16 #[.int .i64 8, .int .i64 over, .agg #[.bool tq, .slice Aq nq cq, .slice Dq kq zq], .slice Al ss.length cl] w fun e w' => (∃ v ans, (fun a => a = some (extQ false qs)) ans ∧ e = .returned (.tuple #[v, .bool ans.isSome, .int .i64 (eno ans)]) ∧ Res (fun k => w.heap.size ≤ k) w' v ans) ∧ Below w.heap.size w w' := by
 have hl2 : RowS (fun k => okl k ∧ k < w.heap.size) w (.slice Al ss.length cl) ss := RowS.mono' hl (fun k h1 h2 => ⟨h1, h2⟩)
 refine wrun_calls (fun a => a = some (extQ false qs)) 8 over (by decide) ss.length hn0 w _ _ _ _ _ _ _ _ _ (fun W hW => may8_calls over h0 h1 ss hby qs hvs hsz W _ _ _ _ _ _ _ _ (RowS.kb hl2 hW (fun _ _ h => h))) (fun W rb hW hrb hr => (run8_calls rb over ss qs hn0 hsz W _ _ _ _ _ _ _ _ hr (RowS.kb hl2 hW (fun _ _ h => h)) (fun k h => by have := h.2; omega) hvs).mono ?_)
 rintro e w' ⟨v, rfl, hv, hk1, hk2⟩
 exact ⟨v, _, rfl, rfl, Res.mono hv (fun k h => h.elim (fun h => .inl h.2) .inr), hk1, hk2⟩
theorem wrun9 {okl : Nat → Prop} (over : Int) (h0 : 1 ≤ over) (h1 : over ≤ 9007199254740991) (ss : List Smp) (hby : ByS ss) (qs : List Rat) (hvs : ValS ss qs) (hn0 : 0 < ss.length) (hsz : ss.length ≤ 1000000) (w : World) (tq : Bool) (Aq : Option Addr) (nq cq : Nat) (Dq : Option Addr) (kq zq : Nat) (Al : Option Addr) (cl : Nat) (hl : RowS okl w (.slice Al ss.length cl) ss) :
 Calls Try.prog 16 #[.int .i64 9, .int .i64 over, .agg #[.bool tq, .slice Aq nq cq, .slice Dq kq zq], .slice Al ss.length cl] w fun e w' => (∃ v ans, (fun a => a = some (extQ true qs)) ans ∧ e = .returned (.tuple #[v, .bool ans.isSome, .int .i64 (eno ans)]) ∧ Res (fun k => w.heap.size ≤ k) w' v ans) ∧ Below w.heap.size w w' := by
 have hl2 : RowS (fun k => okl k ∧ k < w.heap.size) w (.slice Al ss.length cl) ss := RowS.mono' hl (fun k h1 h2 => ⟨h1, h2⟩)
 refine wrun_calls (fun a => a = some (extQ true qs)) 9 over (by decide) ss.length hn0 w _ _ _ _ _ _ _ _ _ (fun W hW => may9_calls over h0 h1 ss hby qs hvs hsz W _ _ _ _ _ _ _ _ (RowS.kb hl2 hW (fun _ _ h => h))) (fun W rb hW hrb hr => (run9_calls rb over ss qs hn0 hsz W _ _ _ _ _ _ _ _ hr (RowS.kb hl2 hW (fun _ _ h => h)) (fun k h => by have := h.2; omega) hvs).mono ?_)
 rintro e w' ⟨v, rfl, hv, hk1, hk2⟩
 exact ⟨v, _, rfl, rfl, Res.mono hv (fun k h => h.elim (fun h => .inl h.2) .inr), hk1, hk2⟩
theorem wrun10 {okl : Nat → Prop} (over : Int) (h0 : 1 ≤ over) (h1 : over ≤ 9007199254740991) (ss : List Smp) (hby : ByS ss) (qs : List Rat) (hvs : ValS ss qs) (hn0 : 0 < ss.length) (hsz : ss.length ≤ 1000000) (w : World) (tq : Bool) (Aq : Option Addr) (nq cq : Nat) (Dq : Option Addr) (kq zq : Nat) (Al : Option Addr) (cl : Nat) (hl : RowS okl w (.slice Al ss.length cl) ss) :
 Calls Try.prog 16 #[.int .i64 10, .int .i64 over, .agg #[.bool tq, .slice Aq nq cq, .slice Dq kq zq], .slice Al ss.length cl] w fun e w' => (∃ v ans, (fun a => a = some (qs.getD 0 0)) ans ∧ e = .returned (.tuple #[v, .bool ans.isSome, .int .i64 (eno ans)]) ∧ Res (fun k => w.heap.size ≤ k) w' v ans) ∧ Below w.heap.size w w' := by
 have hl2 : RowS (fun k => okl k ∧ k < w.heap.size) w (.slice Al ss.length cl) ss := RowS.mono' hl (fun k h1 h2 => ⟨h1, h2⟩)
 refine wrun_calls (fun a => a = some (qs.getD 0 0)) 10 over (by decide) ss.length hn0 w _ _ _ _ _ _ _ _ _ (fun W hW => may10_calls over h0 h1 ss hby qs hvs hsz W _ _ _ _ _ _ _ _ (RowS.kb hl2 hW (fun _ _ h => h))) (fun W rb hW hrb hr => (run10_calls rb over ss qs hn0 hsz W _ _ _ _ _ _ _ _ hr (RowS.kb hl2 hW (fun _ _ h => h)) (fun k h => by have := h.2; omega) hvs).mono ?_)
 rintro e w' ⟨v, rfl, hv, hk1, hk2⟩
 exact ⟨v, _, rfl, rfl, Res.mono hv (fun k h => h.elim (fun h => .inl h.2) .inr), hk1, hk2⟩
theorem wrun11 {okl : Nat → Prop} (over : Int) (h0 : 1 ≤ over) (h1 : over ≤ 9007199254740991) (ss : List Smp) (hby : ByS ss) (qs : List Rat) (hvs : ValS ss qs) (hn0 : 0 < ss.length) (hsz : ss.length ≤ 1000000) (w : World) (tq : Bool) (Aq : Option Addr) (nq cq : Nat) (Dq : Option Addr) (kq zq : Nat) (Al : Option Addr) (cl : Nat) (hl : RowS okl w (.slice Al ss.length cl) ss) :
 Calls Try.prog 16 #[.int .i64 11, .int .i64 over, .agg #[.bool tq, .slice Aq nq cq, .slice Dq kq zq], .slice Al ss.length cl] w fun e w' => (∃ v ans, (fun a => a = some (qs.getD (ss.length - 1) 0)) ans ∧ e = .returned (.tuple #[v, .bool ans.isSome, .int .i64 (eno ans)]) ∧ Res (fun k => w.heap.size ≤ k) w' v ans) ∧ Below w.heap.size w w' := by
 have hl2 : RowS (fun k => okl k ∧ k < w.heap.size) w (.slice Al ss.length cl) ss := RowS.mono' hl (fun k h1 h2 => ⟨h1, h2⟩)
 refine wrun_calls (fun a => a = some (qs.getD (ss.length - 1) 0)) 11 over (by decide) ss.length hn0 w _ _ _ _ _ _ _ _ _ (fun W hW => may11_calls over h0 h1 ss hby qs hvs hsz W _ _ _ _ _ _ _ _ (RowS.kb hl2 hW (fun _ _ h => h))) (fun W rb hW hrb hr => (run11_calls rb over ss qs hn0 hsz W _ _ _ _ _ _ _ _ hr (RowS.kb hl2 hW (fun _ _ h => h)) (fun k h => by have := h.2; omega) hvs).mono ?_)
 rintro e w' ⟨v, rfl, hv, hk1, hk2⟩
 exact ⟨v, _, rfl, rfl, Res.mono hv (fun k h => h.elim (fun h => .inl h.2) .inr), hk1, hk2⟩
theorem byS_one (x : Option Rat) : ByS [⟨0, 0, x⟩] := fun i hi => by
 obtain rfl : i = 0 := by simpa using hi
 exact ⟨Int.le_refl 0, (by decide : (0 : Int) ≤ 9007199254740991)⟩
end Go.Proofs.Ytgdkgahbmfhgcaa.PN
