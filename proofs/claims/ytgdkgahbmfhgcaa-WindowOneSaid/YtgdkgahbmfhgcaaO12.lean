/- What the statement rests on, part 12: WM LA LB YB YC. -/
import Derived.Test.YtgdkgahbmfhgcaaO11
set_option linter.unusedVariables false
set_option linter.unusedSimpArgs false
set_option maxHeartbeats 4000000
set_option maxRecDepth 100000
namespace Go.Proofs.Ytgdkgahbmfhgcaa.PN
open Go.RowKit Go.Proofs.Ytgdkgahbmfhgcaa.NS Go.Proofs.Ytgdkgahbmfhgcaa.Limbs Go.Proofs.YtgdkgahbmfhgcaaW.PrintWords Go.Proofs.YtgdkgahbmfhgcaaW.PrintLast Go.Proofs.YtgdkgahbmfhgcaaW.PrintMore
theorem lclone (m : Nat) (h : m < 4294967296 ^ 16) (A0 : Option Addr) (c0 : Nat) (w : World) (hr0 : Kd.C (Kd.int .u32) w A0 (limbs m).length (limbs m)) (hc0 : (limbs m).length ≤ c0) :
 Calls Try.prog 31 #[.slice A0 (limbs m).length c0] w fun e w' => ∃ v : Value, e = .returned v ∧ RowL (fun k => w.heap.size ≤ k) w' v (limbs m) ∧ Below w.heap.size w w' := by
 refine (slices_Clone_uint32_uint32.calls A0 c0 _ (limbs m) w hr0 hc0 (by unfold slices_Clone_uint32_uint32.f; rw [if_pos (by have := len16 h; omega)])).mono ?_
 rintro e w' ⟨v, rfl, ho, hb⟩
 exact ⟨v, rfl, Rd.ofR ho (Nat.le_refl _), hb⟩
theorem IsT.zero (ok : Nat → Prop) (w : World) : IsT ok w (.agg #[.bool false, .slice none 0 0, .slice none 0 0]) false 0 0 := ⟨_, _, rfl, by rw [limbs_zero]; exact Kd.V_nil _ _ _ _ _, by rw [limbs_zero]; exact Kd.V_nil _ _ _ _ _⟩
def WRunE.T10 : Bool × List (List Nat × List Nat) := (true, [([], []), ([], []), ([1], [1]), ([2], [2]), ([3], [3]), ([0, 0], [0]), ([5, 0, 5], []), ([4, 6, 0, 1, 2, 3, 4, 5, 6], [4])])
def WRunE.B10 : List Nat := [0, 0, 2, 6, 14, 1, 33, 127]
theorem WRunE.tab10 : rtab .any (opsOf Try.f16 10) = WRunE.T10 := by kernel_rfl
theorem WRunE.bits10 : waitsOk WRunE.T10.2 WRunE.B10 = true := by kernel_rfl
def WRunK.T11 : Bool × List (List Nat × List Nat) := (true, [([], []), ([0], [0]), ([], []), ([2], [2]), ([3], [3]), ([], []), ([5], [5]), ([6, 4], [6]), ([1, 4, 7], [1, 4, 7]), ([8, 7, 0, 1, 2, 3, 4, 5, 6, 7, 8], [8]), ([9, 0, 1, 2, 3, 4, 5, 6, 7, 8, 9], []), ([10, 0, 1, 2, 3, 4, 5, 6, 7, 8, 9, 10], [])])
def WRunK.B11 : List Nat := [0, 1, 0, 4, 12, 0, 32, 124, 255, 511, 1023, 2047]
theorem WRunK.tab11 : rtab .any (opsOf Try.f16 11) = WRunK.T11 := by kernel_rfl
theorem WRunK.bits11 : waitsOk WRunK.T11.2 WRunK.B11 = true := by kernel_rfl
theorem wrun_calls (P : Option Rat → Prop) (fn over : Int) (hf5 : fn ≠ 5) (nl : Nat) (hn0 : 0 < nl) (w : World) (tq : Bool) (Aq : Option Addr) (nq cq : Nat) (Dq : Option Addr) (kq zq : Nat) (Al : Option Addr) (cl : Nat) (hmay : ∀ W, Kb (fun k => False) w W → Calls Try.prog 29 #[.int .i64 fn, .int .i64 over, .agg #[.bool tq, .slice Aq nq cq, .slice Dq kq zq], .slice Al nl cl] W fun e w' => e = .returned (.bool true) ∧ Below W.heap.size W w') (hrun : ∀ W rb, Kb (fun k => False) w W → w.heap.size ≤ rb → Rk W rb false → Calls Try.prog 30 #[.pointer (some ⟨rb, 0, none⟩), .int .i64 fn, .int .i64 over, .agg #[.bool tq, .slice Aq nq cq, .slice Dq kq zq], .slice Al nl cl] W fun e w' => ∃ v ans, P ans ∧ e = .returned v ∧ Res (fun k => k < w.heap.size ∨ W.heap.size ≤ k) w' v ans ∧ Rk w' rb ans.isNone ∧ Kb (fun k => k = rb) W w') :
 Calls Try.prog 16 #[.int .i64 fn, .int .i64 over, .agg #[.bool tq, .slice Aq nq cq, .slice Dq kq zq], .slice Al nl cl] w fun e w' => (∃ v ans, P ans ∧ e = .returned (.tuple #[v, .bool ans.isSome, .int .i64 (eno ans)]) ∧ Res (fun k => w.heap.size ≤ k) w' v ans) ∧ Below w.heap.size w w' := by
 have hu30 := Try.underlying30
 have hu61 := Try.underlying61
 have HM := Aside0.mk hmay
 have HR := Aside0.mk hrun
 have g1 : (fn == 5) = false := beq_eq_false_iff_ne.mpr hf5
 have g2 : ((nl : Int) == 0) = false := beq_eq_false_iff_ne.mpr (by omega)
 have g3 : decide (fn = 5) = false := decide_eq_false hf5
 have g4 : decide ((nl : Int) = 0) = false := decide_eq_false (by omega)
 have g5 : (nl == 0) = false := beq_eq_false_iff_ne.mpr (by omega)
 clear hmay hrun hn0
 have HB := Aside0.mk (Kb.refl (fun k => False) w)
 go_enter Try.func16, Try.ntmps16
 try go_step3
 go_wp2_with (first | ((with_reducible refine gate_dst (N := 6) rfl ?_); refine bx_ (N := 6) #[.bool tq, .slice Aq nq cq, .slice Dq kq zq] 30 ?_; intro g_q hg w101 hbox hb; have G_q := kb_g HB hg; replace HB := kb_b HB hb; clear hb; have V_q := Aside0.mk hbox; have B_q := Aside0.mk (Kb.refl (fun k => False) w101); have N_q : Aside0 (¬ (fun k => False) g_q) := ⟨by have := G_q; exact fun h => h⟩; clear hbox hg) | ((with_reducible refine gate_dst (N := 8) rfl ?_); refine bx_ (N := 8) #[.bool false, .slice none 0 0, .slice none 0 0] 30 ?_; intro g_r hg w102 hbox hb; have G_r := kb_g HB hg; have O_r_q := kb_g B_q hg; replace HB := kb_b HB hb; replace B_q := kb_b B_q hb; clear hb; have V_r := Aside0.mk hbox; have B_r := Aside0.mk (Kb.refl (fun k => False) w102); have N_r : Aside0 (¬ (fun k => False) g_r) := ⟨by have := G_r; exact fun h => h⟩; clear hbox hg) | ((with_reducible refine gate_dst (N := 15) rfl ?_); refine load_ev rfl rfl (g := g_q) rfl (Kb.blk V_q.out B_q.out N_q.out) ?_))
 with_reducible refine (HM.out _ HB.out).mono ?_
 rintro e w103 ⟨rfl, hb⟩
 replace HB := kb_b HB hb
 replace B_q := kb_b B_q hb
 replace B_r := kb_b B_r hb
 clear hb
 go_wp2_with (first | ((with_reducible refine gate_dst (N := 39) rfl ?_); refine bx_ (N := 39) #[.int .i64 0] 61 ?_; intro g_k hg w104 hbox hb; have G_k := kb_g HB hg; have O_k_q := kb_g B_q hg; have O_k_r := kb_g B_r hg; replace HB := kb_b HB hb; replace B_q := kb_b B_q hb; replace B_r := kb_b B_r hb; clear hb; have V_k := Aside0.mk hbox; have B_k := Aside0.mk (Kb.refl (fun k => False) w104); have N_k : Aside0 (¬ (fun k => False) g_k) := ⟨by have := G_k; exact fun h => h⟩; clear hbox hg) | ((with_reducible refine gate_dst (N := 43) rfl ?_); refine load_ev rfl rfl (g := g_q) rfl (Kb.blk V_q.out B_q.out N_q.out) ?_))
 have hrk : Rk w104 g_k false := by
  unfold Rk
  rw [if_neg (by decide)]
  exact Kb.blk V_k.out B_k.out N_k.out
 have hlk := blk_lt (Kb.blk V_k.out B_k.out N_k.out)
 have hlr := blk_lt (Kb.blk V_r.out B_r.out N_r.out)
 have hle := Kb.size HB.out
 with_reducible refine (HR.out _ g_k HB.out G_k.out hrk).mono ?_
 rintro e w105 ⟨v, ans, hP, rfl, hv, hrk2, hk⟩
 have HP := Aside0.mk hP
 have HRK := Aside0.mk hrk2
 clear hP hrk2 hrk
 have hv_ := Res.mono' (ok' := fun k => True ∧ k ≠ g_r ∧ k ≠ g_k ∧ w.heap.size ≤ k ∨ (True ∧ k ≠ g_r ∧ k ≠ g_k)) hv (fun k hk _ => by
  have h1 := G_r.out
  have h2 := G_k.out
  refine Or.inr ⟨trivial, ?_, ?_⟩ <;> (rcases hk with hk | hk <;> omega))
 have hv_ := Res.mono hv_ (ok' := fun k => True ∧ k ≠ g_r ∧ k ≠ g_k) (fun k h => h.elim (fun h => ⟨h.1, h.2.1, h.2.2.1⟩) (fun h => h))
 clear hv hlk hlr hle
 have O_r_k : Aside0 (¬ (g_k = g_r)) := ⟨fun e => by have := O_k_r.out; have := blk_lt V_r.out; omega⟩
 clear V_k B_k
 replace HB := kb_t HB hk (fun i hi => by exact hi ▸ Or.inr G_k.out)
 replace B_q := kb_t B_q hk (fun i hi => by exact hi ▸ Or.inr O_k_q.out)
 replace B_r := kb_t B_r hk (fun i hi => by exact hi ▸ Or.inr O_k_r.out)
 clear hk
 have V_v := Aside0.mk hv_
 clear hv_
 have B_v := Aside0.mk (Kb.refl (fun k => False ∨ k = g_r ∨ k = g_k) w105)
 clear V_q B_q
 cases ans with
 | none =>
  obtain ⟨tv, Av, nv, cv, Dv, kv, zv, rfl⟩ := V_v.out.agg
  go_wp2_with (first | ((with_reducible refine gate_store (t := 30) (p := 8) (v := .tmp 45) rfl ?_); refine store_ev (p := .tmp 8) (v := .tmp 45) rfl rfl rfl (g := g_r) rfl rfl (Kb.blk V_r.out B_r.out N_r.out) ?_; intro w106 hbox hk; replace HB := kb_t HB hk (fun i hi => by exact hi ▸ Or.inr G_r.out); replace B_v := kb_t B_v hk (fun i hi => by exact Or.inl (Or.inr (Or.inl hi))); have HRK2 := Aside0.mk (Rk.kb HRK.out hk O_r_k.out); have hz_rk := Rk.cell HRK2.out; simp only [if_true, Option.isNone_none] at hz_rk; clear V_r B_r; have V_r := Aside0.mk hbox; have B_r := Aside0.mk (Kb.refl (fun k => False) w106); clear hbox hk))
  clear hz_rk
  clear V_v B_v
  have hb : Below w106.heap.size w106 w106.drew := below_drew1 (Below.refl _ _)
  replace HB := kb_b HB hb
  replace B_r := kb_b B_r hb
  clear hb
  refine start_ (n := 8) (S := fun w' => (w'.cell? ⟨g_k, 0, none⟩ = some (.int .i64 20))) (ds := []) (tB_ 8 0) (by kernel_rfl) rfl (by kernel_rfl) (((Rk.cell HRK2.out).trans (by simp))) (fun hHeld => ?_)
  refine with_tabW WRunE.tab10 WRunE.bits10 (fun HT_ HW_ => ?_)
  generalize w106.drew = w107 at HB B_r hHeld ⊢
  refine pu_ 0 (some 51) 1 HT_ ?_
  refine pu_ 1 (some 52) 3 HT_ ?_
  refine pu_ 2 (some 53) 7 HT_ ?_
  refine pu_ 3 (some 54) 15 HT_ ?_
  refine tk_ 4 (some 55) 31 HT_ HW_ hHeld ?_ ?_ ?_ ?_ ?_
  rotate_left
  · intro w' hs
    have hb_ := hs
    have c0_ := hb_
    clear hs
    go_simp
    with_reducible rfl
  rotate_left
  · simp only [PU]
    rfl
  refine on_ 5 none 63 HT_ (fun K hK => ?_)
  have bk_r := Kb.blk V_r.out B_r.out N_r.out
  have hz_r_0 : w107.cell? ⟨g_r, 0, none⟩ = some (.bool tv) := (blk_cell bk_r 0).trans rfl
  have hf_r_0 := blk_frozen bk_r 0
  have hz_r_1 : w107.cell? ⟨g_r, 1, none⟩ = some (.slice Av nv cv) := (blk_cell bk_r 1).trans rfl
  have hf_r_1 := blk_frozen bk_r 1
  have hz_r_2 : w107.cell? ⟨g_r, 2, none⟩ = some (.slice Dv kv zv) := (blk_cell bk_r 2).trans rfl
  have hf_r_2 := blk_frozen bk_r 2
  clear bk_r
  refine skip_ (w1 := ((w107.setCell ⟨g_r, 0, none⟩ (.bool false)).setCell ⟨g_r, 1, none⟩ (.slice none 0 0)).setCell ⟨g_r, 2, none⟩ (.slice none 0 0)) (by rfl) rfl ?_ ?_
  · first | (go_simp; done) | (go_simp; rfl)
  clear hz_r_0 hf_r_0 hz_r_1 hf_r_1 hz_r_2 hf_r_2
  have hbox : (((w107.setCell ⟨g_r, 0, none⟩ (.bool false)).setCell ⟨g_r, 1, none⟩ (.slice none 0 0)).setCell ⟨g_r, 2, none⟩ (.slice none 0 0)).heap[g_r]? = some (.cells #[.bool false, .slice none 0 0, .slice none 0 0] 30 (0, 0)) := blk_put (blk_put (blk_put (Kb.blk V_r.out B_r.out N_r.out) 0 _ rfl) 1 _ rfl) 2 _ rfl
  have hk : Kb (fun k => k = g_r) w107 (((w107.setCell ⟨g_r, 0, none⟩ (.bool false)).setCell ⟨g_r, 1, none⟩ (.slice none 0 0)).setCell ⟨g_r, 2, none⟩ (.slice none 0 0)) := (((Kb.refl (fun k => k = g_r) w107).setCell (p := ⟨g_r, 0, none⟩) (Or.inl rfl) _).setCell (p := ⟨g_r, 1, none⟩) (Or.inl rfl) _).setCell (p := ⟨g_r, 2, none⟩) (Or.inl rfl) _
  refine hK.out _ _ (by exact Kb.cell hHeld hk (show ¬ (g_k = g_r) from O_r_k.out)) (fun hHeld => ?_)
  clear hK K
  obtain ⟨w108, hw_⟩ : ∃ x, x = ((w107.setCell ⟨g_r, 0, none⟩ (.bool false)).setCell ⟨g_r, 1, none⟩ (.slice none 0 0)).setCell ⟨g_r, 2, none⟩ (.slice none 0 0) := ⟨_, rfl⟩
  rw [← hw_] at hk hbox hHeld ⊢
  clear hw_
  replace HB := kb_t HB hk (fun i hi => by exact hi ▸ Or.inr G_r.out)
  clear V_r B_r
  have V_r := Aside0.mk hbox
  have B_r := Aside0.mk (Kb.refl (fun k => False) w108)
  clear hbox hk
  refine pu_ 6 (some 9) 127 HT_ ?_
  refine pu_ 7 (some 10) 255 HT_ ?_
  refine do_ HT_ ?_
  clear HT_ HW_ hHeld
  go_wp2_with fail
  refine bodyPost_ret (results_ctt rfl _ _ g_r 30 #[.bool false, .slice none 0 0, .slice none 0 0] (0, 0) _ rfl (Kb.blk V_r.out B_r.out N_r.out) Try.underlying30 rfl (by kernel_rfl)) rfl ?_
  exact ⟨⟨_, none, HP.out, rfl, IsT.zero _ _⟩, (Kb.to_below HB.out (fun _ h => h.elim))⟩
 | some x =>
  have hx := Res.isR V_v.out
  obtain ⟨A0, c0, A1, c1, rfl, hr0, hr1⟩ := hx.rows
  have HF := Aside0.mk hx.1
  obtain ⟨sg, hsg⟩ : ∃ s, s = decide (x.num < 0) := ⟨_, rfl⟩
  obtain ⟨m, hm⟩ : ∃ m, m = x.num.natAbs := ⟨_, rfl⟩
  obtain ⟨d, hd⟩ : ∃ d, d = x.den := ⟨_, rfl⟩
  rw [← hsg, ← hm, ← hd]
  rw [← hm] at hr0
  rw [← hd] at hr1
  have HMD := Aside0.mk (And.intro hsg (And.intro hm hd))
  clear hsg hm hd hx
  clear V_v B_v
  have V_m := Aside0.mk hr0
  clear hr0
  have B_m := Aside0.mk (Kb.refl (fun k => False ∨ k = g_r ∨ k = g_k) w105)
  have V_d := Aside0.mk hr1
  clear hr1
  have B_d := Aside0.mk (Kb.refl (fun k => False ∨ k = g_r ∨ k = g_k) w105)
  go_wp2_with (first | ((with_reducible refine gate_store (t := 30) (p := 8) (v := .tmp 45) rfl ?_); refine store_ev (p := .tmp 8) (v := .tmp 45) rfl rfl rfl (g := g_r) rfl rfl (Kb.blk V_r.out B_r.out N_r.out) ?_; intro w106 hbox hk; replace HB := kb_t HB hk (fun i hi => by exact hi ▸ Or.inr G_r.out); replace B_m := kb_t B_m hk (fun i hi => by exact Or.inl (Or.inr (Or.inl hi))); replace B_d := kb_t B_d hk (fun i hi => by exact Or.inl (Or.inr (Or.inl hi))); have HRK2 := Aside0.mk (Rk.kb HRK.out hk O_r_k.out); have hz_rk := Rk.cell HRK2.out; simp only [Option.isNone_some, Bool.false_eq_true, if_false] at hz_rk; clear V_r B_r; have V_r := Aside0.mk hbox; have B_r := Aside0.mk (Kb.refl (fun k => False) w106); clear hbox hk))
  clear hz_rk
  have hb : Below w106.heap.size w106 w106.drew := below_drew1 (Below.refl _ _)
  replace HB := kb_b HB hb
  replace B_r := kb_b B_r hb
  replace B_m := kb_b B_m hb
  replace B_d := kb_b B_d hb
  clear hb
  refine start_ (n := 12) (S := fun w' => w'.heap[g_r]? = some (.cells #[.bool sg, .slice A0 (limbs m).length c0, .slice A1 (limbs d).length c1] 30 (0, 0))) (ds := [9]) (tB_ 12 0) (by kernel_rfl) rfl (by kernel_rfl) (Kb.blk V_r.out B_r.out N_r.out) (fun hHeld => ?_)
  refine with_tabW WRunK.tab11 WRunK.bits11 (fun HT_ HW_ => ?_)
  generalize w106.drew = w107 at HB B_r B_m B_d hHeld ⊢
  refine pu_ 0 (some 56) 1 HT_ ?_
  refine tk_ 1 (some 57) 3 HT_ HW_ hHeld ?_ ?_ ?_ ?_ ?_
  rotate_left
  · intro w' hs
    have hb_ := hs
    have c0_ := (blk_cell hb_ 0).trans rfl
    have c1_ := (blk_cell hb_ 1).trans rfl
    have c2_ := (blk_cell hb_ 2).trans rfl
    clear hb_ hs
    go_simp
    with_reducible rfl
  rotate_left
  · simp only [PU]
    rfl
  refine pu_ 2 (some 58) 7 HT_ ?_
  refine tk_ 3 (some 59) 15 HT_ HW_ hHeld ?_ ?_ ?_ ?_ ?_
  rotate_left
  · intro w' hs
    have hb_ := hs
    have c0_ := (blk_cell hb_ 0).trans rfl
    have c1_ := (blk_cell hb_ 1).trans rfl
    have c2_ := (blk_cell hb_ 2).trans rfl
    clear hb_ hs
    go_simp
    with_reducible rfl
  rotate_left
  · simp only [PU]
    rfl
  refine pu_ 5 (some 61) 47 HT_ ?_
  refine tk_ 6 (some 62) 111 HT_ HW_ hHeld ?_ ?_ ?_ ?_ ?_
  rotate_left
  · intro w' hs
    have hb_ := hs
    have c0_ := (blk_cell hb_ 0).trans rfl
    have c1_ := (blk_cell hb_ 1).trans rfl
    have c2_ := (blk_cell hb_ 2).trans rfl
    clear hb_ hs
    go_simp
    with_reducible rfl
  rotate_left
  · simp only [PU]
    rfl
  refine on_ 4 (some 60) 127 HT_ (fun K hK => ?_)
  refine gs_ Try.func31 #[.slice A0 (limbs m).length c0] ?_
  refine (lclone m (by rw [HMD.out.2.1]; exact HF.out.1) _ _ _ (RowL.c (RowL.kb (S := fun k => False ∨ k = g_r ∨ k = g_k) V_m.out B_m.out (fun k h hs => hs.elim (fun f => f) (fun hs2 => hs2.elim h.2.1 h.2.2)))) (RowL.le V_m.out)).mono ?_
  rintro e w108 ⟨v60, rfl, h1, hb⟩
  obtain ⟨A2, c2, rfl⟩ := RowL.slice h1
  have hle := Kb.size HB.out
  have hlr := blk_lt (Kb.blk V_r.out B_r.out N_r.out)
  have h1 := RowL.mono' (ok' := fun k => True ∧ k ≠ g_r ∧ w.heap.size ≤ k) h1 (fun k hk _ => ⟨trivial, by omega, by omega⟩)
  clear hle hlr
  refine ⟨_, rfl, ?_⟩
  refine hK.out _ _ (by exact blk_below hHeld hb) (fun hHeld => ?_)
  clear hK K
  refine nm_ (some 60) ?_
  replace HB := kb_b HB hb
  replace B_r := kb_b B_r hb
  replace B_m := kb_b B_m hb
  replace B_d := kb_b B_d hb
  clear hb
  have V_n := Aside0.mk h1
  clear h1
  have B_n := Aside0.mk (Kb.refl (fun k => False ∨ k = g_r) w108)
  refine on_ 7 (some 63) 255 HT_ (fun K hK => ?_)
  refine gs_ Try.func31 #[.slice A1 (limbs d).length c1] ?_
  refine (lclone d (by rw [HMD.out.2.2]; exact HF.out.2) _ _ _ (RowL.c (RowL.kb (S := fun k => False ∨ k = g_r ∨ k = g_k) V_d.out B_d.out (fun k h hs => hs.elim (fun f => f) (fun hs2 => hs2.elim h.2.1 h.2.2)))) (RowL.le V_d.out)).mono ?_
  rintro e w109 ⟨v63, rfl, h1, hb⟩
  obtain ⟨A3, c3, rfl⟩ := RowL.slice h1
  have hle := Kb.size HB.out
  have hlr := blk_lt (Kb.blk V_r.out B_r.out N_r.out)
  have h1 := RowL.mono' (ok' := fun k => True ∧ k ≠ g_r ∧ w.heap.size ≤ k) h1 (fun k hk _ => ⟨trivial, by omega, by omega⟩)
  clear hle hlr
  refine ⟨_, rfl, ?_⟩
  refine hK.out _ _ (by exact blk_below hHeld hb) (fun hHeld => ?_)
  clear hK K
  refine nm_ (some 63) ?_
  replace HB := kb_b HB hb
  replace B_r := kb_b B_r hb
  replace B_m := kb_b B_m hb
  replace B_d := kb_b B_d hb
  replace B_n := kb_b B_n hb
  clear hb
  have V_e := Aside0.mk h1
  clear h1
  have B_e := Aside0.mk (Kb.refl (fun k => False ∨ k = g_r) w109)
  clear V_m B_m
  clear V_d B_d
  refine pu_ 8 (some 64) 511 HT_ ?_
  refine la_ 9 none 1023 HT_ (fun K hK => ?_)
  have bk_r := Kb.blk V_r.out B_r.out N_r.out
  have hz_r_0 : w109.cell? ⟨g_r, 0, none⟩ = some (.bool sg) := (blk_cell bk_r 0).trans rfl
  have hf_r_0 := blk_frozen bk_r 0
  have hz_r_1 : w109.cell? ⟨g_r, 1, none⟩ = some (.slice A0 (limbs m).length c0) := (blk_cell bk_r 1).trans rfl
  have hf_r_1 := blk_frozen bk_r 1
  have hz_r_2 : w109.cell? ⟨g_r, 2, none⟩ = some (.slice A1 (limbs d).length c1) := (blk_cell bk_r 2).trans rfl
  have hf_r_2 := blk_frozen bk_r 2
  clear bk_r
  refine skip_ (w1 := ((w109.setCell ⟨g_r, 0, none⟩ (.bool sg)).setCell ⟨g_r, 1, none⟩ (.slice A2 (limbs m).length c2)).setCell ⟨g_r, 2, none⟩ (.slice A3 (limbs d).length c3)) (by rfl) rfl ?_ ?_
  · first | (go_simp; done) | (go_simp; rfl)
  clear hz_r_0 hf_r_0 hz_r_1 hf_r_1 hz_r_2 hf_r_2
  have hbox : (((w109.setCell ⟨g_r, 0, none⟩ (.bool sg)).setCell ⟨g_r, 1, none⟩ (.slice A2 (limbs m).length c2)).setCell ⟨g_r, 2, none⟩ (.slice A3 (limbs d).length c3)).heap[g_r]? = some (.cells #[.bool sg, .slice A2 (limbs m).length c2, .slice A3 (limbs d).length c3] 30 (0, 0)) := blk_put (blk_put (blk_put (Kb.blk V_r.out B_r.out N_r.out) 0 _ rfl) 1 _ rfl) 2 _ rfl
  have hk : Kb (fun k => k = g_r) w109 (((w109.setCell ⟨g_r, 0, none⟩ (.bool sg)).setCell ⟨g_r, 1, none⟩ (.slice A2 (limbs m).length c2)).setCell ⟨g_r, 2, none⟩ (.slice A3 (limbs d).length c3)) := (((Kb.refl (fun k => k = g_r) w109).setCell (p := ⟨g_r, 0, none⟩) (Or.inl rfl) _).setCell (p := ⟨g_r, 1, none⟩) (Or.inl rfl) _).setCell (p := ⟨g_r, 2, none⟩) (Or.inl rfl) _
  refine hK.out _ _ ?_
  clear hHeld
  have hHeld := trivial
  clear hK K
  obtain ⟨w110, hw_⟩ : ∃ x, x = ((w109.setCell ⟨g_r, 0, none⟩ (.bool sg)).setCell ⟨g_r, 1, none⟩ (.slice A2 (limbs m).length c2)).setCell ⟨g_r, 2, none⟩ (.slice A3 (limbs d).length c3) := ⟨_, rfl⟩
  rw [← hw_] at hk hbox ⊢
  clear hw_
  replace HB := kb_t HB hk (fun i hi => by exact hi ▸ Or.inr G_r.out)
  replace B_n := kb_t B_n hk (fun i hi => by exact Or.inl (Or.inr hi))
  replace B_e := kb_t B_e hk (fun i hi => by exact Or.inl (Or.inr hi))
  clear V_r B_r
  have V_r := Aside0.mk hbox
  have B_r := Aside0.mk (Kb.refl (fun k => False) w110)
  clear hbox hk
  refine pu_ 10 (some 9) 2047 HT_ ?_
  refine pu_ 11 (some 10) 4095 HT_ ?_
  refine do_ HT_ ?_
  clear HT_ HW_ hHeld
  go_wp2_with fail
  have hn := Kd.V_mono (RowL.kb (S := fun k => False ∨ k = g_r) V_n.out B_n.out (fun k h hs => hs.elim (fun f => f) h.2.1)) (fun k h => h.2.2)
  have he := Kd.V_mono (RowL.kb (S := fun k => False ∨ k = g_r) V_e.out B_e.out (fun k h hs => hs.elim (fun f => f) h.2.1)) (fun k h => h.2.2)
  rw [HMD.out.2.1] at hn
  rw [HMD.out.2.2] at he
  refine bodyPost_ret (results_ctt rfl _ _ g_r 30 #[.bool sg, .slice A2 (limbs m).length c2, .slice A3 (limbs d).length c3] (0, 0) _ rfl (Kb.blk V_r.out B_r.out N_r.out) Try.underlying30 rfl (by kernel_rfl)) rfl ?_
  refine ⟨⟨_, some x, HP.out, rfl, ?_⟩, (Kb.to_below HB.out (fun _ h => h.elim))⟩
  have h8 := IsR.of_calls HF.out hn he
  rw [← HMD.out.1, ← HMD.out.2.1, ← HMD.out.2.2] at h8
  exact h8
theorem part_calls (a b : Int) (ha0 : -9223372036854775808 ≤ a) (ha1 : a ≤ 9223372036854775807) (hb0 : 0 < b) (hb1 : b ≤ 9223372036854775807) (hf : FitR ((a : Rat) / (b : Rat))) (w : World) :
 Calls Try.prog 13 #[.int .i64 a, .int .i64 b] w fun e w' => (∃ v, e = .returned v ∧ IsR (fun k => w.heap.size ≤ k) w' v ((a : Rat) / (b : Rat))) ∧ Below w.heap.size w w' := by
 have hu30 := Try.underlying30
 have HH := Aside0.mk (And.intro ha0 (And.intro ha1 (And.intro hb0 (And.intro hb1 hf))))
 clear ha0 ha1 hb0 hb1 hf
 have HB := Aside0.mk (Kb.refl (fun k => False) w)
 go_enter Try.func13, Try.ntmps13
 go_wp2_with (first | ((with_reducible refine gate_dst (N := 4) rfl ?_); refine bx_ (N := 4) #[.bool false, .slice none 0 0, .slice none 0 0] 30 ?_; intro g_r hg w101 hbox hb; have G_r := kb_g HB hg; replace HB := kb_b HB hb; clear hb; have V_r := Aside0.mk hbox; have B_r := Aside0.mk (Kb.refl (fun k => False) w101); have N_r : Aside0 (¬ (fun k => False) g_r) := ⟨by have := G_r; exact fun h => h⟩; clear hbox hg))
 with_reducible refine (qof_calls a HH.out.1 HH.out.2.1 _).mono ?_
 rintro e w102 ⟨⟨v, rfl, hv⟩, hb⟩
 obtain ⟨tx, Ax, nx, cx, Dx, kx, zx, rfl⟩ := hv.agg
 have hle := Kb.size HB.out
 have hv_ := IsR.mono' (ok' := fun k => True) hv (fun k hk _ => by trivial)
 clear hv hle
 replace HB := kb_b HB hb
 replace B_r := kb_b B_r hb
 clear hb
 have V_x := Aside0.mk hv_
 clear hv_
 have B_x := Aside0.mk (Kb.refl (fun k => False) w102)
 go_wp2_with fail
 with_reducible refine (qof_calls b (by have := HH.out.2.2.1; omega) HH.out.2.2.2.1 _).mono ?_
 rintro e w103 ⟨⟨v, rfl, hv⟩, hb⟩
 obtain ⟨ty, Ay, ny, cy, Dy, ky, zy, rfl⟩ := hv.agg
 have hle := Kb.size HB.out
 have hv_ := IsR.mono' (ok' := fun k => True) hv (fun k hk _ => by trivial)
 clear hv hle
 replace HB := kb_b HB hb
 replace B_r := kb_b B_r hb
 replace B_x := kb_b B_x hb
 clear hb
 have V_y := Aside0.mk hv_
 clear hv_
 have B_y := Aside0.mk (Kb.refl (fun k => False) w103)
 go_wp2_with fail
 with_reducible refine (Op2.calls qdiv_op (x := (a : Rat)) (y := (b : Rat)) (by rw [Rat.num_intCast]; have := HH.out.2.2.1; omega) (IsR.kb (S := fun k => False) V_x.out B_x.out (fun _ _ h => h)) (IsR.kb (S := fun k => False) V_y.out B_y.out (fun _ _ h => h))).mono ?_
 have e9 : fit ((a : Rat) / (b : Rat)) = some ((a : Rat) / (b : Rat)) := by unfold fit; rw [if_pos HH.out.2.2.2.2]
 rw [e9]
 rintro e w104 ⟨⟨v, rfl, hv⟩, hb⟩
 have hv := Res.isR hv
 clear e9
 obtain ⟨tv, Av, nv, cv, Dv, kv, zv, rfl⟩ := hv.agg
 clear V_x B_x
 clear V_y B_y
 have hle := Kb.size HB.out
 have hl_r := blk_lt (Kb.blk V_r.out B_r.out N_r.out)
 have hv_ := IsR.mono' (ok' := fun k => True ∧ k ≠ g_r ∧ w.heap.size ≤ k) hv (fun k hk _ => by refine ⟨?_, ?_, ?_⟩ <;> first | trivial | omega)
 clear hv hle hl_r
 replace HB := kb_b HB hb
 replace B_r := kb_b B_r hb
 clear hb
 have V_v := Aside0.mk hv_
 clear hv_
 have B_v := Aside0.mk (Kb.refl (fun k => False ∨ k = g_r) w104)
 go_wp2_with (first | ((with_reducible refine gate_dst (N := 5) rfl ?_); refine bx_ (N := 5) #[.bool false, .slice none 0 0, .slice none 0 0] 30 ?_; intro g_p hg w105 hbox hb; have G_p := kb_g HB hg; have O_p_r := kb_g B_r hg; have O_p_v := kb_g B_v hg; replace HB := kb_b HB hb; replace B_r := kb_b B_r hb; replace B_v := kb_b B_v hb; clear hb; have V_p := Aside0.mk hbox; have B_p := Aside0.mk (Kb.refl (fun k => False) w105); have N_p : Aside0 (¬ (fun k => False) g_p) := ⟨by have := G_p; exact fun h => h⟩; clear hbox hg) | ((with_reducible refine gate_store (t := 30) (p := 5) (v := .tmp 13) rfl ?_); refine store_ev (p := .tmp 5) (v := .tmp 13) rfl rfl rfl (g := g_p) rfl rfl (Kb.blk V_p.out B_p.out N_p.out) ?_; intro w106 hbox hk; replace HB := kb_t HB hk (fun i hi => by exact hi ▸ Or.inr G_p.out); replace B_r := kb_t B_r hk (fun i hi => by exact hi ▸ Or.inr O_p_r.out); replace B_v := kb_t B_v hk (fun i hi => by exact hi ▸ Or.inr O_p_v.out); clear V_p B_p; have V_p := Aside0.mk hbox; have B_p := Aside0.mk (Kb.refl (fun k => False) w106); clear hbox hk) | ((with_reducible refine gate_dst (N := 15) rfl ?_); refine load_ev rfl rfl (g := g_p) rfl (Kb.blk V_p.out B_p.out N_p.out) ?_) | ((with_reducible refine gate_store (t := 30) (p := 4) (v := .tmp 15) rfl ?_); refine store_ev (p := .tmp 4) (v := .tmp 15) rfl rfl rfl (g := g_r) rfl rfl (Kb.blk V_r.out B_r.out N_r.out) ?_; intro w107 hbox hk; replace HB := kb_t HB hk (fun i hi => by exact hi ▸ Or.inr G_r.out); replace B_v := kb_t B_v hk (fun i hi => by exact Or.inl (Or.inr hi)); clear V_r B_r; have V_r := Aside0.mk hbox; have B_r := Aside0.mk (Kb.refl (fun k => False) w107); clear hbox hk))
 refine bodyPost_ret (results_cell_row rfl _ _ g_r 30 #[.bool tv, .slice Av nv cv, .slice Dv kv zv] (0, 0) _ rfl (Kb.blk V_r.out B_r.out N_r.out) Try.underlying30 rfl (by kernel_rfl)) rfl ?_
 exact ⟨⟨_, rfl, (IsR.mono (IsR.kb (S := fun k => False ∨ k = g_r) V_v.out B_v.out (fun k h hs => hs.elim (fun f => f) (fun hs2 => h.2.1 hs2))) (fun k h => h.2.2))⟩, (Kb.to_below HB.out (fun _ h => h.elim))⟩
def smpOf (i : Nat) (q : Rat) : Smp := ⟨(i : Int), (i : Int), some q⟩
def smpsOf (qs : List Rat) : List Smp := qs.zipIdx.map (fun p => smpOf p.2 p.1)
theorem smpsOf_len (qs : List Rat) : (smpsOf qs).length = qs.length := by unfold smpsOf; rw [List.length_map, List.length_zipIdx]
theorem smpsOf_get (qs : List Rat) (i : Nat) (h : i < qs.length) : (smpsOf qs)[i]? = some (smpOf i (qs.getD i 0)) := by
 unfold smpsOf
 rw [List.getElem?_map, List.getElem?_zipIdx, List.getElem?_eq_getElem h, Nat.zero_add, List.getD_eq_getElem?_getD, List.getElem?_eq_getElem h]
 rfl
theorem smpsOf_take (qs : List Rat) (k : Nat) (h : k < qs.length) : (smpsOf qs).take k ++ [smpOf k (qs.getD k 0)] = (smpsOf qs).take (k + 1) := by
 have h2 := smpsOf_get qs k h
 rw [List.take_add_one, h2]
 rfl
theorem IsR.mkS {ok : Nat → Prop} {w : World} {t : Bool} {A0 A1 : Option Addr} {n0 c0 n1 c1 : Nat} {x : Rat} {a b : Int} (h : IsR ok w (.agg #[.bool t, .slice A0 n0 c0, .slice A1 n1 c1]) x) : Kd.FK kdS w ok ⟨a, b, some x⟩ [.int .i64 a, .int .i64 b, .bool t, .slice A0 n0 c0, .slice A1 n1 c1] := kdS_FK' (x := ⟨a, b, some x⟩) (c := ⟨t, A0, n0, c0, A1, n1, c1⟩) (fun q hq => by obtain rfl := Option.some.inj hq; exact h)
theorem of_calls {ok : Nat → Prop} (qs : List Rat) (hsz : qs.length ≤ 100000) (w : World) (vl : Value) (hl : RowQ ok w vl qs) :
 Calls Try.prog 21 #[vl] w fun e w' => (∃ v, e = .returned v ∧ RowS (fun k => ok k ∨ w.heap.size ≤ k) w' v (smpsOf qs)) ∧ Below w.heap.size w w' := by
 have hu30 := Try.underlying30
 have hu39 := Try.underlying39
 obtain ⟨Al, cl, rfl⟩ := hl.slice
 obtain ⟨nl, hnl⟩ : ∃ nl, nl = qs.length := ⟨_, rfl⟩
 rw [← hnl] at hl hsz ⊢
 have HNL := Aside0.mk hnl
 have hl := RowQ.mono' (ok' := fun j => ok j ∧ j < w.heap.size) hl (fun k h1 h2 => ⟨h1, h2⟩)
 clear hnl
 have HB := Aside0.mk (Kb.refl (fun k => False) w)
 have V_l := Aside0.mk hl
 clear hl
 have B_l := Aside0.mk (Kb.refl (fun k => False) w)
 obtain ⟨okN, hokN⟩ : ∃ okN : Nat → Prop, okN = fun k => (ok k ∧ k < w.heap.size) ∨ w.heap.size ≤ k := ⟨_, rfl⟩
 have HOK := Aside0.mk hokN
 clear hokN
 go_enter Try.func21, Try.ntmps21
 go_wp2_with fail
 go_loopg [3, 4] nl (fun kg v3 v4 wr => ∃ (k : Nat), v4 = .int .i64 k ∧ Aside0 (k + kg = nl) ∧ Aside0 (Kd.N kdS 39 wr w.heap.size okN v3 ((smpsOf qs).take k)) ∧ Aside0 (Kb (fun k => False) w wr))
 case atStart => exact ⟨0, rfl, ⟨by omega⟩, ⟨by rw [List.take_zero]; exact Kd.N_nil _ _ _ _ _⟩, HB⟩
 case round =>
  obtain ⟨k, rfl, HK, HN, HB2⟩ := hrel
  clear HB B_l
  have HB := HB2
  clear HB2
  have B_l := HB
  by_cases hlt : k < nl
  · have hz : (k : Int) < (nl : Int) := by omega
    obtain ⟨bl, ol, rfl⟩ := RowQ.some_ V_l.out (by omega)
    obtain ⟨tu, Au, nu, cu, Du, ku, zu, hy, c0, c1, c2⟩ := RowQ.get (RowQ.kb V_l.out B_l.out (fun _ _ h => h)) k (by rw [← HNL.out]; exact hlt)
    have C0 := Aside0.mk (And.intro c0 (And.intro c1 c2))
    clear c0 c1 c2
    have HFK := Aside0.mk (IsR.mkS (a := (k : Int)) (b := (k : Int)) hy)
    clear hy
    have e1 : IntKind.i64.wrap ((k : Int) + 1) = ((k + 1 : Nat) : Int) := (i64_w _).trans ((w64 (by omega) (by omega)).trans (by omega))
    have hpk : ∀ j, (ok j ∧ j < w.heap.size) → okN j ∧ some j ≠ u3.ownBlock := by
     intro j hj
     rw [HOK.out]
     have k1 := Kd.N_base HN.out
     exact ⟨.inl hj, fun e => by have := k1 j e.symm; omega⟩
    have HPK := Aside0.mk hpk
    clear hpk
    have hfr : ∀ k, wr.heap.size ≤ k → okN k := by
     intro j hj
     rw [HOK.out]
     have := Kb.size HB.out
     exact .inr (by omega)
    have HFR := Aside0.mk hfr
    clear hfr
    have hlen : ((smpsOf qs).take k).length = k := by rw [List.length_take, smpsOf_len]; have := HNL.out; omega
    have HLEN := Aside0.mk hlen
    clear hlen
    go_wp2_with (first | ((with_reducible refine gate_dst (N := 17) rfl ?_); refine load_at rfl rfl (g := bl) (k := (ol + k * 3)) rfl C0.out.1 C0.out.2.1 C0.out.2.2 ?_) | ((with_reducible refine gate_builtin (b := .append) (xs := #[.tmp 11, .tmp 19]) rfl ?_); at_builtin; refine Kd.N_append kdS (w0 := wr) w.heap.size rfl (.tmp 11) (.tmp 19) 25 39 (.agg #[.int .i64 0, .int .i64 0, .bool false, .slice none 0 0, .slice none 0 0]) 72 rfl Try.underlying25 (by kernel_rfl) rfl (by decide) (by omega) u3 ((smpsOf qs).take k) (smpOf k (qs.getD k 0)) [.int .i64 k, .int .i64 k, .bool tu, .slice Au nu cu, .slice Du ku zu] okN (fun j => ok j ∧ j < w.heap.size) rfl rfl HFK.out HPK.out HFR.out HN.out (Below.refl _ _) (Kb.size HB.out) (by have := HLEN.out; omega) ?_; intro v_ w_ hn hb hg hat; have hk := Kb.grown HB.out hg (fun j hj => .inr (Kd.N_base HN.out j hj)); have HN2 := Aside0.mk hn; have HB2 := Aside0.mk hk; clear hn hb hg hat hk))
    go_roundg (nl - (k + 1))
    case measure => have := HK.out; omega
    case rel => exact ⟨k + 1, by first | rfl | rw [e1], ⟨by have := HK.out; omega⟩, ⟨by rw [← smpsOf_take qs k (by rw [← HNL.out]; exact hlt)]; exact HN2.out⟩, HB2⟩
  · have hz : ¬ (k : Int) < (nl : Int) := by omega
    have hkn : (smpsOf qs).take k = smpsOf qs := List.take_of_length_le (by rw [smpsOf_len]; have := HK.out; have := HNL.out; omega)
    have hn := HN.out
    rw [hkn] at hn
    clear HN hkn hlt
    have HN := Aside0.mk hn
    clear hn
    go_wp2_with fail
    go_ret
    refine ⟨⟨_, rfl, ?_⟩, (Kb.to_below HB.out (fun _ h => h.elim))⟩
    exact RowS.mono (Kd.N_V HN.out) (fun j hj => by rw [HOK.out] at hj; exact hj.elim (fun h => .inl h.1) .inr)
theorem makes_calls {okw : Nat → Prop} (fn over : Int) (x y : Rat) (w : World) (tq : Bool) (Aq : Option Addr) (nq cq : Nat) (Dq : Option Addr) (kq zq : Nat) (Al : Option Addr) (nl cl : Nat) (vw : Value) (hy : IsR okw w vw y) (hrun : ∀ W, Kb (fun k => False) w W → Calls Try.prog 16 #[.int .i64 fn, .int .i64 over, .agg #[.bool tq, .slice Aq nq cq, .slice Dq kq zq], .slice Al nl cl] W fun e w' => (∃ v, e = .returned (.tuple #[v, .bool true, .int .i64 0]) ∧ IsR (fun k => W.heap.size ≤ k) w' v x) ∧ Below W.heap.size W w') :
 Calls Try.prog 14 #[.int .i64 fn, .int .i64 over, .agg #[.bool tq, .slice Aq nq cq, .slice Dq kq zq], .slice Al nl cl, vw] w fun e w' => e = .returned (.bool (decide (x = y))) ∧ Below w.heap.size w w' := by
 have hu30 := Try.underlying30
 obtain ⟨zd, hzd⟩ : ∃ z, z = decide (x = y) := ⟨_, rfl⟩
 rw [← hzd]
 have HZ := Aside0.mk hzd
 have HR := Aside0.mk hrun
 clear hzd hrun
 obtain ⟨ty, Ay, ny, cy, Dy, ky, zy, rfl⟩ := hy.agg
 have HB := Aside0.mk (Kb.refl (fun k => False) w)
 have V_y := Aside0.mk hy
 clear hy
 have B_y := Aside0.mk (Kb.refl (fun k => False) w)
 go_enter Try.func14, Try.ntmps14
 go_wp2_with (first | ((with_reducible refine gate_dst (N := 7) rfl ?_); refine bx_ (N := 7) #[.bool tq, .slice Aq nq cq, .slice Dq kq zq] 30 ?_; intro g_q hg w101 hbox hb; have G_q := kb_g HB hg; replace HB := kb_b HB hb; replace B_y := kb_b B_y hb; clear hb; have V_q := Aside0.mk hbox; have B_q := Aside0.mk (Kb.refl (fun k => False) w101); have N_q : Aside0 (¬ (fun k => False) g_q) := ⟨by have := G_q; exact fun h => h⟩; clear hbox hg) | ((with_reducible refine gate_dst (N := 9) rfl ?_); refine bx_ (N := 9) #[.bool ty, .slice Ay ny cy, .slice Dy ky zy] 30 ?_; intro g_t hg w102 hbox hb; have G_t := kb_g HB hg; replace HB := kb_b HB hb; replace B_y := kb_b B_y hb; replace B_q := kb_b B_q hb; clear hb; have V_t := Aside0.mk hbox; have B_t := Aside0.mk (Kb.refl (fun k => False) w102); have N_t : Aside0 (¬ (fun k => False) g_t) := ⟨by have := G_t; exact fun h => h⟩; clear hbox hg) | ((with_reducible refine gate_dst (N := 17) rfl ?_); refine load_ev rfl rfl (g := g_q) rfl (Kb.blk V_q.out B_q.out N_q.out) ?_))
 with_reducible refine (HR.out _ HB.out).mono ?_
 rintro e w103 ⟨⟨v, rfl, hv⟩, hb⟩
 obtain ⟨tv, Av, nv, cv, Dv, kv, zv, rfl⟩ := hv.agg
 have hle := Kb.size HB.out
 have hv_ := IsR.mono' (ok' := fun k => True) hv (fun k hk _ => by trivial)
 clear hv hle
 replace HB := kb_b HB hb
 replace B_y := kb_b B_y hb
 replace B_q := kb_b B_q hb
 replace B_t := kb_b B_t hb
 clear hb
 have V_v := Aside0.mk hv_
 clear hv_
 have B_v := Aside0.mk (Kb.refl (fun k => False) w103)
 go_wp2_with (first | ((with_reducible refine gate_dst (N := 11) rfl ?_); refine bx_ (N := 11) #[.bool false, .slice none 0 0, .slice none 0 0] 30 ?_; intro g_p hg w104 hbox hb; have G_p := kb_g HB hg; have O_p_y := kb_g B_y hg; have O_p_q := kb_g B_q hg; have O_p_t := kb_g B_t hg; have O_p_v := kb_g B_v hg; replace HB := kb_b HB hb; replace B_y := kb_b B_y hb; replace B_q := kb_b B_q hb; replace B_t := kb_b B_t hb; replace B_v := kb_b B_v hb; clear hb; have V_p := Aside0.mk hbox; have B_p := Aside0.mk (Kb.refl (fun k => False) w104); have N_p : Aside0 (¬ (fun k => False) g_p) := ⟨by have := G_p; exact fun h => h⟩; clear hbox hg) | ((with_reducible refine gate_store (t := 30) (p := 11) (v := .tmp 20) rfl ?_); refine store_ev (p := .tmp 11) (v := .tmp 20) rfl rfl rfl (g := g_p) rfl rfl (Kb.blk V_p.out B_p.out N_p.out) ?_; intro w105 hbox hk; replace HB := kb_t HB hk (fun i hi => by exact hi ▸ Or.inr G_p.out); replace B_y := kb_t B_y hk (fun i hi => by exact hi ▸ Or.inr O_p_y.out); replace B_q := kb_t B_q hk (fun i hi => by exact hi ▸ Or.inr O_p_q.out); replace B_t := kb_t B_t hk (fun i hi => by exact hi ▸ Or.inr O_p_t.out); replace B_v := kb_t B_v hk (fun i hi => by exact hi ▸ Or.inr O_p_v.out); clear V_p B_p; have V_p := Aside0.mk hbox; have B_p := Aside0.mk (Kb.refl (fun k => False) w105); clear hbox hk) | ((with_reducible refine gate_dst (N := 29) rfl ?_); refine gate_guard (by rfl) ?_; dsimp only; refine load_ev rfl rfl (g := g_p) rfl (Kb.blk V_p.out B_p.out N_p.out) ?_) | ((with_reducible refine gate_dst (N := 30) rfl ?_); refine gate_guard (by rfl) ?_; dsimp only; refine load_ev rfl rfl (g := g_t) rfl (Kb.blk V_t.out B_t.out N_t.out) ?_))
 with_reducible refine (qsame_calls x y _ _ _ (IsR.kb (S := fun k => False) V_v.out B_v.out (fun _ _ h => h)) (IsR.kb (S := fun k => False) V_y.out B_y.out (fun _ _ h => h))).mono ?_
 rintro e w106 ⟨rfl, hb⟩
 rw [← HZ.out]
 replace HB := kb_b HB hb
 replace B_y := kb_b B_y hb
 replace B_q := kb_b B_q hb
 replace B_t := kb_b B_t hb
 replace B_v := kb_b B_v hb
 replace B_p := kb_b B_p hb
 clear hb
 go_wp2_with fail
 go_ret
 exact ⟨rfl, (Kb.to_below HB.out (fun _ h => h.elim))⟩
theorem wrun2 {okl : Nat → Prop} (over : Int) (h0 : 1 ≤ over) (h1 : over ≤ 9007199254740991) (ss : List Smp) (hby : ByS ss) (hn0 : 0 < ss.length) (hsz : ss.length ≤ 1000000) (w : World) (tq : Bool) (Aq : Option Addr) (nq cq : Nat) (Dq : Option Addr) (kq zq : Nat) (Al : Option Addr) (cl : Nat) (hl : RowS okl w (.slice Al ss.length cl) ss) :
 Calls Try.prog 16 #[.int .i64 2, .int .i64 over, .agg #[.bool tq, .slice Aq nq cq, .slice Dq kq zq], .slice Al ss.length cl] w fun e w' => (∃ v ans, (fun a => a = rateO (some (ss.length : Rat)) (over : Rat)) ans ∧ e = .returned (.tuple #[v, .bool ans.isSome, .int .i64 (eno ans)]) ∧ Res (fun k => w.heap.size ≤ k) w' v ans) ∧ Below w.heap.size w w' := by
 have hl2 : RowS (fun k => okl k ∧ k < w.heap.size) w (.slice Al ss.length cl) ss := RowS.mono' hl (fun k h1 h2 => ⟨h1, h2⟩)
 refine wrun_calls (fun a => a = rateO (some (ss.length : Rat)) (over : Rat)) 2 over (by decide) ss.length hn0 w _ _ _ _ _ _ _ _ _ (fun W hW => may2_calls over h0 h1 ss hby hsz W _ _ _ _ _ _ _ _ (RowS.kb hl2 hW (fun _ _ h => h))) (fun W rb hW hrb hr => (run2_calls rb over ss (by omega) (by omega) hn0 hsz W _ _ _ _ _ _ _ _ hr (RowS.kb hl2 hW (fun _ _ h => h)) (fun k h => by have := h.2; omega) ).mono ?_)
 rintro e w' ⟨v, rfl, hv, hk1, hk2⟩
 exact ⟨v, _, rfl, rfl, Res.mono hv (fun k h => h.elim (fun h => .inl h.2) .inr), hk1, hk2⟩
theorem wrun4 {okl : Nat → Prop} (over : Int) (h0 : 1 ≤ over) (h1 : over ≤ 9007199254740991) (ss : List Smp) (hby : ByS ss) (hn0 : 0 < ss.length) (hsz : ss.length ≤ 1000000) (w : World) (tq : Bool) (Aq : Option Addr) (nq cq : Nat) (Dq : Option Addr) (kq zq : Nat) (Al : Option Addr) (cl : Nat) (hl : RowS okl w (.slice Al ss.length cl) ss) :
 Calls Try.prog 16 #[.int .i64 4, .int .i64 over, .agg #[.bool tq, .slice Aq nq cq, .slice Dq kq zq], .slice Al ss.length cl] w fun e w' => (∃ v ans, (fun a => a = rateO (sumO (some 0) (bytesQ ss)) (over : Rat)) ans ∧ e = .returned (.tuple #[v, .bool ans.isSome, .int .i64 (eno ans)]) ∧ Res (fun k => w.heap.size ≤ k) w' v ans) ∧ Below w.heap.size w w' := by
 have hl2 : RowS (fun k => okl k ∧ k < w.heap.size) w (.slice Al ss.length cl) ss := RowS.mono' hl (fun k h1 h2 => ⟨h1, h2⟩)
 refine wrun_calls (fun a => a = rateO (sumO (some 0) (bytesQ ss)) (over : Rat)) 4 over (by decide) ss.length hn0 w _ _ _ _ _ _ _ _ _ (fun W hW => may4_calls over h0 h1 ss hby hsz W _ _ _ _ _ _ _ _ (RowS.kb hl2 hW (fun _ _ h => h))) (fun W rb hW hrb hr => (run4_calls rb over ss (by omega) (by omega) hn0 hsz W _ _ _ _ _ _ _ _ hr (RowS.kb hl2 hW (fun _ _ h => h)) (fun k h => by have := h.2; omega) hby).mono ?_)
 rintro e w' ⟨v, rfl, hv, hk1, hk2⟩
 exact ⟨v, _, rfl, rfl, Res.mono hv (fun k h => h.elim (fun h => .inl h.2) .inr), hk1, hk2⟩
theorem wrun6 {okl : Nat → Prop} (over : Int) (h0 : 1 ≤ over) (h1 : over ≤ 9007199254740991) (ss : List Smp) (hby : ByS ss) (qs : List Rat) (hvs : ValS ss qs) (hn0 : 0 < ss.length) (hsz : ss.length ≤ 1000000) (w : World) (tq : Bool) (Aq : Option Addr) (nq cq : Nat) (Dq : Option Addr) (kq zq : Nat) (Al : Option Addr) (cl : Nat) (hl : RowS okl w (.slice Al ss.length cl) ss) :
 Calls Try.prog 16 #[.int .i64 6, .int .i64 over, .agg #[.bool tq, .slice Aq nq cq, .slice Dq kq zq], .slice Al ss.length cl] w fun e w' => (∃ v ans, (fun a => a = sumO (some 0) qs) ans ∧ e = .returned (.tuple #[v, .bool ans.isSome, .int .i64 (eno ans)]) ∧ Res (fun k => w.heap.size ≤ k) w' v ans) ∧ Below w.heap.size w w' := by
 have hl2 : RowS (fun k => okl k ∧ k < w.heap.size) w (.slice Al ss.length cl) ss := RowS.mono' hl (fun k h1 h2 => ⟨h1, h2⟩)
 refine wrun_calls (fun a => a = sumO (some 0) qs) 6 over (by decide) ss.length hn0 w _ _ _ _ _ _ _ _ _ (fun W hW => may6_calls over h0 h1 ss hby qs hvs hsz W _ _ _ _ _ _ _ _ (RowS.kb hl2 hW (fun _ _ h => h))) (fun W rb hW hrb hr => (run6_calls rb over ss qs hn0 hsz W _ _ _ _ _ _ _ _ hr (RowS.kb hl2 hW (fun _ _ h => h)) (fun k h => by have := h.2; omega) hvs).mono ?_)
 rintro e w' ⟨v, rfl, hv, hk1, hk2⟩
 exact ⟨v, _, rfl, rfl, Res.mono hv (fun k h => h.elim (fun h => .inl h.2) .inr), hk1, hk2⟩
theorem wrun7 {okl : Nat → Prop} (over : Int) (h0 : 1 ≤ over) (h1 : over ≤ 9007199254740991) (ss : List Smp) (hby : ByS ss) (qs : List Rat) (hvs : ValS ss qs) (hn0 : 0 < ss.length) (hsz : ss.length ≤ 1000000) (w : World) (tq : Bool) (Aq : Option Addr) (nq cq : Nat) (Dq : Option Addr) (kq zq : Nat) (Al : Option Addr) (cl : Nat) (hl : RowS okl w (.slice Al ss.length cl) ss) :
 Calls Try.prog 16 #[.int .i64 7, .int .i64 over, .agg #[.bool tq, .slice Aq nq cq, .slice Dq kq zq], .slice Al ss.length cl] w fun e w' => (∃ v ans, (fun a => a = doO (sumO (some 0) qs).isNone (fun x y => x / y) (sumO (some 0) qs) (some (ss.length : Rat))) ans ∧ e = .returned (.tuple #[v, .bool ans.isSome, .int .i64 (eno ans)]) ∧ Res (fun k => w.heap.size ≤ k) w' v ans) ∧ Below w.heap.size w w' := by
 have hl2 : RowS (fun k => okl k ∧ k < w.heap.size) w (.slice Al ss.length cl) ss := RowS.mono' hl (fun k h1 h2 => ⟨h1, h2⟩)
 refine wrun_calls (fun a => a = doO (sumO (some 0) qs).isNone (fun x y => x / y) (sumO (some 0) qs) (some (ss.length : Rat))) 7 over (by decide) ss.length hn0 w _ _ _ _ _ _ _ _ _ (fun W hW => may7_calls over h0 h1 ss hby qs hvs hsz W _ _ _ _ _ _ _ _ (RowS.kb hl2 hW (fun _ _ h => h))) (fun W rb hW hrb hr => (run7_calls rb over ss qs hn0 hsz W _ _ _ _ _ _ _ _ hr (RowS.kb hl2 hW (fun _ _ h => h)) (fun k h => by have := h.2; omega) hvs).mono ?_)
 rintro e w' ⟨v, rfl, hv, hk1, hk2⟩
 exact ⟨v, _, rfl, rfl, Res.mono hv (fun k h => h.elim (fun h => .inl h.2) .inr), hk1, hk2⟩
theorem wrun12 {okl : Nat → Prop} (over : Int) (h0 : 1 ≤ over) (h1 : over ≤ 9007199254740991) (ss : List Smp) (hby : ByS ss) (qs : List Rat) (hvs : ValS ss qs)  (q : Rat) (hq0 : 0 ≤ q) (hq1 : q ≤ 1) (h20 : ss.length ≤ 20) {okq : Nat → Prop} (hn0 : 0 < ss.length) (hsz : ss.length ≤ 1000000) (w : World) (tq : Bool) (Aq : Option Addr) (nq cq : Nat) (Dq : Option Addr) (kq zq : Nat) (Al : Option Addr) (cl : Nat) (hl : RowS okl w (.slice Al ss.length cl) ss) (hq : IsR okq w (.agg #[.bool tq, .slice Aq nq cq, .slice Dq kq zq]) q) :
 Calls Try.prog 16 #[.int .i64 12, .int .i64 over, .agg #[.bool tq, .slice Aq nq cq, .slice Dq kq zq], .slice Al ss.length cl] w fun e w' => (∃ v ans, (fun a => ∃ qs', qs'.Perm qs ∧ qs'.Pairwise (· ≤ ·) ∧ a = quantO q qs') ans ∧ e = .returned (.tuple #[v, .bool ans.isSome, .int .i64 (eno ans)]) ∧ Res (fun k => w.heap.size ≤ k) w' v ans) ∧ Below w.heap.size w w' := by
 have hl2 : RowS (fun k => okl k ∧ k < w.heap.size) w (.slice Al ss.length cl) ss := RowS.mono' hl (fun k h1 h2 => ⟨h1, h2⟩)
 refine wrun_calls (fun a => ∃ qs', qs'.Perm qs ∧ qs'.Pairwise (· ≤ ·) ∧ a = quantO q qs') 12 over (by decide) ss.length hn0 w _ _ _ _ _ _ _ _ _ (fun W hW => may12_calls over h0 h1 ss hby qs hvs hsz W _ _ (RowS.kb hl2 hW (fun _ _ h => h)) q hq0 hq1 (IsR.kb hq hW (fun _ _ h => h))) (fun W rb hW hrb hr => (run12_calls rb over ss qs q hq0 hq1 hn0 hsz W _ _ hr (RowS.kb hl2 hW (fun _ _ h => h)) (fun k h => by have := h.2; omega) hvs h20 (IsR.mono' (IsR.kb (IsR.bound hq) hW (fun _ _ h => h)) (fun k h _ => by have := h.2; omega))).mono ?_)
 rintro e w' ⟨v, qs', rfl, hp, hw, hv, hk1, hk2⟩
 exact ⟨v, _, ⟨qs', hp, hw, rfl⟩, rfl, Res.mono hv (fun k h => h.elim (fun h => .inl h.2) .inr), hk1, hk2⟩
theorem wrun5_nil (over : Int) (h0 : 1 ≤ over) (h1 : over ≤ 9007199254740991) (w : World) (tq : Bool) (Aq : Option Addr) (nq cq : Nat) (Dq : Option Addr) (kq zq : Nat) :
 Calls Try.prog 16 #[.int .i64 5, .int .i64 over, .agg #[.bool tq, .slice Aq nq cq, .slice Dq kq zq], .slice none 0 0] w fun e w' => (∃ v, e = .returned (.tuple #[v, .bool true, .int .i64 0]) ∧ IsR (fun k => w.heap.size ≤ k) w' v 1) ∧ Below w.heap.size w w' := by
 have hu30 := Try.underlying30
 have HM := Aside0.mk (fun W => may5_calls (okl := fun _ => True) over h0 h1 [] (fun i h => absurd h (Nat.not_lt_zero _)) (by decide) W tq Aq nq cq Dq kq zq (.slice none 0 0) (Kd.V_nil _ _ _ _ _))
 have HB := Aside0.mk (Kb.refl (fun k => False) w)
 go_enter Try.func16, Try.ntmps16
 try go_step3
 go_wp2_with (first | ((with_reducible refine gate_dst (N := 6) rfl ?_); refine bx_ (N := 6) #[.bool tq, .slice Aq nq cq, .slice Dq kq zq] 30 ?_; intro g_q hg w101 hbox hb; have G_q := kb_g HB hg; replace HB := kb_b HB hb; clear hb; have V_q := Aside0.mk hbox; have B_q := Aside0.mk (Kb.refl (fun k => False) w101); have N_q : Aside0 (¬ (fun k => False) g_q) := ⟨by have := G_q; exact fun h => h⟩; clear hbox hg) | ((with_reducible refine gate_dst (N := 8) rfl ?_); refine bx_ (N := 8) #[.bool false, .slice none 0 0, .slice none 0 0] 30 ?_; intro g_r hg w102 hbox hb; have G_r := kb_g HB hg; have O_r_q := kb_g B_q hg; replace HB := kb_b HB hb; replace B_q := kb_b B_q hb; clear hb; have V_r := Aside0.mk hbox; have B_r := Aside0.mk (Kb.refl (fun k => False) w102); have N_r : Aside0 (¬ (fun k => False) g_r) := ⟨by have := G_r; exact fun h => h⟩; clear hbox hg) | ((with_reducible refine gate_dst (N := 15) rfl ?_); refine load_ev rfl rfl (g := g_q) rfl (Kb.blk V_q.out B_q.out N_q.out) ?_))
 with_reducible refine (HM.out _).mono ?_
 rintro e w103 ⟨rfl, hb⟩
 replace HB := kb_b HB hb
 replace B_q := kb_b B_q hb
 replace B_r := kb_b B_r hb
 clear hb
 clear V_q B_q
 go_wp2_with fail
 with_reducible refine (qof_calls 1 (by omega) (by omega) _).mono ?_
 rintro e w104 ⟨⟨v, rfl, hv⟩, hb⟩
 have hv : IsR _ _ _ (1 : Rat) := hv
 obtain ⟨tv, Av, nv, cv, Dv, kv, zv, rfl⟩ := hv.agg
 have hle := Kb.size HB.out
 have hl_r := blk_lt (Kb.blk V_r.out B_r.out N_r.out)
 have hv_ := IsR.mono' (ok' := fun k => True ∧ k ≠ g_r ∧ w.heap.size ≤ k) hv (fun k hk _ => by refine ⟨?_, ?_, ?_⟩ <;> first | trivial | omega)
 clear hv hle hl_r
 replace HB := kb_b HB hb
 replace B_r := kb_b B_r hb
 clear hb
 have V_v := Aside0.mk hv_
 clear hv_
 have B_v := Aside0.mk (Kb.refl (fun k => False ∨ k = g_r) w104)
 go_wp2_with (first | ((with_reducible refine gate_store (t := 30) (p := 8) (v := .tmp 28) rfl ?_); refine store_ev (p := .tmp 8) (v := .tmp 28) rfl rfl rfl (g := g_r) rfl rfl (Kb.blk V_r.out B_r.out N_r.out) ?_; intro w105 hbox hk; replace HB := kb_t HB hk (fun i hi => by exact hi ▸ Or.inr G_r.out); replace B_v := kb_t B_v hk (fun i hi => by exact Or.inl (Or.inr hi)); clear V_r B_r; have V_r := Aside0.mk hbox; have B_r := Aside0.mk (Kb.refl (fun k => False) w105); clear hbox hk))
 refine bodyPost_ret (results_ctt rfl _ _ g_r 30 #[.bool tv, .slice Av nv cv, .slice Dv kv zv] (0, 0) _ rfl (Kb.blk V_r.out B_r.out N_r.out) Try.underlying30 rfl (by kernel_rfl)) rfl ?_
 exact ⟨⟨_, rfl, (IsR.mono (IsR.kb (S := fun k => False ∨ k = g_r) V_v.out B_v.out (fun k h hs => hs.elim (fun f => f) (fun hs2 => h.2.1 hs2))) (fun k h => h.2.2))⟩, (Kb.to_below HB.out (fun _ h => h.elim))⟩
theorem wrun1_nil (over : Int) (h0 : 1 ≤ over) (h1 : over ≤ 9007199254740991) (w : World) (tq : Bool) (Aq : Option Addr) (nq cq : Nat) (Dq : Option Addr) (kq zq : Nat) :
 Calls Try.prog 16 #[.int .i64 1, .int .i64 over, .agg #[.bool tq, .slice Aq nq cq, .slice Dq kq zq], .slice none 0 0] w fun e w' => e = .returned (.tuple #[.agg #[.bool false, .slice none 0 0, .slice none 0 0], .bool false, .int .i64 0]) ∧ Below w.heap.size w w' := by
 have hu30 := Try.underlying30
 have HM := Aside0.mk (fun W => may1_calls (okl := fun _ => True) over h0 h1 [] (fun i h => absurd h (Nat.not_lt_zero _)) (by decide) W tq Aq nq cq Dq kq zq (.slice none 0 0) (Kd.V_nil _ _ _ _ _))
 have HB := Aside0.mk (Kb.refl (fun k => False) w)
 go_enter Try.func16, Try.ntmps16
 try go_step3
 go_wp2_with (first | ((with_reducible refine gate_dst (N := 6) rfl ?_); refine bx_ (N := 6) #[.bool tq, .slice Aq nq cq, .slice Dq kq zq] 30 ?_; intro g_q hg w101 hbox hb; have G_q := kb_g HB hg; replace HB := kb_b HB hb; clear hb; have V_q := Aside0.mk hbox; have B_q := Aside0.mk (Kb.refl (fun k => False) w101); have N_q : Aside0 (¬ (fun k => False) g_q) := ⟨by have := G_q; exact fun h => h⟩; clear hbox hg) | ((with_reducible refine gate_dst (N := 8) rfl ?_); refine bx_ (N := 8) #[.bool false, .slice none 0 0, .slice none 0 0] 30 ?_; intro g_r hg w102 hbox hb; have G_r := kb_g HB hg; have O_r_q := kb_g B_q hg; replace HB := kb_b HB hb; replace B_q := kb_b B_q hb; clear hb; have V_r := Aside0.mk hbox; have B_r := Aside0.mk (Kb.refl (fun k => False) w102); have N_r : Aside0 (¬ (fun k => False) g_r) := ⟨by have := G_r; exact fun h => h⟩; clear hbox hg) | ((with_reducible refine gate_dst (N := 15) rfl ?_); refine load_ev rfl rfl (g := g_q) rfl (Kb.blk V_q.out B_q.out N_q.out) ?_))
 with_reducible refine (HM.out _).mono ?_
 rintro e w103 ⟨rfl, hb⟩
 replace HB := kb_b HB hb
 replace B_q := kb_b B_q hb
 replace B_r := kb_b B_r hb
 clear hb
 clear V_q B_q
 go_wp2_with (first | ((with_reducible refine gate_store (t := 30) (p := 8) (v := .tmp 37) rfl ?_); refine store_ev (p := .tmp 8) (v := .tmp 37) rfl rfl rfl (g := g_r) rfl rfl (Kb.blk V_r.out B_r.out N_r.out) ?_; intro w104 hbox hk; replace HB := kb_t HB hk (fun i hi => by exact hi ▸ Or.inr G_r.out); clear V_r B_r; have V_r := Aside0.mk hbox; have B_r := Aside0.mk (Kb.refl (fun k => False) w104); clear hbox hk))
 refine bodyPost_ret (results_ctt rfl _ _ g_r 30 #[.bool false, .slice none 0 0, .slice none 0 0] (0, 0) _ rfl (Kb.blk V_r.out B_r.out N_r.out) Try.underlying30 rfl (by kernel_rfl)) rfl ?_
 exact ⟨rfl, (Kb.to_below HB.out (fun _ h => h.elim))⟩
def better (mx : Bool) (x m : Rat) : Bool := if mx then decide (m < x) else decide (x < m)
def extF (mx : Bool) (m y : Rat) : Rat := if better mx y m = true then y else m
def extQ (mx : Bool) : List Rat → Rat
 | [] => 0
 | x :: l => l.foldl (extF mx) x
theorem extQ_get (mx : Bool) (qs : List Rat) (h : 0 < qs.length) : (qs.drop 1).foldl (extF mx) (qs.getD 0 0) = extQ mx qs := by
 cases qs with
 | nil => simp at h
 | cons x l => rfl
theorem ext_step (mx : Bool) (qs : List Rat) (k : Nat) (cur ans : Rat) (hk : k < qs.length) (h : (qs.drop k).foldl (extF mx) cur = ans) : (qs.drop (k + 1)).foldl (extF mx) (extF mx cur (qs.getD k 0)) = ans := by
 rw [getD_mem qs k hk] at h
 exact h
theorem goesv_ {P : Program} {ops : Array Oper} {Q : Exit → Act → World → Prop} {oi : Oper} {N : Option Tmp} {a : Act} {w : World} {K : Act → World → Prop} {f : FuncId} {fn : Func} {p : Operand} {sa : Array Operand} {ts : Array TypeId} (hf : P.funcs[f]? = some fn) (hname : (fn.name == "runtime.NumGoroutine") = false) (hb : fn.body.isSome = true) (args : Array Value)
 (hw : Region.wanted oi (yielded ops a.tmps) = true) (hN : oi.dst = N) (hop : oi.op = .call { callee := .value p, args := sa, argTypes := ts }) (hp : a.eval p = .func (.func f) #[] #[]) (hargs : sa.map a.eval = args)
 (h : Calls P f args w fun e w' => ∃ v, e = .returned v ∧ K (a.put N v) w') : if Region.wanted oi (yielded ops a.tmps) = true then Oper.wp P oi a w K Q else K (a.put N undef) w := by
 refine call_ f args hw hN ?_ h
 have he := enters_ hf hname hb args w
 unfold execOp
 simp only [hop]
 simp [hp, resolve, Deferred.ofValue, invoke, hargs, he]
theorem ext_false_yes (qs : List Rat) (k : Nat) (cur ans : Rat) (cv : Int) (hk : k < qs.length) (h : (qs.drop k).foldl (extF false) cur = ans) (hcv : cv = (if qs.getD k 0 < cur then -1 else if qs.getD k 0 = cur then 0 else 1)) (hc : cv < 0) : (qs.drop (k + 1)).foldl (extF false) (qs.getD k 0) = ans := by
 have h1 := ext_step false qs k cur ans hk h
 have h2 : qs.getD k 0 < cur := by
  by_cases c : qs.getD k 0 < cur
  · exact c
  · rw [if_neg c] at hcv; split at hcv <;> omega
 rwa [show extF false cur (qs.getD k 0) = qs.getD k 0 from if_pos (decide_eq_true h2)] at h1
theorem ext_false_no (qs : List Rat) (k : Nat) (cur ans : Rat) (cv : Int) (hk : k < qs.length) (h : (qs.drop k).foldl (extF false) cur = ans) (hcv : cv = (if qs.getD k 0 < cur then -1 else if qs.getD k 0 = cur then 0 else 1)) (hc : ¬ cv < 0) : (qs.drop (k + 1)).foldl (extF false) cur = ans := by
 have h1 := ext_step false qs k cur ans hk h
 have h2 : ¬ qs.getD k 0 < cur := fun c => by rw [if_pos c] at hcv; omega
 rwa [show extF false cur (qs.getD k 0) = cur from if_neg (fun e => h2 (of_decide_eq_true e))] at h1
theorem ext_true_yes (qs : List Rat) (k : Nat) (cur ans : Rat) (cv : Int) (hk : k < qs.length) (h : (qs.drop k).foldl (extF true) cur = ans) (hcv : cv = (if qs.getD k 0 < cur then -1 else if qs.getD k 0 = cur then 0 else 1)) (hc : 0 < cv) : (qs.drop (k + 1)).foldl (extF true) (qs.getD k 0) = ans := by
 have h1 := ext_step true qs k cur ans hk h
 have h2 : cur < qs.getD k 0 := by
  by_cases c : qs.getD k 0 < cur
  · rw [if_pos c] at hcv; omega
  · rw [if_neg c] at hcv
    by_cases d : qs.getD k 0 = cur
    · rw [if_pos d] at hcv; omega
    · exact Rat.lt_iff_le_and_ne.2 ⟨Rat.not_lt.1 c, fun e => d e.symm⟩
 rwa [show extF true cur (qs.getD k 0) = qs.getD k 0 from if_pos (decide_eq_true h2)] at h1
theorem ext_true_no (qs : List Rat) (k : Nat) (cur ans : Rat) (cv : Int) (hk : k < qs.length) (h : (qs.drop k).foldl (extF true) cur = ans) (hcv : cv = (if qs.getD k 0 < cur then -1 else if qs.getD k 0 = cur then 0 else 1)) (hc : ¬ 0 < cv) : (qs.drop (k + 1)).foldl (extF true) cur = ans := by
 have h1 := ext_step true qs k cur ans hk h
 have h2 : ¬ cur < qs.getD k 0 := fun c => by
  rw [if_neg (Rat.not_lt.2 (Rat.le_of_lt c)), if_neg (fun e => Rat.ne_of_gt c e)] at hcv
  omega
 rwa [show extF true cur (qs.getD k 0) = cur from if_neg (fun e => h2 (of_decide_eq_true e))] at h1
def Extfalse.T7 : Bool × List (List Nat × List Nat) := (true, [([], []), ([], []), ([], []), ([1, 2], [1, 2]), ([3], [3]), ([], []), ([0, 4, 5], [0, 4, 5]), ([6], [6])])
def Extfalse.B7 : List Nat := [0, 0, 0, 6, 14, 0, 63, 127]
theorem Extfalse.tab7 : rtab .any (opsOf Try.f46 7) = Extfalse.T7 := by kernel_rfl
theorem Extfalse.bits7 : waitsOk Extfalse.T7.2 Extfalse.B7 = true := by kernel_rfl
theorem min_calls {okl : Nat → Prop} (qs : List Rat) (hn : 0 < qs.length) (hsz : qs.length ≤ 1000000) (w : World) (vl : Value) (hl : RowQ okl w vl qs) :
 Calls Try.prog 46 #[vl, .func (.func 39) #[] #[]] w fun e w' => (∃ v, e = .returned v ∧ IsR okl w' v (extQ false qs)) ∧ Below w.heap.size w w' := by
 have hu30 := Try.underlying30
 obtain ⟨Al, cl, rfl⟩ := hl.slice
 obtain ⟨nl, hnl⟩ : ∃ nl, nl = qs.length := ⟨_, rfl⟩
 obtain ⟨ans, hans⟩ : ∃ a, a = extQ false qs := ⟨_, rfl⟩
 rw [← hans]
 have hfold := extQ_get false qs hn
 rw [← hans] at hfold
 have hl := RowQ.mono' (ok' := fun j => okl j ∧ j < w.heap.size) hl (fun k h1 h2 => ⟨h1, h2⟩)
 rw [← hnl] at hl hsz hn ⊢
 obtain ⟨bl, ol, rfl⟩ := RowQ.some_ hl hn
 have hblw := (RowQ.okb hl hn).2
 have HNL := Aside0.mk (And.intro hnl (And.intro hsz hn))
 have HFO := Aside0.mk hfold
 obtain ⟨tx, Ax, nx, cx, Dx, kx, zx, hx, c0, c1, c2⟩ := RowQ.get hl 0 (by rw [← hnl]; exact hn)
 have e0 : ol + 0 * 3 = ol := by omega
 rw [e0] at c0 c1 c2
 have C0 := Aside0.mk (And.intro c0 (And.intro c1 c2))
 have HBL := Aside0.mk hblw
 have hz0 : ¬ (nl : Int) < 1 := by omega
 have hz1 : (0 : Int) < (nl : Int) := by omega
 have hz2 : decide ((nl : Int) < 1) = false := decide_eq_false hz0
 clear e0 c0 c1 c2 hans hfold hblw hnl hsz hn
 have HB := Aside0.mk (Kb.refl (fun k => False) w)
 have V_l := Aside0.mk hl
 clear hl
 have B_l := Aside0.mk (Kb.refl (fun k => False) w)
 have V_x := Aside0.mk hx
 clear hx
 have B_x := Aside0.mk (Kb.refl (fun k => False) w)
 go_enter Try.func46, Try.ntmps46
 go_wp2_with (first | ((with_reducible refine gate_dst (N := 4) rfl ?_); refine bx_ (N := 4) #[.bool false, .slice none 0 0, .slice none 0 0] 30 ?_; intro g_r hg w101 hbox hb; have G_r := kb_g HB hg; have O_r_l := kb_g B_l hg; have O_r_x := kb_g B_x hg; replace HB := kb_b HB hb; replace B_l := kb_b B_l hb; replace B_x := kb_b B_x hb; clear hb; have V_r := Aside0.mk hbox; have B_r := Aside0.mk (Kb.refl (fun k => False) w101); have N_r : Aside0 (¬ (fun k => False) g_r) := ⟨by have := G_r; exact fun h => h⟩; clear hbox hg) | ((with_reducible refine gate_dst (N := 13) rfl ?_); refine load_at rfl rfl (g := bl) (k := ol) rfl (Kb.cell (S := fun k => False) C0.out.1 B_l.out (fun h => h)) (Kb.cell (S := fun k => False) C0.out.2.1 B_l.out (fun h => h)) (Kb.cell (S := fun k => False) C0.out.2.2 B_l.out (fun h => h)) ?_) | ((with_reducible refine gate_dst (N := 5) rfl ?_); refine bx_ (N := 5) #[.bool false, .slice none 0 0, .slice none 0 0] 30 ?_; intro g_m hg w102 hbox hb; have G_m := kb_g HB hg; have O_m_l := kb_g B_l hg; have O_m_x := kb_g B_x hg; have O_m_r := kb_g B_r hg; replace HB := kb_b HB hb; replace B_l := kb_b B_l hb; replace B_x := kb_b B_x hb; replace B_r := kb_b B_r hb; clear hb; have V_m := Aside0.mk hbox; have B_m := Aside0.mk (Kb.refl (fun k => False) w102); have N_m : Aside0 (¬ (fun k => False) g_m) := ⟨by have := G_m; exact fun h => h⟩; clear hbox hg) | ((with_reducible refine gate_store (t := 30) (p := 5) (v := .tmp 13) rfl ?_); refine store_ev (p := .tmp 5) (v := .tmp 13) rfl rfl rfl (g := g_m) rfl rfl (Kb.blk V_m.out B_m.out N_m.out) ?_; intro w103 hbox hk; replace HB := kb_t HB hk (fun i hi => by exact hi ▸ Or.inr G_m.out); replace B_l := kb_t B_l hk (fun i hi => by exact hi ▸ Or.inr O_m_l.out); replace B_x := kb_t B_x hk (fun i hi => by exact hi ▸ Or.inr O_m_x.out); replace B_r := kb_t B_r hk (fun i hi => by exact hi ▸ Or.inr O_m_r.out); clear V_m B_m; have V_m := Aside0.mk hbox; have B_m := Aside0.mk (Kb.refl (fun k => False) w103); clear hbox hk))
 go_loopg [6] nl (fun kg v6 wr => ∃ (k : Nat) (cur : Rat) (tx : Bool) (Ax : Option Addr) (nx cx : Nat) (Dx : Option Addr) (kx zx : Nat), v6 = .int .i64 k ∧ Aside0 (0 < k ∧ k + kg = nl + 1 ∧ (qs.drop k).foldl (extF false) cur = ans) ∧ Aside0 (IsR (fun j => okl j ∧ j < w.heap.size) w (.agg #[.bool tx, .slice Ax nx cx, .slice Dx kx zx]) cur) ∧ Aside0 (wr.heap[g_m]? = some (.cells #[.bool tx, .slice Ax nx cx, .slice Dx kx zx] 30 (0, 0))) ∧ Aside0 (Kb (fun k => False) w101 wr) ∧ Aside0 (Kb (fun k => False) w wr))
 case atStart => exact ⟨1, qs.getD 0 0, tx, Ax, nx, cx, Dx, kx, zx, rfl, ⟨by omega, by omega, HFO.out⟩, V_x, V_m, B_r, HB⟩
 case round =>
  obtain ⟨k, cur, tx, Ax, nx, cx, Dx, kx, zx, rfl, HK, HX, HM, HR, HB2⟩ := hrel
  clear V_x B_x V_m B_m B_r HB B_l C0
  have HB := HB2
  clear HB2
  have B_l := HB
  have V_x := HX
  have B_x := HB
  have B_r := HR
  have V_m := HM
  have B_m := Aside0.mk (Kb.refl (fun k => False) wr)
  clear HX HR HM
  by_cases hlt : k < nl
  · have hz : (k : Int) < (nl : Int) := by omega
    have hk0 : (0 : Int) ≤ (k : Int) := by omega
    obtain ⟨ty, Ay, ny, cy, Dy, ky, zy, hy, c0, c1, c2⟩ := RowQ.get V_l.out k (by rw [← HNL.out.1]; exact hlt)
    have C1 := Aside0.mk (And.intro c0 (And.intro c1 c2))
    clear c0 c1 c2
    have V_y := Aside0.mk hy
    clear hy
    have B_y := HB
    have O_m_y := G_m
    have e1 : IntKind.i64.wrap ((k : Int) + 1) = ((k + 1 : Nat) : Int) := (i64_w _).trans ((w64 (by have := HNL.out.2.1; omega) (by have := HNL.out.2.1; omega)).trans (by omega))
    obtain ⟨cv, hcv⟩ : ∃ c : Int, c = (if qs.getD k 0 < cur then -1 else if qs.getD k 0 = cur then 0 else 1) := ⟨_, rfl⟩
    have HCV := Aside0.mk hcv
    clear hcv
    go_wp2_with fail
    have hb : Below wr.heap.size wr wr.drew := below_drew1 (Below.refl _ _)
    replace HB := kb_b HB hb
    replace B_l := kb_b B_l hb
    replace B_x := kb_b B_x hb
    replace B_r := kb_b B_r hb
    replace B_m := kb_b B_m hb
    replace B_y := kb_b B_y hb
    clear hb
    refine start_ (n := 8) (S := fun w' => (w'.cell? ⟨bl, (ol + k * 3), none⟩ = some (.bool ty) ∧ w'.cell? ⟨bl, (ol + k * 3) + 1, none⟩ = some (.slice Ay ny cy) ∧ w'.cell? ⟨bl, (ol + k * 3) + 2, none⟩ = some (.slice Dy ky zy)) ∧ w'.heap[g_m]? = some (.cells #[.bool tx, .slice Ax nx cx, .slice Dx kx zx] 30 (0, 0))) (ds := []) (tB_ 8 0) (by kernel_rfl) rfl (by kernel_rfl) ⟨⟨(Kb.cell (S := fun k => False) C1.out.1 B_l.out (fun h => h)), (Kb.cell (S := fun k => False) C1.out.2.1 B_l.out (fun h => h)), (Kb.cell (S := fun k => False) C1.out.2.2 B_l.out (fun h => h))⟩, Kb.blk V_m.out B_m.out N_m.out⟩ (fun hHeld => ?_)
    refine with_tabW Extfalse.tab7 Extfalse.bits7 (fun HT_ HW_ => ?_)
    generalize wr.drew = w105 at HB B_l B_x B_r B_m B_y hHeld ⊢
    refine pu_ 0 (some 20) 1 HT_ ?_
    refine pu_ 1 (some 21) 3 HT_ ?_
    refine pu_ 2 (some 22) 7 HT_ ?_
    refine pu_ 3 (some 23) 15 HT_ ?_
    refine tk_ 4 (some 24) 31 HT_ HW_ hHeld ?_ ?_ ?_ ?_ ?_
    rotate_left
    · intro w' hs
      have hb_ := hs.1
      obtain ⟨c0_, c1_, c2_⟩ := hb_
      clear hs
      go_simp
      with_reducible rfl
    rotate_left
    · simp only [PU]
      rfl
    refine tk_ 5 (some 25) 63 HT_ HW_ hHeld ?_ ?_ ?_ ?_ ?_
    rotate_left
    · intro w' hs
      have hb_ := hs.2
      have c0_ := (blk_cell hb_ 0).trans rfl
      have c1_ := (blk_cell hb_ 1).trans rfl
      have c2_ := (blk_cell hb_ 2).trans rfl
      clear hb_ hs
      go_simp
      with_reducible rfl
    rotate_left
    · simp only [PU]
      rfl
    refine on_ 6 (some 26) 127 HT_ (fun K hK => ?_)
    refine goesv_ Try.func39 (by kernel_rfl) rfl #[.agg #[.bool ty, .slice Ay ny cy, .slice Dy ky zy], .agg #[.bool tx, .slice Ax nx cx, .slice Dx kx zx]] (by rfl) rfl rfl (by go_simp) (by (try simp only [List.map_toArray, List.map_cons, List.map_nil]); first | done | rfl) ?_
    refine (cmp_as (wcompare_calls (qs.getD k 0) cur _ _ _ (IsR.kb (S := fun k => False) V_y.out B_y.out (fun _ _ h => h)) (IsR.kb (S := fun k => False) V_x.out B_x.out (fun _ _ h => h))) HCV.out).mono ?_
    rintro e w106 ⟨rfl, hb⟩
    refine ⟨_, rfl, ?_⟩
    refine hK.out _ _ (by exact ⟨⟨pw_cell_below hb hHeld.1.1, pw_cell_below hb hHeld.1.2.1, pw_cell_below hb hHeld.1.2.2⟩, blk_below hHeld.2 hb⟩) (fun hHeld => ?_)
    clear hK K
    refine nm_ (some 26) ?_
    replace HB := kb_b HB hb
    replace B_l := kb_b B_l hb
    replace B_x := kb_b B_x hb
    replace B_r := kb_b B_r hb
    replace B_m := kb_b B_m hb
    replace B_y := kb_b B_y hb
    clear hb
    refine pu_ 7 (some 27) 255 HT_ ?_
    refine do_ HT_ ?_
    clear HT_ HW_ hHeld
    by_cases hc : cv < 0
    · skip
      have hst := ext_false_yes qs k cur ans _ (by rw [← HNL.out.1]; exact hlt) HK.out.2.2 HCV.out hc
      have HST := Aside0.mk hst
      clear hst
      go_wp2_with (first | ((with_reducible refine gate_dst (N := 31) rfl ?_); refine load_at rfl rfl (g := bl) (k := (ol + k * 3)) rfl (Kb.cell (S := fun k => False) C1.out.1 B_l.out (fun h => h)) (Kb.cell (S := fun k => False) C1.out.2.1 B_l.out (fun h => h)) (Kb.cell (S := fun k => False) C1.out.2.2 B_l.out (fun h => h)) ?_) | ((with_reducible refine gate_store (t := 30) (p := 5) (v := .tmp 31) rfl ?_); refine store_ev (p := .tmp 5) (v := .tmp 31) rfl rfl rfl (g := g_m) rfl rfl (Kb.blk V_m.out B_m.out N_m.out) ?_; intro w107 hbox hk; replace HB := kb_t HB hk (fun i hi => by exact hi ▸ Or.inr G_m.out); replace B_l := kb_t B_l hk (fun i hi => by exact hi ▸ Or.inr O_m_l.out); replace B_x := kb_t B_x hk (fun i hi => by exact hi ▸ Or.inr O_m_x.out); replace B_r := kb_t B_r hk (fun i hi => by exact hi ▸ Or.inr O_m_r.out); replace B_y := kb_t B_y hk (fun i hi => by exact hi ▸ Or.inr O_m_y.out); clear V_m B_m; have V_m := Aside0.mk hbox; have B_m := Aside0.mk (Kb.refl (fun k => False) w107); clear hbox hk))
      go_roundg (nl - k)
      case measure => have := HK.out.2.1; omega
      case rel => exact ⟨k + 1, qs.getD k 0, ty, Ay, ny, cy, Dy, ky, zy, by first | rfl | rw [e1], ⟨by omega, by have := HK.out.2.1; omega, HST.out⟩, V_y, V_m, B_r, HB⟩
    · skip
      have hst := ext_false_no qs k cur ans _ (by rw [← HNL.out.1]; exact hlt) HK.out.2.2 HCV.out hc
      have HST := Aside0.mk hst
      clear hst
      go_wp2_with fail
      go_roundg (nl - k)
      case measure => have := HK.out.2.1; omega
      case rel => exact ⟨k + 1, cur, tx, Ax, nx, cx, Dx, kx, zx, by first | rfl | rw [e1], ⟨by omega, by have := HK.out.2.1; omega, HST.out⟩, V_x, ⟨Kb.blk V_m.out B_m.out (fun h => h)⟩, B_r, HB⟩
  · have hz : ¬ (k : Int) < (nl : Int) := by omega
    have hcur : cur = ans := by have := HK.out.2.2; rwa [List.drop_of_length_le (by have := HNL.out.1; omega)] at this
    have HC := Aside0.mk hcur
    clear hcur hlt
    go_wp2_with (first | ((with_reducible refine gate_dst (N := 32) rfl ?_); refine load_ev rfl rfl (g := g_m) rfl (Kb.blk V_m.out B_m.out N_m.out) ?_) | ((with_reducible refine gate_store (t := 30) (p := 4) (v := .tmp 32) rfl ?_); refine store_ev (p := .tmp 4) (v := .tmp 32) rfl rfl rfl (g := g_r) rfl rfl (Kb.blk V_r.out B_r.out N_r.out) ?_; intro w105 hbox hk; replace HB := kb_t HB hk (fun i hi => by exact hi ▸ Or.inr G_r.out); replace B_l := kb_t B_l hk (fun i hi => by exact hi ▸ Or.inr O_r_l.out); replace B_x := kb_t B_x hk (fun i hi => by exact hi ▸ Or.inr O_r_x.out); clear V_r B_r; have V_r := Aside0.mk hbox; have B_r := Aside0.mk (Kb.refl (fun k => False) w105); clear hbox hk))
    refine bodyPost_ret (results_cell_row rfl _ _ g_r 30 #[.bool tx, .slice Ax nx cx, .slice Dx kx zx] (0, 0) _ rfl (Kb.blk V_r.out B_r.out N_r.out) Try.underlying30 rfl (by kernel_rfl)) rfl ?_
    exact ⟨⟨_, rfl, by rw [← HC.out]; exact IsR.mono (IsR.kb V_x.out B_x.out (fun _ _ h => h)) (fun k h => h.1)⟩, (Kb.to_below HB.out (fun _ h => h.elim))⟩
def Exttrue.T7 : Bool × List (List Nat × List Nat) := (true, [([], []), ([], []), ([], []), ([1, 2], [1, 2]), ([3], [3]), ([], []), ([0, 4, 5], [0, 4, 5]), ([6], [6])])
def Exttrue.B7 : List Nat := [0, 0, 0, 6, 14, 0, 63, 127]
theorem Exttrue.tab7 : rtab .any (opsOf Try.f47 7) = Exttrue.T7 := by kernel_rfl
theorem Exttrue.bits7 : waitsOk Exttrue.T7.2 Exttrue.B7 = true := by kernel_rfl
theorem max_calls {okl : Nat → Prop} (qs : List Rat) (hn : 0 < qs.length) (hsz : qs.length ≤ 1000000) (w : World) (vl : Value) (hl : RowQ okl w vl qs) :
 Calls Try.prog 47 #[vl, .func (.func 39) #[] #[]] w fun e w' => (∃ v, e = .returned v ∧ IsR okl w' v (extQ true qs)) ∧ Below w.heap.size w w' := by
 have hu30 := Try.underlying30
 obtain ⟨Al, cl, rfl⟩ := hl.slice
 obtain ⟨nl, hnl⟩ : ∃ nl, nl = qs.length := ⟨_, rfl⟩
 obtain ⟨ans, hans⟩ : ∃ a, a = extQ true qs := ⟨_, rfl⟩
 rw [← hans]
 have hfold := extQ_get true qs hn
 rw [← hans] at hfold
 have hl := RowQ.mono' (ok' := fun j => okl j ∧ j < w.heap.size) hl (fun k h1 h2 => ⟨h1, h2⟩)
 rw [← hnl] at hl hsz hn ⊢
 obtain ⟨bl, ol, rfl⟩ := RowQ.some_ hl hn
 have hblw := (RowQ.okb hl hn).2
 have HNL := Aside0.mk (And.intro hnl (And.intro hsz hn))
 have HFO := Aside0.mk hfold
 obtain ⟨tx, Ax, nx, cx, Dx, kx, zx, hx, c0, c1, c2⟩ := RowQ.get hl 0 (by rw [← hnl]; exact hn)
 have e0 : ol + 0 * 3 = ol := by omega
 rw [e0] at c0 c1 c2
 have C0 := Aside0.mk (And.intro c0 (And.intro c1 c2))
 have HBL := Aside0.mk hblw
 have hz0 : ¬ (nl : Int) < 1 := by omega
 have hz1 : (0 : Int) < (nl : Int) := by omega
 have hz2 : decide ((nl : Int) < 1) = false := decide_eq_false hz0
 clear e0 c0 c1 c2 hans hfold hblw hnl hsz hn
 have HB := Aside0.mk (Kb.refl (fun k => False) w)
 have V_l := Aside0.mk hl
 clear hl
 have B_l := Aside0.mk (Kb.refl (fun k => False) w)
 have V_x := Aside0.mk hx
 clear hx
 have B_x := Aside0.mk (Kb.refl (fun k => False) w)
 go_enter Try.func47, Try.ntmps47
 go_wp2_with (first | ((with_reducible refine gate_dst (N := 4) rfl ?_); refine bx_ (N := 4) #[.bool false, .slice none 0 0, .slice none 0 0] 30 ?_; intro g_r hg w101 hbox hb; have G_r := kb_g HB hg; have O_r_l := kb_g B_l hg; have O_r_x := kb_g B_x hg; replace HB := kb_b HB hb; replace B_l := kb_b B_l hb; replace B_x := kb_b B_x hb; clear hb; have V_r := Aside0.mk hbox; have B_r := Aside0.mk (Kb.refl (fun k => False) w101); have N_r : Aside0 (¬ (fun k => False) g_r) := ⟨by have := G_r; exact fun h => h⟩; clear hbox hg) | ((with_reducible refine gate_dst (N := 13) rfl ?_); refine load_at rfl rfl (g := bl) (k := ol) rfl (Kb.cell (S := fun k => False) C0.out.1 B_l.out (fun h => h)) (Kb.cell (S := fun k => False) C0.out.2.1 B_l.out (fun h => h)) (Kb.cell (S := fun k => False) C0.out.2.2 B_l.out (fun h => h)) ?_) | ((with_reducible refine gate_dst (N := 5) rfl ?_); refine bx_ (N := 5) #[.bool false, .slice none 0 0, .slice none 0 0] 30 ?_; intro g_m hg w102 hbox hb; have G_m := kb_g HB hg; have O_m_l := kb_g B_l hg; have O_m_x := kb_g B_x hg; have O_m_r := kb_g B_r hg; replace HB := kb_b HB hb; replace B_l := kb_b B_l hb; replace B_x := kb_b B_x hb; replace B_r := kb_b B_r hb; clear hb; have V_m := Aside0.mk hbox; have B_m := Aside0.mk (Kb.refl (fun k => False) w102); have N_m : Aside0 (¬ (fun k => False) g_m) := ⟨by have := G_m; exact fun h => h⟩; clear hbox hg) | ((with_reducible refine gate_store (t := 30) (p := 5) (v := .tmp 13) rfl ?_); refine store_ev (p := .tmp 5) (v := .tmp 13) rfl rfl rfl (g := g_m) rfl rfl (Kb.blk V_m.out B_m.out N_m.out) ?_; intro w103 hbox hk; replace HB := kb_t HB hk (fun i hi => by exact hi ▸ Or.inr G_m.out); replace B_l := kb_t B_l hk (fun i hi => by exact hi ▸ Or.inr O_m_l.out); replace B_x := kb_t B_x hk (fun i hi => by exact hi ▸ Or.inr O_m_x.out); replace B_r := kb_t B_r hk (fun i hi => by exact hi ▸ Or.inr O_m_r.out); clear V_m B_m; have V_m := Aside0.mk hbox; have B_m := Aside0.mk (Kb.refl (fun k => False) w103); clear hbox hk))
 go_loopg [6] nl (fun kg v6 wr => ∃ (k : Nat) (cur : Rat) (tx : Bool) (Ax : Option Addr) (nx cx : Nat) (Dx : Option Addr) (kx zx : Nat), v6 = .int .i64 k ∧ Aside0 (0 < k ∧ k + kg = nl + 1 ∧ (qs.drop k).foldl (extF true) cur = ans) ∧ Aside0 (IsR (fun j => okl j ∧ j < w.heap.size) w (.agg #[.bool tx, .slice Ax nx cx, .slice Dx kx zx]) cur) ∧ Aside0 (wr.heap[g_m]? = some (.cells #[.bool tx, .slice Ax nx cx, .slice Dx kx zx] 30 (0, 0))) ∧ Aside0 (Kb (fun k => False) w101 wr) ∧ Aside0 (Kb (fun k => False) w wr))
 case atStart => exact ⟨1, qs.getD 0 0, tx, Ax, nx, cx, Dx, kx, zx, rfl, ⟨by omega, by omega, HFO.out⟩, V_x, V_m, B_r, HB⟩
 case round =>
  obtain ⟨k, cur, tx, Ax, nx, cx, Dx, kx, zx, rfl, HK, HX, HM, HR, HB2⟩ := hrel
  clear V_x B_x V_m B_m B_r HB B_l C0
  have HB := HB2
  clear HB2
  have B_l := HB
  have V_x := HX
  have B_x := HB
  have B_r := HR
  have V_m := HM
  have B_m := Aside0.mk (Kb.refl (fun k => False) wr)
  clear HX HR HM
  by_cases hlt : k < nl
  · have hz : (k : Int) < (nl : Int) := by omega
    have hk0 : (0 : Int) ≤ (k : Int) := by omega
    obtain ⟨ty, Ay, ny, cy, Dy, ky, zy, hy, c0, c1, c2⟩ := RowQ.get V_l.out k (by rw [← HNL.out.1]; exact hlt)
    have C1 := Aside0.mk (And.intro c0 (And.intro c1 c2))
    clear c0 c1 c2
    have V_y := Aside0.mk hy
    clear hy
    have B_y := HB
    have O_m_y := G_m
    have e1 : IntKind.i64.wrap ((k : Int) + 1) = ((k + 1 : Nat) : Int) := (i64_w _).trans ((w64 (by have := HNL.out.2.1; omega) (by have := HNL.out.2.1; omega)).trans (by omega))
    obtain ⟨cv, hcv⟩ : ∃ c : Int, c = (if qs.getD k 0 < cur then -1 else if qs.getD k 0 = cur then 0 else 1) := ⟨_, rfl⟩
    have HCV := Aside0.mk hcv
    clear hcv
    go_wp2_with fail
    have hb : Below wr.heap.size wr wr.drew := below_drew1 (Below.refl _ _)
    replace HB := kb_b HB hb
    replace B_l := kb_b B_l hb
    replace B_x := kb_b B_x hb
    replace B_r := kb_b B_r hb
    replace B_m := kb_b B_m hb
    replace B_y := kb_b B_y hb
    clear hb
    refine start_ (n := 8) (S := fun w' => (w'.cell? ⟨bl, (ol + k * 3), none⟩ = some (.bool ty) ∧ w'.cell? ⟨bl, (ol + k * 3) + 1, none⟩ = some (.slice Ay ny cy) ∧ w'.cell? ⟨bl, (ol + k * 3) + 2, none⟩ = some (.slice Dy ky zy)) ∧ w'.heap[g_m]? = some (.cells #[.bool tx, .slice Ax nx cx, .slice Dx kx zx] 30 (0, 0))) (ds := []) (tB_ 8 0) (by kernel_rfl) rfl (by kernel_rfl) ⟨⟨(Kb.cell (S := fun k => False) C1.out.1 B_l.out (fun h => h)), (Kb.cell (S := fun k => False) C1.out.2.1 B_l.out (fun h => h)), (Kb.cell (S := fun k => False) C1.out.2.2 B_l.out (fun h => h))⟩, Kb.blk V_m.out B_m.out N_m.out⟩ (fun hHeld => ?_)
    refine with_tabW Exttrue.tab7 Exttrue.bits7 (fun HT_ HW_ => ?_)
    generalize wr.drew = w105 at HB B_l B_x B_r B_m B_y hHeld ⊢
    refine pu_ 0 (some 20) 1 HT_ ?_
    refine pu_ 1 (some 21) 3 HT_ ?_
    refine pu_ 2 (some 22) 7 HT_ ?_
    refine pu_ 3 (some 23) 15 HT_ ?_
    refine tk_ 4 (some 24) 31 HT_ HW_ hHeld ?_ ?_ ?_ ?_ ?_
    rotate_left
    · intro w' hs
      have hb_ := hs.1
      obtain ⟨c0_, c1_, c2_⟩ := hb_
      clear hs
      go_simp
      with_reducible rfl
    rotate_left
    · simp only [PU]
      rfl
    refine tk_ 5 (some 25) 63 HT_ HW_ hHeld ?_ ?_ ?_ ?_ ?_
    rotate_left
    · intro w' hs
      have hb_ := hs.2
      have c0_ := (blk_cell hb_ 0).trans rfl
      have c1_ := (blk_cell hb_ 1).trans rfl
      have c2_ := (blk_cell hb_ 2).trans rfl
      clear hb_ hs
      go_simp
      with_reducible rfl
    rotate_left
    · simp only [PU]
      rfl
    refine on_ 6 (some 26) 127 HT_ (fun K hK => ?_)
    refine goesv_ Try.func39 (by kernel_rfl) rfl #[.agg #[.bool ty, .slice Ay ny cy, .slice Dy ky zy], .agg #[.bool tx, .slice Ax nx cx, .slice Dx kx zx]] (by rfl) rfl rfl (by go_simp) (by (try simp only [List.map_toArray, List.map_cons, List.map_nil]); first | done | rfl) ?_
    refine (cmp_as (wcompare_calls (qs.getD k 0) cur _ _ _ (IsR.kb (S := fun k => False) V_y.out B_y.out (fun _ _ h => h)) (IsR.kb (S := fun k => False) V_x.out B_x.out (fun _ _ h => h))) HCV.out).mono ?_
    rintro e w106 ⟨rfl, hb⟩
    refine ⟨_, rfl, ?_⟩
    refine hK.out _ _ (by exact ⟨⟨pw_cell_below hb hHeld.1.1, pw_cell_below hb hHeld.1.2.1, pw_cell_below hb hHeld.1.2.2⟩, blk_below hHeld.2 hb⟩) (fun hHeld => ?_)
    clear hK K
    refine nm_ (some 26) ?_
    replace HB := kb_b HB hb
    replace B_l := kb_b B_l hb
    replace B_x := kb_b B_x hb
    replace B_r := kb_b B_r hb
    replace B_m := kb_b B_m hb
    replace B_y := kb_b B_y hb
    clear hb
    refine pu_ 7 (some 27) 255 HT_ ?_
    refine do_ HT_ ?_
    clear HT_ HW_ hHeld
    by_cases hc : 0 < cv
    · skip
      have hst := ext_true_yes qs k cur ans _ (by rw [← HNL.out.1]; exact hlt) HK.out.2.2 HCV.out hc
      have HST := Aside0.mk hst
      clear hst
      go_wp2_with (first | ((with_reducible refine gate_dst (N := 31) rfl ?_); refine load_at rfl rfl (g := bl) (k := (ol + k * 3)) rfl (Kb.cell (S := fun k => False) C1.out.1 B_l.out (fun h => h)) (Kb.cell (S := fun k => False) C1.out.2.1 B_l.out (fun h => h)) (Kb.cell (S := fun k => False) C1.out.2.2 B_l.out (fun h => h)) ?_) | ((with_reducible refine gate_store (t := 30) (p := 5) (v := .tmp 31) rfl ?_); refine store_ev (p := .tmp 5) (v := .tmp 31) rfl rfl rfl (g := g_m) rfl rfl (Kb.blk V_m.out B_m.out N_m.out) ?_; intro w107 hbox hk; replace HB := kb_t HB hk (fun i hi => by exact hi ▸ Or.inr G_m.out); replace B_l := kb_t B_l hk (fun i hi => by exact hi ▸ Or.inr O_m_l.out); replace B_x := kb_t B_x hk (fun i hi => by exact hi ▸ Or.inr O_m_x.out); replace B_r := kb_t B_r hk (fun i hi => by exact hi ▸ Or.inr O_m_r.out); replace B_y := kb_t B_y hk (fun i hi => by exact hi ▸ Or.inr O_m_y.out); clear V_m B_m; have V_m := Aside0.mk hbox; have B_m := Aside0.mk (Kb.refl (fun k => False) w107); clear hbox hk))
      go_roundg (nl - k)
      case measure => have := HK.out.2.1; omega
      case rel => exact ⟨k + 1, qs.getD k 0, ty, Ay, ny, cy, Dy, ky, zy, by first | rfl | rw [e1], ⟨by omega, by have := HK.out.2.1; omega, HST.out⟩, V_y, V_m, B_r, HB⟩
    · skip
      have hst := ext_true_no qs k cur ans _ (by rw [← HNL.out.1]; exact hlt) HK.out.2.2 HCV.out hc
      have HST := Aside0.mk hst
      clear hst
      go_wp2_with fail
      go_roundg (nl - k)
      case measure => have := HK.out.2.1; omega
      case rel => exact ⟨k + 1, cur, tx, Ax, nx, cx, Dx, kx, zx, by first | rfl | rw [e1], ⟨by omega, by have := HK.out.2.1; omega, HST.out⟩, V_x, ⟨Kb.blk V_m.out B_m.out (fun h => h)⟩, B_r, HB⟩
  · have hz : ¬ (k : Int) < (nl : Int) := by omega
    have hcur : cur = ans := by have := HK.out.2.2; rwa [List.drop_of_length_le (by have := HNL.out.1; omega)] at this
    have HC := Aside0.mk hcur
    clear hcur hlt
    go_wp2_with (first | ((with_reducible refine gate_dst (N := 32) rfl ?_); refine load_ev rfl rfl (g := g_m) rfl (Kb.blk V_m.out B_m.out N_m.out) ?_) | ((with_reducible refine gate_store (t := 30) (p := 4) (v := .tmp 32) rfl ?_); refine store_ev (p := .tmp 4) (v := .tmp 32) rfl rfl rfl (g := g_r) rfl rfl (Kb.blk V_r.out B_r.out N_r.out) ?_; intro w105 hbox hk; replace HB := kb_t HB hk (fun i hi => by exact hi ▸ Or.inr G_r.out); replace B_l := kb_t B_l hk (fun i hi => by exact hi ▸ Or.inr O_r_l.out); replace B_x := kb_t B_x hk (fun i hi => by exact hi ▸ Or.inr O_r_x.out); clear V_r B_r; have V_r := Aside0.mk hbox; have B_r := Aside0.mk (Kb.refl (fun k => False) w105); clear hbox hk))
    refine bodyPost_ret (results_cell_row rfl _ _ g_r 30 #[.bool tx, .slice Ax nx cx, .slice Dx kx zx] (0, 0) _ rfl (Kb.blk V_r.out B_r.out N_r.out) Try.underlying30 rfl (by kernel_rfl)) rfl ?_
    exact ⟨⟨_, rfl, by rw [← HC.out]; exact IsR.mono (IsR.kb V_x.out B_x.out (fun _ _ h => h)) (fun k h => h.1)⟩, (Kb.to_below HB.out (fun _ h => h.elim))⟩
theorem RowS.okb {ok : Nat → Prop} {w : World} {b o n c : Nat} {ss : List Smp} (h : RowS ok w (.slice (some ⟨b, o, none⟩) n c) ss) (h0 : 0 < n) : ok b := by
 obtain ⟨ad, cs, he, hlen, hK, hc, hok⟩ := Kd.F_get (Kd.V_F h) ⟨0, 0, none⟩ 0 (by omega) (by omega)
 injection he with he
 subst he
 exact hok (by decide)
theorem ValS.get {ss : List Smp} {qs : List Rat} (h : ValS ss qs) (i : Nat) (hi : i < ss.length) : (ss.getD i ⟨0, 0, none⟩).q = some (qs.getD i 0) := h.2 i hi
theorem run8_calls {okl : Nat → Prop} (rb : Nat) (over : Int) (ss : List Smp) (qs : List Rat) (hn0 : 0 < ss.length) (hsz : ss.length ≤ 1000000) (w : World) (tq : Bool) (Aq : Option Addr) (nq cq : Nat) (Dq : Option Addr) (kq zq : Nat) (vl : Value) (hr : Rk w rb false) (hl : RowS okl w vl ss) (hok : ∀ k, okl k → k ≠ rb) (hvs : ValS ss qs) :
 Calls Try.prog 30 #[.pointer (some ⟨rb, 0, none⟩), .int .i64 8, .int .i64 over, .agg #[.bool tq, .slice Aq nq cq, .slice Dq kq zq], vl] w fun e w' => ∃ v, e = .returned v ∧ Res (fun k => okl k ∨ w.heap.size ≤ k) w' v (some (extQ false qs)) ∧ Rk w' rb (some (extQ false qs)).isNone ∧ Kb (fun k => k = rb) w w' := by
 obtain ⟨ans, hans⟩ : ∃ a, a = some (extQ false qs) := ⟨_, rfl⟩
 rw [← hans]
 have HANS := Aside0.mk hans
 clear hans
 have hu30 := Try.underlying30
 have hu39 := Try.underlying39
 obtain ⟨Al, cl, rfl⟩ := hl.slice
 obtain ⟨nl, hnl⟩ : ∃ nl, nl = ss.length := ⟨_, rfl⟩
 rw [← hnl] at hl hn0 hsz ⊢
 have HNL := Aside0.mk (And.intro hnl (And.intro hn0 hsz))
 have hl2 : RowS (fun k => k ≠ rb ∧ (okl k ∧ k < w.heap.size)) w (.slice Al nl cl) ss := RowS.mono' hl (fun k h1 h2 => ⟨hok k h1, h1, h2⟩)
 have HOKL := Aside0.mk hok
 clear hnl hl hok
 have HB := Aside0.mk (Kb.refl (fun k => k = rb) w)
 have HL := Aside0.mk (Rk.lt hr)
 have RK := Aside0.mk hr
 clear hr
 have V_l := Aside0.mk hl2
 clear hl2
 have B_l := Aside0.mk (Kb.refl (fun k => k = rb) w)
 clear hn0 hsz
 go_enter Try.func30, Try.ntmps30
 go_wp2_with (first | ((with_reducible refine gate_dst (N := 8) rfl ?_); refine bx_ (N := 8) #[.bool tq, .slice Aq nq cq, .slice Dq kq zq] 30 ?_; intro g_q hg w101 hbox hb; have G_q := kb_g HB hg; replace HB := kb_b HB hb; replace B_l := kb_b B_l hb; replace RK := rk_b RK hb; clear hb; have V_q := Aside0.mk hbox; have B_q := Aside0.mk (Kb.refl (fun k => k = rb) w101); have N_q : Aside0 (¬ (fun k => k = rb) g_q) := ⟨by show ¬ (_ = _); have := HL.out; have := G_q.out; omega⟩; clear hbox hg) | ((with_reducible refine gate_dst (N := 10) rfl ?_); refine bx_ (N := 10) #[.bool false, .slice none 0 0, .slice none 0 0] 30 ?_; intro g_r hg w102 hbox hb; have G_r := kb_g HB hg; have O_r_l := kb_g B_l hg; have O_r_q := kb_g B_q hg; replace HB := kb_b HB hb; replace B_l := kb_b B_l hb; replace B_q := kb_b B_q hb; replace RK := rk_b RK hb; clear hb; have V_r := Aside0.mk hbox; have B_r := Aside0.mk (Kb.refl (fun k => k = rb) w102); have N_r : Aside0 (¬ (fun k => k = rb) g_r) := ⟨by show ¬ (_ = _); have := HL.out; have := G_r.out; omega⟩; clear hbox hg))
 with_reducible refine (qofn_calls nl HNL.out.2.2 _).mono ?_
 rintro e w103 ⟨⟨v, rfl, hv⟩, hb⟩
 obtain ⟨tn, An, nn, cn, Dn, kn, zn, rfl⟩ := hv.agg
 have hle := Kb.size HB.out
 have hl_r := blk_lt (Kb.blk V_r.out B_r.out N_r.out)
 have hv_ := IsR.mono' (ok' := fun k => k ≠ rb ∧ k ≠ g_r ∧ w.heap.size ≤ k) hv (fun k hk _ => by have := HL.out; refine ⟨?_, ?_, ?_⟩ <;> omega)
 clear hv hle hl_r
 replace HB := kb_b HB hb
 replace B_l := kb_b B_l hb
 replace B_q := kb_b B_q hb
 replace B_r := kb_b B_r hb
 replace RK := rk_b RK hb
 clear hb
 have V_vn := Aside0.mk hv_
 clear hv_
 have B_vn := Aside0.mk (Kb.refl (fun k => k = rb ∨ k = g_r) w103)
 go_wp2_with (first | ((with_reducible refine gate_dst (N := 11) rfl ?_); refine bx_ (N := 11) #[.bool false, .slice none 0 0, .slice none 0 0] 30 ?_; intro g_n hg w104 hbox hb; have G_n := kb_g HB hg; have O_n_l := kb_g B_l hg; have O_n_q := kb_g B_q hg; have O_n_r := kb_g B_r hg; have O_n_vn := kb_g B_vn hg; replace HB := kb_b HB hb; replace B_l := kb_b B_l hb; replace B_q := kb_b B_q hb; replace B_r := kb_b B_r hb; replace B_vn := kb_b B_vn hb; replace RK := rk_b RK hb; clear hb; have V_n := Aside0.mk hbox; have B_n := Aside0.mk (Kb.refl (fun k => k = rb) w104); have N_n : Aside0 (¬ (fun k => k = rb) g_n) := ⟨by show ¬ (_ = _); have := HL.out; have := G_n.out; omega⟩; clear hbox hg) | ((with_reducible refine gate_store (t := 30) (p := 11) (v := .tmp 14) rfl ?_); refine store_ev (p := .tmp 11) (v := .tmp 14) rfl rfl rfl (g := g_n) rfl rfl (Kb.blk V_n.out B_n.out N_n.out) ?_; intro w105 hbox hk; replace HB := kb_t HB hk (fun i hi => by exact hi ▸ Or.inr G_n.out); replace B_l := kb_t B_l hk (fun i hi => by exact hi ▸ Or.inr O_n_l.out); replace B_q := kb_t B_q hk (fun i hi => by exact hi ▸ Or.inr O_n_q.out); replace B_r := kb_t B_r hk (fun i hi => by exact hi ▸ Or.inr O_n_r.out); replace B_vn := kb_t B_vn hk (fun i hi => by exact hi ▸ Or.inr O_n_vn.out); have Z_ := Aside0.mk (Rk.kb RK.out hk (by have := HL.out; have := G_n.out; omega)); clear RK; have RK := Z_; clear Z_; clear V_n B_n; have V_n := Aside0.mk hbox; have B_n := Aside0.mk (Kb.refl (fun k => k = rb) w105); clear hbox hk))
 clear V_vn B_vn
 with_reducible refine (each_value ss qs hvs (by rw [← HNL.out.1]; exact HNL.out.2.2) _ _ (RowS.kb (S := fun k => k = rb) V_l.out B_l.out (fun k h hs => absurd hs h.1))).mono ?_
 rintro e w106 ⟨⟨v, rfl, hv⟩, hb⟩
 obtain ⟨Ae, ce, rfl⟩ := RowQ.slice hv
 have hle := Kb.size HB.out
 have hlr := blk_lt (Kb.blk V_r.out B_r.out N_r.out)
 have hv_ := RowQ.mono' (ok' := fun k => k ≠ rb ∧ k ≠ g_r ∧ (okl k ∨ w.heap.size ≤ k)) hv (fun k hk _ => by
  have := HL.out
  have h3 := G_r.out
  rcases hk with hk | hk
  · exact ⟨hk.1, fun e => by have := hk.2.2; omega, Or.inl hk.2.1⟩
  · exact ⟨by omega, by omega, Or.inr (by omega)⟩)
 clear hv hle hlr
 replace HB := kb_b HB hb
 replace B_l := kb_b B_l hb
 replace B_q := kb_b B_q hb
 replace B_r := kb_b B_r hb
 replace B_n := kb_b B_n hb
 replace RK := rk_b RK hb
 clear hb
 have V_e := Aside0.mk hv_
 clear hv_
 have B_e := Aside0.mk (Kb.refl (fun k => k = rb ∨ k = g_r) w106)
 go_wp2_with fail
 with_reducible refine (min_calls qs (by rw [ValS.len hvs, ← HNL.out.1]; exact HNL.out.2.1) (by rw [ValS.len hvs, ← HNL.out.1]; exact HNL.out.2.2) _ _ (RowQ.kb (S := fun k => k = rb ∨ k = g_r) V_e.out B_e.out (fun k h hs => hs.elim h.1 h.2.1))).mono ?_
 rintro e w107 ⟨⟨v, rfl, hv⟩, hb⟩
 obtain ⟨tv, Av, nv, cv, Dv, kv, zv, rfl⟩ := hv.agg
 replace HB := kb_b HB hb
 replace B_l := kb_b B_l hb
 replace B_q := kb_b B_q hb
 replace B_r := kb_b B_r hb
 replace B_n := kb_b B_n hb
 replace B_e := kb_b B_e hb
 replace RK := rk_b RK hb
 clear hb
 have V_v := Aside0.mk hv
 clear hv
 have B_v := Aside0.mk (Kb.refl (fun k => k = rb ∨ k = g_r) w107)
 clear V_l B_l
 clear V_e B_e
 clear V_q B_q
 clear V_n B_n
 go_wp2_with (first | ((with_reducible refine gate_store (t := 30) (p := 10) (v := .tmp 59) rfl ?_); refine store_ev (p := .tmp 10) (v := .tmp 59) rfl rfl rfl (g := g_r) rfl rfl (Kb.blk V_r.out B_r.out N_r.out) ?_; intro w108 hbox hk; replace HB := kb_t HB hk (fun i hi => by exact hi ▸ Or.inr G_r.out); replace B_v := kb_t B_v hk (fun i hi => by exact Or.inl (Or.inr hi)); have Z_ := Aside0.mk (Rk.kb RK.out hk (by have := HL.out; have := G_r.out; omega)); clear RK; have RK := Z_; clear Z_; clear V_r B_r; have V_r := Aside0.mk hbox; have B_r := Aside0.mk (Kb.refl (fun k => k = rb) w108); clear hbox hk))
 have ha := HANS.out
 refine bodyPost_ret (results_cell_row rfl _ _ g_r 30 #[.bool tv, .slice Av nv cv, .slice Dv kv zv] (0, 0) _ rfl (Kb.blk V_r.out B_r.out N_r.out) Try.underlying30 rfl (by kernel_rfl)) rfl ?_
 exact ⟨_, rfl, by rw [ha]; exact ((IsR.mono (IsR.kb (S := fun k => k = rb ∨ k = g_r) V_v.out B_v.out (fun k h hs => hs.elim h.1 h.2.1)) (fun k h => h.2.2))), by rw [ha]; exact RK.out, HB.out⟩
theorem run9_calls {okl : Nat → Prop} (rb : Nat) (over : Int) (ss : List Smp) (qs : List Rat) (hn0 : 0 < ss.length) (hsz : ss.length ≤ 1000000) (w : World) (tq : Bool) (Aq : Option Addr) (nq cq : Nat) (Dq : Option Addr) (kq zq : Nat) (vl : Value) (hr : Rk w rb false) (hl : RowS okl w vl ss) (hok : ∀ k, okl k → k ≠ rb) (hvs : ValS ss qs) :
 Calls Try.prog 30 #[.pointer (some ⟨rb, 0, none⟩), .int .i64 9, .int .i64 over, .agg #[.bool tq, .slice Aq nq cq, .slice Dq kq zq], vl] w fun e w' => ∃ v, e = .returned v ∧ Res (fun k => okl k ∨ w.heap.size ≤ k) w' v (some (extQ true qs)) ∧ Rk w' rb (some (extQ true qs)).isNone ∧ Kb (fun k => k = rb) w w' := by
 obtain ⟨ans, hans⟩ : ∃ a, a = some (extQ true qs) := ⟨_, rfl⟩
 rw [← hans]
 have HANS := Aside0.mk hans
 clear hans
 have hu30 := Try.underlying30
 have hu39 := Try.underlying39
 obtain ⟨Al, cl, rfl⟩ := hl.slice
 obtain ⟨nl, hnl⟩ : ∃ nl, nl = ss.length := ⟨_, rfl⟩
 rw [← hnl] at hl hn0 hsz ⊢
 have HNL := Aside0.mk (And.intro hnl (And.intro hn0 hsz))
 have hl2 : RowS (fun k => k ≠ rb ∧ (okl k ∧ k < w.heap.size)) w (.slice Al nl cl) ss := RowS.mono' hl (fun k h1 h2 => ⟨hok k h1, h1, h2⟩)
 have HOKL := Aside0.mk hok
 clear hnl hl hok
 have HB := Aside0.mk (Kb.refl (fun k => k = rb) w)
 have HL := Aside0.mk (Rk.lt hr)
 have RK := Aside0.mk hr
 clear hr
 have V_l := Aside0.mk hl2
 clear hl2
 have B_l := Aside0.mk (Kb.refl (fun k => k = rb) w)
 clear hn0 hsz
 go_enter Try.func30, Try.ntmps30
 go_wp2_with (first | ((with_reducible refine gate_dst (N := 8) rfl ?_); refine bx_ (N := 8) #[.bool tq, .slice Aq nq cq, .slice Dq kq zq] 30 ?_; intro g_q hg w101 hbox hb; have G_q := kb_g HB hg; replace HB := kb_b HB hb; replace B_l := kb_b B_l hb; replace RK := rk_b RK hb; clear hb; have V_q := Aside0.mk hbox; have B_q := Aside0.mk (Kb.refl (fun k => k = rb) w101); have N_q : Aside0 (¬ (fun k => k = rb) g_q) := ⟨by show ¬ (_ = _); have := HL.out; have := G_q.out; omega⟩; clear hbox hg) | ((with_reducible refine gate_dst (N := 10) rfl ?_); refine bx_ (N := 10) #[.bool false, .slice none 0 0, .slice none 0 0] 30 ?_; intro g_r hg w102 hbox hb; have G_r := kb_g HB hg; have O_r_l := kb_g B_l hg; have O_r_q := kb_g B_q hg; replace HB := kb_b HB hb; replace B_l := kb_b B_l hb; replace B_q := kb_b B_q hb; replace RK := rk_b RK hb; clear hb; have V_r := Aside0.mk hbox; have B_r := Aside0.mk (Kb.refl (fun k => k = rb) w102); have N_r : Aside0 (¬ (fun k => k = rb) g_r) := ⟨by show ¬ (_ = _); have := HL.out; have := G_r.out; omega⟩; clear hbox hg))
 with_reducible refine (qofn_calls nl HNL.out.2.2 _).mono ?_
 rintro e w103 ⟨⟨v, rfl, hv⟩, hb⟩
 obtain ⟨tn, An, nn, cn, Dn, kn, zn, rfl⟩ := hv.agg
 have hle := Kb.size HB.out
 have hl_r := blk_lt (Kb.blk V_r.out B_r.out N_r.out)
 have hv_ := IsR.mono' (ok' := fun k => k ≠ rb ∧ k ≠ g_r ∧ w.heap.size ≤ k) hv (fun k hk _ => by have := HL.out; refine ⟨?_, ?_, ?_⟩ <;> omega)
 clear hv hle hl_r
 replace HB := kb_b HB hb
 replace B_l := kb_b B_l hb
 replace B_q := kb_b B_q hb
 replace B_r := kb_b B_r hb
 replace RK := rk_b RK hb
 clear hb
 have V_vn := Aside0.mk hv_
 clear hv_
 have B_vn := Aside0.mk (Kb.refl (fun k => k = rb ∨ k = g_r) w103)
 go_wp2_with (first | ((with_reducible refine gate_dst (N := 11) rfl ?_); refine bx_ (N := 11) #[.bool false, .slice none 0 0, .slice none 0 0] 30 ?_; intro g_n hg w104 hbox hb; have G_n := kb_g HB hg; have O_n_l := kb_g B_l hg; have O_n_q := kb_g B_q hg; have O_n_r := kb_g B_r hg; have O_n_vn := kb_g B_vn hg; replace HB := kb_b HB hb; replace B_l := kb_b B_l hb; replace B_q := kb_b B_q hb; replace B_r := kb_b B_r hb; replace B_vn := kb_b B_vn hb; replace RK := rk_b RK hb; clear hb; have V_n := Aside0.mk hbox; have B_n := Aside0.mk (Kb.refl (fun k => k = rb) w104); have N_n : Aside0 (¬ (fun k => k = rb) g_n) := ⟨by show ¬ (_ = _); have := HL.out; have := G_n.out; omega⟩; clear hbox hg) | ((with_reducible refine gate_store (t := 30) (p := 11) (v := .tmp 14) rfl ?_); refine store_ev (p := .tmp 11) (v := .tmp 14) rfl rfl rfl (g := g_n) rfl rfl (Kb.blk V_n.out B_n.out N_n.out) ?_; intro w105 hbox hk; replace HB := kb_t HB hk (fun i hi => by exact hi ▸ Or.inr G_n.out); replace B_l := kb_t B_l hk (fun i hi => by exact hi ▸ Or.inr O_n_l.out); replace B_q := kb_t B_q hk (fun i hi => by exact hi ▸ Or.inr O_n_q.out); replace B_r := kb_t B_r hk (fun i hi => by exact hi ▸ Or.inr O_n_r.out); replace B_vn := kb_t B_vn hk (fun i hi => by exact hi ▸ Or.inr O_n_vn.out); have Z_ := Aside0.mk (Rk.kb RK.out hk (by have := HL.out; have := G_n.out; omega)); clear RK; have RK := Z_; clear Z_; clear V_n B_n; have V_n := Aside0.mk hbox; have B_n := Aside0.mk (Kb.refl (fun k => k = rb) w105); clear hbox hk))
 clear V_vn B_vn
 with_reducible refine (each_value ss qs hvs (by rw [← HNL.out.1]; exact HNL.out.2.2) _ _ (RowS.kb (S := fun k => k = rb) V_l.out B_l.out (fun k h hs => absurd hs h.1))).mono ?_
 rintro e w106 ⟨⟨v, rfl, hv⟩, hb⟩
 obtain ⟨Ae, ce, rfl⟩ := RowQ.slice hv
 have hle := Kb.size HB.out
 have hlr := blk_lt (Kb.blk V_r.out B_r.out N_r.out)
 have hv_ := RowQ.mono' (ok' := fun k => k ≠ rb ∧ k ≠ g_r ∧ (okl k ∨ w.heap.size ≤ k)) hv (fun k hk _ => by
  have := HL.out
  have h3 := G_r.out
  rcases hk with hk | hk
  · exact ⟨hk.1, fun e => by have := hk.2.2; omega, Or.inl hk.2.1⟩
  · exact ⟨by omega, by omega, Or.inr (by omega)⟩)
 clear hv hle hlr
 replace HB := kb_b HB hb
 replace B_l := kb_b B_l hb
 replace B_q := kb_b B_q hb
 replace B_r := kb_b B_r hb
 replace B_n := kb_b B_n hb
 replace RK := rk_b RK hb
 clear hb
 have V_e := Aside0.mk hv_
 clear hv_
 have B_e := Aside0.mk (Kb.refl (fun k => k = rb ∨ k = g_r) w106)
 go_wp2_with fail
 with_reducible refine (max_calls qs (by rw [ValS.len hvs, ← HNL.out.1]; exact HNL.out.2.1) (by rw [ValS.len hvs, ← HNL.out.1]; exact HNL.out.2.2) _ _ (RowQ.kb (S := fun k => k = rb ∨ k = g_r) V_e.out B_e.out (fun k h hs => hs.elim h.1 h.2.1))).mono ?_
 rintro e w107 ⟨⟨v, rfl, hv⟩, hb⟩
 obtain ⟨tv, Av, nv, cv, Dv, kv, zv, rfl⟩ := hv.agg
 replace HB := kb_b HB hb
 replace B_l := kb_b B_l hb
 replace B_q := kb_b B_q hb
 replace B_r := kb_b B_r hb
 replace B_n := kb_b B_n hb
 replace B_e := kb_b B_e hb
 replace RK := rk_b RK hb
 clear hb
 have V_v := Aside0.mk hv
 clear hv
 have B_v := Aside0.mk (Kb.refl (fun k => k = rb ∨ k = g_r) w107)
 clear V_l B_l
 clear V_e B_e
 clear V_q B_q
 clear V_n B_n
 go_wp2_with (first | ((with_reducible refine gate_store (t := 30) (p := 10) (v := .tmp 64) rfl ?_); refine store_ev (p := .tmp 10) (v := .tmp 64) rfl rfl rfl (g := g_r) rfl rfl (Kb.blk V_r.out B_r.out N_r.out) ?_; intro w108 hbox hk; replace HB := kb_t HB hk (fun i hi => by exact hi ▸ Or.inr G_r.out); replace B_v := kb_t B_v hk (fun i hi => by exact Or.inl (Or.inr hi)); have Z_ := Aside0.mk (Rk.kb RK.out hk (by have := HL.out; have := G_r.out; omega)); clear RK; have RK := Z_; clear Z_; clear V_r B_r; have V_r := Aside0.mk hbox; have B_r := Aside0.mk (Kb.refl (fun k => k = rb) w108); clear hbox hk))
 have ha := HANS.out
 refine bodyPost_ret (results_cell_row rfl _ _ g_r 30 #[.bool tv, .slice Av nv cv, .slice Dv kv zv] (0, 0) _ rfl (Kb.blk V_r.out B_r.out N_r.out) Try.underlying30 rfl (by kernel_rfl)) rfl ?_
 exact ⟨_, rfl, by rw [ha]; exact ((IsR.mono (IsR.kb (S := fun k => k = rb ∨ k = g_r) V_v.out B_v.out (fun k h hs => hs.elim h.1 h.2.1)) (fun k h => h.2.2))), by rw [ha]; exact RK.out, HB.out⟩
theorem run10_calls {okl : Nat → Prop} (rb : Nat) (over : Int) (ss : List Smp) (qs : List Rat) (hn0 : 0 < ss.length) (hsz : ss.length ≤ 1000000) (w : World) (tq : Bool) (Aq : Option Addr) (nq cq : Nat) (Dq : Option Addr) (kq zq : Nat) (vl : Value) (hr : Rk w rb false) (hl : RowS okl w vl ss) (hok : ∀ k, okl k → k ≠ rb) (hvs : ValS ss qs) :
 Calls Try.prog 30 #[.pointer (some ⟨rb, 0, none⟩), .int .i64 10, .int .i64 over, .agg #[.bool tq, .slice Aq nq cq, .slice Dq kq zq], vl] w fun e w' => ∃ v, e = .returned v ∧ Res (fun k => okl k ∨ w.heap.size ≤ k) w' v (some (qs.getD 0 0)) ∧ Rk w' rb (some (qs.getD 0 0)).isNone ∧ Kb (fun k => k = rb) w w' := by
 obtain ⟨ans, hans⟩ : ∃ a, a = some (qs.getD 0 0) := ⟨_, rfl⟩
 rw [← hans]
 have HANS := Aside0.mk hans
 clear hans
 have hu30 := Try.underlying30
 have hu39 := Try.underlying39
 obtain ⟨Al, cl, rfl⟩ := hl.slice
 obtain ⟨nl, hnl⟩ : ∃ nl, nl = ss.length := ⟨_, rfl⟩
 rw [← hnl] at hl hn0 hsz ⊢
 have HNL := Aside0.mk (And.intro hnl (And.intro hn0 hsz))
 have hl2 : RowS (fun k => k ≠ rb ∧ (okl k ∧ k < w.heap.size)) w (.slice Al nl cl) ss := RowS.mono' hl (fun k h1 h2 => ⟨hok k h1, h1, h2⟩)
 have HOKL := Aside0.mk hok
 clear hnl hl hok
 have hj1 : (0 : Int) < (nl : Int) := by omega
 obtain ⟨bl, ol, rfl⟩ := RowS.some_ hl2 hn0
 have hbl := Aside0.mk (RowS.okb hl2 hn0).1
 obtain ⟨ty, Ay, ny, cy, Dy, ky, zy, hy, c0, c1, c2, c3, c4⟩ := RowS.get hl2 0 (by rw [← HNL.out.1]; omega)
 have hyv := hy _ (ValS.get hvs 0 (by rw [← HNL.out.1]; omega))
 clear hy c0 c1
 have e0 : ol + 0 * 5 = ol := by omega
 rw [e0] at c2 c3 c4
 clear e0
 have C0 := Aside0.mk (And.intro c2 (And.intro c3 c4))
 clear c2 c3 c4
 have V_y := Aside0.mk hyv
 clear hyv
 have B_y := Aside0.mk (Kb.refl (fun k => k = rb) w)
 have HB := Aside0.mk (Kb.refl (fun k => k = rb) w)
 have HL := Aside0.mk (Rk.lt hr)
 have RK := Aside0.mk hr
 clear hr
 have V_l := Aside0.mk hl2
 clear hl2
 have B_l := Aside0.mk (Kb.refl (fun k => k = rb) w)
 clear hn0 hsz
 go_enter Try.func30, Try.ntmps30
 go_wp2_with (first | ((with_reducible refine gate_dst (N := 8) rfl ?_); refine bx_ (N := 8) #[.bool tq, .slice Aq nq cq, .slice Dq kq zq] 30 ?_; intro g_q hg w101 hbox hb; have G_q := kb_g HB hg; replace HB := kb_b HB hb; replace B_y := kb_b B_y hb; replace B_l := kb_b B_l hb; replace RK := rk_b RK hb; clear hb; have V_q := Aside0.mk hbox; have B_q := Aside0.mk (Kb.refl (fun k => k = rb) w101); have N_q : Aside0 (¬ (fun k => k = rb) g_q) := ⟨by show ¬ (_ = _); have := HL.out; have := G_q.out; omega⟩; clear hbox hg) | ((with_reducible refine gate_dst (N := 10) rfl ?_); refine bx_ (N := 10) #[.bool false, .slice none 0 0, .slice none 0 0] 30 ?_; intro g_r hg w102 hbox hb; have G_r := kb_g HB hg; have O_r_y := kb_g B_y hg; have O_r_l := kb_g B_l hg; have O_r_q := kb_g B_q hg; replace HB := kb_b HB hb; replace B_y := kb_b B_y hb; replace B_l := kb_b B_l hb; replace B_q := kb_b B_q hb; replace RK := rk_b RK hb; clear hb; have V_r := Aside0.mk hbox; have B_r := Aside0.mk (Kb.refl (fun k => k = rb) w102); have N_r : Aside0 (¬ (fun k => k = rb) g_r) := ⟨by show ¬ (_ = _); have := HL.out; have := G_r.out; omega⟩; clear hbox hg))
 with_reducible refine (qofn_calls nl HNL.out.2.2 _).mono ?_
 rintro e w103 ⟨⟨v, rfl, hv⟩, hb⟩
 obtain ⟨tn, An, nn, cn, Dn, kn, zn, rfl⟩ := hv.agg
 have hle := Kb.size HB.out
 have hl_r := blk_lt (Kb.blk V_r.out B_r.out N_r.out)
 have hv_ := IsR.mono' (ok' := fun k => k ≠ rb ∧ k ≠ g_r ∧ w.heap.size ≤ k) hv (fun k hk _ => by have := HL.out; refine ⟨?_, ?_, ?_⟩ <;> omega)
 clear hv hle hl_r
 replace HB := kb_b HB hb
 replace B_y := kb_b B_y hb
 replace B_l := kb_b B_l hb
 replace B_q := kb_b B_q hb
 replace B_r := kb_b B_r hb
 replace RK := rk_b RK hb
 clear hb
 have V_vn := Aside0.mk hv_
 clear hv_
 have B_vn := Aside0.mk (Kb.refl (fun k => k = rb ∨ k = g_r) w103)
 go_wp2_with (first | ((with_reducible refine gate_dst (N := 11) rfl ?_); refine bx_ (N := 11) #[.bool false, .slice none 0 0, .slice none 0 0] 30 ?_; intro g_n hg w104 hbox hb; have G_n := kb_g HB hg; have O_n_y := kb_g B_y hg; have O_n_l := kb_g B_l hg; have O_n_q := kb_g B_q hg; have O_n_r := kb_g B_r hg; have O_n_vn := kb_g B_vn hg; replace HB := kb_b HB hb; replace B_y := kb_b B_y hb; replace B_l := kb_b B_l hb; replace B_q := kb_b B_q hb; replace B_r := kb_b B_r hb; replace B_vn := kb_b B_vn hb; replace RK := rk_b RK hb; clear hb; have V_n := Aside0.mk hbox; have B_n := Aside0.mk (Kb.refl (fun k => k = rb) w104); have N_n : Aside0 (¬ (fun k => k = rb) g_n) := ⟨by show ¬ (_ = _); have := HL.out; have := G_n.out; omega⟩; clear hbox hg) | ((with_reducible refine gate_store (t := 30) (p := 11) (v := .tmp 14) rfl ?_); refine store_ev (p := .tmp 11) (v := .tmp 14) rfl rfl rfl (g := g_n) rfl rfl (Kb.blk V_n.out B_n.out N_n.out) ?_; intro w105 hbox hk; replace HB := kb_t HB hk (fun i hi => by exact hi ▸ Or.inr G_n.out); replace B_y := kb_t B_y hk (fun i hi => by exact hi ▸ Or.inr O_n_y.out); replace B_l := kb_t B_l hk (fun i hi => by exact hi ▸ Or.inr O_n_l.out); replace B_q := kb_t B_q hk (fun i hi => by exact hi ▸ Or.inr O_n_q.out); replace B_r := kb_t B_r hk (fun i hi => by exact hi ▸ Or.inr O_n_r.out); replace B_vn := kb_t B_vn hk (fun i hi => by exact hi ▸ Or.inr O_n_vn.out); have Z_ := Aside0.mk (Rk.kb RK.out hk (by have := HL.out; have := G_n.out; omega)); clear RK; have RK := Z_; clear Z_; clear V_n B_n; have V_n := Aside0.mk hbox; have B_n := Aside0.mk (Kb.refl (fun k => k = rb) w105); clear hbox hk) | ((with_reducible refine gate_dst (N := 70) rfl ?_); refine load_at rfl rfl (g := bl) (k := (ol + 2)) rfl (Kb.cell (S := fun k => k = rb) C0.out.1 B_l.out hbl.out) (Kb.cell (S := fun k => k = rb) C0.out.2.1 B_l.out hbl.out) (Kb.cell (S := fun k => k = rb) C0.out.2.2 B_l.out hbl.out) ?_) | ((with_reducible refine gate_store (t := 30) (p := 10) (v := .tmp 70) rfl ?_); refine store_ev (p := .tmp 10) (v := .tmp 70) rfl rfl rfl (g := g_r) rfl rfl (Kb.blk V_r.out B_r.out N_r.out) ?_; intro w106 hbox hk; replace HB := kb_t HB hk (fun i hi => by exact hi ▸ Or.inr G_r.out); replace B_y := kb_t B_y hk (fun i hi => by exact hi ▸ Or.inr O_r_y.out); have Z_ := Aside0.mk (Rk.kb RK.out hk (by have := HL.out; have := G_r.out; omega)); clear RK; have RK := Z_; clear Z_; clear V_r B_r; have V_r := Aside0.mk hbox; have B_r := Aside0.mk (Kb.refl (fun k => k = rb) w106); clear hbox hk))
 have ha := HANS.out
 refine bodyPost_ret (results_cell_row rfl _ _ g_r 30 #[.bool ty, .slice Ay ny cy, .slice Dy ky zy] (0, 0) _ rfl (Kb.blk V_r.out B_r.out N_r.out) Try.underlying30 rfl (by kernel_rfl)) rfl ?_
 exact ⟨_, rfl, by rw [ha]; exact ((IsR.mono (IsR.kb (S := fun k => k = rb) V_y.out B_y.out (fun k h hs => h.1 hs)) (fun k h => Or.inl h.2.1))), by rw [ha]; exact RK.out, HB.out⟩
theorem run11_calls {okl : Nat → Prop} (rb : Nat) (over : Int) (ss : List Smp) (qs : List Rat) (hn0 : 0 < ss.length) (hsz : ss.length ≤ 1000000) (w : World) (tq : Bool) (Aq : Option Addr) (nq cq : Nat) (Dq : Option Addr) (kq zq : Nat) (vl : Value) (hr : Rk w rb false) (hl : RowS okl w vl ss) (hok : ∀ k, okl k → k ≠ rb) (hvs : ValS ss qs) :
 Calls Try.prog 30 #[.pointer (some ⟨rb, 0, none⟩), .int .i64 11, .int .i64 over, .agg #[.bool tq, .slice Aq nq cq, .slice Dq kq zq], vl] w fun e w' => ∃ v, e = .returned v ∧ Res (fun k => okl k ∨ w.heap.size ≤ k) w' v (some (qs.getD (ss.length - 1) 0)) ∧ Rk w' rb (some (qs.getD (ss.length - 1) 0)).isNone ∧ Kb (fun k => k = rb) w w' := by
 obtain ⟨ans, hans⟩ : ∃ a, a = some (qs.getD (ss.length - 1) 0) := ⟨_, rfl⟩
 rw [← hans]
 have HANS := Aside0.mk hans
 clear hans
 have hu30 := Try.underlying30
 have hu39 := Try.underlying39
 obtain ⟨Al, cl, rfl⟩ := hl.slice
 obtain ⟨nl, hnl⟩ : ∃ nl, nl = ss.length := ⟨_, rfl⟩
 rw [← hnl] at hl hn0 hsz ⊢
 have HNL := Aside0.mk (And.intro hnl (And.intro hn0 hsz))
 have hl2 : RowS (fun k => k ≠ rb ∧ (okl k ∧ k < w.heap.size)) w (.slice Al nl cl) ss := RowS.mono' hl (fun k h1 h2 => ⟨hok k h1, h1, h2⟩)
 have HOKL := Aside0.mk hok
 clear hnl hl hok
 obtain ⟨n1, hn1⟩ : ∃ n1, n1 = nl - 1 := ⟨_, rfl⟩
 have e1 : IntKind.i64.wrap ((nl : Int) - 1) = (n1 : Int) := (i64_w _).trans ((w64 (by omega) (by omega)).trans (by omega))
 have e2 : Go.RowKit.wrap64 ((nl : Int) - 1) = (n1 : Int) := (w64 (by omega) (by omega)).trans (by omega)
 have hj0 : (0 : Int) ≤ (n1 : Int) := by omega
 have hj1 : (n1 : Int) < (nl : Int) := by omega
 have HN1 := Aside0.mk hn1
 clear hn1
 obtain ⟨bl, ol, rfl⟩ := RowS.some_ hl2 hn0
 have hbl := Aside0.mk (RowS.okb hl2 hn0).1
 obtain ⟨ty, Ay, ny, cy, Dy, ky, zy, hy, c0, c1, c2, c3, c4⟩ := RowS.get hl2 n1 (by rw [← HNL.out.1]; have := HN1.out; omega)
 have hyv := hy _ (ValS.get hvs n1 (by rw [← HNL.out.1]; have := HN1.out; omega))
 clear hy c0 c1
 have C0 := Aside0.mk (And.intro c2 (And.intro c3 c4))
 clear c2 c3 c4
 have V_y := Aside0.mk hyv
 clear hyv
 have B_y := Aside0.mk (Kb.refl (fun k => k = rb) w)
 have HB := Aside0.mk (Kb.refl (fun k => k = rb) w)
 have HL := Aside0.mk (Rk.lt hr)
 have RK := Aside0.mk hr
 clear hr
 have V_l := Aside0.mk hl2
 clear hl2
 have B_l := Aside0.mk (Kb.refl (fun k => k = rb) w)
 clear hn0 hsz
 go_enter Try.func30, Try.ntmps30
 go_wp2_with (first | ((with_reducible refine gate_dst (N := 8) rfl ?_); refine bx_ (N := 8) #[.bool tq, .slice Aq nq cq, .slice Dq kq zq] 30 ?_; intro g_q hg w101 hbox hb; have G_q := kb_g HB hg; replace HB := kb_b HB hb; replace B_y := kb_b B_y hb; replace B_l := kb_b B_l hb; replace RK := rk_b RK hb; clear hb; have V_q := Aside0.mk hbox; have B_q := Aside0.mk (Kb.refl (fun k => k = rb) w101); have N_q : Aside0 (¬ (fun k => k = rb) g_q) := ⟨by show ¬ (_ = _); have := HL.out; have := G_q.out; omega⟩; clear hbox hg) | ((with_reducible refine gate_dst (N := 10) rfl ?_); refine bx_ (N := 10) #[.bool false, .slice none 0 0, .slice none 0 0] 30 ?_; intro g_r hg w102 hbox hb; have G_r := kb_g HB hg; have O_r_y := kb_g B_y hg; have O_r_l := kb_g B_l hg; have O_r_q := kb_g B_q hg; replace HB := kb_b HB hb; replace B_y := kb_b B_y hb; replace B_l := kb_b B_l hb; replace B_q := kb_b B_q hb; replace RK := rk_b RK hb; clear hb; have V_r := Aside0.mk hbox; have B_r := Aside0.mk (Kb.refl (fun k => k = rb) w102); have N_r : Aside0 (¬ (fun k => k = rb) g_r) := ⟨by show ¬ (_ = _); have := HL.out; have := G_r.out; omega⟩; clear hbox hg))
 with_reducible refine (qofn_calls nl HNL.out.2.2 _).mono ?_
 rintro e w103 ⟨⟨v, rfl, hv⟩, hb⟩
 obtain ⟨tn, An, nn, cn, Dn, kn, zn, rfl⟩ := hv.agg
 have hle := Kb.size HB.out
 have hl_r := blk_lt (Kb.blk V_r.out B_r.out N_r.out)
 have hv_ := IsR.mono' (ok' := fun k => k ≠ rb ∧ k ≠ g_r ∧ w.heap.size ≤ k) hv (fun k hk _ => by have := HL.out; refine ⟨?_, ?_, ?_⟩ <;> omega)
 clear hv hle hl_r
 replace HB := kb_b HB hb
 replace B_y := kb_b B_y hb
 replace B_l := kb_b B_l hb
 replace B_q := kb_b B_q hb
 replace B_r := kb_b B_r hb
 replace RK := rk_b RK hb
 clear hb
 have V_vn := Aside0.mk hv_
 clear hv_
 have B_vn := Aside0.mk (Kb.refl (fun k => k = rb ∨ k = g_r) w103)
 go_wp2_with (first | ((with_reducible refine gate_dst (N := 11) rfl ?_); refine bx_ (N := 11) #[.bool false, .slice none 0 0, .slice none 0 0] 30 ?_; intro g_n hg w104 hbox hb; have G_n := kb_g HB hg; have O_n_y := kb_g B_y hg; have O_n_l := kb_g B_l hg; have O_n_q := kb_g B_q hg; have O_n_r := kb_g B_r hg; have O_n_vn := kb_g B_vn hg; replace HB := kb_b HB hb; replace B_y := kb_b B_y hb; replace B_l := kb_b B_l hb; replace B_q := kb_b B_q hb; replace B_r := kb_b B_r hb; replace B_vn := kb_b B_vn hb; replace RK := rk_b RK hb; clear hb; have V_n := Aside0.mk hbox; have B_n := Aside0.mk (Kb.refl (fun k => k = rb) w104); have N_n : Aside0 (¬ (fun k => k = rb) g_n) := ⟨by show ¬ (_ = _); have := HL.out; have := G_n.out; omega⟩; clear hbox hg) | ((with_reducible refine gate_store (t := 30) (p := 11) (v := .tmp 14) rfl ?_); refine store_ev (p := .tmp 11) (v := .tmp 14) rfl rfl rfl (g := g_n) rfl rfl (Kb.blk V_n.out B_n.out N_n.out) ?_; intro w105 hbox hk; replace HB := kb_t HB hk (fun i hi => by exact hi ▸ Or.inr G_n.out); replace B_y := kb_t B_y hk (fun i hi => by exact hi ▸ Or.inr O_n_y.out); replace B_l := kb_t B_l hk (fun i hi => by exact hi ▸ Or.inr O_n_l.out); replace B_q := kb_t B_q hk (fun i hi => by exact hi ▸ Or.inr O_n_q.out); replace B_r := kb_t B_r hk (fun i hi => by exact hi ▸ Or.inr O_n_r.out); replace B_vn := kb_t B_vn hk (fun i hi => by exact hi ▸ Or.inr O_n_vn.out); have Z_ := Aside0.mk (Rk.kb RK.out hk (by have := HL.out; have := G_n.out; omega)); clear RK; have RK := Z_; clear Z_; clear V_n B_n; have V_n := Aside0.mk hbox; have B_n := Aside0.mk (Kb.refl (fun k => k = rb) w105); clear hbox hk) | ((with_reducible refine gate_dst (N := 79) rfl ?_); refine load_at rfl rfl (g := bl) (k := (ol + n1 * 5 + 2)) rfl (Kb.cell (S := fun k => k = rb) C0.out.1 B_l.out hbl.out) (Kb.cell (S := fun k => k = rb) C0.out.2.1 B_l.out hbl.out) (Kb.cell (S := fun k => k = rb) C0.out.2.2 B_l.out hbl.out) ?_) | ((with_reducible refine gate_store (t := 30) (p := 10) (v := .tmp 79) rfl ?_); refine store_ev (p := .tmp 10) (v := .tmp 79) rfl rfl rfl (g := g_r) rfl rfl (Kb.blk V_r.out B_r.out N_r.out) ?_; intro w106 hbox hk; replace HB := kb_t HB hk (fun i hi => by exact hi ▸ Or.inr G_r.out); replace B_y := kb_t B_y hk (fun i hi => by exact hi ▸ Or.inr O_r_y.out); have Z_ := Aside0.mk (Rk.kb RK.out hk (by have := HL.out; have := G_r.out; omega)); clear RK; have RK := Z_; clear Z_; clear V_r B_r; have V_r := Aside0.mk hbox; have B_r := Aside0.mk (Kb.refl (fun k => k = rb) w106); clear hbox hk))
 have ha := HANS.out
 rw [← HNL.out.1] at ha
 rw [← HN1.out] at ha
 refine bodyPost_ret (results_cell_row rfl _ _ g_r 30 #[.bool ty, .slice Ay ny cy, .slice Dy ky zy] (0, 0) _ rfl (Kb.blk V_r.out B_r.out N_r.out) Try.underlying30 rfl (by kernel_rfl)) rfl ?_
 exact ⟨_, rfl, by rw [ha]; exact ((IsR.mono (IsR.kb (S := fun k => k = rb) V_y.out B_y.out (fun k h hs => h.1 hs)) (fun k h => Or.inl h.2.1))), by rw [ha]; exact RK.out, HB.out⟩
end Go.Proofs.Ytgdkgahbmfhgcaa.PN
