/- What the statement rests on, part 15: YH LF YL YA YF YM. -/
import Derived.Test.YtgdkgahbmfhgcaaR14
set_option linter.unusedVariables false
set_option linter.unusedSimpArgs false
set_option maxHeartbeats 4000000
set_option maxRecDepth 100000
namespace Go.Proofs.Ytgdkgahbmfhgcaa.PN
open Go.RowKit Go.Proofs.Ytgdkgahbmfhgcaa.NS Go.Proofs.Ytgdkgahbmfhgcaa.Limbs Go.Proofs.YtgdkgahbmfhgcaaW.PrintWords Go.Proofs.YtgdkgahbmfhgcaaW.PrintLast Go.Proofs.YtgdkgahbmfhgcaaW.PrintMore
def Mayqbad.T9 : Bool × List (List Nat × List Nat) := (true, [([], []), ([0], [0]), ([1], [1]), ([2], [2]), ([3, 2, 2], [2, 3]), ([4, 2], [2, 4]), ([5, 4, 2], [2, 5]), ([6], [6]), ([7, 6], [6, 7]), ([8, 6], [6, 8]), ([6, 9, 2], [2, 6, 9]), ([10, 6, 2], [2, 10]), ([11], [11]), ([11, 11], [11]), ([12, 13, 13, 11], [11, 12, 13]), ([14, 11], [11, 14]), ([11, 15, 2], [2, 11, 15]), ([2, 16], [2, 16]), ([17, 14, 0, 1, 2, 3, 4, 5, 6, 7, 8, 9, 10, 11, 12, 13, 14, 15, 16, 17], [17])])
def Mayqbad.B9 : List Nat := [0, 1, 3, 7, 15, 31, 63, 127, 255, 511, 1023, 2047, 4095, 4095, 16383, 32767, 65535, 131071, 262143]
theorem Mayqbad.tab9 : rtab .any (opsOf Try.f29 9) = Mayqbad.T9 := by kernel_rfl
theorem Mayqbad.bits9 : waitsOk Mayqbad.T9.2 Mayqbad.B9 = true := by kernel_rfl
def Mayqneg.T9 : Bool × List (List Nat × List Nat) := (true, [([], []), ([0], [0]), ([1], [1]), ([2], [2]), ([3, 2, 2], [2, 3]), ([4, 2], [2, 4]), ([5, 4, 2], [2, 5]), ([6], [6]), ([7, 6], [6, 7]), ([8, 6], [6, 8]), ([6, 9, 2], [2, 6, 9]), ([10, 6, 2], [2, 10]), ([11], [11]), ([11, 11], [11]), ([12, 13, 13, 11], [11, 12, 13]), ([14, 11], [11, 14]), ([11, 15, 2], [2, 11, 15]), ([2, 16], [2, 16]), ([17, 14, 0, 1, 2, 3, 4, 5, 6, 7, 8, 9, 10, 11, 12, 13, 14, 15, 16, 17], [17])])
def Mayqneg.B9 : List Nat := [0, 1, 3, 7, 15, 31, 63, 127, 255, 511, 1023, 2047, 4095, 4095, 16383, 32767, 65535, 131071, 262143]
theorem Mayqneg.tab9 : rtab .any (opsOf Try.f29 9) = Mayqneg.T9 := by kernel_rfl
theorem Mayqneg.bits9 : waitsOk Mayqneg.T9.2 Mayqneg.B9 = true := by kernel_rfl
def Mayqbig.T9 : Bool × List (List Nat × List Nat) := (true, [([], []), ([0], [0]), ([1], [1]), ([2], [2]), ([3, 2, 2], [2, 3]), ([4, 2], [2, 4]), ([5, 4, 2], [2, 5]), ([6], [6]), ([7, 6], [6, 7]), ([8, 6], [6, 8]), ([6, 9, 2], [2, 6, 9]), ([10, 6, 2], [2, 10]), ([11], [11]), ([11, 11], [11]), ([12, 13, 13, 11], [11, 12, 13]), ([14, 11], [11, 14]), ([11, 15, 2], [2, 11, 15]), ([2, 16], [2, 16]), ([17, 14, 0, 1, 2, 3, 4, 5, 6, 7, 8, 9, 10, 11, 12, 13, 14, 15, 16, 17], [17])])
def Mayqbig.B9 : List Nat := [0, 1, 3, 7, 15, 31, 63, 127, 255, 511, 1023, 2047, 4095, 4095, 16383, 32767, 65535, 131071, 262143]
theorem Mayqbig.tab9 : rtab .any (opsOf Try.f29 9) = Mayqbig.T9 := by kernel_rfl
theorem Mayqbig.bits9 : waitsOk Mayqbig.T9.2 Mayqbig.B9 = true := by kernel_rfl
theorem wabs_calls (over : Int) (nl : Nat) (hn0 : 0 < nl) (w : World) (tq : Bool) (Aq : Option Addr) (nq cq : Nat) (Dq : Option Addr) (kq zq : Nat) (Al : Option Addr) (cl : Nat) (hmay : ∀ W, Kb (fun k => False) w W → Calls Try.prog 29 #[.int .i64 5, .int .i64 over, .agg #[.bool tq, .slice Aq nq cq, .slice Dq kq zq], .slice Al nl cl] W fun e w' => e = .returned (.bool true) ∧ Below W.heap.size W w') :
 Calls Try.prog 16 #[.int .i64 5, .int .i64 over, .agg #[.bool tq, .slice Aq nq cq, .slice Dq kq zq], .slice Al nl cl] w fun e w' => e = .returned (.tuple #[.agg #[.bool false, .slice none 0 0, .slice none 0 0], .bool false, .int .i64 0]) ∧ Below w.heap.size w w' := by
 have hu30 := Try.underlying30
 have HM := a0_ hmay
 have g2 : ((nl : Int) == 0) = false := beq_eq_false_iff_ne.mpr (by omega)
 have g4 : decide ((nl : Int) = 0) = false := decide_eq_false (by omega)
 have g5 : (nl == 0) = false := beq_eq_false_iff_ne.mpr (by omega)
 clear hmay hn0
 have HB := kf_ w
 go_enter Try.func16, Try.ntmps16
 try go_step3
 go_wp2_with (first | ((with_reducible refine gd_ 6 rfl ?_); refine bx_ (N := 6) #[.bool tq, .slice Aq nq cq, .slice Dq kq zq] 30 ?_; intro g_q hg w101 hbox hb; have G_q := kb_g HB hg; replace HB := kb_b HB hb; clear hb; have V_q := a0_ hbox; have B_q := kf_ w101; have N_q := nf_ g_q; clear hbox hg) | ((with_reducible refine gd_ 8 rfl ?_); refine bx_ (N := 8) #[.bool false, .slice none 0 0, .slice none 0 0] 30 ?_; intro g_r hg w102 hbox hb; have G_r := kb_g HB hg; replace HB := kb_b HB hb; replace B_q := kb_b B_q hb; clear hb; have V_r := a0_ hbox; have B_r := kf_ w102; have N_r := nf_ g_r; clear hbox hg) | ((with_reducible refine gd_ 15 rfl ?_); refine load_ev rfl rfl (g := g_q) rfl (bk_ V_q B_q N_q) ?_))
 with_reducible refine (HM.out _ HB.out).mono ?_
 rintro e w103 ⟨rfl, hb⟩
 replace HB := kb_b HB hb
 replace B_q := kb_b B_q hb
 replace B_r := kb_b B_r hb
 clear hb
 clear V_q B_q
 go_wp2_with (first | ((with_reducible refine gt_ 30 8 37 rfl ?_); refine store_ev (p := .tmp 8) (v := .tmp 37) rfl rfl rfl (g := g_r) rfl rfl (bk_ V_r B_r N_r) ?_; intro w104 hbox hk; replace HB := kb_o HB hk G_r; clear V_r B_r; have V_r := a0_ hbox; have B_r := kf_ w104; clear hbox hk))
 refine bodyPost_ret (results_ctt rfl _ _ g_r 30 #[.bool false, .slice none 0 0, .slice none 0 0] (0, 0) _ rfl (bk_ V_r B_r N_r) Try.underlying30 rfl (by kernel_rfl)) rfl ?_
 exact ⟨rfl, (Kb.to_below HB.out (fun _ h => h.elim))⟩
theorem ValS.take {ss : List Smp} {qs : List Rat} (h : ValS ss qs) (k : Nat) : ValS (ss.take k) (qs.take k) := by
 refine ⟨by rw [List.length_take, List.length_take, h.1], fun i hi => ?_⟩
 rw [List.length_take] at hi
 have h2 := h.2 i (by omega)
 rw [List.getD_eq_getElem?_getD, List.getD_eq_getElem?_getD] at h2 ⊢
 rw [List.getElem?_take_of_lt (by omega), List.getElem?_take_of_lt (by omega)]
 exact h2
theorem ValS.drop {ss : List Smp} {qs : List Rat} (h : ValS ss qs) (k : Nat) : ValS (ss.drop k) (qs.drop k) := by
 refine ⟨by rw [List.length_drop, List.length_drop, h.1], fun i hi => ?_⟩
 rw [List.length_drop] at hi
 have h2 := h.2 (k + i) (by omega)
 rw [List.getD_eq_getElem?_getD, List.getD_eq_getElem?_getD] at h2 ⊢
 rw [List.getElem?_drop, List.getElem?_drop]
 exact h2
theorem RowS.le {ok : Nat → Prop} {w : World} {A : Option Addr} {c : Nat} {ss : List Smp} (h : RowS ok w (.slice A ss.length c) ss) : ss.length ≤ c := (Kd.V_at h).2.1
theorem told_nil (fn : Int) (w : World) (tq : Bool) (Aq : Option Addr) (nq cq : Nat) (Dq : Option Addr) (kq zq : Nat) (Al : Option Addr) (nl cl : Nat) (hrun2 : ∀ W, Kb (fun k => False) w W → Calls Try.prog 16 #[.int .i64 fn, .int .i64 1000, .agg #[.bool tq, .slice Aq nq cq, .slice Dq kq zq], .slice Al nl cl] W fun e w' => e = .returned (.tuple #[.agg #[.bool false, .slice none 0 0, .slice none 0 0], .bool false, .int .i64 0]) ∧ Below W.heap.size W w') :
 Calls Try.prog 11 #[.int .i64 fn, .agg #[.bool tq, .slice Aq nq cq, .slice Dq kq zq], .slice Al nl cl] w fun e w' => e = .returned (.tuple #[.agg #[.bool false, .slice none 0 0, .slice none 0 0], .bool false]) ∧ Below w.heap.size w w' := by
 have hu30 := Try.underlying30
 have HR := a0_ hrun2
 clear hrun2
 have HB := kf_ w
 go_enter Try.func11, Try.ntmps11
 go_wp2_with (first | ((with_reducible refine gd_ 4 rfl ?_); refine bx_ (N := 4) #[.bool tq, .slice Aq nq cq, .slice Dq kq zq] 30 ?_; intro g_q hg w101 hbox hb; have G_q := kb_g HB hg; replace HB := kb_b HB hb; clear hb; have V_q := a0_ hbox; have B_q := kf_ w101; have N_q := nf_ g_q; clear hbox hg) | ((with_reducible refine gd_ 6 rfl ?_); refine bx_ (N := 6) #[.bool false, .slice none 0 0, .slice none 0 0] 30 ?_; intro g_r hg w102 hbox hb; have G_r := kb_g HB hg; replace HB := kb_b HB hb; replace B_q := kb_b B_q hb; clear hb; have V_r := a0_ hbox; have B_r := kf_ w102; have N_r := nf_ g_r; clear hbox hg) | ((with_reducible refine gd_ 13 rfl ?_); refine load_ev rfl rfl (g := g_q) rfl (bk_ V_q B_q N_q) ?_))
 with_reducible refine (HR.out _ HB.out).mono ?_
 rintro e w103 ⟨rfl, hb⟩
 replace HB := kb_b HB hb
 replace B_q := kb_b B_q hb
 replace B_r := kb_b B_r hb
 clear hb
 clear V_q B_q
 go_wp2_with (first | ((with_reducible refine gd_ 8 rfl ?_); refine bx_ (N := 8) #[.bool false, .slice none 0 0, .slice none 0 0] 30 ?_; intro g_p hg w104 hbox hb; have G_p := kb_g HB hg; have O_p_r := kb_g B_r hg; replace HB := kb_b HB hb; replace B_r := kb_b B_r hb; clear hb; have V_p := a0_ hbox; have B_p := kf_ w104; have N_p := nf_ g_p; clear hbox hg) | ((with_reducible refine gt_ 30 8 16 rfl ?_); refine store_ev (p := .tmp 8) (v := .tmp 16) rfl rfl rfl (g := g_p) rfl rfl (bk_ V_p B_p N_p) ?_; intro w105 hbox hk; replace HB := kb_o HB hk G_p; replace B_r := kb_o B_r hk O_p_r; clear V_p B_p; have V_p := a0_ hbox; have B_p := kf_ w105; clear hbox hk) | ((with_reducible refine gd_ 19 rfl ?_); refine load_ev rfl rfl (g := g_p) rfl (bk_ V_p B_p N_p) ?_) | ((with_reducible refine gt_ 30 6 19 rfl ?_); refine store_ev (p := .tmp 6) (v := .tmp 19) rfl rfl rfl (g := g_r) rfl rfl (bk_ V_r B_r N_r) ?_; intro w106 hbox hk; replace HB := kb_o HB hk G_r; clear V_r B_r; have V_r := a0_ hbox; have B_r := kf_ w106; clear hbox hk))
 refine bodyPost_ret (results_ct rfl _ _ g_r 30 #[.bool false, .slice none 0 0, .slice none 0 0] (0, 0) _ rfl (bk_ V_r B_r N_r) Try.underlying30 rfl (by kernel_rfl)) rfl ?_
 exact ⟨rfl, (Kb.to_below HB.out (fun _ h => h.elim))⟩
def srt (qs : List Rat) : List Rat := qs.mergeSort (fun x y => decide (x ≤ y))
theorem srt_eq (qs qs' : List Rat) (h1 : qs'.Perm qs) (h2 : qs'.Pairwise (· ≤ ·)) : qs' = srt qs := by
 have h := List.pairwise_mergeSort (le := fun x y : Rat => decide (x ≤ y)) (fun a b c h1 h2 => decide_eq_true (Rat.le_trans (of_decide_eq_true h1) (of_decide_eq_true h2))) (fun a b => by rcases Rat.le_total (a := a) (b := b) with h | h <;> simp [h]) qs
 exact List.Perm.eq_of_pairwise (fun a b _ _ h1 h2 => Rat.le_antisymm h1 h2) h2 (h.imp (fun h => of_decide_eq_true h)) (h1.trans (List.mergeSort_perm _ _).symm)
theorem srt_perm (qs us : List Rat) (h : us.Perm qs) : srt us = srt qs := by
 refine srt_eq qs (srt us) ((List.mergeSort_perm _ _).trans h) ?_
 have h := List.pairwise_mergeSort (le := fun x y : Rat => decide (x ≤ y)) (fun a b c h1 h2 => decide_eq_true (Rat.le_trans (of_decide_eq_true h1) (of_decide_eq_true h2))) (fun a b => by rcases Rat.le_total (a := a) (b := b) with h | h <;> simp [h]) us
 exact h.imp (fun h => of_decide_eq_true h)
theorem rsum_perm {l m : List Rat} (h : l.Perm m) : rsum l = rsum m := by
 induction h with
 | nil => rfl
 | cons x _ ih => show x + rsum _ = x + rsum _; rw [ih]
 | swap x y l => show y + (x + rsum l) = x + (y + rsum l); rw [← Rat.add_assoc, ← Rat.add_assoc, Rat.add_comm y x]
 | trans _ _ ih1 ih2 => exact ih1.trans ih2
theorem ext_perm (mx : Bool) {l m : List Rat} (h : l.Perm m) (h0 : 0 < l.length) : extQ mx l = extQ mx m := by
 have h0' : 0 < m.length := by rw [← h.length_eq]; exact h0
 obtain ⟨a1, a2⟩ := ext_mem mx l h0
 obtain ⟨b1, b2⟩ := ext_mem mx m h0'
 have c1 := a2 _ (h.mem_iff.2 b1)
 have c2 := b2 _ (h.mem_iff.1 a1)
 cases mx with
 | false => exact Rat.le_antisymm c1 c2
 | true => exact Rat.le_antisymm c2 c1
def bsum (ss : List Smp) : Int := (ss.map (·.by_)).sum
theorem bsum_perm {l m : List Smp} (h : l.Perm m) : bsum l = bsum m := by
 unfold bsum
 induction h with
 | nil => rfl
 | cons x _ ih => rw [List.map_cons, List.map_cons, List.sum_cons, List.sum_cons, ih]
 | swap x y l => rw [List.map_cons, List.map_cons, List.map_cons, List.map_cons, List.sum_cons, List.sum_cons, List.sum_cons, List.sum_cons]; omega
 | trans _ _ ih1 ih2 => exact ih1.trans ih2
theorem sum_bs (ss : List Smp) (h : ∀ s ∈ ss, 0 ≤ s.by_ ∧ s.by_ < 5000) : ∀ a : Int, 0 ≤ a → a + ss.length * 5000 ≤ 1000000000 → sumO (some (a : Rat)) (bytesQ ss) = some ((a + bsum ss : Int) : Rat) := by
 induction ss with
 | nil => intro a h0 h1; show some _ = some _; rw [show bsum [] = 0 from rfl, Int.add_zero]
 | cons x ss ih =>
  intro a h0 h1
  have hx := h x List.mem_cons_self
  rw [List.length_cons] at h1
  have e : addO (some (a : Rat)) (x.by_ : Rat) = some ((a + x.by_ : Int) : Rat) := by
   show fit ((a : Rat) + (x.by_ : Rat)) = _
   rw [← Rat.intCast_add]
   unfold fit
   rw [if_pos (fit_int _ (by omega) (by omega))]
  show sumO (addO (some (a : Rat)) (x.by_ : Rat)) (bytesQ ss) = _
  rw [e, ih (fun y hy => h y (List.mem_cons_of_mem _ hy)) (a + x.by_) (by omega) (by omega)]
  have e2 : bsum (x :: ss) = x.by_ + bsum ss := by unfold bsum; rw [List.map_cons, List.sum_cons]
  rw [e2, Int.add_assoc]
def ordA (fn : Int) (q : Rat) (ss : List Smp) (qs : List Rat) : Option Rat :=
 if ss.length = 0 then (if fn = 5 then some 1 else none) else if fn = 1 then some (ss.length : Rat) else if fn = 2 then rateO (some (ss.length : Rat)) ((1000 : Int) : Rat) else if fn = 3 then sumO (some 0) (bytesQ ss) else
  if fn = 4 then rateO (sumO (some 0) (bytesQ ss)) ((1000 : Int) : Rat) else if fn = 5 then none else if fn = 6 then sumO (some 0) qs else if fn = 7 then doO (sumO (some 0) qs).isNone (fun x y => x / y) (sumO (some 0) qs) (some (ss.length : Rat)) else
  if fn = 8 then some (extQ false qs) else if fn = 9 then some (extQ true qs) else quantO q (srt qs)
theorem ordA_perm (fn : Int) (q : Rat) {ss ts : List Smp} {qs us : List Rat} (h1 : ts.Perm ss) (h2 : us.Perm qs) (hb : ∀ s ∈ ss, 0 ≤ s.by_ ∧ s.by_ < 5000) (hq : ∀ x ∈ qs, Part x) (h30 : ss.length ≤ 30) (hlq : qs.length = ss.length) : ordA fn q ts us = ordA fn q ss qs := by
 have hl := h1.length_eq
 have e3 : sumO (some 0) (bytesQ ts) = sumO (some 0) (bytesQ ss) := by
  have a1 := sum_bs ts (fun s hs => hb s (h1.mem_iff.1 hs)) 0 (by omega) (by rw [hl]; omega)
  have a2 := sum_bs ss hb 0 (by omega) (by omega)
  rw [bsum_perm h1] at a1
  exact a1.trans a2.symm
 have e6 : sumO (some 0) us = sumO (some 0) qs := by
  rw [(sum0_part us (fun x hx => hq x (h2.mem_iff.1 hx)) (by rw [h2.length_eq]; omega)).1, (sum0_part qs hq (by omega)).1, rsum_perm h2]
 unfold ordA
 rw [hl, e3, e6, srt_perm qs us h2]
 by_cases h0 : ss.length = 0
 · rw [if_pos h0, if_pos h0]
 · rw [if_neg h0, if_neg h0, ext_perm false h2 (by rw [h2.length_eq]; omega), ext_perm true h2 (by rw [h2.length_eq]; omega)]
theorem wempty_calls (fn over : Int) (h5 : ¬ fn = 5) (w : World) (tq : Bool) (Aq : Option Addr) (nq cq : Nat) (Dq : Option Addr) (kq zq : Nat) (Al : Option Addr) (cl : Nat) (hmay : ∀ W, Kb (fun k => False) w W → Calls Try.prog 29 #[.int .i64 fn, .int .i64 over, .agg #[.bool tq, .slice Aq nq cq, .slice Dq kq zq], .slice Al 0 cl] W fun e w' => e = .returned (.bool true) ∧ Below W.heap.size W w') :
 Calls Try.prog 16 #[.int .i64 fn, .int .i64 over, .agg #[.bool tq, .slice Aq nq cq, .slice Dq kq zq], .slice Al 0 cl] w fun e w' => e = .returned (.tuple #[.agg #[.bool false, .slice none 0 0, .slice none 0 0], .bool false, .int .i64 0]) ∧ Below w.heap.size w w' := by
 have hu30 := Try.underlying30
 have HM := a0_ hmay
 have g2 : (fn == 5) = false := beq_eq_false_iff_ne.mpr h5
 have g4 : decide (fn = 5) = false := decide_eq_false h5
 clear hmay
 have HB := kf_ w
 go_enter Try.func16, Try.ntmps16
 try go_step3
 go_wp2_with (first | ((with_reducible refine gd_ 6 rfl ?_); refine bx_ (N := 6) #[.bool tq, .slice Aq nq cq, .slice Dq kq zq] 30 ?_; intro g_q hg w101 hbox hb; have G_q := kb_g HB hg; replace HB := kb_b HB hb; clear hb; have V_q := a0_ hbox; have B_q := kf_ w101; have N_q := nf_ g_q; clear hbox hg) | ((with_reducible refine gd_ 8 rfl ?_); refine bx_ (N := 8) #[.bool false, .slice none 0 0, .slice none 0 0] 30 ?_; intro g_r hg w102 hbox hb; have G_r := kb_g HB hg; replace HB := kb_b HB hb; replace B_q := kb_b B_q hb; clear hb; have V_r := a0_ hbox; have B_r := kf_ w102; have N_r := nf_ g_r; clear hbox hg) | ((with_reducible refine gd_ 15 rfl ?_); refine load_ev rfl rfl (g := g_q) rfl (bk_ V_q B_q N_q) ?_))
 with_reducible refine (HM.out _ HB.out).mono ?_
 rintro e w103 ⟨rfl, hb⟩
 replace HB := kb_b HB hb
 replace B_q := kb_b B_q hb
 replace B_r := kb_b B_r hb
 clear hb
 clear V_q B_q
 go_wp2_with (first | ((with_reducible refine gt_ 30 8 37 rfl ?_); refine store_ev (p := .tmp 8) (v := .tmp 37) rfl rfl rfl (g := g_r) rfl rfl (bk_ V_r B_r N_r) ?_; intro w104 hbox hk; replace HB := kb_o HB hk G_r; clear V_r B_r; have V_r := a0_ hbox; have B_r := kf_ w104; clear hbox hk))
 refine bodyPost_ret (results_ctt rfl _ _ g_r 30 #[.bool false, .slice none 0 0, .slice none 0 0] (0, 0) _ rfl (bk_ V_r B_r N_r) Try.underlying30 rfl (by kernel_rfl)) rfl ?_
 exact ⟨rfl, (Kb.to_below HB.out (fun _ h => h.elim))⟩
theorem wempty5_calls (over : Int) (w : World) (tq : Bool) (Aq : Option Addr) (nq cq : Nat) (Dq : Option Addr) (kq zq : Nat) (Al : Option Addr) (cl : Nat) (hmay : ∀ W, Kb (fun k => False) w W → Calls Try.prog 29 #[.int .i64 5, .int .i64 over, .agg #[.bool tq, .slice Aq nq cq, .slice Dq kq zq], .slice Al 0 cl] W fun e w' => e = .returned (.bool true) ∧ Below W.heap.size W w') :
 Calls Try.prog 16 #[.int .i64 5, .int .i64 over, .agg #[.bool tq, .slice Aq nq cq, .slice Dq kq zq], .slice Al 0 cl] w fun e w' => (∃ v, e = .returned (.tuple #[v, .bool true, .int .i64 0]) ∧ IsR (fun k => w.heap.size ≤ k) w' v 1) ∧ Below w.heap.size w w' := by
 have hu30 := Try.underlying30
 have HM := a0_ hmay
 clear hmay
 have HB := kf_ w
 go_enter Try.func16, Try.ntmps16
 try go_step3
 go_wp2_with (first | ((with_reducible refine gd_ 6 rfl ?_); refine bx_ (N := 6) #[.bool tq, .slice Aq nq cq, .slice Dq kq zq] 30 ?_; intro g_q hg w101 hbox hb; have G_q := kb_g HB hg; replace HB := kb_b HB hb; clear hb; have V_q := a0_ hbox; have B_q := kf_ w101; have N_q := nf_ g_q; clear hbox hg) | ((with_reducible refine gd_ 8 rfl ?_); refine bx_ (N := 8) #[.bool false, .slice none 0 0, .slice none 0 0] 30 ?_; intro g_r hg w102 hbox hb; have G_r := kb_g HB hg; replace HB := kb_b HB hb; replace B_q := kb_b B_q hb; clear hb; have V_r := a0_ hbox; have B_r := kf_ w102; have N_r := nf_ g_r; clear hbox hg) | ((with_reducible refine gd_ 15 rfl ?_); refine load_ev rfl rfl (g := g_q) rfl (bk_ V_q B_q N_q) ?_))
 with_reducible refine (HM.out _ HB.out).mono ?_
 rintro e w103 ⟨rfl, hb⟩
 replace HB := kb_b HB hb
 replace B_q := kb_b B_q hb
 replace B_r := kb_b B_r hb
 clear hb
 clear V_q B_q
 go_wp2_with fail
 with_reducible refine (qof_calls 1 (by omega) (by omega) _).mono ?_
 rintro e w104 ⟨⟨v, rfl, hv⟩, hb⟩
 have hv : IsR _ _ _ (1 : Rat) := hv
 obtain ⟨tv, Av, nv, cv, Dv, kv, zv, rfl⟩ := hv.agg
 have hle := Kb.size HB.out
 have hl_r := blk_lt (bk_ V_r B_r N_r)
 have hv_ := IsR.mono' (ok' := fun k => True ∧ k ≠ g_r ∧ w.heap.size ≤ k) hv (fun k hk _ => by refine ⟨?_, ?_, ?_⟩ <;> first | trivial | omega)
 clear hv hle hl_r
 replace HB := kb_b HB hb
 replace B_r := kb_b B_r hb
 clear hb
 have V_v := a0_ hv_
 clear hv_
 have B_v := a0_ (Kb.refl (fun k => False ∨ k = g_r) w104)
 go_wp2_with (first | ((with_reducible refine gt_ 30 8 28 rfl ?_); refine store_ev (p := .tmp 8) (v := .tmp 28) rfl rfl rfl (g := g_r) rfl rfl (bk_ V_r B_r N_r) ?_; intro w105 hbox hk; replace HB := kb_o HB hk G_r; replace B_v := kb_t B_v hk (fun i hi => by exact Or.inl (Or.inr hi)); clear V_r B_r; have V_r := a0_ hbox; have B_r := kf_ w105; clear hbox hk))
 refine bodyPost_ret (results_ctt rfl _ _ g_r 30 #[.bool tv, .slice Av nv cv, .slice Dv kv zv] (0, 0) _ rfl (bk_ V_r B_r N_r) Try.underlying30 rfl (by kernel_rfl)) rfl ?_
 exact ⟨⟨_, rfl, (IsR.mono (IsR.kb (S := fun k => False ∨ k = g_r) V_v.out B_v.out (fun k h hs => hs.elim (fun f => f) h.2.1)) (fun k h => h.2.2))⟩, (Kb.to_below HB.out (fun _ h => h.elim))⟩
theorem told_none {P : Option Rat → Prop} {f : FuncId} {args : Array Value} {w : World} (o : Option Rat) (ho : o = none) (h : Calls Try.prog f args w fun e w' => e = .returned (.tuple #[.agg #[.bool false, .slice none 0 0, .slice none 0 0], .bool false]) ∧ Below w.heap.size w w') :
 Calls Try.prog f args w fun e w' => (∃ v, e = .returned (.tuple #[v, .bool o.isSome]) ∧ Res (fun k => w.heap.size ≤ k) w' v o) ∧ Below w.heap.size w w' := by
 subst ho
 refine h.mono ?_
 rintro e w' ⟨rfl, hb⟩
 exact ⟨⟨_, rfl, IsT.zero _ _⟩, hb⟩
theorem told_sem {okl okq : Nat → Prop} (fn : Int) (hf : 1 ≤ fn ∧ fn ≤ 12 ∧ fn ≠ 10 ∧ fn ≠ 11) (ss : List Smp) (qs : List Rat) (hb : ∀ s ∈ ss, 0 ≤ s.by_ ∧ s.by_ < 5000) (hvs : ValS ss qs) (h30 : ss.length ≤ 30) (q : Rat) (hq0 : 0 ≤ q) (hq1 : q ≤ 1) (w : World) (tq : Bool) (Aq : Option Addr) (nq cq : Nat) (Dq : Option Addr) (kq zq : Nat) (hq : IsR okq w (.agg #[.bool tq, .slice Aq nq cq, .slice Dq kq zq]) q) (Al : Option Addr) (cl : Nat) (hl : RowS okl w (.slice Al ss.length cl) ss) :
 Calls Try.prog 11 #[.int .i64 fn, .agg #[.bool tq, .slice Aq nq cq, .slice Dq kq zq], .slice Al ss.length cl] w fun e w' => (∃ v, e = .returned (.tuple #[v, .bool (ordA fn q ss qs).isSome]) ∧ Res (fun k => w.heap.size ≤ k) w' v (ordA fn q ss qs)) ∧ Below w.heap.size w w' := by
 have hby := bys_of ss hb
 have key : ∀ (fn : Int), (∀ W, Kb (fun k => False) w W → Calls Try.prog 16 #[.int .i64 fn, .int .i64 1000, .agg #[.bool tq, .slice Aq nq cq, .slice Dq kq zq], .slice Al ss.length cl] W fun e w' => (∃ v ans, (ans = ordA fn q ss qs) ∧ e = .returned (.tuple #[v, .bool ans.isSome, .int .i64 (eno ans)]) ∧ Res (fun k => W.heap.size ≤ k) w' v ans) ∧ Below W.heap.size W w') →
  Calls Try.prog 11 #[.int .i64 fn, .agg #[.bool tq, .slice Aq nq cq, .slice Dq kq zq], .slice Al ss.length cl] w fun e w' => (∃ v, e = .returned (.tuple #[v, .bool (ordA fn q ss qs).isSome]) ∧ Res (fun k => w.heap.size ≤ k) w' v (ordA fn q ss qs)) ∧ Below w.heap.size w w' := fun fn h => by
  refine (told_calls (fun a => a = ordA fn q ss qs) fn w tq Aq nq cq Dq kq zq Al ss.length cl h).mono ?_
  rintro e w' ⟨⟨v, ans, rfl, he, hv⟩, hb2⟩
  exact ⟨⟨v, he, hv⟩, hb2⟩
 have hr : ∀ W, Kb (fun k => False) w W → RowS okl W (.slice Al ss.length cl) ss := fun W hW => RowS.kb hl hW (fun _ _ h => h)
 have hqW : ∀ W, Kb (fun k => False) w W → IsR okq W (.agg #[.bool tq, .slice Aq nq cq, .slice Dq kq zq]) q := fun W hW => IsR.kb hq hW (fun _ _ h => h)
 have hsz : ss.length ≤ 1000000 := by omega
 have hfn : fn = 1 ∨ fn = 2 ∨ fn = 3 ∨ fn = 4 ∨ fn = 5 ∨ fn = 6 ∨ fn = 7 ∨ fn = 8 ∨ fn = 9 ∨ fn = 12 := by omega
 by_cases h0 : ss.length = 0
 · have hA : ∀ fn : Int, ordA fn q ss qs = if fn = 5 then some 1 else none := fun fn => by unfold ordA; rw [if_pos h0]
   have hAl : ∀ (n : Nat) (P : Nat → Prop), n = 0 → P 0 → P n := fun n P e h => by subst e; exact h
   rcases hfn with rfl | rfl | rfl | rfl | rfl | rfl | rfl | rfl | rfl | rfl
   · refine told_none (P := fun _ => True) _ (by rw [hA, if_neg (by decide)]) (told_nil 1 w tq Aq nq cq Dq kq zq Al ss.length cl (fun W hW => ?_))
     have hm := fun W2 (hW2 : Kb (fun k => False) W W2) => may1_calls (okl := okl) 1000 (by decide) (by decide) ss hby hsz W2 tq Aq nq cq Dq kq zq _ (hr W2 (hW.trans hW2))
     rw [h0] at hm ⊢
     exact wempty_calls 1 1000 (by decide) W tq Aq nq cq Dq kq zq Al cl hm
   · refine told_none (P := fun _ => True) _ (by rw [hA, if_neg (by decide)]) (told_nil 2 w tq Aq nq cq Dq kq zq Al ss.length cl (fun W hW => ?_))
     have hm := fun W2 (hW2 : Kb (fun k => False) W W2) => may2_calls (okl := okl) 1000 (by decide) (by decide) ss hby hsz W2 tq Aq nq cq Dq kq zq _ (hr W2 (hW.trans hW2))
     rw [h0] at hm ⊢
     exact wempty_calls 2 1000 (by decide) W tq Aq nq cq Dq kq zq Al cl hm
   · refine told_none (P := fun _ => True) _ (by rw [hA, if_neg (by decide)]) (told_nil 3 w tq Aq nq cq Dq kq zq Al ss.length cl (fun W hW => ?_))
     have hm := fun W2 (hW2 : Kb (fun k => False) W W2) => may3_calls (okl := okl) 1000 (by decide) (by decide) ss hby hsz W2 tq Aq nq cq Dq kq zq _ (hr W2 (hW.trans hW2))
     rw [h0] at hm ⊢
     exact wempty_calls 3 1000 (by decide) W tq Aq nq cq Dq kq zq Al cl hm
   · refine told_none (P := fun _ => True) _ (by rw [hA, if_neg (by decide)]) (told_nil 4 w tq Aq nq cq Dq kq zq Al ss.length cl (fun W hW => ?_))
     have hm := fun W2 (hW2 : Kb (fun k => False) W W2) => may4_calls (okl := okl) 1000 (by decide) (by decide) ss hby hsz W2 tq Aq nq cq Dq kq zq _ (hr W2 (hW.trans hW2))
     rw [h0] at hm ⊢
     exact wempty_calls 4 1000 (by decide) W tq Aq nq cq Dq kq zq Al cl hm
   · refine key 5 (fun W hW => ?_)
     have hm := fun W2 (hW2 : Kb (fun k => False) W W2) => may5_calls (okl := okl) 1000 (by decide) (by decide) ss hby hsz W2 tq Aq nq cq Dq kq zq _ (hr W2 (hW.trans hW2))
     rw [h0] at hm ⊢
     refine (wempty5_calls 1000 W tq Aq nq cq Dq kq zq Al cl hm).mono ?_
     rintro e w' ⟨⟨v, rfl, hv⟩, hb2⟩
     exact ⟨⟨v, some 1, by rw [hA, if_pos rfl], rfl, hv⟩, hb2⟩
   · refine told_none (P := fun _ => True) _ (by rw [hA, if_neg (by decide)]) (told_nil 6 w tq Aq nq cq Dq kq zq Al ss.length cl (fun W hW => ?_))
     have hm := fun W2 (hW2 : Kb (fun k => False) W W2) => may6_calls (okl := okl) 1000 (by decide) (by decide) ss hby qs hvs hsz W2 tq Aq nq cq Dq kq zq _ (hr W2 (hW.trans hW2))
     rw [h0] at hm ⊢
     exact wempty_calls 6 1000 (by decide) W tq Aq nq cq Dq kq zq Al cl hm
   · refine told_none (P := fun _ => True) _ (by rw [hA, if_neg (by decide)]) (told_nil 7 w tq Aq nq cq Dq kq zq Al ss.length cl (fun W hW => ?_))
     have hm := fun W2 (hW2 : Kb (fun k => False) W W2) => may7_calls (okl := okl) 1000 (by decide) (by decide) ss hby qs hvs hsz W2 tq Aq nq cq Dq kq zq _ (hr W2 (hW.trans hW2))
     rw [h0] at hm ⊢
     exact wempty_calls 7 1000 (by decide) W tq Aq nq cq Dq kq zq Al cl hm
   · refine told_none (P := fun _ => True) _ (by rw [hA, if_neg (by decide)]) (told_nil 8 w tq Aq nq cq Dq kq zq Al ss.length cl (fun W hW => ?_))
     have hm := fun W2 (hW2 : Kb (fun k => False) W W2) => may8_calls (okl := okl) 1000 (by decide) (by decide) ss hby qs hvs hsz W2 tq Aq nq cq Dq kq zq _ (hr W2 (hW.trans hW2))
     rw [h0] at hm ⊢
     exact wempty_calls 8 1000 (by decide) W tq Aq nq cq Dq kq zq Al cl hm
   · refine told_none (P := fun _ => True) _ (by rw [hA, if_neg (by decide)]) (told_nil 9 w tq Aq nq cq Dq kq zq Al ss.length cl (fun W hW => ?_))
     have hm := fun W2 (hW2 : Kb (fun k => False) W W2) => may9_calls (okl := okl) 1000 (by decide) (by decide) ss hby qs hvs hsz W2 tq Aq nq cq Dq kq zq _ (hr W2 (hW.trans hW2))
     rw [h0] at hm ⊢
     exact wempty_calls 9 1000 (by decide) W tq Aq nq cq Dq kq zq Al cl hm
   · refine told_none (P := fun _ => True) _ (by rw [hA, if_neg (by decide)]) (told_nil 12 w tq Aq nq cq Dq kq zq Al ss.length cl (fun W hW => ?_))
     have hm := fun W2 (hW2 : Kb (fun k => False) W W2) => may12_calls (okl := okl) 1000 (by decide) (by decide) ss hby qs hvs hsz W2 (.agg #[.bool tq, .slice Aq nq cq, .slice Dq kq zq]) _ (hr W2 (hW.trans hW2)) q hq0 hq1 (hqW W2 (hW.trans hW2))
     rw [h0] at hm ⊢
     exact wempty_calls 12 1000 (by decide) W tq Aq nq cq Dq kq zq Al cl hm
 · have hn0 : 0 < ss.length := by omega
   rcases hfn with rfl | rfl | rfl | rfl | rfl | rfl | rfl | rfl | rfl | rfl
   · refine key 1 (fun W hW => (wrun1 1000 (by omega) (by omega) ss hby hn0 hsz W tq Aq nq cq Dq kq zq Al cl (hr W hW)).mono ?_)
     rintro e w' ⟨⟨v, ans, ha, he, hv⟩, hb2⟩
     exact ⟨⟨v, ans, (show ans = _ from ha).trans (by unfold ordA; rw [if_neg h0, if_pos rfl]), he, hv⟩, hb2⟩
   · refine key 2 (fun W hW => (wrun2 1000 (by omega) (by omega) ss hby hn0 hsz W tq Aq nq cq Dq kq zq Al cl (hr W hW)).mono ?_)
     rintro e w' ⟨⟨v, ans, ha, he, hv⟩, hb2⟩
     exact ⟨⟨v, ans, (show ans = _ from ha).trans (by unfold ordA; rw [if_neg h0, if_neg (show ¬ (2 : Int) = 1 by decide), if_pos rfl]), he, hv⟩, hb2⟩
   · refine key 3 (fun W hW => (wrun3 1000 (by omega) (by omega) ss hby hn0 hsz W tq Aq nq cq Dq kq zq Al cl (hr W hW)).mono ?_)
     rintro e w' ⟨⟨v, ans, ha, he, hv⟩, hb2⟩
     exact ⟨⟨v, ans, (show ans = _ from ha).trans (by unfold ordA; rw [if_neg h0, if_neg (show ¬ (3 : Int) = 1 by decide), if_neg (show ¬ (3 : Int) = 2 by decide), if_pos rfl]), he, hv⟩, hb2⟩
   · refine key 4 (fun W hW => (wrun4 1000 (by omega) (by omega) ss hby hn0 hsz W tq Aq nq cq Dq kq zq Al cl (hr W hW)).mono ?_)
     rintro e w' ⟨⟨v, ans, ha, he, hv⟩, hb2⟩
     exact ⟨⟨v, ans, (show ans = _ from ha).trans (by unfold ordA; rw [if_neg h0, if_neg (show ¬ (4 : Int) = 1 by decide), if_neg (show ¬ (4 : Int) = 2 by decide), if_neg (show ¬ (4 : Int) = 3 by decide), if_pos rfl]), he, hv⟩, hb2⟩
   · refine told_none (P := fun _ => True) _ (by unfold ordA; rw [if_neg h0, if_neg (show ¬ (5 : Int) = 1 by decide), if_neg (show ¬ (5 : Int) = 2 by decide), if_neg (show ¬ (5 : Int) = 3 by decide), if_neg (show ¬ (5 : Int) = 4 by decide), if_pos rfl]) (told_nil 5 w tq Aq nq cq Dq kq zq Al ss.length cl (fun W hW => wabs_calls 1000 ss.length hn0 W tq Aq nq cq Dq kq zq Al cl (fun W2 hW2 => may5_calls (okl := okl) 1000 (by decide) (by decide) ss hby hsz W2 tq Aq nq cq Dq kq zq _ (hr W2 (hW.trans hW2)))))
   · refine key 6 (fun W hW => (wrun6 1000 (by omega) (by omega) ss hby qs hvs hn0 hsz W tq Aq nq cq Dq kq zq Al cl (hr W hW)).mono ?_)
     rintro e w' ⟨⟨v, ans, ha, he, hv⟩, hb2⟩
     exact ⟨⟨v, ans, (show ans = _ from ha).trans (by unfold ordA; rw [if_neg h0, if_neg (show ¬ (6 : Int) = 1 by decide), if_neg (show ¬ (6 : Int) = 2 by decide), if_neg (show ¬ (6 : Int) = 3 by decide), if_neg (show ¬ (6 : Int) = 4 by decide), if_neg (show ¬ (6 : Int) = 5 by decide), if_pos rfl]), he, hv⟩, hb2⟩
   · refine key 7 (fun W hW => (wrun7 1000 (by omega) (by omega) ss hby qs hvs hn0 hsz W tq Aq nq cq Dq kq zq Al cl (hr W hW)).mono ?_)
     rintro e w' ⟨⟨v, ans, ha, he, hv⟩, hb2⟩
     exact ⟨⟨v, ans, (show ans = _ from ha).trans (by unfold ordA; rw [if_neg h0, if_neg (show ¬ (7 : Int) = 1 by decide), if_neg (show ¬ (7 : Int) = 2 by decide), if_neg (show ¬ (7 : Int) = 3 by decide), if_neg (show ¬ (7 : Int) = 4 by decide), if_neg (show ¬ (7 : Int) = 5 by decide), if_neg (show ¬ (7 : Int) = 6 by decide), if_pos rfl]), he, hv⟩, hb2⟩
   · refine key 8 (fun W hW => (wrun8 1000 (by omega) (by omega) ss hby qs hvs hn0 hsz W tq Aq nq cq Dq kq zq Al cl (hr W hW)).mono ?_)
     rintro e w' ⟨⟨v, ans, ha, he, hv⟩, hb2⟩
     exact ⟨⟨v, ans, (show ans = _ from ha).trans (by unfold ordA; rw [if_neg h0, if_neg (show ¬ (8 : Int) = 1 by decide), if_neg (show ¬ (8 : Int) = 2 by decide), if_neg (show ¬ (8 : Int) = 3 by decide), if_neg (show ¬ (8 : Int) = 4 by decide), if_neg (show ¬ (8 : Int) = 5 by decide), if_neg (show ¬ (8 : Int) = 6 by decide), if_neg (show ¬ (8 : Int) = 7 by decide), if_pos rfl]), he, hv⟩, hb2⟩
   · refine key 9 (fun W hW => (wrun9 1000 (by omega) (by omega) ss hby qs hvs hn0 hsz W tq Aq nq cq Dq kq zq Al cl (hr W hW)).mono ?_)
     rintro e w' ⟨⟨v, ans, ha, he, hv⟩, hb2⟩
     exact ⟨⟨v, ans, (show ans = _ from ha).trans (by unfold ordA; rw [if_neg h0, if_neg (show ¬ (9 : Int) = 1 by decide), if_neg (show ¬ (9 : Int) = 2 by decide), if_neg (show ¬ (9 : Int) = 3 by decide), if_neg (show ¬ (9 : Int) = 4 by decide), if_neg (show ¬ (9 : Int) = 5 by decide), if_neg (show ¬ (9 : Int) = 6 by decide), if_neg (show ¬ (9 : Int) = 7 by decide), if_neg (show ¬ (9 : Int) = 8 by decide), if_pos rfl]), he, hv⟩, hb2⟩
   · refine key 12 (fun W hW => (wrun12 1000 (by omega) (by omega) ss hby qs hvs q hq0 hq1 hsz hn0 hsz W tq Aq nq cq Dq kq zq Al cl (hr W hW) (hqW W hW)).mono ?_)
     rintro e w' ⟨⟨v, ans, ⟨qs', hp, hw, ha⟩, he, hv⟩, hb2⟩
     exact ⟨⟨v, ans, by rw [ha, srt_eq qs qs' hp hw]; unfold ordA; rw [if_neg h0, if_neg (show ¬ (12 : Int) = 1 by decide), if_neg (show ¬ (12 : Int) = 2 by decide), if_neg (show ¬ (12 : Int) = 3 by decide), if_neg (show ¬ (12 : Int) = 4 by decide), if_neg (show ¬ (12 : Int) = 5 by decide), if_neg (show ¬ (12 : Int) = 6 by decide), if_neg (show ¬ (12 : Int) = 7 by decide), if_neg (show ¬ (12 : Int) = 8 by decide), if_neg (show ¬ (12 : Int) = 9 by decide)], he, hv⟩, hb2⟩
theorem q100 : ∀ n : Fin 101, FitR (((n.val : Int) : Rat) / ((100 : Int) : Rat)) ∧ 0 ≤ ((n.val : Int) : Rat) / ((100 : Int) : Rat) ∧ ((n.val : Int) : Rat) / ((100 : Int) : Rat) ≤ 1 := by decide +kernel
theorem q01 (r : Int) (h0 : 0 ≤ r) (h1 : r ≤ 100) : FitR ((r : Rat) / ((100 : Int) : Rat)) ∧ 0 ≤ (r : Rat) / ((100 : Int) : Rat) ∧ (r : Rat) / ((100 : Int) : Rat) ≤ 1 := by
 obtain ⟨n, rfl⟩ := Int.eq_ofNat_of_zero_le h0
 exact q100 ⟨n, by omega⟩
section
variable {P : Program} {ops : Array Oper} {Q : Exit → Act → World → Prop} {rest : List Oper} {o : Oper} {a : Act} {W : World}
end
open Go.Sort Go.Lib Go.Shelf
abbrev ElS (ok : Nat → Prop) (w : World) (g : Nat) : Type := {c : Cs × Smp // ∀ q, c.2.q = some q → IsR (fun j => ok j ∧ j ≠ g) w (.agg c.1.l.toArray) q}
def encS {ok : Nat → Prop} {w : World} {g : Nat} (x : ElS ok w g) : List Value := .int .i64 x.1.2.at_ :: .int .i64 x.1.2.by_ :: x.1.1.l
theorem to_holdsS {ok : Nat → Prop} {w : World} {base n cap : Nat} {A : Option Addr} {qs : List Smp} (h : Kd.N kdS 39 w base ok (.slice A n cap) qs) (hn : 0 < qs.length) :
 ∃ (g off : Nat) (i0 : Inhabited (ElS ok w g)) (d : Array (ElS ok w g)), off = 0 ∧ A = some ⟨g, off, none⟩ ∧ base ≤ g ∧ g < w.heap.size ∧ ok g ∧ HoldsK encS 5 w g off d ∧ d.toList.map (fun c => c.1.2) = qs ∧ n = qs.length ∧ n ≤ cap := by
 obtain ⟨h0, rows, hl, ⟨hr0, inner, ⟨hlen, ho⟩, hr⟩, hf⟩ := h
 have hsz3 : (Kd.raw kdS.sz).sz = 5 := rfl
 rcases ho with ⟨_, hz⟩ | ⟨g, cap', cur, e, hb, hblk, hle, hcap, hsz, htk⟩
 · omega
 injection e with e1 e2 e3
 subst e1 e3
 rw [hsz3] at hlen hsz htk
 have hr2 := hr.2
 rw [hsz3] at hr2
 have hex : ∀ j : Fin qs.length, ∃ c : ElS ok w g, c.1.2 = qs[j] ∧ rows[j.1]? = some (encS c) := fun j => by
  have hj : j.1 < rows.length := by omega
  obtain ⟨c, hc, hi⟩ := kdS_FK (hf j.1 qs[j] rows[j.1] (List.getElem?_eq_getElem j.2) (List.getElem?_eq_getElem hj))
  refine ⟨⟨(c, qs[j]), fun q hq => IsR.mono (hi q hq) (fun k hk => ⟨hk.1, fun e => hk.2 (by rw [e]; rfl)⟩)⟩, rfl, ?_⟩
  rw [List.getElem?_eq_getElem hj, hc]
  rfl
 obtain ⟨f, hf2⟩ := Classical.axiomOfChoice hex
 letI i0 : Inhabited (ElS ok w g) := ⟨f ⟨0, hn⟩⟩
 refine ⟨g, 0, i0, Array.ofFn f, rfl, rfl, hb, blk_lt hblk, h0 g rfl, ?_, ?_, by omega, by omega⟩
 · intro t ht
   rw [size_flatK, Array.size_ofFn] at ht
   refine ⟨?_, by simp [World.frozen?, hblk]⟩
   rw [blk_cell hblk, Nat.zero_add]
   have hj : t / 5 < qs.length := by omega
   have hjr : t / 5 < rows.length := by omega
   have e4 := (hr2 (t / 5) rows[t / 5] (List.getElem?_eq_getElem hjr)).1
   have e5 := (hf2 ⟨t / 5, hj⟩).2
   rw [List.getElem?_eq_getElem hjr] at e5
   have e6 := Option.some.inj e5
   rw [get_flatK encS 5 _ t (by rw [Array.size_ofFn]; exact ht)]
   have e7 : (Array.ofFn f)[t / 5]! = f ⟨t / 5, hj⟩ := by rw [getElem!_pos _ _ (by rw [Array.size_ofFn]; exact hj), Array.getElem_ofFn]
   rw [e7]
   show cur[t]? = some (id ((encS (f ⟨t / 5, hj⟩))[t % 5]!))
   rw [← e6, ← e4]
   have e8 : ((inner.drop (t / 5 * 5)).take 5).length = 5 := by rw [e4, e6]; rfl
   rw [getElem!_pos _ _ (by rw [e8]; omega), List.getElem_take, List.getElem_drop]
   have e9 : t / 5 * 5 + t % 5 = t := by omega
   simp only [e9, id]
   have ht2 : t < inner.length := by rw [hlen, hl]; omega
   have e10 : inner[t]? = cur.toList[t]? := by rw [← htk, List.getElem?_take_of_lt (by rw [hl]; omega)]
   rw [← List.getElem?_eq_getElem ht2, e10, Array.getElem?_toList]
 · refine List.ext_getElem (by simp) (fun j h1 h2 => ?_)
   simp only [Array.toList_ofFn, List.getElem_map, List.getElem_ofFn]
   exact (hf2 ⟨j, h2⟩).1
theorem of_holdsS {ok : Nat → Prop} {w w' : World} {g off cap : Nat} [Inhabited (ElS ok w g)] {d : Array (ElS ok w g)} (ho : off = 0) (h : HoldsK encS 5 w' g off d) (hb : Kb (fun j => j = g) w w') (hg : ok g) (hlt : g < w.heap.size) (hc : d.size ≤ cap) (hsz : d.size ≤ 1000000) :
 RowS ok w' (.slice (some ⟨g, off, none⟩) d.size cap) (d.toList.map (fun c => c.1.2)) := by
 subst ho
 refine ⟨some ⟨g, 0, none⟩, cap, by simp, by simpa using hc, fun W hW => ⟨by simp, by simp; omega, fun _ => ⟨⟨g, 0, none⟩, rfl, fun j p hp => ?_⟩⟩⟩
 rw [List.getElem?_map] at hp
 obtain ⟨c, hc1, hc2⟩ := Option.map_eq_some_iff.1 hp
 rw [Array.getElem?_toList] at hc1
 obtain ⟨hj, hc3⟩ := Array.getElem?_eq_some_iff.1 hc1
 refine ⟨encS c, rfl, ⟨c.1.1, by rw [← hc2]; rfl, ?_⟩, fun i u hu => ?_⟩
 · rw [← hc2]
   exact fun q hq => IsR.mono (IsR.step (IsR.kb (c.2 q hq) hb (fun k hk e => hk.2 e)) (fun k hk hl => hW k hk.1 hl)) (fun _ _ => trivial)
 · rw [Addr.add_lit, Nat.zero_add]
   have hi : i < 5 := by have := (List.getElem?_eq_some_iff.1 hu).1; exact this
   have h1 := (HoldsK.cell h hj hi).1
   have e : d[j]! = c := by rw [getElem!_pos d j hj, hc3]
   rw [e, Nat.zero_add] at h1
   have hW2 := hW g hg (Nat.lt_of_lt_of_le hlt hb.size)
   have h2 : W.cell? ⟨g, j * 5 + i, none⟩ = w'.cell? ⟨g, j * 5 + i, none⟩ := by
    unfold World.cell?
    rw [show (⟨g, j * 5 + i, none⟩ : Addr).block = g from rfl, hW2]
   show W.cell? ⟨g, j * 5 + i, none⟩ = some u
   rw [h2, h1]
   have hl : i < (encS c).length := hi
   rw [getElem!_pos (encS c) i hl]
   have hu2 : (encS c)[i]? = some u := hu
   rw [List.getElem?_eq_getElem hl] at hu2
   exact hu2
theorem agg39 : ∀ w, (isAgg 39).run Try.prog w = .ok true w := fun w => by
 have hu := Try.underlying39
 unfold isAgg
 go_simp
theorem size39 : ∀ w, (Go.sizeOf 39).run Try.prog w = .ok 5 w := fun w => by
 have hu := Try.underlying39
 unfold Go.sizeOf
 go_simp
 rfl
def rotS (ss : List Smp) (r : Nat) : List Smp := ss.drop r ++ ss.take r
theorem rotS_perm (ss : List Smp) (r : Nat) : (rotS ss r).Perm ss := List.perm_append_comm.trans (by rw [List.take_append_drop])
theorem rotS_len (ss : List Smp) (r : Nat) : (rotS ss r).length = ss.length := (rotS_perm ss r).length_eq
theorem rotS_take (ss : List Smp) (r i : Nat) (hr : r < ss.length) (hi : i < ss.length) : (rotS ss r).take i ++ [ss.getD ((r + i) % ss.length) ⟨0, 0, none⟩] = (rotS ss r).take (i + 1) := by
 have e : (rotS ss r)[i]? = some (ss.getD ((r + i) % ss.length) ⟨0, 0, none⟩) := by
  unfold rotS
  have hm : (r + i) % ss.length < ss.length := Nat.mod_lt _ (by omega)
  rw [List.getD_eq_getElem?_getD, List.getElem?_eq_getElem hm, Option.getD_some]
  by_cases h : i < ss.length - r
  · have e1 : (r + i) % ss.length = r + i := Nat.mod_eq_of_lt (by omega)
    rw [List.getElem?_append_left (by rw [List.length_drop]; exact h), List.getElem?_drop, List.getElem?_eq_getElem (by omega)]
    simp only [e1]
  · have e1 : (r + i) % ss.length = i - (ss.length - r) := by
     rw [show r + i = (i - (ss.length - r)) + ss.length by omega, Nat.add_mod_right]
     exact Nat.mod_eq_of_lt (by omega)
    rw [List.getElem?_append_right (by rw [List.length_drop]; omega), List.length_drop, List.getElem?_take_of_lt (by omega), List.getElem?_eq_getElem (by omega)]
    simp only [e1]
 rw [List.take_add_one, e]
 rfl
structure Turned (ss ts : List Smp) (qs us : List Rat) : Prop where
 p1 : ts.Perm ss
 p2 : us.Perm qs
 val : ValS ts us
theorem turned {ss ts : List Smp} {qs : List Rat} (h : ValS ss qs) (hp : ts.Perm ss) : ∃ us, Turned ss ts qs us := by
 have e : ss.map (fun s => s.q.getD 0) = qs := by
  refine List.ext_getElem (by rw [List.length_map, ValS.len h]) (fun i h1 h2 => ?_)
  rw [List.length_map] at h1
  have h3 := h.2 i h1
  rw [List.getD_eq_getElem?_getD, List.getD_eq_getElem?_getD, List.getElem?_eq_getElem h1, List.getElem?_eq_getElem h2] at h3
  rw [List.getElem_map]
  show (ss[i].q).getD 0 = _
  rw [show ss[i].q = some qs[i] from h3]
  rfl
 have hs : ∀ s ∈ ss, ∃ q, s.q = some q := fun s hs => by
  obtain ⟨i, hi, rfl⟩ := List.mem_iff_getElem.1 hs
  have h3 := h.2 i hi
  rw [List.getD_eq_getElem?_getD, List.getElem?_eq_getElem hi] at h3
  exact ⟨_, h3⟩
 refine ⟨ts.map (fun s => s.q.getD 0), hp, by rw [← e]; exact hp.map _, ⟨by rw [List.length_map], fun i hi => ?_⟩⟩
 obtain ⟨q, hq⟩ := hs ts[i] (hp.mem_iff.1 (List.getElem_mem hi))
 rw [List.getD_eq_getElem?_getD, List.getD_eq_getElem?_getD, List.getElem?_map, List.getElem?_eq_getElem hi]
 show ts[i].q = some ((ts[i].q).getD 0)
 rw [hq]
 rfl
theorem perm_of_in {α : Type} [Inhabited α] {d d' : Array α} (h : PermIn 0 d.size d d') : d'.toList.Perm d.toList := by
 obtain ⟨hsz, -, hp⟩ := h
 have e1 : (d'.extract 0 d.size).toList = d'.toList := by rw [← hsz, Array.extract_size]
 rw [e1, Array.extract_size] at hp
 exact hp
theorem same_or (o : Option Rat) : o = none ∨ ∃ x, o = some x := by cases o <;> simp
theorem told_at {okl okq : Nat → Prop} (fn : Int) (hf : 1 ≤ fn ∧ fn ≤ 12 ∧ fn ≠ 10 ∧ fn ≠ 11) (ss : List Smp) (qs : List Rat) (hb : ∀ s ∈ ss, 0 ≤ s.by_ ∧ s.by_ < 5000) (hvs : ValS ss qs) (h30 : ss.length ≤ 30) (q : Rat) (hq0 : 0 ≤ q) (hq1 : q ≤ 1) (o : Option Rat) (ho : ordA fn q ss qs = o) (n : Nat) (hn : n = ss.length) (w : World) (tq : Bool) (Aq : Option Addr) (nq cq : Nat) (Dq : Option Addr) (kq zq : Nat) (hq : IsR okq w (.agg #[.bool tq, .slice Aq nq cq, .slice Dq kq zq]) q) (Al : Option Addr) (cl : Nat) (hl : RowS okl w (.slice Al n cl) ss) :
 Calls Try.prog 11 #[.int .i64 fn, .agg #[.bool tq, .slice Aq nq cq, .slice Dq kq zq], .slice Al n cl] w fun e w' => (∃ v, e = .returned (.tuple #[v, .bool o.isSome]) ∧ Res (fun k => w.heap.size ≤ k) w' v o) ∧ Below w.heap.size w w' := by
 subst hn ho
 exact told_sem fn hf ss qs hb hvs h30 q hq0 hq1 w tq Aq nq cq Dq kq zq hq Al cl hl
theorem order_calls (l : List (Int × Int × Int)) (hsz : l.length ≤ 140737488351232) (fr qn : Int) (w : World) (Al : Option Addr) (cl : Nat) (hl : Kd.C k3 w Al l.length l) :
 Calls Try.prog 5 #[.slice Al l.length cl, .int .i64 fr, .int .i64 qn] w fun e w' => e = .returned (.bool true) ∧ Below w.heap.size w w' := by
 have mixed : Try.prog.follows .mixedOrders = true := by kernel_rfl
 have hu30 := Try.underlying30
 have hu25 := Try.underlying25
 have hu39 := Try.underlying39
 have u25 := run_underlying Try.underlying25
 have aE := agg39
 obtain ⟨nl, hnl⟩ : ∃ nl, nl = l.length := ⟨_, rfl⟩
 rw [← hnl] at hl hsz ⊢
 have HL0 := a0_ (And.intro hnl (And.intro hsz hl))
 clear hnl hsz hl
 have HB := kf_ w
 go_enter Try.func5, Try.ntmps5
 go_wp2_with fail
 with_reducible refine (works_calls _).mono ?_
 rintro e w101 ⟨rfl, hb⟩
 replace HB := kb_b HB hb
 clear hb
 go_wp2_with fail
 have hcl : Kd.C k3 w101 Al l.length l := by rw [← HL0.out.1]; exact Kd.C_below HL0.out.2.2 (Kb.to_below HB.out (fun _ h => h.elim))
 rw [HL0.out.1]
 with_reducible refine (some_calls l (by rw [← HL0.out.1]; exact HL0.out.2.1) _ Al cl hcl).mono ?_
 rintro e w102 ⟨⟨v, rfl, hv⟩, hb⟩
 clear hcl
 rw [← HL0.out.1]
 obtain ⟨As, cs, rfl⟩ := RowS.slice hv
 have hv := RowS.mono' (ok' := fun k => k < w102.heap.size) hv (fun _ _ h => h)
 replace HB := kb_b HB hb
 clear hb
 obtain ⟨ss, hss⟩ : ∃ s, s = someS l := ⟨_, rfl⟩
 obtain ⟨qs, hqs⟩ : ∃ s, s = someV l := ⟨_, rfl⟩
 rw [← hss] at hv
 rw [← hss]
 have HS := a0_ (show ss.length ≤ 30 ∧ (∀ s ∈ ss, 0 ≤ s.by_ ∧ s.by_ < 5000) ∧ ValS ss qs ∧ (∀ x ∈ qs, Part x) from by rw [hss, hqs]; exact ⟨by rw [someS_len]; omega, someS_by l, someV_val l, someV_part l⟩)
 obtain ⟨ns, hns⟩ : ∃ n, n = ss.length := ⟨_, rfl⟩
 have HNS := a0_ hns
 rw [← hns] at hv
 clear hss hqs
 have V_s := a0_ hv
 clear hv
 have B_s := kf_ w102
 rw [← hns]
 clear hns
 have HBW := HB
 obtain ⟨r, hr0⟩ : ∃ r : Nat, 0 < ns → fr % (ns : Int) = (r : Int) ∧ r < ns := ⟨(fr % (ns : Int)).toNat, fun h => by have h1 := Int.emod_nonneg fr (show (ns : Int) ≠ 0 by omega); have h2 := Int.emod_lt_of_pos fr (show (0 : Int) < (ns : Int) by omega); omega⟩
 have HR := a0_ hr0
 clear hr0
 obtain ⟨okN, hokN⟩ : ∃ okN : Nat → Prop, okN = fun k => k < w102.heap.size ∨ w102.heap.size ≤ k := ⟨_, rfl⟩
 have HOK := a0_ hokN
 clear hokN
 go_wp2_with fail
 go_loopg [8, 9] ns (fun kg v8 v9 wr => ∃ (k : Nat), v9 = .int .i64 k ∧ Aside0 (k + kg = ns) ∧ Aside0 (Kd.N kdS 39 wr w102.heap.size okN v8 ((rotS ss r).take k)) ∧ Aside0 (Kb (fun k => False) w wr) ∧ Aside0 (Kb (fun k => False) w102 wr))
 case atStart => exact ⟨0, rfl, ⟨by omega⟩, ⟨by rw [List.take_zero]; exact Kd.N_nil _ _ _ _ _⟩, HB, B_s⟩
 case round =>
  obtain ⟨k, rfl, HK, HN, HB2, HBS⟩ := hrel
  clear HB B_s
  have HB := HB2
  clear HB2
  have B_s := HBS
  clear HBS
  by_cases hlt : k < ns
  · have hz : (k : Int) < (ns : Int) := by omega
    obtain ⟨hr1, hr2⟩ := HR.out (by omega)
    obtain ⟨j, hj⟩ : ∃ j, j = (r + k) % ns := ⟨_, rfl⟩
    have hjn : j < ns := by rw [hj]; exact Nat.mod_lt _ (by omega)
    have HJ := a0_ (And.intro hj hjn)
    have HR2 := a0_ (And.intro hr1 hr2)
    have ejz : ((r : Int) + (k : Int)).tmod (ns : Int) = (j : Int) := by rw [hj, Int.tmod_eq_emod_of_nonneg (by omega)]; exact_mod_cast rfl
    have erk : IntKind.i64.wrap ((r : Int) + (k : Int)) = (r : Int) + (k : Int) := (i64_w _).trans (w64 (by omega) (by have := HS.out.1; have := HNS.out; omega))
    have hns0 : ¬ (ns : Int) = 0 := by omega
    have hjz : (j : Int) < (ns : Int) := by omega
    clear hj hr1 hr2
    obtain ⟨bl, ol, rfl⟩ := RowS.some_ V_s.out (by omega)
    obtain ⟨tu, Au, nu, cu, Du, ku, zu, hy, c0, c1, c2, c3, c4⟩ := RowS.get (RowS.kb V_s.out B_s.out (fun _ _ h => h)) j (by rw [← HNS.out]; exact hjn)
    have C0 := a0_ (And.intro c0 (And.intro c1 (And.intro c2 (And.intro c3 c4))))
    clear c0 c1 c2 c3 c4
    obtain ⟨sj, hsj⟩ : ∃ x, x = ss.getD j ⟨0, 0, none⟩ := ⟨_, rfl⟩
    rw [← hsj] at hy C0
    obtain ⟨sa, hsa⟩ : ∃ x, x = sj.at_ := ⟨_, rfl⟩
    obtain ⟨sb, hsb⟩ : ∃ x, x = sj.by_ := ⟨_, rfl⟩
    have hfk := kdS_FK' (x := sj) (c := ⟨tu, Au, nu, cu, Du, ku, zu⟩) hy
    rw [← hsa, ← hsb] at C0 hfk
    have HSJ := a0_ hsj
    clear hy hsj hsa hsb
    have e1 : IntKind.i64.wrap ((k : Int) + 1) = ((k + 1 : Nat) : Int) := (i64_w _).trans ((w64 (by omega) (by have := HS.out.1; have := HNS.out; omega)).trans (by omega))
    go_wp2_with fail
    with_reducible refine (bring_calls fr (ns : Int) (by omega) (by have := HS.out.1; have := HNS.out; omega) _).mono ?_
    rintro e w104 ⟨rfl, hb⟩
    rw [HR2.out.1]
    have HFK := a0_ (show Kd.FK kdS w104 (fun k => k < w102.heap.size) sj (.int .i64 sa :: .int .i64 sb :: [.bool tu, .slice Au nu cu, .slice Du ku zu]) from fun W' hW => hfk W' (fun k hk hl => (hW k hk (Nat.lt_of_lt_of_le hl hb.size)).trans (hb.block k hl)))
    clear hfk
    have HN1 := a0_ (Kd.N_step (w1 := w104) HN.out (fun k _ hl => hb.block k hl))
    clear HN
    have HWS := a0_ hb.size
    have C1 := a0_ (And.intro (pw_cell_below hb C0.out.1) (And.intro (pw_cell_below hb C0.out.2.1) (And.intro (pw_cell_below hb C0.out.2.2.1) (And.intro (pw_cell_below hb C0.out.2.2.2.1) (pw_cell_below hb C0.out.2.2.2.2)))))
    clear C0
    replace HB := kb_b HB hb
    replace B_s := kb_b B_s hb
    clear hb
    have hpk : ∀ j, j < w102.heap.size → okN j ∧ some j ≠ u8.ownBlock := by
     intro j hj
     rw [HOK.out]
     have k1 := Kd.N_base HN1.out
     exact ⟨.inl hj, fun e => by have := k1 j e.symm; omega⟩
    have HPK := a0_ hpk
    clear hpk
    have hfr : ∀ k, w104.heap.size ≤ k → okN k := by
     intro j hj
     rw [HOK.out]
     have := Kb.size B_s.out
     exact .inr (by omega)
    have HFR := a0_ hfr
    clear hfr
    have hlen : ((rotS ss r).take k).length = k := by rw [List.length_take, rotS_len]; have := HNS.out; omega
    have HLEN := a0_ hlen
    clear hlen
    go_wp2_with (first | ((with_reducible refine gd_ 39 rfl ?_); refine load_at5 rfl rfl (g := bl) (k := ol + j * 5) rfl C1.out.1 C1.out.2.1 C1.out.2.2.1 C1.out.2.2.2.1 C1.out.2.2.2.2 ?_) | ((with_reducible refine gate_builtin (b := .append) (xs := #[.tmp 27, .tmp 40]) rfl ?_); at_builtin; refine Kd.N_append kdS (w0 := w104) w102.heap.size rfl (.tmp 27) (.tmp 40) 25 39 (.agg #[.int .i64 0, .int .i64 0, .bool false, .slice none 0 0, .slice none 0 0]) 72 rfl Try.underlying25 (by kernel_rfl) rfl (by decide) (by omega) u8 ((rotS ss r).take k) sj [.int .i64 sa, .int .i64 sb, .bool tu, .slice Au nu cu, .slice Du ku zu] okN (fun j => j < w102.heap.size) rfl rfl HFK.out HPK.out HFR.out HN1.out (Below.refl _ _) (Kb.size B_s.out) (by have := HLEN.out; have := HS.out.1; have := HNS.out; omega) ?_; intro v_ w_ hn hb hg hat; have hk := Kb.grown HB.out hg (fun j hj => .inr (Nat.le_trans (Kb.size HBW.out) (Kd.N_base HN1.out j hj))); have hk2 := Kb.grown B_s.out hg (fun j hj => .inr (Kd.N_base HN1.out j hj)); have HN2 := a0_ hn; have HB2 := a0_ hk; have HBS2 := a0_ hk2; clear hn hb hg hat hk hk2))
    go_roundg (ns - (k + 1))
    case measure => have := HK.out; omega
    case rel => exact ⟨k + 1, by first | rfl | rw [e1], ⟨by have := HK.out; omega⟩, ⟨by rw [← rotS_take ss r k (by rw [← HNS.out]; exact HR2.out.2) (by rw [← HNS.out]; exact hlt), ← HNS.out, ← HJ.out.1, ← HSJ.out]; exact HN2.out⟩, HB2, HBS2⟩
  · have hz : ¬ (k : Int) < (ns : Int) := by omega
    have hkn : (rotS ss r).take k = rotS ss r := List.take_of_length_le (by rw [rotS_len]; have := HK.out; have := HNS.out; omega)
    have hn := HN.out
    rw [hkn] at hn
    clear HN hkn hlt
    have HN := a0_ hn
    clear hn
    obtain ⟨At, ct, rfl⟩ := Kd.N_slice HN.out
    have hn0 := HN.out
    rw [rotS_len, ← HNS.out] at hn0 ⊢
    have HNT := a0_ hn0
    clear HN hn0
    by_cases hz0 : ns = 0
    · skip
      subst hz0
      have hss0 : ss = [] := List.eq_nil_of_length_eq_zero HNS.out.symm
      have hrow : RowS okN wr (.slice At 0 ct) [] := by
       have h := Kd.N_V (base' := 0) HNT.out
       have e : rotS ss r = [] := List.eq_nil_of_length_eq_zero (by rw [rotS_len]; exact HNS.out.symm)
       rw [e] at h
       exact h
      obtain ⟨us, hT⟩ := turned (ts := []) HS.out.2.2.1 (by rw [hss0])
      obtain ⟨ts, hts⟩ : ∃ t : List Smp, t = [] := ⟨_, rfl⟩
      rw [← hts] at hrow hT
      have HT := a0_ hT
      clear hT hss0 hts
      have hrow := RowS.mono hrow (ok' := fun _ => True) (fun _ _ => trivial)
      have V_t := a0_ hrow
      clear hrow
      have B_t := kf_ wr
      go_wp2_with fail
      refine wp_loop_rounds 1 ?_
      rw [rounds_succ]
      obtain ⟨wT, hwT⟩ : ∃ x, x = wr := ⟨_, rfl⟩
      rw [← hwT] at V_t
      have B_t2 := a0_ (show Kb (fun k => False) wT wr by rw [hwT]; exact Kb.refl _ _)
      clear hwT B_t
      have B_t := B_t2
      clear B_t2
      go_wp2_with fail
      with_reducible refine (bring_calls qn 101 (by omega) (by omega) _).mono ?_
      rintro e w104 ⟨rfl, hb⟩
      obtain ⟨rq, hrq⟩ : ∃ r, r = qn % 101 := ⟨_, rfl⟩
      rw [← hrq]
      have HRQ := a0_ (show 0 ≤ rq ∧ rq ≤ 100 from by omega)
      clear hrq
      replace HB := kb_b HB hb
      replace B_s := kb_b B_s hb
      replace B_t := kb_b B_t hb
      clear hb
      go_wp2_with fail
      with_reducible refine (part_calls rq 100 (by have := HRQ.out; omega) (by have := HRQ.out; omega) (by omega) (by omega) (q01 rq HRQ.out.1 HRQ.out.2).1 _).mono ?_
      rintro e w105 ⟨⟨v, rfl, hv⟩, hb⟩
      obtain ⟨tq, Aq, nq, cq, Dq, kq, zq, rfl⟩ := hv.agg
      have hle := Kb.size HB.out
      have hv_ := IsR.mono' (ok' := fun k => True) hv (fun k hk _ => by trivial)
      clear hv hle
      replace HB := kb_b HB hb
      replace B_s := kb_b B_s hb
      replace B_t := kb_b B_t hb
      clear hb
      have V_q := a0_ hv_
      clear hv_
      have B_q := kf_ w105
      obtain ⟨xq, hxq⟩ : ∃ x, x = ((rq : Rat) / ((100 : Int) : Rat)) := ⟨_, rfl⟩
      have HXQ := a0_ (show 0 ≤ xq ∧ xq ≤ 1 from by rw [hxq]; exact ⟨(q01 rq HRQ.out.1 HRQ.out.2).2.1, (q01 rq HRQ.out.1 HRQ.out.2).2.2⟩)
      rw [← hxq] at V_q
      clear hxq
      go_wp2_with (first | ((with_reducible refine gd_ 11 rfl ?_); refine bx_ (N := 11) #[.bool false, .slice none 0 0, .slice none 0 0] 30 ?_; intro g_p11 hg w106 hbox hb; have G_p11 := kb_g HB hg; have O_p11_s := kb_g B_s hg; have O_p11_t := kb_g B_t hg; have O_p11_q := kb_g B_q hg; replace HB := kb_b HB hb; replace B_s := kb_b B_s hb; replace B_t := kb_b B_t hb; replace B_q := kb_b B_q hb; clear hb; have V_p11 := a0_ hbox; have B_p11 := kf_ w106; have N_p11 := nf_ g_p11; clear hbox hg) | ((with_reducible refine gt_ 30 11 73 rfl ?_); refine store_ev (p := .tmp 11) (v := .tmp 73) rfl rfl rfl (g := g_p11) rfl rfl (bk_ V_p11 B_p11 N_p11) ?_; intro w107 hbox hk; replace HB := kb_o HB hk G_p11; replace B_s := kb_o B_s hk O_p11_s; replace B_t := kb_o B_t hk O_p11_t; replace B_q := kb_o B_q hk O_p11_q; clear V_p11 B_p11; have V_p11 := a0_ hbox; have B_p11 := kf_ w107; clear hbox hk))
      go_loopg [12] 12 (fun kg v12 wr => ∃ fn : Int, v12 = .int .i64 fn ∧ Aside0 (1 ≤ fn ∧ fn + kg = 13) ∧ Aside0 (Kb (fun k => False) w wr) ∧ Aside0 (Kb (fun k => False) w102 wr) ∧ Aside0 (Kb (fun k => False) wT wr) ∧ Aside0 (Kb (fun k => False) w105 wr) ∧ Aside0 (Kb (fun k => False) w107 wr))
      case atStart => exact ⟨1, rfl, ⟨by omega⟩, HB, B_s, B_t, B_q, B_p11⟩
      case round =>
       obtain ⟨fn, rfl, HK, HB2, Q_s, Q_t, Q_q, Q_p11⟩ := hrel
       clear HB B_s B_t B_q B_p11
       have HB := HB2
       clear HB2
       have B_s := Q_s
       clear Q_s
       have B_t := Q_t
       clear Q_t
       have B_q := Q_q
       clear Q_q
       have B_p11 := Q_p11
       clear Q_p11
       by_cases hlt : fn ≤ 12
       · have e1 : IntKind.i64.wrap (fn + 1) = fn + 1 := (i64_w _).trans (w64 (by have := HK.out; omega) (by have := HK.out; omega))
         by_cases h10 : fn = 10
         · have h10b : (fn == 10) = true := beq_iff_eq.2 h10
           have h10c := a0_ h10
           have h10d : decide (fn = 10) = true := decide_eq_true h10
           clear h10
           go_wp2_with fail
           go_roundg (12 - fn).toNat
           case measure => have := HK.out; omega
           case rel => exact ⟨fn + 1, by first | rfl | rw [e1], ⟨by have := HK.out; omega⟩, HB, B_s, B_t, B_q, B_p11⟩
         have h10b : (fn == 10) = false := beq_eq_false_iff_ne.mpr h10
         have h10d : decide (fn = 10) = false := decide_eq_false h10
         by_cases h11 : fn = 11
         · have h11b : (fn == 11) = true := beq_iff_eq.2 h11
           have h11c := a0_ h11
           have h11d : decide (fn = 11) = true := decide_eq_true h11
           clear h11
           go_wp2_with fail
           go_roundg (12 - fn).toNat
           case measure => have := HK.out; omega
           case rel => exact ⟨fn + 1, by first | rfl | rw [e1], ⟨by have := HK.out; omega⟩, HB, B_s, B_t, B_q, B_p11⟩
         have h11b : (fn == 11) = false := beq_eq_false_iff_ne.mpr h11
         have h11d : decide (fn = 11) = false := decide_eq_false h11
         have HF := a0_ (show 1 ≤ fn ∧ fn ≤ 12 ∧ fn ≠ 10 ∧ fn ≠ 11 from ⟨HK.out.1, hlt, h10, h11⟩)
         obtain ⟨oa, hoa⟩ : ∃ o, ordA fn xq ss qs = o := ⟨_, rfl⟩
         have hob : ordA fn xq ts us = oa := (ordA_perm fn xq HT.out.p1 HT.out.p2 HS.out.2.1 HS.out.2.2.2 HS.out.1 (ValS.len HS.out.2.2.1)).trans hoa
         have HO := a0_ (And.intro hoa hob)
         clear hoa hob
         go_wp2_with (first | ((with_reducible refine gd_ 86 rfl ?_); refine load_ev rfl rfl (g := g_p11) rfl (bk_ V_p11 B_p11 N_p11) ?_))
         with_reducible refine (told_at fn HF.out ss qs HS.out.2.1 HS.out.2.2.1 HS.out.1 xq HXQ.out.1 HXQ.out.2 oa HO.out.1 0 HNS.out _ _ _ _ _ _ _ _ (IsR.kb (S := fun k => False) V_q.out B_q.out (fun _ _ h => h)) _ _ (RowS.kb V_s.out B_s.out (fun _ _ h => h))).mono ?_
         rintro e w109 ⟨⟨v, rfl, hv⟩, hb⟩
         obtain ⟨ta, Aa, na, ca, Da, ka, za, rfl⟩ := hv.agg
         have hle := Kb.size HB.out
         have hv_ := Res.mono' (ok' := fun k => True) hv (fun k hk _ => by trivial)
         clear hv hle
         replace HB := kb_b HB hb
         replace B_s := kb_b B_s hb
         replace B_t := kb_b B_t hb
         replace B_q := kb_b B_q hb
         replace B_p11 := kb_b B_p11 hb
         clear hb
         have V_a := a0_ hv_
         clear hv_
         have B_a := kf_ w109
         go_wp2_with (first | ((with_reducible refine gd_ 13 rfl ?_); refine bx_ (N := 13) #[.bool false, .slice none 0 0, .slice none 0 0] 30 ?_; intro g_p13 hg w110 hbox hb; have G_p13 := kb_g HB hg; have O_p13_s := kb_g B_s hg; have O_p13_t := kb_g B_t hg; have O_p13_q := kb_g B_q hg; have O_p13_p11 := kb_g B_p11 hg; have O_p13_a := kb_g B_a hg; replace HB := kb_b HB hb; replace B_s := kb_b B_s hb; replace B_t := kb_b B_t hb; replace B_q := kb_b B_q hb; replace B_p11 := kb_b B_p11 hb; replace B_a := kb_b B_a hb; clear hb; have V_p13 := a0_ hbox; have B_p13 := kf_ w110; have N_p13 := nf_ g_p13; clear hbox hg) | ((with_reducible refine gt_ 30 13 89 rfl ?_); refine store_ev (p := .tmp 13) (v := .tmp 89) rfl rfl rfl (g := g_p13) rfl rfl (bk_ V_p13 B_p13 N_p13) ?_; intro w111 hbox hk; replace HB := kb_o HB hk G_p13; replace B_s := kb_o B_s hk O_p13_s; replace B_t := kb_o B_t hk O_p13_t; replace B_q := kb_o B_q hk O_p13_q; replace B_p11 := kb_o B_p11 hk O_p13_p11; replace B_a := kb_o B_a hk O_p13_a; clear V_p13 B_p13; have V_p13 := a0_ hbox; have B_p13 := kf_ w111; clear hbox hk) | ((with_reducible refine gd_ 93 rfl ?_); refine load_ev rfl rfl (g := g_p11) rfl (bk_ V_p11 B_p11 N_p11) ?_))
         with_reducible refine (told_at fn HF.out ts us (fun s hs => HS.out.2.1 s (HT.out.p1.mem_iff.1 hs)) HT.out.val (by rw [HT.out.p1.length_eq]; exact HS.out.1) xq HXQ.out.1 HXQ.out.2 oa HO.out.2 0 (by rw [HT.out.p1.length_eq]; exact HNS.out) _ _ _ _ _ _ _ _ (IsR.kb (S := fun k => False) V_q.out B_q.out (fun _ _ h => h)) _ _ (RowS.kb V_t.out B_t.out (fun _ _ h => h))).mono ?_
         rintro e w112 ⟨⟨v, rfl, hv⟩, hb⟩
         obtain ⟨tb, Ab, nb, cb, Db, kb, zb, rfl⟩ := hv.agg
         have hle := Kb.size HB.out
         have hv_ := Res.mono' (ok' := fun k => True) hv (fun k hk _ => by trivial)
         clear hv hle
         replace HB := kb_b HB hb
         replace B_s := kb_b B_s hb
         replace B_t := kb_b B_t hb
         replace B_q := kb_b B_q hb
         replace B_p11 := kb_b B_p11 hb
         replace B_a := kb_b B_a hb
         replace B_p13 := kb_b B_p13 hb
         clear hb
         have V_b := a0_ hv_
         clear hv_
         have B_b := kf_ w112
         rcases same_or oa with rfl | ⟨x, rfl⟩
         · skip
           have hso : (none : Option Rat).isSome = false := rfl
           rw [hso]
           go_wp2_with (first | ((with_reducible refine gd_ 15 rfl ?_); refine bx_ (N := 15) #[.bool false, .slice none 0 0, .slice none 0 0] 30 ?_; intro g_p15 hg w113 hbox hb; have G_p15 := kb_g HB hg; have O_p15_s := kb_g B_s hg; have O_p15_t := kb_g B_t hg; have O_p15_q := kb_g B_q hg; have O_p15_p11 := kb_g B_p11 hg; have O_p15_a := kb_g B_a hg; have O_p15_p13 := kb_g B_p13 hg; have O_p15_b := kb_g B_b hg; replace HB := kb_b HB hb; replace B_s := kb_b B_s hb; replace B_t := kb_b B_t hb; replace B_q := kb_b B_q hb; replace B_p11 := kb_b B_p11 hb; replace B_a := kb_b B_a hb; replace B_p13 := kb_b B_p13 hb; replace B_b := kb_b B_b hb; clear hb; have V_p15 := a0_ hbox; have B_p15 := kf_ w113; have N_p15 := nf_ g_p15; clear hbox hg) | ((with_reducible refine gt_ 30 15 96 rfl ?_); refine store_ev (p := .tmp 15) (v := .tmp 96) rfl rfl rfl (g := g_p15) rfl rfl (bk_ V_p15 B_p15 N_p15) ?_; intro w114 hbox hk; replace HB := kb_o HB hk G_p15; replace B_s := kb_o B_s hk O_p15_s; replace B_t := kb_o B_t hk O_p15_t; replace B_q := kb_o B_q hk O_p15_q; replace B_p11 := kb_o B_p11 hk O_p15_p11; replace B_a := kb_o B_a hk O_p15_a; replace B_p13 := kb_o B_p13 hk O_p15_p13; replace B_b := kb_o B_b hk O_p15_b; clear V_p15 B_p15; have V_p15 := a0_ hbox; have B_p15 := kf_ w114; clear hbox hk))
           go_roundg (12 - fn).toNat
           case measure => have := HK.out; omega
           case rel => exact ⟨fn + 1, by first | rfl | rw [e1], ⟨by have := HK.out; omega⟩, HB, B_s, B_t, B_q, B_p11⟩
         · skip
           have hso : (some x).isSome = true := rfl
           rw [hso]
           have V_a2 := a0_ (Res.isR V_a.out)
           clear V_a
           have V_a := V_a2
           clear V_a2
           have V_b2 := a0_ (Res.isR V_b.out)
           clear V_b
           have V_b := V_b2
           clear V_b2
           go_wp2_with (first | ((with_reducible refine gd_ 15 rfl ?_); refine bx_ (N := 15) #[.bool false, .slice none 0 0, .slice none 0 0] 30 ?_; intro g_p15 hg w113 hbox hb; have G_p15 := kb_g HB hg; have O_p15_s := kb_g B_s hg; have O_p15_t := kb_g B_t hg; have O_p15_q := kb_g B_q hg; have O_p15_p11 := kb_g B_p11 hg; have O_p15_a := kb_g B_a hg; have O_p15_p13 := kb_g B_p13 hg; have O_p15_b := kb_g B_b hg; replace HB := kb_b HB hb; replace B_s := kb_b B_s hb; replace B_t := kb_b B_t hb; replace B_q := kb_b B_q hb; replace B_p11 := kb_b B_p11 hb; replace B_a := kb_b B_a hb; replace B_p13 := kb_b B_p13 hb; replace B_b := kb_b B_b hb; clear hb; have V_p15 := a0_ hbox; have B_p15 := kf_ w113; have N_p15 := nf_ g_p15; clear hbox hg) | ((with_reducible refine gt_ 30 15 96 rfl ?_); refine store_ev (p := .tmp 15) (v := .tmp 96) rfl rfl rfl (g := g_p15) rfl rfl (bk_ V_p15 B_p15 N_p15) ?_; intro w114 hbox hk; replace HB := kb_o HB hk G_p15; replace B_s := kb_o B_s hk O_p15_s; replace B_t := kb_o B_t hk O_p15_t; replace B_q := kb_o B_q hk O_p15_q; replace B_p11 := kb_o B_p11 hk O_p15_p11; replace B_a := kb_o B_a hk O_p15_a; replace B_p13 := kb_o B_p13 hk O_p15_p13; replace B_b := kb_o B_b hk O_p15_b; clear V_p15 B_p15; have V_p15 := a0_ hbox; have B_p15 := kf_ w114; clear hbox hk) | ((with_reducible refine gd_ 104 rfl ?_); refine gate_guard (by rfl) ?_; dsimp only; refine load_ev rfl rfl (g := g_p13) rfl (bk_ V_p13 B_p13 N_p13) ?_) | ((with_reducible refine gd_ 105 rfl ?_); refine gate_guard (by rfl) ?_; dsimp only; refine load_ev rfl rfl (g := g_p15) rfl (bk_ V_p15 B_p15 N_p15) ?_))
           with_reducible refine (qsame_calls x x _ _ _ (IsR.kb (S := fun k => False) V_a.out B_a.out (fun _ _ h => h)) (IsR.kb (S := fun k => False) V_b.out B_b.out (fun _ _ h => h))).mono ?_
           rintro e w115 ⟨rfl, hb⟩
           rw [decide_eq_true (show x = x from rfl)]
           replace HB := kb_b HB hb
           replace B_s := kb_b B_s hb
           replace B_t := kb_b B_t hb
           replace B_q := kb_b B_q hb
           replace B_p11 := kb_b B_p11 hb
           replace B_a := kb_b B_a hb
           replace B_p13 := kb_b B_p13 hb
           replace B_b := kb_b B_b hb
           replace B_p15 := kb_b B_p15 hb
           clear hb
           go_wp2_with fail
           go_roundg (12 - fn).toNat
           case measure => have := HK.out; omega
           case rel => exact ⟨fn + 1, by first | rfl | rw [e1], ⟨by have := HK.out; omega⟩, HB, B_s, B_t, B_q, B_p11⟩
       · have hz : ¬ fn ≤ 12 := hlt
         go_wp2_with fail
         go_ret
         exact ⟨rfl, (Kb.to_below HB.out (fun _ h => h.elim))⟩
    · skip
      obtain ⟨blk, off, i0, d, hoff, rfl, hbg, hlt, hokg, hH, hm, hnr, hcap⟩ := to_holdsS HNT.out (by rw [rotS_len, ← HNS.out]; omega)
      obtain ⟨k, hk5⟩ : ∃ k, k = 5 := ⟨_, rfl⟩
      rw [← hk5] at hH
      have zE : ∀ w, (Go.sizeOf 39).run Try.prog w = .ok k w := by rw [hk5]; exact size39
      have HK5 := a0_ hk5
      have hds : d.size = ns := by rw [← Array.length_toList, ← List.length_map (f := fun c => c.1.2), hm, rotS_len, HNS.out]
      have HK := a0_ (show ∀ x : ElS okN wr blk, (encS x).length = k from fun x => by rw [hk5]; rfl)
      have H1 := a0_ (show ∀ (x : ElS okN wr blk), ∀ v ∈ encS x, v.oneCell' = true from fun x v hv => by
       simp only [encS, Cs.l, List.mem_cons, List.not_mem_nil, or_false] at hv
       rcases hv with rfl | rfl | rfl | rfl | rfl <;> rfl)
      obtain ⟨wt, hwt⟩ : ∃ x, x = wr := ⟨_, rfl⟩
      have HBL := a0_ (show blk < wt.heap.size by rw [hwt]; exact hlt)
      have HWT := a0_ hwt
      have HMM := a0_ (And.intro hm (And.intro hoff (And.intro hbg (And.intro hokg (And.intro hcap hds)))))
      have HH := a0_ hH
      have HLT := a0_ hlt
      have HNN := a0_ (show 0 < ns from by omega)
      have hds2 := a0_ hds
      clear hm hoff hbg hlt hokg hH hnr hcap hk5 hds hz0 hwt
      go_wp2_with fail
      go_loopg [10] ns (fun kg v10 wz => ∃ (i : Nat) (dk : Array (ElS okN wr blk)), v10 = .int .i64 i ∧ Aside0 (i + kg = ns ∧ i ≤ ns / 2) ∧ dk.size = ns ∧ Aside0 (HoldsK encS k wz blk off dk) ∧ Aside0 (Kb (fun j => j = blk) wt wz) ∧ Aside0 (PermIn 0 ns d dk))
      case atStart => exact ⟨0, d, rfl, ⟨by omega, by omega⟩, hds2.out, HH, ⟨by rw [HWT.out]; exact Kb.refl _ _⟩, ⟨permIn_refl _ _ _⟩⟩
      case round =>
       obtain ⟨i, dk, rfl, HI, hsk, HWK, HBK, HPM⟩ := hrel
       by_cases hi2 : i < ns / 2
       · have hz1 : (i : Int) < (ns : Int) / 2 := by omega
         have hwq : wrap64 ((ns : Int) / 2) = (ns : Int) / 2 := w64 (by omega) (by have := HS.out.1; have := HNS.out; omega)
         have hz3 : (i : Int) < wrap64 ((ns : Int) / 2) := by rw [hwq]; exact hz1
         have hz2 : (i : Int) < (ns : Int).tdiv 2 := by rw [Int.tdiv_eq_ediv_of_nonneg (by omega)]; exact hz1
         have hwi : IntKind.i64.wrap ((i : Int) + 1) = ((i + 1 : Nat) : Int) := (i64_w _).trans ((w64 (by omega) (by have := HS.out.1; have := HNS.out; omega)).trans (by omega))
         have hwy : IntKind.i64.wrap ((ns : Int) - 1 - (i : Int)) = (ns : Int) - 1 - (i : Int) := (i64_w _).trans (w64 (by omega) (by have := HS.out.1; have := HNS.out; omega))
         have hwn : IntKind.i64.wrap ((ns : Int) - 1) = (ns : Int) - 1 := (i64_w _).trans (w64 (by omega) (by have := HS.out.1; have := HNS.out; omega))
         have jx : (i : Int) < (ns : Int) := by omega
         have jy : (ns : Int) - 1 - (i : Int) < (ns : Int) := by omega
         have p0 : (0 : Int) ≤ (ns : Int) - 1 - (i : Int) := by omega
         have e0 : ((ns : Int) - 1 - (i : Int)).toNat = ns - 1 - i := by omega
         obtain ⟨xv, hxv⟩ : ∃ v, dk[i]! = v := ⟨_, rfl⟩
         obtain ⟨yv, hyv⟩ : ∃ v, dk[(ns - 1 - i)]! = v := ⟨_, rfl⟩
         obtain ⟨cX, hcX⟩ : ∃ c, c = encS xv := ⟨_, rfl⟩
         obtain ⟨cY, hcY⟩ : ∃ c, c = encS yv := ⟨_, rfl⟩
         have hlw : blk < wr.heap.size := Nat.lt_of_lt_of_le HBL.out HBK.out.size
         have HLQ := a0_ hlw
         have hsX : cX.length = k := by rw [hcX]; exact HK.out _
         have hsY : cY.length = k := by rw [hcY]; exact HK.out _
         have hHd : HoldsK encS k wr.drew blk off dk := HWK.out
         have bnd : ∀ z, z < dk.size → z * k + k ≤ dk.size * k := fun z hz => by
          have := Nat.mul_le_mul_right k (show z + 1 ≤ dk.size from hz); rwa [Nat.add_mul, Nat.one_mul] at this
         have lx : Sem.run Try.prog (loadCellsFrom ⟨blk, off + i * k, none⟩ 0 k #[]) wr.drew = .ok cX.toArray wr.drew := by rw [hcX, ← hxv]; exact run_loadCellsFrom_list Try.prog _ _ _ k (HK.out _) (HoldsK.cells hHd HK.out (by omega))
         have ly : Sem.run Try.prog (loadCellsFrom ⟨blk, off + (ns - 1 - i) * k, none⟩ 0 k #[]) wr.drew = .ok cY.toArray wr.drew := by rw [hcY, ← hyv]; exact run_loadCellsFrom_list Try.prog _ _ _ k (HK.out _) (HoldsK.cells hHd HK.out (by omega))
         have s1 : Sem.run Try.prog (storeCells ⟨blk, off + i * k, none⟩ cY 0) wr.drew = .ok () (wr.drew.setCells blk (off + i * k) cY) := stores_of_holds Try.prog hHd (i * k) _ (by rw [hsY, size_flatK]; exact bnd i (by omega)) (by rw [hcY]; exact H1.out _)
         have s2 : Sem.run Try.prog (storeCells ⟨blk, off + (ns - 1 - i) * k, none⟩ cX 0) (wr.drew.setCells blk (off + i * k) cY) = .ok () ((wr.drew.setCells blk (off + i * k) cY).setCells blk (off + (ns - 1 - i) * k) cX) :=
          stores_of_holds Try.prog (holds_setCells_c hHd (i * k) _ (by rw [hsY, size_flatK]; exact bnd i (by omega))) ((ns - 1 - i) * k) _ (by rw [hsX, size_setMany, size_flatK]; exact bnd (ns - 1 - i) (by omega)) (by rw [hcX]; exact H1.out _)
         have hsw : Aside0 (HoldsK encS k ((wr.drew.setCells blk (off + i * k) cY).setCells blk (off + (ns - 1 - i) * k) cX) blk off (swp dk i (ns - 1 - i)) ∧ Kb (fun j => j = blk) wt ((wr.drew.setCells blk (off + i * k) cY).setCells blk (off + (ns - 1 - i) * k) cX)) := by
          have h8 : HoldsK encS k (sortWorldK encS k wr blk off 1 (swp dk i (ns - 1 - i)) #[]) blk off (swp dk i (ns - 1 - i)) ∧ Kb (fun j => j = blk) wr (sortWorldK encS k wr blk off 1 (swp dk i (ns - 1 - i)) #[]) := ⟨holdsK_sortWorldK_c encS k wr blk off dk _ _ _ HWK.out HLQ.out (by rw [size_swp]), kb_sortWorld _ _ _ _ _ _ _ _⟩
          have hst : wr = sortWorldK encS k wr blk off 0 dk #[] := by unfold sortWorldK; rw [grow_empty]; exact (putRowK_self encS k wr blk off dk HWK.out).symm
          have h9 := sortWorldK_swp_c encS k wr blk off HK.out 0 dk #[] HLQ.out i (ns - 1 - i) (by omega) (by omega)
          rw [← hst, hxv, hyv, ← hcX, ← hcY] at h9
          rw [show (wr.drew.setCells blk (off + i * k) cY).setCells blk (off + (ns - 1 - i) * k) cX = sortWorldK encS k wr blk off 1 (swp dk i (ns - 1 - i)) #[] from h9]
          exact ⟨⟨h8.1, Kb.trans HBK.out h8.2⟩⟩
         clear hHd bnd hcX hcY hxv hyv hlw
         go_wp2_with fail
         go_big_region_o
         all_goals go_wp2
         go_roundg (ns - (i + 1))
         case measure => have := HI.out; omega
         case rel => exact ⟨i + 1, swp dk i (ns - 1 - i), by first | rfl | rw [hwi] | (congr 1; omega), ⟨by have := HI.out; omega⟩, by rw [size_swp]; exact hsk, ⟨hsw.out.1⟩, ⟨hsw.out.2⟩, ⟨permIn_trans _ _ _ _ _ HPM.out (swp_permIn _ _ _ _ _ (by omega) (by omega) (by omega) (by omega) (by omega))⟩⟩
       · skip
         have hz1 : ¬ (i : Int) < (ns : Int) / 2 := by omega
         have hwq : wrap64 ((ns : Int) / 2) = (ns : Int) / 2 := w64 (by omega) (by have := HS.out.1; have := HNS.out; omega)
         have hz3 : ¬ (i : Int) < wrap64 ((ns : Int) / 2) := by rw [hwq]; exact hz1
         have hz2 : ¬ (i : Int) < (ns : Int).tdiv 2 := by rw [Int.tdiv_eq_ediv_of_nonneg (by omega)]; exact hz1
         have hkk := HBK.out
         rw [HWT.out] at hkk
         have HBn := a0_ (Kb.then_ HB.out hkk (fun i hi => Or.inr (by rw [hi]; exact Nat.le_trans (Kb.size HBW.out) HMM.out.2.2.1)))
         have HBsn := a0_ (Kb.then_ B_s.out hkk (fun i hi => Or.inr (by rw [hi]; exact HMM.out.2.2.1)))
         clear HB B_s
         have HB := HBn
         have B_s := HBsn
         clear HBn HBsn
         have hh := HWK.out
         have hk5 := HK5.out
         have hrow : RowS okN wr (.slice (some ⟨blk, off, none⟩) ns ct) (dk.toList.map (fun c => c.1.2)) := by
          have h := of_holdsS (ok := okN) HMM.out.2.1 (by rw [← hk5]; exact hh) hkk HMM.out.2.2.2.1 HLT.out (cap := ct) (by rw [hsk]; have := HMM.out.2.2.2.2.1; have := HMM.out.2.2.2.2.2; omega) (by rw [hsk]; have := HS.out.1; have := HNS.out; omega)
          rwa [hsk] at h
         have hpm : (dk.toList.map (fun c => c.1.2)).Perm ss := by
          have h1 := perm_of_in (d := d) (d' := dk) (by rw [hds2.out]; exact HPM.out)
          have h2 := h1.map (fun c => c.1.2)
          rw [HMM.out.1] at h2
          exact h2.trans (rotS_perm ss r)
         obtain ⟨us, hT⟩ := turned HS.out.2.2.1 hpm
         obtain ⟨ts, hts⟩ : ∃ t : List Smp, t = dk.toList.map (fun c => c.1.2) := ⟨_, rfl⟩
         rw [← hts] at hrow hT
         have HT := a0_ hT
         clear hT hts hpm hh hk5 hkk HBK HWK HPM hi2 HH HLT hsk
         have hrow := RowS.mono hrow (ok' := fun _ => True) (fun _ _ => trivial)
         have V_t := a0_ hrow
         clear hrow
         have B_t := kf_ wr
         obtain ⟨wT, hwT⟩ : ∃ x, x = wr := ⟨_, rfl⟩
         rw [← hwT] at V_t
         have B_t2 := a0_ (show Kb (fun k => False) wT wr by rw [hwT]; exact Kb.refl _ _)
         clear hwT B_t
         have B_t := B_t2
         clear B_t2
         go_wp2_with fail
         with_reducible refine (bring_calls qn 101 (by omega) (by omega) _).mono ?_
         rintro e w104 ⟨rfl, hb⟩
         obtain ⟨rq, hrq⟩ : ∃ r, r = qn % 101 := ⟨_, rfl⟩
         rw [← hrq]
         have HRQ := a0_ (show 0 ≤ rq ∧ rq ≤ 100 from by omega)
         clear hrq
         replace HB := kb_b HB hb
         replace B_s := kb_b B_s hb
         replace B_t := kb_b B_t hb
         clear hb
         go_wp2_with fail
         with_reducible refine (part_calls rq 100 (by have := HRQ.out; omega) (by have := HRQ.out; omega) (by omega) (by omega) (q01 rq HRQ.out.1 HRQ.out.2).1 _).mono ?_
         rintro e w105 ⟨⟨v, rfl, hv⟩, hb⟩
         obtain ⟨tq, Aq, nq, cq, Dq, kq, zq, rfl⟩ := hv.agg
         have hle := Kb.size HB.out
         have hv_ := IsR.mono' (ok' := fun k => True) hv (fun k hk _ => by trivial)
         clear hv hle
         replace HB := kb_b HB hb
         replace B_s := kb_b B_s hb
         replace B_t := kb_b B_t hb
         clear hb
         have V_q := a0_ hv_
         clear hv_
         have B_q := kf_ w105
         obtain ⟨xq, hxq⟩ : ∃ x, x = ((rq : Rat) / ((100 : Int) : Rat)) := ⟨_, rfl⟩
         have HXQ := a0_ (show 0 ≤ xq ∧ xq ≤ 1 from by rw [hxq]; exact ⟨(q01 rq HRQ.out.1 HRQ.out.2).2.1, (q01 rq HRQ.out.1 HRQ.out.2).2.2⟩)
         rw [← hxq] at V_q
         clear hxq
         go_wp2_with (first | ((with_reducible refine gd_ 11 rfl ?_); refine bx_ (N := 11) #[.bool false, .slice none 0 0, .slice none 0 0] 30 ?_; intro g_p11 hg w106 hbox hb; have G_p11 := kb_g HB hg; have O_p11_s := kb_g B_s hg; have O_p11_t := kb_g B_t hg; have O_p11_q := kb_g B_q hg; replace HB := kb_b HB hb; replace B_s := kb_b B_s hb; replace B_t := kb_b B_t hb; replace B_q := kb_b B_q hb; clear hb; have V_p11 := a0_ hbox; have B_p11 := kf_ w106; have N_p11 := nf_ g_p11; clear hbox hg) | ((with_reducible refine gt_ 30 11 73 rfl ?_); refine store_ev (p := .tmp 11) (v := .tmp 73) rfl rfl rfl (g := g_p11) rfl rfl (bk_ V_p11 B_p11 N_p11) ?_; intro w107 hbox hk; replace HB := kb_o HB hk G_p11; replace B_s := kb_o B_s hk O_p11_s; replace B_t := kb_o B_t hk O_p11_t; replace B_q := kb_o B_q hk O_p11_q; clear V_p11 B_p11; have V_p11 := a0_ hbox; have B_p11 := kf_ w107; clear hbox hk))
         go_loopg [12] 12 (fun kg v12 wr => ∃ fn : Int, v12 = .int .i64 fn ∧ Aside0 (1 ≤ fn ∧ fn + kg = 13) ∧ Aside0 (Kb (fun k => False) w wr) ∧ Aside0 (Kb (fun k => False) w102 wr) ∧ Aside0 (Kb (fun k => False) wT wr) ∧ Aside0 (Kb (fun k => False) w105 wr) ∧ Aside0 (Kb (fun k => False) w107 wr))
         case atStart => exact ⟨1, rfl, ⟨by omega⟩, HB, B_s, B_t, B_q, B_p11⟩
         case round =>
          obtain ⟨fn, rfl, HK, HB2, Q_s, Q_t, Q_q, Q_p11⟩ := hrel
          clear HB B_s B_t B_q B_p11
          have HB := HB2
          clear HB2
          have B_s := Q_s
          clear Q_s
          have B_t := Q_t
          clear Q_t
          have B_q := Q_q
          clear Q_q
          have B_p11 := Q_p11
          clear Q_p11
          by_cases hlt : fn ≤ 12
          · have e1 : IntKind.i64.wrap (fn + 1) = fn + 1 := (i64_w _).trans (w64 (by have := HK.out; omega) (by have := HK.out; omega))
            by_cases h10 : fn = 10
            · have h10b : (fn == 10) = true := beq_iff_eq.2 h10
              have h10c := a0_ h10
              have h10d : decide (fn = 10) = true := decide_eq_true h10
              clear h10
              go_wp2_with fail
              go_roundg (12 - fn).toNat
              case measure => have := HK.out; omega
              case rel => exact ⟨fn + 1, by first | rfl | rw [e1], ⟨by have := HK.out; omega⟩, HB, B_s, B_t, B_q, B_p11⟩
            have h10b : (fn == 10) = false := beq_eq_false_iff_ne.mpr h10
            have h10d : decide (fn = 10) = false := decide_eq_false h10
            by_cases h11 : fn = 11
            · have h11b : (fn == 11) = true := beq_iff_eq.2 h11
              have h11c := a0_ h11
              have h11d : decide (fn = 11) = true := decide_eq_true h11
              clear h11
              go_wp2_with fail
              go_roundg (12 - fn).toNat
              case measure => have := HK.out; omega
              case rel => exact ⟨fn + 1, by first | rfl | rw [e1], ⟨by have := HK.out; omega⟩, HB, B_s, B_t, B_q, B_p11⟩
            have h11b : (fn == 11) = false := beq_eq_false_iff_ne.mpr h11
            have h11d : decide (fn = 11) = false := decide_eq_false h11
            have HF := a0_ (show 1 ≤ fn ∧ fn ≤ 12 ∧ fn ≠ 10 ∧ fn ≠ 11 from ⟨HK.out.1, hlt, h10, h11⟩)
            obtain ⟨oa, hoa⟩ : ∃ o, ordA fn xq ss qs = o := ⟨_, rfl⟩
            have hob : ordA fn xq ts us = oa := (ordA_perm fn xq HT.out.p1 HT.out.p2 HS.out.2.1 HS.out.2.2.2 HS.out.1 (ValS.len HS.out.2.2.1)).trans hoa
            have HO := a0_ (And.intro hoa hob)
            clear hoa hob
            go_wp2_with (first | ((with_reducible refine gd_ 86 rfl ?_); refine load_ev rfl rfl (g := g_p11) rfl (bk_ V_p11 B_p11 N_p11) ?_))
            with_reducible refine (told_at fn HF.out ss qs HS.out.2.1 HS.out.2.2.1 HS.out.1 xq HXQ.out.1 HXQ.out.2 oa HO.out.1 ns HNS.out _ _ _ _ _ _ _ _ (IsR.kb (S := fun k => False) V_q.out B_q.out (fun _ _ h => h)) _ _ (RowS.kb V_s.out B_s.out (fun _ _ h => h))).mono ?_
            rintro e w109 ⟨⟨v, rfl, hv⟩, hb⟩
            obtain ⟨ta, Aa, na, ca, Da, ka, za, rfl⟩ := hv.agg
            have hle := Kb.size HB.out
            have hv_ := Res.mono' (ok' := fun k => True) hv (fun k hk _ => by trivial)
            clear hv hle
            replace HB := kb_b HB hb
            replace B_s := kb_b B_s hb
            replace B_t := kb_b B_t hb
            replace B_q := kb_b B_q hb
            replace B_p11 := kb_b B_p11 hb
            clear hb
            have V_a := a0_ hv_
            clear hv_
            have B_a := kf_ w109
            go_wp2_with (first | ((with_reducible refine gd_ 13 rfl ?_); refine bx_ (N := 13) #[.bool false, .slice none 0 0, .slice none 0 0] 30 ?_; intro g_p13 hg w110 hbox hb; have G_p13 := kb_g HB hg; have O_p13_s := kb_g B_s hg; have O_p13_t := kb_g B_t hg; have O_p13_q := kb_g B_q hg; have O_p13_p11 := kb_g B_p11 hg; have O_p13_a := kb_g B_a hg; replace HB := kb_b HB hb; replace B_s := kb_b B_s hb; replace B_t := kb_b B_t hb; replace B_q := kb_b B_q hb; replace B_p11 := kb_b B_p11 hb; replace B_a := kb_b B_a hb; clear hb; have V_p13 := a0_ hbox; have B_p13 := kf_ w110; have N_p13 := nf_ g_p13; clear hbox hg) | ((with_reducible refine gt_ 30 13 89 rfl ?_); refine store_ev (p := .tmp 13) (v := .tmp 89) rfl rfl rfl (g := g_p13) rfl rfl (bk_ V_p13 B_p13 N_p13) ?_; intro w111 hbox hk; replace HB := kb_o HB hk G_p13; replace B_s := kb_o B_s hk O_p13_s; replace B_t := kb_o B_t hk O_p13_t; replace B_q := kb_o B_q hk O_p13_q; replace B_p11 := kb_o B_p11 hk O_p13_p11; replace B_a := kb_o B_a hk O_p13_a; clear V_p13 B_p13; have V_p13 := a0_ hbox; have B_p13 := kf_ w111; clear hbox hk) | ((with_reducible refine gd_ 93 rfl ?_); refine load_ev rfl rfl (g := g_p11) rfl (bk_ V_p11 B_p11 N_p11) ?_))
            with_reducible refine (told_at fn HF.out ts us (fun s hs => HS.out.2.1 s (HT.out.p1.mem_iff.1 hs)) HT.out.val (by rw [HT.out.p1.length_eq]; exact HS.out.1) xq HXQ.out.1 HXQ.out.2 oa HO.out.2 ns (by rw [HT.out.p1.length_eq]; exact HNS.out) _ _ _ _ _ _ _ _ (IsR.kb (S := fun k => False) V_q.out B_q.out (fun _ _ h => h)) _ _ (RowS.kb V_t.out B_t.out (fun _ _ h => h))).mono ?_
            rintro e w112 ⟨⟨v, rfl, hv⟩, hb⟩
            obtain ⟨tb, Ab, nb, cb, Db, kb, zb, rfl⟩ := hv.agg
            have hle := Kb.size HB.out
            have hv_ := Res.mono' (ok' := fun k => True) hv (fun k hk _ => by trivial)
            clear hv hle
            replace HB := kb_b HB hb
            replace B_s := kb_b B_s hb
            replace B_t := kb_b B_t hb
            replace B_q := kb_b B_q hb
            replace B_p11 := kb_b B_p11 hb
            replace B_a := kb_b B_a hb
            replace B_p13 := kb_b B_p13 hb
            clear hb
            have V_b := a0_ hv_
            clear hv_
            have B_b := kf_ w112
            rcases same_or oa with rfl | ⟨x, rfl⟩
            · skip
              have hso : (none : Option Rat).isSome = false := rfl
              rw [hso]
              go_wp2_with (first | ((with_reducible refine gd_ 15 rfl ?_); refine bx_ (N := 15) #[.bool false, .slice none 0 0, .slice none 0 0] 30 ?_; intro g_p15 hg w113 hbox hb; have G_p15 := kb_g HB hg; have O_p15_s := kb_g B_s hg; have O_p15_t := kb_g B_t hg; have O_p15_q := kb_g B_q hg; have O_p15_p11 := kb_g B_p11 hg; have O_p15_a := kb_g B_a hg; have O_p15_p13 := kb_g B_p13 hg; have O_p15_b := kb_g B_b hg; replace HB := kb_b HB hb; replace B_s := kb_b B_s hb; replace B_t := kb_b B_t hb; replace B_q := kb_b B_q hb; replace B_p11 := kb_b B_p11 hb; replace B_a := kb_b B_a hb; replace B_p13 := kb_b B_p13 hb; replace B_b := kb_b B_b hb; clear hb; have V_p15 := a0_ hbox; have B_p15 := kf_ w113; have N_p15 := nf_ g_p15; clear hbox hg) | ((with_reducible refine gt_ 30 15 96 rfl ?_); refine store_ev (p := .tmp 15) (v := .tmp 96) rfl rfl rfl (g := g_p15) rfl rfl (bk_ V_p15 B_p15 N_p15) ?_; intro w114 hbox hk; replace HB := kb_o HB hk G_p15; replace B_s := kb_o B_s hk O_p15_s; replace B_t := kb_o B_t hk O_p15_t; replace B_q := kb_o B_q hk O_p15_q; replace B_p11 := kb_o B_p11 hk O_p15_p11; replace B_a := kb_o B_a hk O_p15_a; replace B_p13 := kb_o B_p13 hk O_p15_p13; replace B_b := kb_o B_b hk O_p15_b; clear V_p15 B_p15; have V_p15 := a0_ hbox; have B_p15 := kf_ w114; clear hbox hk))
              go_roundg (12 - fn).toNat
              case measure => have := HK.out; omega
              case rel => exact ⟨fn + 1, by first | rfl | rw [e1], ⟨by have := HK.out; omega⟩, HB, B_s, B_t, B_q, B_p11⟩
            · skip
              have hso : (some x).isSome = true := rfl
              rw [hso]
              have V_a2 := a0_ (Res.isR V_a.out)
              clear V_a
              have V_a := V_a2
              clear V_a2
              have V_b2 := a0_ (Res.isR V_b.out)
              clear V_b
              have V_b := V_b2
              clear V_b2
              go_wp2_with (first | ((with_reducible refine gd_ 15 rfl ?_); refine bx_ (N := 15) #[.bool false, .slice none 0 0, .slice none 0 0] 30 ?_; intro g_p15 hg w113 hbox hb; have G_p15 := kb_g HB hg; have O_p15_s := kb_g B_s hg; have O_p15_t := kb_g B_t hg; have O_p15_q := kb_g B_q hg; have O_p15_p11 := kb_g B_p11 hg; have O_p15_a := kb_g B_a hg; have O_p15_p13 := kb_g B_p13 hg; have O_p15_b := kb_g B_b hg; replace HB := kb_b HB hb; replace B_s := kb_b B_s hb; replace B_t := kb_b B_t hb; replace B_q := kb_b B_q hb; replace B_p11 := kb_b B_p11 hb; replace B_a := kb_b B_a hb; replace B_p13 := kb_b B_p13 hb; replace B_b := kb_b B_b hb; clear hb; have V_p15 := a0_ hbox; have B_p15 := kf_ w113; have N_p15 := nf_ g_p15; clear hbox hg) | ((with_reducible refine gt_ 30 15 96 rfl ?_); refine store_ev (p := .tmp 15) (v := .tmp 96) rfl rfl rfl (g := g_p15) rfl rfl (bk_ V_p15 B_p15 N_p15) ?_; intro w114 hbox hk; replace HB := kb_o HB hk G_p15; replace B_s := kb_o B_s hk O_p15_s; replace B_t := kb_o B_t hk O_p15_t; replace B_q := kb_o B_q hk O_p15_q; replace B_p11 := kb_o B_p11 hk O_p15_p11; replace B_a := kb_o B_a hk O_p15_a; replace B_p13 := kb_o B_p13 hk O_p15_p13; replace B_b := kb_o B_b hk O_p15_b; clear V_p15 B_p15; have V_p15 := a0_ hbox; have B_p15 := kf_ w114; clear hbox hk) | ((with_reducible refine gd_ 104 rfl ?_); refine gate_guard (by rfl) ?_; dsimp only; refine load_ev rfl rfl (g := g_p13) rfl (bk_ V_p13 B_p13 N_p13) ?_) | ((with_reducible refine gd_ 105 rfl ?_); refine gate_guard (by rfl) ?_; dsimp only; refine load_ev rfl rfl (g := g_p15) rfl (bk_ V_p15 B_p15 N_p15) ?_))
              with_reducible refine (qsame_calls x x _ _ _ (IsR.kb (S := fun k => False) V_a.out B_a.out (fun _ _ h => h)) (IsR.kb (S := fun k => False) V_b.out B_b.out (fun _ _ h => h))).mono ?_
              rintro e w115 ⟨rfl, hb⟩
              rw [decide_eq_true (show x = x from rfl)]
              replace HB := kb_b HB hb
              replace B_s := kb_b B_s hb
              replace B_t := kb_b B_t hb
              replace B_q := kb_b B_q hb
              replace B_p11 := kb_b B_p11 hb
              replace B_a := kb_b B_a hb
              replace B_p13 := kb_b B_p13 hb
              replace B_b := kb_b B_b hb
              replace B_p15 := kb_b B_p15 hb
              clear hb
              go_wp2_with fail
              go_roundg (12 - fn).toNat
              case measure => have := HK.out; omega
              case rel => exact ⟨fn + 1, by first | rfl | rw [e1], ⟨by have := HK.out; omega⟩, HB, B_s, B_t, B_q, B_p11⟩
          · have hz : ¬ fn ≤ 12 := hlt
            go_wp2_with fail
            go_ret
            exact ⟨rfl, (Kb.to_below HB.out (fun _ h => h.elim))⟩
end Go.Proofs.Ytgdkgahbmfhgcaa.PN
