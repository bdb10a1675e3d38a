/- What the statement rests on, part 13: WL WM LA LB. -/
import Derived.Test.YtgdkgahbmfhgcaaR12
set_option linter.unusedVariables false
set_option linter.unusedSimpArgs false
set_option maxHeartbeats 4000000
set_option maxRecDepth 100000
namespace Go.Proofs.Ytgdkgahbmfhgcaa.PN
open Go.RowKit Go.Proofs.Ytgdkgahbmfhgcaa.NS Go.Proofs.Ytgdkgahbmfhgcaa.Limbs Go.Proofs.YtgdkgahbmfhgcaaW.PrintWords Go.Proofs.YtgdkgahbmfhgcaaW.PrintLast Go.Proofs.YtgdkgahbmfhgcaaW.PrintMore
theorem IsR.sign {ok : Nat → Prop} {w : World} {t : Bool} {a b : Value} {x : Rat} (h : IsR ok w (.agg #[.bool t, a, b]) x) : t = decide (x.num < 0) := by
 obtain ⟨_, v1, v2, e, _⟩ := h
 injection e with e
 have h0 := congrArg (fun l => l[0]?) e
 simpa using h0
theorem cmp_as {F : Nat} {args : Array Value} {w : World} {c d : Int} (h : Calls Try.prog F args w fun e w' => e = .returned (.int .i64 d) ∧ Below w.heap.size w w') (e : c = d) : Calls Try.prog F args w fun e w' => e = .returned (.int .i64 c) ∧ Below w.heap.size w w' := by rw [e]; exact h
def May1.T9 : Bool × List (List Nat × List Nat) := (true, [([], []), ([0], [0]), ([1], [1]), ([2], [2]), ([3, 2, 2], [2, 3]), ([4, 2], [2, 4]), ([5, 4, 2], [2, 5]), ([6], [6]), ([7, 6], [6, 7]), ([8, 6], [6, 8]), ([6, 9, 2], [2, 6, 9]), ([10, 6, 2], [2, 10]), ([11], [11]), ([11, 11], [11]), ([12, 13, 13, 11], [11, 12, 13]), ([14, 11], [11, 14]), ([11, 15, 2], [2, 11, 15]), ([2, 16], [2, 16]), ([17, 14, 0, 1, 2, 3, 4, 5, 6, 7, 8, 9, 10, 11, 12, 13, 14, 15, 16, 17], [17])])
def May1.B9 : List Nat := [0, 1, 3, 7, 15, 31, 63, 127, 255, 511, 1023, 2047, 4095, 4095, 16383, 32767, 65535, 131071, 262143]
theorem May1.tab9 : rtab .any (opsOf Try.f29 9) = May1.T9 := by kernel_rfl
theorem May1.bits9 : waitsOk May1.T9.2 May1.B9 = true := by kernel_rfl
theorem may1_calls {okl : Nat → Prop} (over : Int) (h0 : 1 ≤ over) (h1 : over ≤ 9007199254740991) (ss : List Smp) (hby : ByS ss) (hsz : ss.length ≤ 1000000) (w : World) (tq : Bool) (Aq : Option Addr) (nq cq : Nat) (Dq : Option Addr) (kq zq : Nat) (vl : Value) (hl : RowS okl w vl ss) :
 Calls Try.prog 29 #[.int .i64 1, .int .i64 over, .agg #[.bool tq, .slice Aq nq cq, .slice Dq kq zq], vl] w fun e w' => e = .returned (.bool true) ∧ Below w.heap.size w w' := by
 have hu30 := Try.underlying30
 have hu39 := Try.underlying39
 obtain ⟨Al, cl, rfl⟩ := hl.slice
 obtain ⟨nl, hnl⟩ : ∃ nl, nl = ss.length := ⟨_, rfl⟩
 rw [← hnl] at hl hsz ⊢
 have HNL := a0_ (And.intro hnl hsz)
 have HBY := a0_ hby
 have e3 : ¬ over < 1 := by omega
 have e4 : ¬ 9007199254740991 < over := by omega
 clear hnl hby hsz h0 h1
 have HB := kf_ w
 have V_l := a0_ hl
 clear hl
 have B_l := kf_ w
 go_enter Try.func29, Try.ntmps29
 go_wp2_with (first | ((with_reducible refine gd_ 6 rfl ?_); refine bx_ (N := 6) #[.bool tq, .slice Aq nq cq, .slice Dq kq zq] 30 ?_; intro g_q hg w101 hbox hb; have G_q := kb_g HB hg; replace HB := kb_b HB hb; replace B_l := kb_b B_l hb; clear hb; have V_q := a0_ hbox; have B_q := kf_ w101; have N_q := nf_ g_q; clear hbox hg))
 go_loopg [27] nl (fun kg v27 wr => ∃ (j : Nat), v27 = .int .i64 j ∧ Aside0 (j + kg = nl) ∧ Aside0 (Kb (fun k => False) w wr) ∧ Aside0 (Kb (fun k => False) w101 wr))
 case atStart => exact ⟨0, rfl, ⟨by omega⟩, HB, B_q⟩
 case round =>
  obtain ⟨j, rfl, HJ, HB2, HQB⟩ := hrel
  clear HB B_l B_q
  have HB := HB2
  clear HB2
  have B_l := HB
  have B_q := HQB
  clear HQB
  by_cases hlt : j < nl
  · have hz : (j : Int) < (nl : Int) := by omega
    have e1 : IntKind.i64.wrap ((j : Int) + 1) = ((j + 1 : Nat) : Int) := (i64_w _).trans ((w64 (by have := HNL.out.2; omega) (by have := HNL.out.2; omega)).trans (by omega))
    obtain ⟨bl, ol, rfl⟩ := RowS.some_ V_l.out (by omega)
    obtain ⟨ty, Ay, ny, cy, Dy, ky, zy, hy, c0, c1, c2, c3, c4⟩ := RowS.get (RowS.kb V_l.out B_l.out (fun _ _ h => h)) j (by rw [← HNL.out.1]; exact hlt)
    have C0 := a0_ (And.intro c0 (And.intro c1 (And.intro c2 (And.intro c3 c4))))
    clear c0 c1 c2 c3 c4
    have hbj := HBY.out j (by rw [← HNL.out.1]; exact hlt)
    obtain ⟨sa, hsa⟩ : ∃ x, x = (ss.getD j ⟨0, 0, none⟩).at_ := ⟨_, rfl⟩
    obtain ⟨sb, hsb⟩ : ∃ x, x = (ss.getD j ⟨0, 0, none⟩).by_ := ⟨_, rfl⟩
    rw [← hsa, ← hsb] at C0
    rw [← hsb] at hbj
    have f1 : ¬ sb < 0 := by omega
    have f2 : ¬ 9007199254740991 < sb := by omega
    clear hsa hsb hbj
    clear hy
    go_wp2_with (first | ((with_reducible refine gd_ 30 rfl ?_); refine load_at5 rfl rfl (g := bl) (k := ol + j * 5) rfl C0.out.1 C0.out.2.1 C0.out.2.2.1 C0.out.2.2.2.1 C0.out.2.2.2.2 ?_) | ((with_reducible refine gd_ 10 rfl ?_); refine bx_ (N := 10) #[.int .i64 0, .int .i64 0, .bool false, .slice none 0 0, .slice none 0 0] 39 ?_; intro g_s hg w103 hbox hb; have G_s := kb_g HB hg; have O_s_l := kb_g B_l hg; have O_s_q := kb_g B_q hg; replace HB := kb_b HB hb; replace B_l := kb_b B_l hb; replace B_q := kb_b B_q hb; clear hb; have V_s := a0_ hbox; have B_s := kf_ w103; have N_s := nf_ g_s; clear hbox hg) | ((with_reducible refine gt_ 39 10 30 rfl ?_); refine store_ev5 (p := .tmp 10) (v := .tmp 30) rfl rfl rfl (g := g_s) rfl rfl (bk_ V_s B_s N_s) ?_; intro w104 hbox hk; replace HB := kb_o HB hk G_s; replace B_l := kb_o B_l hk O_s_l; replace B_q := kb_o B_q hk O_s_q; clear V_s B_s; have V_s := a0_ hbox; have B_s := kf_ w104; clear hbox hk; have bk_s := bk_ V_s B_s N_s; have hz_s_0 : w104.cell? ⟨g_s, 0, none⟩ = some (.int .i64 sa) := (blk_cell bk_s 0).trans rfl; have hz_s_1 : w104.cell? ⟨g_s, 1, none⟩ = some (.int .i64 sb) := (blk_cell bk_s 1).trans rfl; have hz_s_2 : w104.cell? ⟨g_s, 2, none⟩ = some (.bool ty) := (blk_cell bk_s 2).trans rfl; have hz_s_3 : w104.cell? ⟨g_s, 3, none⟩ = some (.slice Ay ny cy) := (blk_cell bk_s 3).trans rfl; have hz_s_4 : w104.cell? ⟨g_s, 4, none⟩ = some (.slice Dy ky zy) := (blk_cell bk_s 4).trans rfl; clear bk_s))
    go_roundg (nl - (j + 1))
    case measure => have := HJ.out; omega
    case rel => exact ⟨j + 1, by first | rfl | rw [e1], ⟨by have := HJ.out; omega⟩, HB, B_q⟩
  · have hz : ¬ (j : Int) < (nl : Int) := by omega
    clear hlt
    go_wp2_with fail
    have hb : Below wr.heap.size wr wr.drew := below_drew1 (Below.refl _ _)
    replace HB := kb_b HB hb
    replace B_l := kb_b B_l hb
    replace B_q := kb_b B_q hb
    clear hb
    refine start_ (n := 19) (S := fun w' => w'.heap[g_q]? = some (.cells #[.bool tq, .slice Aq nq cq, .slice Dq kq zq] 30 (0, 0))) (ds := []) (tB_ 19 0) (by kernel_rfl) rfl (by kernel_rfl) (bk_ V_q B_q N_q) (fun hHeld => ?_)
    refine with_tabW May1.tab9 May1.bits9 (fun HT_ HW_ => ?_)
    generalize wr.drew = w103 at HB B_l B_q hHeld ⊢
    refine pu_ 0 (some 50) 1 HT_ ?_
    refine pu_ 1 (some 51) 3 HT_ ?_
    refine pu_ 2 (some 52) 7 HT_ ?_
    refine sk_ 3 (some 53) 15 HT_ ?_
    refine sk_ 4 (some 54) 31 HT_ ?_
    refine sk_ 5 (some 55) 63 HT_ ?_
    refine sk_ 6 (some 56) 127 HT_ ?_
    refine sk_ 7 (some 57) 255 HT_ ?_
    refine sk_ 8 (some 58) 511 HT_ ?_
    refine sk_ 9 (some 59) 1023 HT_ ?_
    refine sk_ 10 (some 60) 2047 HT_ ?_
    refine sk_ 11 (some 61) 4095 HT_ ?_
    refine sk_ 12 (some 62) 8191 HT_ ?_
    refine sk_ 13 (some 63) 16383 HT_ ?_
    refine sk_ 14 (some 64) 32767 HT_ ?_
    refine sk_ 15 (some 65) 65535 HT_ ?_
    refine sk_ 16 (some 66) 131071 HT_ ?_
    refine pu_ 17 (some 67) 262143 HT_ ?_
    refine pu_ 18 (some 8) 524287 HT_ ?_
    refine do_ HT_ ?_
    clear HT_ HW_ hHeld
    go_wp2_with fail
    go_ret
    exact ⟨rfl, (Kb.to_below HB.out (fun _ h => h.elim))⟩
def May2.T9 : Bool × List (List Nat × List Nat) := (true, [([], []), ([0], [0]), ([1], [1]), ([2], [2]), ([3, 2, 2], [2, 3]), ([4, 2], [2, 4]), ([5, 4, 2], [2, 5]), ([6], [6]), ([7, 6], [6, 7]), ([8, 6], [6, 8]), ([6, 9, 2], [2, 6, 9]), ([10, 6, 2], [2, 10]), ([11], [11]), ([11, 11], [11]), ([12, 13, 13, 11], [11, 12, 13]), ([14, 11], [11, 14]), ([11, 15, 2], [2, 11, 15]), ([2, 16], [2, 16]), ([17, 14, 0, 1, 2, 3, 4, 5, 6, 7, 8, 9, 10, 11, 12, 13, 14, 15, 16, 17], [17])])
def May2.B9 : List Nat := [0, 1, 3, 7, 15, 31, 63, 127, 255, 511, 1023, 2047, 4095, 4095, 16383, 32767, 65535, 131071, 262143]
theorem May2.tab9 : rtab .any (opsOf Try.f29 9) = May2.T9 := by kernel_rfl
theorem May2.bits9 : waitsOk May2.T9.2 May2.B9 = true := by kernel_rfl
theorem may2_calls {okl : Nat → Prop} (over : Int) (h0 : 1 ≤ over) (h1 : over ≤ 9007199254740991) (ss : List Smp) (hby : ByS ss) (hsz : ss.length ≤ 1000000) (w : World) (tq : Bool) (Aq : Option Addr) (nq cq : Nat) (Dq : Option Addr) (kq zq : Nat) (vl : Value) (hl : RowS okl w vl ss) :
 Calls Try.prog 29 #[.int .i64 2, .int .i64 over, .agg #[.bool tq, .slice Aq nq cq, .slice Dq kq zq], vl] w fun e w' => e = .returned (.bool true) ∧ Below w.heap.size w w' := by
 have hu30 := Try.underlying30
 have hu39 := Try.underlying39
 obtain ⟨Al, cl, rfl⟩ := hl.slice
 obtain ⟨nl, hnl⟩ : ∃ nl, nl = ss.length := ⟨_, rfl⟩
 rw [← hnl] at hl hsz ⊢
 have HNL := a0_ (And.intro hnl hsz)
 have HBY := a0_ hby
 have e3 : ¬ over < 1 := by omega
 have e4 : ¬ 9007199254740991 < over := by omega
 clear hnl hby hsz h0 h1
 have HB := kf_ w
 have V_l := a0_ hl
 clear hl
 have B_l := kf_ w
 go_enter Try.func29, Try.ntmps29
 go_wp2_with (first | ((with_reducible refine gd_ 6 rfl ?_); refine bx_ (N := 6) #[.bool tq, .slice Aq nq cq, .slice Dq kq zq] 30 ?_; intro g_q hg w101 hbox hb; have G_q := kb_g HB hg; replace HB := kb_b HB hb; replace B_l := kb_b B_l hb; clear hb; have V_q := a0_ hbox; have B_q := kf_ w101; have N_q := nf_ g_q; clear hbox hg))
 go_loopg [27] nl (fun kg v27 wr => ∃ (j : Nat), v27 = .int .i64 j ∧ Aside0 (j + kg = nl) ∧ Aside0 (Kb (fun k => False) w wr) ∧ Aside0 (Kb (fun k => False) w101 wr))
 case atStart => exact ⟨0, rfl, ⟨by omega⟩, HB, B_q⟩
 case round =>
  obtain ⟨j, rfl, HJ, HB2, HQB⟩ := hrel
  clear HB B_l B_q
  have HB := HB2
  clear HB2
  have B_l := HB
  have B_q := HQB
  clear HQB
  by_cases hlt : j < nl
  · have hz : (j : Int) < (nl : Int) := by omega
    have e1 : IntKind.i64.wrap ((j : Int) + 1) = ((j + 1 : Nat) : Int) := (i64_w _).trans ((w64 (by have := HNL.out.2; omega) (by have := HNL.out.2; omega)).trans (by omega))
    obtain ⟨bl, ol, rfl⟩ := RowS.some_ V_l.out (by omega)
    obtain ⟨ty, Ay, ny, cy, Dy, ky, zy, hy, c0, c1, c2, c3, c4⟩ := RowS.get (RowS.kb V_l.out B_l.out (fun _ _ h => h)) j (by rw [← HNL.out.1]; exact hlt)
    have C0 := a0_ (And.intro c0 (And.intro c1 (And.intro c2 (And.intro c3 c4))))
    clear c0 c1 c2 c3 c4
    have hbj := HBY.out j (by rw [← HNL.out.1]; exact hlt)
    obtain ⟨sa, hsa⟩ : ∃ x, x = (ss.getD j ⟨0, 0, none⟩).at_ := ⟨_, rfl⟩
    obtain ⟨sb, hsb⟩ : ∃ x, x = (ss.getD j ⟨0, 0, none⟩).by_ := ⟨_, rfl⟩
    rw [← hsa, ← hsb] at C0
    rw [← hsb] at hbj
    have f1 : ¬ sb < 0 := by omega
    have f2 : ¬ 9007199254740991 < sb := by omega
    clear hsa hsb hbj
    clear hy
    go_wp2_with (first | ((with_reducible refine gd_ 30 rfl ?_); refine load_at5 rfl rfl (g := bl) (k := ol + j * 5) rfl C0.out.1 C0.out.2.1 C0.out.2.2.1 C0.out.2.2.2.1 C0.out.2.2.2.2 ?_) | ((with_reducible refine gd_ 10 rfl ?_); refine bx_ (N := 10) #[.int .i64 0, .int .i64 0, .bool false, .slice none 0 0, .slice none 0 0] 39 ?_; intro g_s hg w103 hbox hb; have G_s := kb_g HB hg; have O_s_l := kb_g B_l hg; have O_s_q := kb_g B_q hg; replace HB := kb_b HB hb; replace B_l := kb_b B_l hb; replace B_q := kb_b B_q hb; clear hb; have V_s := a0_ hbox; have B_s := kf_ w103; have N_s := nf_ g_s; clear hbox hg) | ((with_reducible refine gt_ 39 10 30 rfl ?_); refine store_ev5 (p := .tmp 10) (v := .tmp 30) rfl rfl rfl (g := g_s) rfl rfl (bk_ V_s B_s N_s) ?_; intro w104 hbox hk; replace HB := kb_o HB hk G_s; replace B_l := kb_o B_l hk O_s_l; replace B_q := kb_o B_q hk O_s_q; clear V_s B_s; have V_s := a0_ hbox; have B_s := kf_ w104; clear hbox hk; have bk_s := bk_ V_s B_s N_s; have hz_s_0 : w104.cell? ⟨g_s, 0, none⟩ = some (.int .i64 sa) := (blk_cell bk_s 0).trans rfl; have hz_s_1 : w104.cell? ⟨g_s, 1, none⟩ = some (.int .i64 sb) := (blk_cell bk_s 1).trans rfl; have hz_s_2 : w104.cell? ⟨g_s, 2, none⟩ = some (.bool ty) := (blk_cell bk_s 2).trans rfl; have hz_s_3 : w104.cell? ⟨g_s, 3, none⟩ = some (.slice Ay ny cy) := (blk_cell bk_s 3).trans rfl; have hz_s_4 : w104.cell? ⟨g_s, 4, none⟩ = some (.slice Dy ky zy) := (blk_cell bk_s 4).trans rfl; clear bk_s))
    go_roundg (nl - (j + 1))
    case measure => have := HJ.out; omega
    case rel => exact ⟨j + 1, by first | rfl | rw [e1], ⟨by have := HJ.out; omega⟩, HB, B_q⟩
  · have hz : ¬ (j : Int) < (nl : Int) := by omega
    clear hlt
    go_wp2_with fail
    have hb : Below wr.heap.size wr wr.drew := below_drew1 (Below.refl _ _)
    replace HB := kb_b HB hb
    replace B_l := kb_b B_l hb
    replace B_q := kb_b B_q hb
    clear hb
    refine start_ (n := 19) (S := fun w' => w'.heap[g_q]? = some (.cells #[.bool tq, .slice Aq nq cq, .slice Dq kq zq] 30 (0, 0))) (ds := []) (tB_ 19 0) (by kernel_rfl) rfl (by kernel_rfl) (bk_ V_q B_q N_q) (fun hHeld => ?_)
    refine with_tabW May2.tab9 May2.bits9 (fun HT_ HW_ => ?_)
    generalize wr.drew = w103 at HB B_l B_q hHeld ⊢
    refine pu_ 0 (some 50) 1 HT_ ?_
    refine pu_ 1 (some 51) 3 HT_ ?_
    refine pu_ 2 (some 52) 7 HT_ ?_
    refine sk_ 3 (some 53) 15 HT_ ?_
    refine sk_ 4 (some 54) 31 HT_ ?_
    refine sk_ 5 (some 55) 63 HT_ ?_
    refine sk_ 6 (some 56) 127 HT_ ?_
    refine sk_ 7 (some 57) 255 HT_ ?_
    refine sk_ 8 (some 58) 511 HT_ ?_
    refine sk_ 9 (some 59) 1023 HT_ ?_
    refine sk_ 10 (some 60) 2047 HT_ ?_
    refine sk_ 11 (some 61) 4095 HT_ ?_
    refine sk_ 12 (some 62) 8191 HT_ ?_
    refine sk_ 13 (some 63) 16383 HT_ ?_
    refine sk_ 14 (some 64) 32767 HT_ ?_
    refine sk_ 15 (some 65) 65535 HT_ ?_
    refine sk_ 16 (some 66) 131071 HT_ ?_
    refine pu_ 17 (some 67) 262143 HT_ ?_
    refine pu_ 18 (some 8) 524287 HT_ ?_
    refine do_ HT_ ?_
    clear HT_ HW_ hHeld
    go_wp2_with fail
    go_ret
    exact ⟨rfl, (Kb.to_below HB.out (fun _ h => h.elim))⟩
def May3.T9 : Bool × List (List Nat × List Nat) := (true, [([], []), ([0], [0]), ([1], [1]), ([2], [2]), ([3, 2, 2], [2, 3]), ([4, 2], [2, 4]), ([5, 4, 2], [2, 5]), ([6], [6]), ([7, 6], [6, 7]), ([8, 6], [6, 8]), ([6, 9, 2], [2, 6, 9]), ([10, 6, 2], [2, 10]), ([11], [11]), ([11, 11], [11]), ([12, 13, 13, 11], [11, 12, 13]), ([14, 11], [11, 14]), ([11, 15, 2], [2, 11, 15]), ([2, 16], [2, 16]), ([17, 14, 0, 1, 2, 3, 4, 5, 6, 7, 8, 9, 10, 11, 12, 13, 14, 15, 16, 17], [17])])
def May3.B9 : List Nat := [0, 1, 3, 7, 15, 31, 63, 127, 255, 511, 1023, 2047, 4095, 4095, 16383, 32767, 65535, 131071, 262143]
theorem May3.tab9 : rtab .any (opsOf Try.f29 9) = May3.T9 := by kernel_rfl
theorem May3.bits9 : waitsOk May3.T9.2 May3.B9 = true := by kernel_rfl
theorem may3_calls {okl : Nat → Prop} (over : Int) (h0 : 1 ≤ over) (h1 : over ≤ 9007199254740991) (ss : List Smp) (hby : ByS ss) (hsz : ss.length ≤ 1000000) (w : World) (tq : Bool) (Aq : Option Addr) (nq cq : Nat) (Dq : Option Addr) (kq zq : Nat) (vl : Value) (hl : RowS okl w vl ss) :
 Calls Try.prog 29 #[.int .i64 3, .int .i64 over, .agg #[.bool tq, .slice Aq nq cq, .slice Dq kq zq], vl] w fun e w' => e = .returned (.bool true) ∧ Below w.heap.size w w' := by
 have hu30 := Try.underlying30
 have hu39 := Try.underlying39
 obtain ⟨Al, cl, rfl⟩ := hl.slice
 obtain ⟨nl, hnl⟩ : ∃ nl, nl = ss.length := ⟨_, rfl⟩
 rw [← hnl] at hl hsz ⊢
 have HNL := a0_ (And.intro hnl hsz)
 have HBY := a0_ hby
 have e3 : ¬ over < 1 := by omega
 have e4 : ¬ 9007199254740991 < over := by omega
 clear hnl hby hsz h0 h1
 have HB := kf_ w
 have V_l := a0_ hl
 clear hl
 have B_l := kf_ w
 go_enter Try.func29, Try.ntmps29
 go_wp2_with (first | ((with_reducible refine gd_ 6 rfl ?_); refine bx_ (N := 6) #[.bool tq, .slice Aq nq cq, .slice Dq kq zq] 30 ?_; intro g_q hg w101 hbox hb; have G_q := kb_g HB hg; replace HB := kb_b HB hb; replace B_l := kb_b B_l hb; clear hb; have V_q := a0_ hbox; have B_q := kf_ w101; have N_q := nf_ g_q; clear hbox hg))
 go_loopg [27] nl (fun kg v27 wr => ∃ (j : Nat), v27 = .int .i64 j ∧ Aside0 (j + kg = nl) ∧ Aside0 (Kb (fun k => False) w wr) ∧ Aside0 (Kb (fun k => False) w101 wr))
 case atStart => exact ⟨0, rfl, ⟨by omega⟩, HB, B_q⟩
 case round =>
  obtain ⟨j, rfl, HJ, HB2, HQB⟩ := hrel
  clear HB B_l B_q
  have HB := HB2
  clear HB2
  have B_l := HB
  have B_q := HQB
  clear HQB
  by_cases hlt : j < nl
  · have hz : (j : Int) < (nl : Int) := by omega
    have e1 : IntKind.i64.wrap ((j : Int) + 1) = ((j + 1 : Nat) : Int) := (i64_w _).trans ((w64 (by have := HNL.out.2; omega) (by have := HNL.out.2; omega)).trans (by omega))
    obtain ⟨bl, ol, rfl⟩ := RowS.some_ V_l.out (by omega)
    obtain ⟨ty, Ay, ny, cy, Dy, ky, zy, hy, c0, c1, c2, c3, c4⟩ := RowS.get (RowS.kb V_l.out B_l.out (fun _ _ h => h)) j (by rw [← HNL.out.1]; exact hlt)
    have C0 := a0_ (And.intro c0 (And.intro c1 (And.intro c2 (And.intro c3 c4))))
    clear c0 c1 c2 c3 c4
    have hbj := HBY.out j (by rw [← HNL.out.1]; exact hlt)
    obtain ⟨sa, hsa⟩ : ∃ x, x = (ss.getD j ⟨0, 0, none⟩).at_ := ⟨_, rfl⟩
    obtain ⟨sb, hsb⟩ : ∃ x, x = (ss.getD j ⟨0, 0, none⟩).by_ := ⟨_, rfl⟩
    rw [← hsa, ← hsb] at C0
    rw [← hsb] at hbj
    have f1 : ¬ sb < 0 := by omega
    have f2 : ¬ 9007199254740991 < sb := by omega
    clear hsa hsb hbj
    clear hy
    go_wp2_with (first | ((with_reducible refine gd_ 30 rfl ?_); refine load_at5 rfl rfl (g := bl) (k := ol + j * 5) rfl C0.out.1 C0.out.2.1 C0.out.2.2.1 C0.out.2.2.2.1 C0.out.2.2.2.2 ?_) | ((with_reducible refine gd_ 10 rfl ?_); refine bx_ (N := 10) #[.int .i64 0, .int .i64 0, .bool false, .slice none 0 0, .slice none 0 0] 39 ?_; intro g_s hg w103 hbox hb; have G_s := kb_g HB hg; have O_s_l := kb_g B_l hg; have O_s_q := kb_g B_q hg; replace HB := kb_b HB hb; replace B_l := kb_b B_l hb; replace B_q := kb_b B_q hb; clear hb; have V_s := a0_ hbox; have B_s := kf_ w103; have N_s := nf_ g_s; clear hbox hg) | ((with_reducible refine gt_ 39 10 30 rfl ?_); refine store_ev5 (p := .tmp 10) (v := .tmp 30) rfl rfl rfl (g := g_s) rfl rfl (bk_ V_s B_s N_s) ?_; intro w104 hbox hk; replace HB := kb_o HB hk G_s; replace B_l := kb_o B_l hk O_s_l; replace B_q := kb_o B_q hk O_s_q; clear V_s B_s; have V_s := a0_ hbox; have B_s := kf_ w104; clear hbox hk; have bk_s := bk_ V_s B_s N_s; have hz_s_0 : w104.cell? ⟨g_s, 0, none⟩ = some (.int .i64 sa) := (blk_cell bk_s 0).trans rfl; have hz_s_1 : w104.cell? ⟨g_s, 1, none⟩ = some (.int .i64 sb) := (blk_cell bk_s 1).trans rfl; have hz_s_2 : w104.cell? ⟨g_s, 2, none⟩ = some (.bool ty) := (blk_cell bk_s 2).trans rfl; have hz_s_3 : w104.cell? ⟨g_s, 3, none⟩ = some (.slice Ay ny cy) := (blk_cell bk_s 3).trans rfl; have hz_s_4 : w104.cell? ⟨g_s, 4, none⟩ = some (.slice Dy ky zy) := (blk_cell bk_s 4).trans rfl; clear bk_s))
    go_roundg (nl - (j + 1))
    case measure => have := HJ.out; omega
    case rel => exact ⟨j + 1, by first | rfl | rw [e1], ⟨by have := HJ.out; omega⟩, HB, B_q⟩
  · have hz : ¬ (j : Int) < (nl : Int) := by omega
    clear hlt
    go_wp2_with fail
    have hb : Below wr.heap.size wr wr.drew := below_drew1 (Below.refl _ _)
    replace HB := kb_b HB hb
    replace B_l := kb_b B_l hb
    replace B_q := kb_b B_q hb
    clear hb
    refine start_ (n := 19) (S := fun w' => w'.heap[g_q]? = some (.cells #[.bool tq, .slice Aq nq cq, .slice Dq kq zq] 30 (0, 0))) (ds := []) (tB_ 19 0) (by kernel_rfl) rfl (by kernel_rfl) (bk_ V_q B_q N_q) (fun hHeld => ?_)
    refine with_tabW May3.tab9 May3.bits9 (fun HT_ HW_ => ?_)
    generalize wr.drew = w103 at HB B_l B_q hHeld ⊢
    refine pu_ 0 (some 50) 1 HT_ ?_
    refine pu_ 1 (some 51) 3 HT_ ?_
    refine pu_ 2 (some 52) 7 HT_ ?_
    refine sk_ 3 (some 53) 15 HT_ ?_
    refine sk_ 4 (some 54) 31 HT_ ?_
    refine sk_ 5 (some 55) 63 HT_ ?_
    refine sk_ 6 (some 56) 127 HT_ ?_
    refine sk_ 7 (some 57) 255 HT_ ?_
    refine sk_ 8 (some 58) 511 HT_ ?_
    refine sk_ 9 (some 59) 1023 HT_ ?_
    refine sk_ 10 (some 60) 2047 HT_ ?_
    refine sk_ 11 (some 61) 4095 HT_ ?_
    refine sk_ 12 (some 62) 8191 HT_ ?_
    refine sk_ 13 (some 63) 16383 HT_ ?_
    refine sk_ 14 (some 64) 32767 HT_ ?_
    refine sk_ 15 (some 65) 65535 HT_ ?_
    refine sk_ 16 (some 66) 131071 HT_ ?_
    refine pu_ 17 (some 67) 262143 HT_ ?_
    refine pu_ 18 (some 8) 524287 HT_ ?_
    refine do_ HT_ ?_
    clear HT_ HW_ hHeld
    go_wp2_with fail
    go_ret
    exact ⟨rfl, (Kb.to_below HB.out (fun _ h => h.elim))⟩
def May4.T9 : Bool × List (List Nat × List Nat) := (true, [([], []), ([0], [0]), ([1], [1]), ([2], [2]), ([3, 2, 2], [2, 3]), ([4, 2], [2, 4]), ([5, 4, 2], [2, 5]), ([6], [6]), ([7, 6], [6, 7]), ([8, 6], [6, 8]), ([6, 9, 2], [2, 6, 9]), ([10, 6, 2], [2, 10]), ([11], [11]), ([11, 11], [11]), ([12, 13, 13, 11], [11, 12, 13]), ([14, 11], [11, 14]), ([11, 15, 2], [2, 11, 15]), ([2, 16], [2, 16]), ([17, 14, 0, 1, 2, 3, 4, 5, 6, 7, 8, 9, 10, 11, 12, 13, 14, 15, 16, 17], [17])])
def May4.B9 : List Nat := [0, 1, 3, 7, 15, 31, 63, 127, 255, 511, 1023, 2047, 4095, 4095, 16383, 32767, 65535, 131071, 262143]
theorem May4.tab9 : rtab .any (opsOf Try.f29 9) = May4.T9 := by kernel_rfl
theorem May4.bits9 : waitsOk May4.T9.2 May4.B9 = true := by kernel_rfl
theorem may4_calls {okl : Nat → Prop} (over : Int) (h0 : 1 ≤ over) (h1 : over ≤ 9007199254740991) (ss : List Smp) (hby : ByS ss) (hsz : ss.length ≤ 1000000) (w : World) (tq : Bool) (Aq : Option Addr) (nq cq : Nat) (Dq : Option Addr) (kq zq : Nat) (vl : Value) (hl : RowS okl w vl ss) :
 Calls Try.prog 29 #[.int .i64 4, .int .i64 over, .agg #[.bool tq, .slice Aq nq cq, .slice Dq kq zq], vl] w fun e w' => e = .returned (.bool true) ∧ Below w.heap.size w w' := by
 have hu30 := Try.underlying30
 have hu39 := Try.underlying39
 obtain ⟨Al, cl, rfl⟩ := hl.slice
 obtain ⟨nl, hnl⟩ : ∃ nl, nl = ss.length := ⟨_, rfl⟩
 rw [← hnl] at hl hsz ⊢
 have HNL := a0_ (And.intro hnl hsz)
 have HBY := a0_ hby
 have e3 : ¬ over < 1 := by omega
 have e4 : ¬ 9007199254740991 < over := by omega
 clear hnl hby hsz h0 h1
 have HB := kf_ w
 have V_l := a0_ hl
 clear hl
 have B_l := kf_ w
 go_enter Try.func29, Try.ntmps29
 go_wp2_with (first | ((with_reducible refine gd_ 6 rfl ?_); refine bx_ (N := 6) #[.bool tq, .slice Aq nq cq, .slice Dq kq zq] 30 ?_; intro g_q hg w101 hbox hb; have G_q := kb_g HB hg; replace HB := kb_b HB hb; replace B_l := kb_b B_l hb; clear hb; have V_q := a0_ hbox; have B_q := kf_ w101; have N_q := nf_ g_q; clear hbox hg))
 go_loopg [27] nl (fun kg v27 wr => ∃ (j : Nat), v27 = .int .i64 j ∧ Aside0 (j + kg = nl) ∧ Aside0 (Kb (fun k => False) w wr) ∧ Aside0 (Kb (fun k => False) w101 wr))
 case atStart => exact ⟨0, rfl, ⟨by omega⟩, HB, B_q⟩
 case round =>
  obtain ⟨j, rfl, HJ, HB2, HQB⟩ := hrel
  clear HB B_l B_q
  have HB := HB2
  clear HB2
  have B_l := HB
  have B_q := HQB
  clear HQB
  by_cases hlt : j < nl
  · have hz : (j : Int) < (nl : Int) := by omega
    have e1 : IntKind.i64.wrap ((j : Int) + 1) = ((j + 1 : Nat) : Int) := (i64_w _).trans ((w64 (by have := HNL.out.2; omega) (by have := HNL.out.2; omega)).trans (by omega))
    obtain ⟨bl, ol, rfl⟩ := RowS.some_ V_l.out (by omega)
    obtain ⟨ty, Ay, ny, cy, Dy, ky, zy, hy, c0, c1, c2, c3, c4⟩ := RowS.get (RowS.kb V_l.out B_l.out (fun _ _ h => h)) j (by rw [← HNL.out.1]; exact hlt)
    have C0 := a0_ (And.intro c0 (And.intro c1 (And.intro c2 (And.intro c3 c4))))
    clear c0 c1 c2 c3 c4
    have hbj := HBY.out j (by rw [← HNL.out.1]; exact hlt)
    obtain ⟨sa, hsa⟩ : ∃ x, x = (ss.getD j ⟨0, 0, none⟩).at_ := ⟨_, rfl⟩
    obtain ⟨sb, hsb⟩ : ∃ x, x = (ss.getD j ⟨0, 0, none⟩).by_ := ⟨_, rfl⟩
    rw [← hsa, ← hsb] at C0
    rw [← hsb] at hbj
    have f1 : ¬ sb < 0 := by omega
    have f2 : ¬ 9007199254740991 < sb := by omega
    clear hsa hsb hbj
    clear hy
    go_wp2_with (first | ((with_reducible refine gd_ 30 rfl ?_); refine load_at5 rfl rfl (g := bl) (k := ol + j * 5) rfl C0.out.1 C0.out.2.1 C0.out.2.2.1 C0.out.2.2.2.1 C0.out.2.2.2.2 ?_) | ((with_reducible refine gd_ 10 rfl ?_); refine bx_ (N := 10) #[.int .i64 0, .int .i64 0, .bool false, .slice none 0 0, .slice none 0 0] 39 ?_; intro g_s hg w103 hbox hb; have G_s := kb_g HB hg; have O_s_l := kb_g B_l hg; have O_s_q := kb_g B_q hg; replace HB := kb_b HB hb; replace B_l := kb_b B_l hb; replace B_q := kb_b B_q hb; clear hb; have V_s := a0_ hbox; have B_s := kf_ w103; have N_s := nf_ g_s; clear hbox hg) | ((with_reducible refine gt_ 39 10 30 rfl ?_); refine store_ev5 (p := .tmp 10) (v := .tmp 30) rfl rfl rfl (g := g_s) rfl rfl (bk_ V_s B_s N_s) ?_; intro w104 hbox hk; replace HB := kb_o HB hk G_s; replace B_l := kb_o B_l hk O_s_l; replace B_q := kb_o B_q hk O_s_q; clear V_s B_s; have V_s := a0_ hbox; have B_s := kf_ w104; clear hbox hk; have bk_s := bk_ V_s B_s N_s; have hz_s_0 : w104.cell? ⟨g_s, 0, none⟩ = some (.int .i64 sa) := (blk_cell bk_s 0).trans rfl; have hz_s_1 : w104.cell? ⟨g_s, 1, none⟩ = some (.int .i64 sb) := (blk_cell bk_s 1).trans rfl; have hz_s_2 : w104.cell? ⟨g_s, 2, none⟩ = some (.bool ty) := (blk_cell bk_s 2).trans rfl; have hz_s_3 : w104.cell? ⟨g_s, 3, none⟩ = some (.slice Ay ny cy) := (blk_cell bk_s 3).trans rfl; have hz_s_4 : w104.cell? ⟨g_s, 4, none⟩ = some (.slice Dy ky zy) := (blk_cell bk_s 4).trans rfl; clear bk_s))
    go_roundg (nl - (j + 1))
    case measure => have := HJ.out; omega
    case rel => exact ⟨j + 1, by first | rfl | rw [e1], ⟨by have := HJ.out; omega⟩, HB, B_q⟩
  · have hz : ¬ (j : Int) < (nl : Int) := by omega
    clear hlt
    go_wp2_with fail
    have hb : Below wr.heap.size wr wr.drew := below_drew1 (Below.refl _ _)
    replace HB := kb_b HB hb
    replace B_l := kb_b B_l hb
    replace B_q := kb_b B_q hb
    clear hb
    refine start_ (n := 19) (S := fun w' => w'.heap[g_q]? = some (.cells #[.bool tq, .slice Aq nq cq, .slice Dq kq zq] 30 (0, 0))) (ds := []) (tB_ 19 0) (by kernel_rfl) rfl (by kernel_rfl) (bk_ V_q B_q N_q) (fun hHeld => ?_)
    refine with_tabW May4.tab9 May4.bits9 (fun HT_ HW_ => ?_)
    generalize wr.drew = w103 at HB B_l B_q hHeld ⊢
    refine pu_ 0 (some 50) 1 HT_ ?_
    refine pu_ 1 (some 51) 3 HT_ ?_
    refine pu_ 2 (some 52) 7 HT_ ?_
    refine sk_ 3 (some 53) 15 HT_ ?_
    refine sk_ 4 (some 54) 31 HT_ ?_
    refine sk_ 5 (some 55) 63 HT_ ?_
    refine sk_ 6 (some 56) 127 HT_ ?_
    refine sk_ 7 (some 57) 255 HT_ ?_
    refine sk_ 8 (some 58) 511 HT_ ?_
    refine sk_ 9 (some 59) 1023 HT_ ?_
    refine sk_ 10 (some 60) 2047 HT_ ?_
    refine sk_ 11 (some 61) 4095 HT_ ?_
    refine sk_ 12 (some 62) 8191 HT_ ?_
    refine sk_ 13 (some 63) 16383 HT_ ?_
    refine sk_ 14 (some 64) 32767 HT_ ?_
    refine sk_ 15 (some 65) 65535 HT_ ?_
    refine sk_ 16 (some 66) 131071 HT_ ?_
    refine pu_ 17 (some 67) 262143 HT_ ?_
    refine pu_ 18 (some 8) 524287 HT_ ?_
    refine do_ HT_ ?_
    clear HT_ HW_ hHeld
    go_wp2_with fail
    go_ret
    exact ⟨rfl, (Kb.to_below HB.out (fun _ h => h.elim))⟩
def May5.T9 : Bool × List (List Nat × List Nat) := (true, [([], []), ([0], [0]), ([1], [1]), ([2], [2]), ([3, 2, 2], [2, 3]), ([4, 2], [2, 4]), ([5, 4, 2], [2, 5]), ([6], [6]), ([7, 6], [6, 7]), ([8, 6], [6, 8]), ([6, 9, 2], [2, 6, 9]), ([10, 6, 2], [2, 10]), ([11], [11]), ([11, 11], [11]), ([12, 13, 13, 11], [11, 12, 13]), ([14, 11], [11, 14]), ([11, 15, 2], [2, 11, 15]), ([2, 16], [2, 16]), ([17, 14, 0, 1, 2, 3, 4, 5, 6, 7, 8, 9, 10, 11, 12, 13, 14, 15, 16, 17], [17])])
def May5.B9 : List Nat := [0, 1, 3, 7, 15, 31, 63, 127, 255, 511, 1023, 2047, 4095, 4095, 16383, 32767, 65535, 131071, 262143]
theorem May5.tab9 : rtab .any (opsOf Try.f29 9) = May5.T9 := by kernel_rfl
theorem May5.bits9 : waitsOk May5.T9.2 May5.B9 = true := by kernel_rfl
theorem may5_calls {okl : Nat → Prop} (over : Int) (h0 : 1 ≤ over) (h1 : over ≤ 9007199254740991) (ss : List Smp) (hby : ByS ss) (hsz : ss.length ≤ 1000000) (w : World) (tq : Bool) (Aq : Option Addr) (nq cq : Nat) (Dq : Option Addr) (kq zq : Nat) (vl : Value) (hl : RowS okl w vl ss) :
 Calls Try.prog 29 #[.int .i64 5, .int .i64 over, .agg #[.bool tq, .slice Aq nq cq, .slice Dq kq zq], vl] w fun e w' => e = .returned (.bool true) ∧ Below w.heap.size w w' := by
 have hu30 := Try.underlying30
 have hu39 := Try.underlying39
 obtain ⟨Al, cl, rfl⟩ := hl.slice
 obtain ⟨nl, hnl⟩ : ∃ nl, nl = ss.length := ⟨_, rfl⟩
 rw [← hnl] at hl hsz ⊢
 have HNL := a0_ (And.intro hnl hsz)
 have HBY := a0_ hby
 have e3 : ¬ over < 1 := by omega
 have e4 : ¬ 9007199254740991 < over := by omega
 clear hnl hby hsz h0 h1
 have HB := kf_ w
 have V_l := a0_ hl
 clear hl
 have B_l := kf_ w
 go_enter Try.func29, Try.ntmps29
 go_wp2_with (first | ((with_reducible refine gd_ 6 rfl ?_); refine bx_ (N := 6) #[.bool tq, .slice Aq nq cq, .slice Dq kq zq] 30 ?_; intro g_q hg w101 hbox hb; have G_q := kb_g HB hg; replace HB := kb_b HB hb; replace B_l := kb_b B_l hb; clear hb; have V_q := a0_ hbox; have B_q := kf_ w101; have N_q := nf_ g_q; clear hbox hg))
 go_loopg [27] nl (fun kg v27 wr => ∃ (j : Nat), v27 = .int .i64 j ∧ Aside0 (j + kg = nl) ∧ Aside0 (Kb (fun k => False) w wr) ∧ Aside0 (Kb (fun k => False) w101 wr))
 case atStart => exact ⟨0, rfl, ⟨by omega⟩, HB, B_q⟩
 case round =>
  obtain ⟨j, rfl, HJ, HB2, HQB⟩ := hrel
  clear HB B_l B_q
  have HB := HB2
  clear HB2
  have B_l := HB
  have B_q := HQB
  clear HQB
  by_cases hlt : j < nl
  · have hz : (j : Int) < (nl : Int) := by omega
    have e1 : IntKind.i64.wrap ((j : Int) + 1) = ((j + 1 : Nat) : Int) := (i64_w _).trans ((w64 (by have := HNL.out.2; omega) (by have := HNL.out.2; omega)).trans (by omega))
    obtain ⟨bl, ol, rfl⟩ := RowS.some_ V_l.out (by omega)
    obtain ⟨ty, Ay, ny, cy, Dy, ky, zy, hy, c0, c1, c2, c3, c4⟩ := RowS.get (RowS.kb V_l.out B_l.out (fun _ _ h => h)) j (by rw [← HNL.out.1]; exact hlt)
    have C0 := a0_ (And.intro c0 (And.intro c1 (And.intro c2 (And.intro c3 c4))))
    clear c0 c1 c2 c3 c4
    have hbj := HBY.out j (by rw [← HNL.out.1]; exact hlt)
    obtain ⟨sa, hsa⟩ : ∃ x, x = (ss.getD j ⟨0, 0, none⟩).at_ := ⟨_, rfl⟩
    obtain ⟨sb, hsb⟩ : ∃ x, x = (ss.getD j ⟨0, 0, none⟩).by_ := ⟨_, rfl⟩
    rw [← hsa, ← hsb] at C0
    rw [← hsb] at hbj
    have f1 : ¬ sb < 0 := by omega
    have f2 : ¬ 9007199254740991 < sb := by omega
    clear hsa hsb hbj
    clear hy
    go_wp2_with (first | ((with_reducible refine gd_ 30 rfl ?_); refine load_at5 rfl rfl (g := bl) (k := ol + j * 5) rfl C0.out.1 C0.out.2.1 C0.out.2.2.1 C0.out.2.2.2.1 C0.out.2.2.2.2 ?_) | ((with_reducible refine gd_ 10 rfl ?_); refine bx_ (N := 10) #[.int .i64 0, .int .i64 0, .bool false, .slice none 0 0, .slice none 0 0] 39 ?_; intro g_s hg w103 hbox hb; have G_s := kb_g HB hg; have O_s_l := kb_g B_l hg; have O_s_q := kb_g B_q hg; replace HB := kb_b HB hb; replace B_l := kb_b B_l hb; replace B_q := kb_b B_q hb; clear hb; have V_s := a0_ hbox; have B_s := kf_ w103; have N_s := nf_ g_s; clear hbox hg) | ((with_reducible refine gt_ 39 10 30 rfl ?_); refine store_ev5 (p := .tmp 10) (v := .tmp 30) rfl rfl rfl (g := g_s) rfl rfl (bk_ V_s B_s N_s) ?_; intro w104 hbox hk; replace HB := kb_o HB hk G_s; replace B_l := kb_o B_l hk O_s_l; replace B_q := kb_o B_q hk O_s_q; clear V_s B_s; have V_s := a0_ hbox; have B_s := kf_ w104; clear hbox hk; have bk_s := bk_ V_s B_s N_s; have hz_s_0 : w104.cell? ⟨g_s, 0, none⟩ = some (.int .i64 sa) := (blk_cell bk_s 0).trans rfl; have hz_s_1 : w104.cell? ⟨g_s, 1, none⟩ = some (.int .i64 sb) := (blk_cell bk_s 1).trans rfl; have hz_s_2 : w104.cell? ⟨g_s, 2, none⟩ = some (.bool ty) := (blk_cell bk_s 2).trans rfl; have hz_s_3 : w104.cell? ⟨g_s, 3, none⟩ = some (.slice Ay ny cy) := (blk_cell bk_s 3).trans rfl; have hz_s_4 : w104.cell? ⟨g_s, 4, none⟩ = some (.slice Dy ky zy) := (blk_cell bk_s 4).trans rfl; clear bk_s))
    go_roundg (nl - (j + 1))
    case measure => have := HJ.out; omega
    case rel => exact ⟨j + 1, by first | rfl | rw [e1], ⟨by have := HJ.out; omega⟩, HB, B_q⟩
  · have hz : ¬ (j : Int) < (nl : Int) := by omega
    clear hlt
    go_wp2_with fail
    have hb : Below wr.heap.size wr wr.drew := below_drew1 (Below.refl _ _)
    replace HB := kb_b HB hb
    replace B_l := kb_b B_l hb
    replace B_q := kb_b B_q hb
    clear hb
    refine start_ (n := 19) (S := fun w' => w'.heap[g_q]? = some (.cells #[.bool tq, .slice Aq nq cq, .slice Dq kq zq] 30 (0, 0))) (ds := []) (tB_ 19 0) (by kernel_rfl) rfl (by kernel_rfl) (bk_ V_q B_q N_q) (fun hHeld => ?_)
    refine with_tabW May5.tab9 May5.bits9 (fun HT_ HW_ => ?_)
    generalize wr.drew = w103 at HB B_l B_q hHeld ⊢
    refine pu_ 0 (some 50) 1 HT_ ?_
    refine pu_ 1 (some 51) 3 HT_ ?_
    refine pu_ 2 (some 52) 7 HT_ ?_
    refine sk_ 3 (some 53) 15 HT_ ?_
    refine sk_ 4 (some 54) 31 HT_ ?_
    refine sk_ 5 (some 55) 63 HT_ ?_
    refine sk_ 6 (some 56) 127 HT_ ?_
    refine sk_ 7 (some 57) 255 HT_ ?_
    refine sk_ 8 (some 58) 511 HT_ ?_
    refine sk_ 9 (some 59) 1023 HT_ ?_
    refine sk_ 10 (some 60) 2047 HT_ ?_
    refine sk_ 11 (some 61) 4095 HT_ ?_
    refine sk_ 12 (some 62) 8191 HT_ ?_
    refine sk_ 13 (some 63) 16383 HT_ ?_
    refine sk_ 14 (some 64) 32767 HT_ ?_
    refine sk_ 15 (some 65) 65535 HT_ ?_
    refine sk_ 16 (some 66) 131071 HT_ ?_
    refine pu_ 17 (some 67) 262143 HT_ ?_
    refine pu_ 18 (some 8) 524287 HT_ ?_
    refine do_ HT_ ?_
    clear HT_ HW_ hHeld
    go_wp2_with fail
    go_ret
    exact ⟨rfl, (Kb.to_below HB.out (fun _ h => h.elim))⟩
def May6.T9 : Bool × List (List Nat × List Nat) := (true, [([], []), ([0], [0]), ([1], [1]), ([2], [2]), ([3, 2, 2], [2, 3]), ([4, 2], [2, 4]), ([5, 4, 2], [2, 5]), ([6], [6]), ([7, 6], [6, 7]), ([8, 6], [6, 8]), ([6, 9, 2], [2, 6, 9]), ([10, 6, 2], [2, 10]), ([11], [11]), ([11, 11], [11]), ([12, 13, 13, 11], [11, 12, 13]), ([14, 11], [11, 14]), ([11, 15, 2], [2, 11, 15]), ([2, 16], [2, 16]), ([17, 14, 0, 1, 2, 3, 4, 5, 6, 7, 8, 9, 10, 11, 12, 13, 14, 15, 16, 17], [17])])
def May6.B9 : List Nat := [0, 1, 3, 7, 15, 31, 63, 127, 255, 511, 1023, 2047, 4095, 4095, 16383, 32767, 65535, 131071, 262143]
theorem May6.tab9 : rtab .any (opsOf Try.f29 9) = May6.T9 := by kernel_rfl
theorem May6.bits9 : waitsOk May6.T9.2 May6.B9 = true := by kernel_rfl
theorem may6_calls {okl : Nat → Prop} (over : Int) (h0 : 1 ≤ over) (h1 : over ≤ 9007199254740991) (ss : List Smp) (hby : ByS ss) (qs : List Rat) (hvs : ValS ss qs) (hsz : ss.length ≤ 1000000) (w : World) (tq : Bool) (Aq : Option Addr) (nq cq : Nat) (Dq : Option Addr) (kq zq : Nat) (vl : Value) (hl : RowS okl w vl ss) :
 Calls Try.prog 29 #[.int .i64 6, .int .i64 over, .agg #[.bool tq, .slice Aq nq cq, .slice Dq kq zq], vl] w fun e w' => e = .returned (.bool true) ∧ Below w.heap.size w w' := by
 have hu30 := Try.underlying30
 have hu39 := Try.underlying39
 obtain ⟨Al, cl, rfl⟩ := hl.slice
 obtain ⟨nl, hnl⟩ : ∃ nl, nl = ss.length := ⟨_, rfl⟩
 rw [← hnl] at hl hsz ⊢
 have HNL := a0_ (And.intro hnl hsz)
 have HBY := a0_ hby
 have e3 : ¬ over < 1 := by omega
 have e4 : ¬ 9007199254740991 < over := by omega
 clear hnl hby hsz h0 h1
 have HVS := a0_ hvs
 clear hvs
 have HB := kf_ w
 have V_l := a0_ hl
 clear hl
 have B_l := kf_ w
 go_enter Try.func29, Try.ntmps29
 go_wp2_with (first | ((with_reducible refine gd_ 6 rfl ?_); refine bx_ (N := 6) #[.bool tq, .slice Aq nq cq, .slice Dq kq zq] 30 ?_; intro g_q hg w101 hbox hb; have G_q := kb_g HB hg; replace HB := kb_b HB hb; replace B_l := kb_b B_l hb; clear hb; have V_q := a0_ hbox; have B_q := kf_ w101; have N_q := nf_ g_q; clear hbox hg))
 go_loopg [27] nl (fun kg v27 wr => ∃ (j : Nat), v27 = .int .i64 j ∧ Aside0 (j + kg = nl) ∧ Aside0 (Kb (fun k => False) w wr) ∧ Aside0 (Kb (fun k => False) w101 wr))
 case atStart => exact ⟨0, rfl, ⟨by omega⟩, HB, B_q⟩
 case round =>
  obtain ⟨j, rfl, HJ, HB2, HQB⟩ := hrel
  clear HB B_l B_q
  have HB := HB2
  clear HB2
  have B_l := HB
  have B_q := HQB
  clear HQB
  by_cases hlt : j < nl
  · have hz : (j : Int) < (nl : Int) := by omega
    have e1 : IntKind.i64.wrap ((j : Int) + 1) = ((j + 1 : Nat) : Int) := (i64_w _).trans ((w64 (by have := HNL.out.2; omega) (by have := HNL.out.2; omega)).trans (by omega))
    obtain ⟨bl, ol, rfl⟩ := RowS.some_ V_l.out (by omega)
    obtain ⟨ty, Ay, ny, cy, Dy, ky, zy, hy, c0, c1, c2, c3, c4⟩ := RowS.get (RowS.kb V_l.out B_l.out (fun _ _ h => h)) j (by rw [← HNL.out.1]; exact hlt)
    have C0 := a0_ (And.intro c0 (And.intro c1 (And.intro c2 (And.intro c3 c4))))
    clear c0 c1 c2 c3 c4
    have hbj := HBY.out j (by rw [← HNL.out.1]; exact hlt)
    obtain ⟨sa, hsa⟩ : ∃ x, x = (ss.getD j ⟨0, 0, none⟩).at_ := ⟨_, rfl⟩
    obtain ⟨sb, hsb⟩ : ∃ x, x = (ss.getD j ⟨0, 0, none⟩).by_ := ⟨_, rfl⟩
    rw [← hsa, ← hsb] at C0
    rw [← hsb] at hbj
    have f1 : ¬ sb < 0 := by omega
    have f2 : ¬ 9007199254740991 < sb := by omega
    clear hsa hsb hbj
    have hyv := hy _ (HVS.out.2 j (by rw [← HNL.out.1]; exact hlt))
    clear hy
    have V_y := a0_ hyv
    clear hyv
    have B_y := kf_ wr
    go_wp2_with (first | ((with_reducible refine gd_ 30 rfl ?_); refine load_at5 rfl rfl (g := bl) (k := ol + j * 5) rfl C0.out.1 C0.out.2.1 C0.out.2.2.1 C0.out.2.2.2.1 C0.out.2.2.2.2 ?_) | ((with_reducible refine gd_ 10 rfl ?_); refine bx_ (N := 10) #[.int .i64 0, .int .i64 0, .bool false, .slice none 0 0, .slice none 0 0] 39 ?_; intro g_s hg w103 hbox hb; have G_s := kb_g HB hg; have O_s_l := kb_g B_l hg; have O_s_q := kb_g B_q hg; have O_s_y := kb_g B_y hg; replace HB := kb_b HB hb; replace B_l := kb_b B_l hb; replace B_q := kb_b B_q hb; replace B_y := kb_b B_y hb; clear hb; have V_s := a0_ hbox; have B_s := kf_ w103; have N_s := nf_ g_s; clear hbox hg) | ((with_reducible refine gt_ 39 10 30 rfl ?_); refine store_ev5 (p := .tmp 10) (v := .tmp 30) rfl rfl rfl (g := g_s) rfl rfl (bk_ V_s B_s N_s) ?_; intro w104 hbox hk; replace HB := kb_o HB hk G_s; replace B_l := kb_o B_l hk O_s_l; replace B_q := kb_o B_q hk O_s_q; replace B_y := kb_o B_y hk O_s_y; clear V_s B_s; have V_s := a0_ hbox; have B_s := kf_ w104; clear hbox hk; have bk_s := bk_ V_s B_s N_s; have hz_s_0 : w104.cell? ⟨g_s, 0, none⟩ = some (.int .i64 sa) := (blk_cell bk_s 0).trans rfl; have hz_s_1 : w104.cell? ⟨g_s, 1, none⟩ = some (.int .i64 sb) := (blk_cell bk_s 1).trans rfl; have hz_s_2 : w104.cell? ⟨g_s, 2, none⟩ = some (.bool ty) := (blk_cell bk_s 2).trans rfl; have hz_s_3 : w104.cell? ⟨g_s, 3, none⟩ = some (.slice Ay ny cy) := (blk_cell bk_s 3).trans rfl; have hz_s_4 : w104.cell? ⟨g_s, 4, none⟩ = some (.slice Dy ky zy) := (blk_cell bk_s 4).trans rfl; clear bk_s))
    with_reducible refine (qcheck_calls (qs.getD j 0) _ _ (IsR.kb (S := fun k => False) V_y.out B_y.out (fun _ _ h => h))).mono ?_
    rintro e w105 ⟨rfl, hb⟩
    clear hz_s_0 hz_s_1 hz_s_2 hz_s_3 hz_s_4
    replace HB := kb_b HB hb
    replace B_l := kb_b B_l hb
    replace B_q := kb_b B_q hb
    replace B_y := kb_b B_y hb
    replace B_s := kb_b B_s hb
    clear hb
    go_wp2_with fail
    go_roundg (nl - (j + 1))
    case measure => have := HJ.out; omega
    case rel => exact ⟨j + 1, by first | rfl | rw [e1], ⟨by have := HJ.out; omega⟩, HB, B_q⟩
  · have hz : ¬ (j : Int) < (nl : Int) := by omega
    clear hlt
    go_wp2_with fail
    have hb : Below wr.heap.size wr wr.drew := below_drew1 (Below.refl _ _)
    replace HB := kb_b HB hb
    replace B_l := kb_b B_l hb
    replace B_q := kb_b B_q hb
    clear hb
    refine start_ (n := 19) (S := fun w' => w'.heap[g_q]? = some (.cells #[.bool tq, .slice Aq nq cq, .slice Dq kq zq] 30 (0, 0))) (ds := []) (tB_ 19 0) (by kernel_rfl) rfl (by kernel_rfl) (bk_ V_q B_q N_q) (fun hHeld => ?_)
    refine with_tabW May6.tab9 May6.bits9 (fun HT_ HW_ => ?_)
    generalize wr.drew = w103 at HB B_l B_q hHeld ⊢
    refine pu_ 0 (some 50) 1 HT_ ?_
    refine pu_ 1 (some 51) 3 HT_ ?_
    refine pu_ 2 (some 52) 7 HT_ ?_
    refine sk_ 3 (some 53) 15 HT_ ?_
    refine sk_ 4 (some 54) 31 HT_ ?_
    refine sk_ 5 (some 55) 63 HT_ ?_
    refine sk_ 6 (some 56) 127 HT_ ?_
    refine sk_ 7 (some 57) 255 HT_ ?_
    refine sk_ 8 (some 58) 511 HT_ ?_
    refine sk_ 9 (some 59) 1023 HT_ ?_
    refine sk_ 10 (some 60) 2047 HT_ ?_
    refine sk_ 11 (some 61) 4095 HT_ ?_
    refine sk_ 12 (some 62) 8191 HT_ ?_
    refine sk_ 13 (some 63) 16383 HT_ ?_
    refine sk_ 14 (some 64) 32767 HT_ ?_
    refine sk_ 15 (some 65) 65535 HT_ ?_
    refine sk_ 16 (some 66) 131071 HT_ ?_
    refine pu_ 17 (some 67) 262143 HT_ ?_
    refine pu_ 18 (some 8) 524287 HT_ ?_
    refine do_ HT_ ?_
    clear HT_ HW_ hHeld
    go_wp2_with fail
    go_ret
    exact ⟨rfl, (Kb.to_below HB.out (fun _ h => h.elim))⟩
def May7.T9 : Bool × List (List Nat × List Nat) := (true, [([], []), ([0], [0]), ([1], [1]), ([2], [2]), ([3, 2, 2], [2, 3]), ([4, 2], [2, 4]), ([5, 4, 2], [2, 5]), ([6], [6]), ([7, 6], [6, 7]), ([8, 6], [6, 8]), ([6, 9, 2], [2, 6, 9]), ([10, 6, 2], [2, 10]), ([11], [11]), ([11, 11], [11]), ([12, 13, 13, 11], [11, 12, 13]), ([14, 11], [11, 14]), ([11, 15, 2], [2, 11, 15]), ([2, 16], [2, 16]), ([17, 14, 0, 1, 2, 3, 4, 5, 6, 7, 8, 9, 10, 11, 12, 13, 14, 15, 16, 17], [17])])
def May7.B9 : List Nat := [0, 1, 3, 7, 15, 31, 63, 127, 255, 511, 1023, 2047, 4095, 4095, 16383, 32767, 65535, 131071, 262143]
theorem May7.tab9 : rtab .any (opsOf Try.f29 9) = May7.T9 := by kernel_rfl
theorem May7.bits9 : waitsOk May7.T9.2 May7.B9 = true := by kernel_rfl
theorem may7_calls {okl : Nat → Prop} (over : Int) (h0 : 1 ≤ over) (h1 : over ≤ 9007199254740991) (ss : List Smp) (hby : ByS ss) (qs : List Rat) (hvs : ValS ss qs) (hsz : ss.length ≤ 1000000) (w : World) (tq : Bool) (Aq : Option Addr) (nq cq : Nat) (Dq : Option Addr) (kq zq : Nat) (vl : Value) (hl : RowS okl w vl ss) :
 Calls Try.prog 29 #[.int .i64 7, .int .i64 over, .agg #[.bool tq, .slice Aq nq cq, .slice Dq kq zq], vl] w fun e w' => e = .returned (.bool true) ∧ Below w.heap.size w w' := by
 have hu30 := Try.underlying30
 have hu39 := Try.underlying39
 obtain ⟨Al, cl, rfl⟩ := hl.slice
 obtain ⟨nl, hnl⟩ : ∃ nl, nl = ss.length := ⟨_, rfl⟩
 rw [← hnl] at hl hsz ⊢
 have HNL := a0_ (And.intro hnl hsz)
 have HBY := a0_ hby
 have e3 : ¬ over < 1 := by omega
 have e4 : ¬ 9007199254740991 < over := by omega
 clear hnl hby hsz h0 h1
 have HVS := a0_ hvs
 clear hvs
 have HB := kf_ w
 have V_l := a0_ hl
 clear hl
 have B_l := kf_ w
 go_enter Try.func29, Try.ntmps29
 go_wp2_with (first | ((with_reducible refine gd_ 6 rfl ?_); refine bx_ (N := 6) #[.bool tq, .slice Aq nq cq, .slice Dq kq zq] 30 ?_; intro g_q hg w101 hbox hb; have G_q := kb_g HB hg; replace HB := kb_b HB hb; replace B_l := kb_b B_l hb; clear hb; have V_q := a0_ hbox; have B_q := kf_ w101; have N_q := nf_ g_q; clear hbox hg))
 go_loopg [27] nl (fun kg v27 wr => ∃ (j : Nat), v27 = .int .i64 j ∧ Aside0 (j + kg = nl) ∧ Aside0 (Kb (fun k => False) w wr) ∧ Aside0 (Kb (fun k => False) w101 wr))
 case atStart => exact ⟨0, rfl, ⟨by omega⟩, HB, B_q⟩
 case round =>
  obtain ⟨j, rfl, HJ, HB2, HQB⟩ := hrel
  clear HB B_l B_q
  have HB := HB2
  clear HB2
  have B_l := HB
  have B_q := HQB
  clear HQB
  by_cases hlt : j < nl
  · have hz : (j : Int) < (nl : Int) := by omega
    have e1 : IntKind.i64.wrap ((j : Int) + 1) = ((j + 1 : Nat) : Int) := (i64_w _).trans ((w64 (by have := HNL.out.2; omega) (by have := HNL.out.2; omega)).trans (by omega))
    obtain ⟨bl, ol, rfl⟩ := RowS.some_ V_l.out (by omega)
    obtain ⟨ty, Ay, ny, cy, Dy, ky, zy, hy, c0, c1, c2, c3, c4⟩ := RowS.get (RowS.kb V_l.out B_l.out (fun _ _ h => h)) j (by rw [← HNL.out.1]; exact hlt)
    have C0 := a0_ (And.intro c0 (And.intro c1 (And.intro c2 (And.intro c3 c4))))
    clear c0 c1 c2 c3 c4
    have hbj := HBY.out j (by rw [← HNL.out.1]; exact hlt)
    obtain ⟨sa, hsa⟩ : ∃ x, x = (ss.getD j ⟨0, 0, none⟩).at_ := ⟨_, rfl⟩
    obtain ⟨sb, hsb⟩ : ∃ x, x = (ss.getD j ⟨0, 0, none⟩).by_ := ⟨_, rfl⟩
    rw [← hsa, ← hsb] at C0
    rw [← hsb] at hbj
    have f1 : ¬ sb < 0 := by omega
    have f2 : ¬ 9007199254740991 < sb := by omega
    clear hsa hsb hbj
    have hyv := hy _ (HVS.out.2 j (by rw [← HNL.out.1]; exact hlt))
    clear hy
    have V_y := a0_ hyv
    clear hyv
    have B_y := kf_ wr
    go_wp2_with (first | ((with_reducible refine gd_ 30 rfl ?_); refine load_at5 rfl rfl (g := bl) (k := ol + j * 5) rfl C0.out.1 C0.out.2.1 C0.out.2.2.1 C0.out.2.2.2.1 C0.out.2.2.2.2 ?_) | ((with_reducible refine gd_ 10 rfl ?_); refine bx_ (N := 10) #[.int .i64 0, .int .i64 0, .bool false, .slice none 0 0, .slice none 0 0] 39 ?_; intro g_s hg w103 hbox hb; have G_s := kb_g HB hg; have O_s_l := kb_g B_l hg; have O_s_q := kb_g B_q hg; have O_s_y := kb_g B_y hg; replace HB := kb_b HB hb; replace B_l := kb_b B_l hb; replace B_q := kb_b B_q hb; replace B_y := kb_b B_y hb; clear hb; have V_s := a0_ hbox; have B_s := kf_ w103; have N_s := nf_ g_s; clear hbox hg) | ((with_reducible refine gt_ 39 10 30 rfl ?_); refine store_ev5 (p := .tmp 10) (v := .tmp 30) rfl rfl rfl (g := g_s) rfl rfl (bk_ V_s B_s N_s) ?_; intro w104 hbox hk; replace HB := kb_o HB hk G_s; replace B_l := kb_o B_l hk O_s_l; replace B_q := kb_o B_q hk O_s_q; replace B_y := kb_o B_y hk O_s_y; clear V_s B_s; have V_s := a0_ hbox; have B_s := kf_ w104; clear hbox hk; have bk_s := bk_ V_s B_s N_s; have hz_s_0 : w104.cell? ⟨g_s, 0, none⟩ = some (.int .i64 sa) := (blk_cell bk_s 0).trans rfl; have hz_s_1 : w104.cell? ⟨g_s, 1, none⟩ = some (.int .i64 sb) := (blk_cell bk_s 1).trans rfl; have hz_s_2 : w104.cell? ⟨g_s, 2, none⟩ = some (.bool ty) := (blk_cell bk_s 2).trans rfl; have hz_s_3 : w104.cell? ⟨g_s, 3, none⟩ = some (.slice Ay ny cy) := (blk_cell bk_s 3).trans rfl; have hz_s_4 : w104.cell? ⟨g_s, 4, none⟩ = some (.slice Dy ky zy) := (blk_cell bk_s 4).trans rfl; clear bk_s))
    with_reducible refine (qcheck_calls (qs.getD j 0) _ _ (IsR.kb (S := fun k => False) V_y.out B_y.out (fun _ _ h => h))).mono ?_
    rintro e w105 ⟨rfl, hb⟩
    clear hz_s_0 hz_s_1 hz_s_2 hz_s_3 hz_s_4
    replace HB := kb_b HB hb
    replace B_l := kb_b B_l hb
    replace B_q := kb_b B_q hb
    replace B_y := kb_b B_y hb
    replace B_s := kb_b B_s hb
    clear hb
    go_wp2_with fail
    go_roundg (nl - (j + 1))
    case measure => have := HJ.out; omega
    case rel => exact ⟨j + 1, by first | rfl | rw [e1], ⟨by have := HJ.out; omega⟩, HB, B_q⟩
  · have hz : ¬ (j : Int) < (nl : Int) := by omega
    clear hlt
    go_wp2_with fail
    have hb : Below wr.heap.size wr wr.drew := below_drew1 (Below.refl _ _)
    replace HB := kb_b HB hb
    replace B_l := kb_b B_l hb
    replace B_q := kb_b B_q hb
    clear hb
    refine start_ (n := 19) (S := fun w' => w'.heap[g_q]? = some (.cells #[.bool tq, .slice Aq nq cq, .slice Dq kq zq] 30 (0, 0))) (ds := []) (tB_ 19 0) (by kernel_rfl) rfl (by kernel_rfl) (bk_ V_q B_q N_q) (fun hHeld => ?_)
    refine with_tabW May7.tab9 May7.bits9 (fun HT_ HW_ => ?_)
    generalize wr.drew = w103 at HB B_l B_q hHeld ⊢
    refine pu_ 0 (some 50) 1 HT_ ?_
    refine pu_ 1 (some 51) 3 HT_ ?_
    refine pu_ 2 (some 52) 7 HT_ ?_
    refine sk_ 3 (some 53) 15 HT_ ?_
    refine sk_ 4 (some 54) 31 HT_ ?_
    refine sk_ 5 (some 55) 63 HT_ ?_
    refine sk_ 6 (some 56) 127 HT_ ?_
    refine sk_ 7 (some 57) 255 HT_ ?_
    refine sk_ 8 (some 58) 511 HT_ ?_
    refine sk_ 9 (some 59) 1023 HT_ ?_
    refine sk_ 10 (some 60) 2047 HT_ ?_
    refine sk_ 11 (some 61) 4095 HT_ ?_
    refine sk_ 12 (some 62) 8191 HT_ ?_
    refine sk_ 13 (some 63) 16383 HT_ ?_
    refine sk_ 14 (some 64) 32767 HT_ ?_
    refine sk_ 15 (some 65) 65535 HT_ ?_
    refine sk_ 16 (some 66) 131071 HT_ ?_
    refine pu_ 17 (some 67) 262143 HT_ ?_
    refine pu_ 18 (some 8) 524287 HT_ ?_
    refine do_ HT_ ?_
    clear HT_ HW_ hHeld
    go_wp2_with fail
    go_ret
    exact ⟨rfl, (Kb.to_below HB.out (fun _ h => h.elim))⟩
def May12.T9 : Bool × List (List Nat × List Nat) := (true, [([], []), ([0], [0]), ([1], [1]), ([2], [2]), ([3, 2, 2], [2, 3]), ([4, 2], [2, 4]), ([5, 4, 2], [2, 5]), ([6], [6]), ([7, 6], [6, 7]), ([8, 6], [6, 8]), ([6, 9, 2], [2, 6, 9]), ([10, 6, 2], [2, 10]), ([11], [11]), ([11, 11], [11]), ([12, 13, 13, 11], [11, 12, 13]), ([14, 11], [11, 14]), ([11, 15, 2], [2, 11, 15]), ([2, 16], [2, 16]), ([17, 14, 0, 1, 2, 3, 4, 5, 6, 7, 8, 9, 10, 11, 12, 13, 14, 15, 16, 17], [17])])
def May12.B9 : List Nat := [0, 1, 3, 7, 15, 31, 63, 127, 255, 511, 1023, 2047, 4095, 4095, 16383, 32767, 65535, 131071, 262143]
theorem May12.tab9 : rtab .any (opsOf Try.f29 9) = May12.T9 := by kernel_rfl
theorem May12.bits9 : waitsOk May12.T9.2 May12.B9 = true := by kernel_rfl
theorem may12_calls {okl : Nat → Prop} (over : Int) (h0 : 1 ≤ over) (h1 : over ≤ 9007199254740991) (ss : List Smp) (hby : ByS ss) (qs : List Rat) (hvs : ValS ss qs) (hsz : ss.length ≤ 1000000) (w : World) (vq : Value) (vl : Value) (hl : RowS okl w vl ss) {okq : Nat → Prop} (q : Rat) (hq0 : 0 ≤ q) (hq1 : q ≤ 1) (hq : IsR okq w vq q) :
 Calls Try.prog 29 #[.int .i64 12, .int .i64 over, vq, vl] w fun e w' => e = .returned (.bool true) ∧ Below w.heap.size w w' := by
 have hu30 := Try.underlying30
 have hu39 := Try.underlying39
 obtain ⟨Al, cl, rfl⟩ := hl.slice
 obtain ⟨nl, hnl⟩ : ∃ nl, nl = ss.length := ⟨_, rfl⟩
 rw [← hnl] at hl hsz ⊢
 have HNL := a0_ (And.intro hnl hsz)
 have HBY := a0_ hby
 have e3 : ¬ over < 1 := by omega
 have e4 : ¬ 9007199254740991 < over := by omega
 clear hnl hby hsz h0 h1
 have HVS := a0_ hvs
 clear hvs
 have HQ := a0_ (And.intro hq0 hq1)
 clear hq0 hq1
 obtain ⟨tq, Aq, nq, cq, Dq, kq, zq, rfl⟩ := hq.agg
 have htq : tq = false := by
  have h := IsR.sign hq
  rw [h]
  exact decide_eq_false (by have := Rat.num_nonneg.2 HQ.out.1; omega)
 subst htq
 have HB := kf_ w
 have V_l := a0_ hl
 clear hl
 have B_l := kf_ w
 have V_vq := a0_ hq
 clear hq
 have B_vq := kf_ w
 go_enter Try.func29, Try.ntmps29
 go_wp2_with (first | ((with_reducible refine gd_ 6 rfl ?_); refine bx_ (N := 6) #[.bool false, .slice Aq nq cq, .slice Dq kq zq] 30 ?_; intro g_q hg w101 hbox hb; have G_q := kb_g HB hg; replace HB := kb_b HB hb; replace B_l := kb_b B_l hb; replace B_vq := kb_b B_vq hb; clear hb; have V_q := a0_ hbox; have B_q := kf_ w101; have N_q := nf_ g_q; clear hbox hg))
 go_loopg [27] nl (fun kg v27 wr => ∃ (j : Nat), v27 = .int .i64 j ∧ Aside0 (j + kg = nl) ∧ Aside0 (Kb (fun k => False) w wr) ∧ Aside0 (Kb (fun k => False) w101 wr))
 case atStart => exact ⟨0, rfl, ⟨by omega⟩, HB, B_q⟩
 case round =>
  obtain ⟨j, rfl, HJ, HB2, HQB⟩ := hrel
  clear HB B_l B_q B_vq
  have HB := HB2
  clear HB2
  have B_l := HB
  have B_q := HQB
  clear HQB
  have B_vq := HB
  by_cases hlt : j < nl
  · have hz : (j : Int) < (nl : Int) := by omega
    have e1 : IntKind.i64.wrap ((j : Int) + 1) = ((j + 1 : Nat) : Int) := (i64_w _).trans ((w64 (by have := HNL.out.2; omega) (by have := HNL.out.2; omega)).trans (by omega))
    obtain ⟨bl, ol, rfl⟩ := RowS.some_ V_l.out (by omega)
    obtain ⟨ty, Ay, ny, cy, Dy, ky, zy, hy, c0, c1, c2, c3, c4⟩ := RowS.get (RowS.kb V_l.out B_l.out (fun _ _ h => h)) j (by rw [← HNL.out.1]; exact hlt)
    have C0 := a0_ (And.intro c0 (And.intro c1 (And.intro c2 (And.intro c3 c4))))
    clear c0 c1 c2 c3 c4
    have hbj := HBY.out j (by rw [← HNL.out.1]; exact hlt)
    obtain ⟨sa, hsa⟩ : ∃ x, x = (ss.getD j ⟨0, 0, none⟩).at_ := ⟨_, rfl⟩
    obtain ⟨sb, hsb⟩ : ∃ x, x = (ss.getD j ⟨0, 0, none⟩).by_ := ⟨_, rfl⟩
    rw [← hsa, ← hsb] at C0
    rw [← hsb] at hbj
    have f1 : ¬ sb < 0 := by omega
    have f2 : ¬ 9007199254740991 < sb := by omega
    clear hsa hsb hbj
    have hyv := hy _ (HVS.out.2 j (by rw [← HNL.out.1]; exact hlt))
    clear hy
    have V_y := a0_ hyv
    clear hyv
    have B_y := kf_ wr
    go_wp2_with (first | ((with_reducible refine gd_ 30 rfl ?_); refine load_at5 rfl rfl (g := bl) (k := ol + j * 5) rfl C0.out.1 C0.out.2.1 C0.out.2.2.1 C0.out.2.2.2.1 C0.out.2.2.2.2 ?_) | ((with_reducible refine gd_ 10 rfl ?_); refine bx_ (N := 10) #[.int .i64 0, .int .i64 0, .bool false, .slice none 0 0, .slice none 0 0] 39 ?_; intro g_s hg w103 hbox hb; have G_s := kb_g HB hg; have O_s_l := kb_g B_l hg; have O_s_vq := kb_g B_vq hg; have O_s_q := kb_g B_q hg; have O_s_y := kb_g B_y hg; replace HB := kb_b HB hb; replace B_l := kb_b B_l hb; replace B_vq := kb_b B_vq hb; replace B_q := kb_b B_q hb; replace B_y := kb_b B_y hb; clear hb; have V_s := a0_ hbox; have B_s := kf_ w103; have N_s := nf_ g_s; clear hbox hg) | ((with_reducible refine gt_ 39 10 30 rfl ?_); refine store_ev5 (p := .tmp 10) (v := .tmp 30) rfl rfl rfl (g := g_s) rfl rfl (bk_ V_s B_s N_s) ?_; intro w104 hbox hk; replace HB := kb_o HB hk G_s; replace B_l := kb_o B_l hk O_s_l; replace B_vq := kb_o B_vq hk O_s_vq; replace B_q := kb_o B_q hk O_s_q; replace B_y := kb_o B_y hk O_s_y; clear V_s B_s; have V_s := a0_ hbox; have B_s := kf_ w104; clear hbox hk; have bk_s := bk_ V_s B_s N_s; have hz_s_0 : w104.cell? ⟨g_s, 0, none⟩ = some (.int .i64 sa) := (blk_cell bk_s 0).trans rfl; have hz_s_1 : w104.cell? ⟨g_s, 1, none⟩ = some (.int .i64 sb) := (blk_cell bk_s 1).trans rfl; have hz_s_2 : w104.cell? ⟨g_s, 2, none⟩ = some (.bool ty) := (blk_cell bk_s 2).trans rfl; have hz_s_3 : w104.cell? ⟨g_s, 3, none⟩ = some (.slice Ay ny cy) := (blk_cell bk_s 3).trans rfl; have hz_s_4 : w104.cell? ⟨g_s, 4, none⟩ = some (.slice Dy ky zy) := (blk_cell bk_s 4).trans rfl; clear bk_s))
    with_reducible refine (qcheck_calls (qs.getD j 0) _ _ (IsR.kb (S := fun k => False) V_y.out B_y.out (fun _ _ h => h))).mono ?_
    rintro e w105 ⟨rfl, hb⟩
    clear hz_s_0 hz_s_1 hz_s_2 hz_s_3 hz_s_4
    replace HB := kb_b HB hb
    replace B_l := kb_b B_l hb
    replace B_vq := kb_b B_vq hb
    replace B_q := kb_b B_q hb
    replace B_y := kb_b B_y hb
    replace B_s := kb_b B_s hb
    clear hb
    go_wp2_with fail
    go_roundg (nl - (j + 1))
    case measure => have := HJ.out; omega
    case rel => exact ⟨j + 1, by first | rfl | rw [e1], ⟨by have := HJ.out; omega⟩, HB, B_q⟩
  · have hz : ¬ (j : Int) < (nl : Int) := by omega
    clear hlt
    go_wp2_with fail
    have hb : Below wr.heap.size wr wr.drew := below_drew1 (Below.refl _ _)
    replace HB := kb_b HB hb
    replace B_l := kb_b B_l hb
    replace B_vq := kb_b B_vq hb
    replace B_q := kb_b B_q hb
    clear hb
    refine start_ (n := 19) (S := fun w' => w'.heap[g_q]? = some (.cells #[.bool false, .slice Aq nq cq, .slice Dq kq zq] 30 (0, 0))) (ds := []) (tB_ 19 0) (by kernel_rfl) rfl (by kernel_rfl) (bk_ V_q B_q N_q) (fun hHeld => ?_)
    refine with_tabW May12.tab9 May12.bits9 (fun HT_ HW_ => ?_)
    generalize wr.drew = w103 at HB B_l B_vq B_q hHeld ⊢
    refine pu_ 0 (some 50) 1 HT_ ?_
    refine pu_ 1 (some 51) 3 HT_ ?_
    refine pu_ 2 (some 52) 7 HT_ ?_
    refine tk_ 3 (some 53) 15 HT_ HW_ hHeld ?_ ?_ ?_ ?_ ?_
    rotate_left
    · intro w' hs
      have hb_ := hs
      obtain ⟨c0_, c1_, c2_⟩ := b3_ hb_
      clear hb_ hs
      go_simp
      with_reducible rfl
    rotate_left
    · simp only [PU]
      rfl
    refine on_ 4 (some 54) 31 HT_ (fun K hK => ?_)
    refine gs_ Try.func17 #[.agg #[.bool false, .slice Aq nq cq, .slice Dq kq zq]] ?_
    refine (qcheck_calls q _ _ (IsR.kb (S := fun k => False) V_vq.out B_vq.out (fun _ _ h => h))).mono ?_
    rintro e w104 ⟨rfl, hb⟩
    refine ⟨_, rfl, ?_⟩
    refine hK.out _ _ (by exact blk_below hHeld hb) (fun hHeld => ?_)
    clear hK K
    refine nm_ (some 54) ?_
    replace HB := kb_b HB hb
    replace B_l := kb_b B_l hb
    replace B_vq := kb_b B_vq hb
    replace B_q := kb_b B_q hb
    clear hb
    refine pu_ 5 (some 55) 63 HT_ ?_
    refine pu_ 6 (some 56) 127 HT_ ?_
    refine pu_ 7 (some 57) 255 HT_ ?_
    refine tk_ 8 (some 58) 511 HT_ HW_ hHeld ?_ ?_ ?_ ?_ ?_
    rotate_left
    · intro w' hs
      have hb_ := hs
      obtain ⟨c0_, c1_, c2_⟩ := b3_ hb_
      clear hb_ hs
      go_simp
      with_reducible rfl
    rotate_left
    · simp only [PU]
      rfl
    refine pu_ 9 (some 59) 1023 HT_ ?_
    refine pu_ 10 (some 60) 2047 HT_ ?_
    refine pu_ 11 (some 61) 4095 HT_ ?_
    refine tk_ 12 (some 62) 8191 HT_ HW_ hHeld ?_ ?_ ?_ ?_ ?_
    rotate_left
    · intro w' hs
      have hb_ := hs
      obtain ⟨c0_, c1_, c2_⟩ := b3_ hb_
      clear hb_ hs
      go_simp
      with_reducible rfl
    rotate_left
    · simp only [PU]
      rfl
    obtain ⟨cv, hcv⟩ : ∃ c : Int, c = (if q < ((1 : Nat) : Rat) then -1 else if q = ((1 : Nat) : Rat) then 0 else 1) := ⟨_, rfl⟩
    have hcv2 : cv ≤ 0 := by
     rw [hcv]
     by_cases h1 : q < ((1 : Nat) : Rat)
     · rw [if_pos h1]; omega
     · rw [if_neg h1, if_pos (show q = ((1 : Nat) : Rat) from Rat.le_antisymm (show q ≤ ((1 : Nat) : Rat) from HQ.out.2) (Rat.not_lt.1 h1))]; omega
    have HCV := a0_ (And.intro hcv hcv2)
    clear hcv hcv2
    refine on_ 13 (some 63) 16383 HT_ (fun K hK => ?_)
    refine gs_ Try.func12 #[.int .i64 1] ?_
    refine (qofn_calls 1 (by omega) _).mono ?_
    rintro e w105 ⟨⟨v63, rfl, hv⟩, hb⟩
    obtain ⟨tu, Au, nu, cu, Du, ku, zu, rfl⟩ := hv.agg
    refine ⟨_, rfl, ?_⟩
    refine hK.out _ _ (by exact blk_below hHeld hb) (fun hHeld => ?_)
    clear hK K
    refine nm_ (some 63) ?_
    have hle := Kb.size HB.out
    have hv_ := IsR.mono' (ok' := fun k => True) hv (fun k hk _ => by trivial)
    clear hv hle
    replace HB := kb_b HB hb
    replace B_l := kb_b B_l hb
    replace B_vq := kb_b B_vq hb
    replace B_q := kb_b B_q hb
    clear hb
    have V_u := a0_ hv_
    clear hv_
    have B_u := kf_ w105
    refine on_ 14 (some 64) 32767 HT_ (fun K hK => ?_)
    refine gs_ Try.func39 #[.agg #[.bool false, .slice Aq nq cq, .slice Dq kq zq], .agg #[.bool tu, .slice Au nu cu, .slice Du ku zu]] ?_
    refine (cmp_as (wcompare_calls q ((1 : Nat) : Rat) _ _ _ (IsR.kb (S := fun k => False) V_vq.out B_vq.out (fun _ _ h => h)) (IsR.kb (S := fun k => False) V_u.out B_u.out (fun _ _ h => h))) HCV.out.1).mono ?_
    rintro e w106 ⟨rfl, hb⟩
    refine ⟨_, rfl, ?_⟩
    refine hK.out _ _ (by exact blk_below hHeld hb) (fun hHeld => ?_)
    clear hK K
    refine nm_ (some 64) ?_
    replace HB := kb_b HB hb
    replace B_l := kb_b B_l hb
    replace B_vq := kb_b B_vq hb
    replace B_q := kb_b B_q hb
    replace B_u := kb_b B_u hb
    clear hb
    have hc1 : decide (cv ≤ 0) = true := decide_eq_true HCV.out.2
    have hc2 : cv ≤ 0 := HCV.out.2
    refine pu_ 15 (some 65) 65535 HT_ ?_
    refine pu_ 16 (some 66) 131071 HT_ ?_
    refine pu_ 17 (some 67) 262143 HT_ ?_
    refine pu_ 18 (some 8) 524287 HT_ ?_
    refine do_ HT_ ?_
    clear HT_ HW_ hHeld
    go_wp2_with fail
    go_ret
    exact ⟨rfl, (Kb.to_below HB.out (fun _ h => h.elim))⟩
theorem lclone (m : Nat) (h : m < 4294967296 ^ 16) (A0 : Option Addr) (c0 : Nat) (w : World) (hr0 : Kd.C (Kd.int .u32) w A0 (limbs m).length (limbs m)) (hc0 : (limbs m).length ≤ c0) :
 Calls Try.prog 31 #[.slice A0 (limbs m).length c0] w fun e w' => ∃ v : Value, e = .returned v ∧ RowL (fun k => w.heap.size ≤ k) w' v (limbs m) ∧ Below w.heap.size w w' := by
 refine (slices_Clone_uint32_uint32.calls A0 c0 _ (limbs m) w hr0 hc0 (by unfold slices_Clone_uint32_uint32.f; rw [if_pos (by have := len16 h; omega)])).mono ?_
 rintro e w' ⟨v, rfl, ho, hb⟩
 exact ⟨v, rfl, Rd.ofR ho (Nat.le_refl _), hb⟩
theorem IsT.zero (ok : Nat → Prop) (w : World) : IsT ok w (.agg #[.bool false, .slice none 0 0, .slice none 0 0]) false 0 0 := ⟨_, _, rfl, by rw [limbs_zero]; exact Kd.V_nil _ _ _ _ _, by rw [limbs_zero]; exact Kd.V_nil _ _ _ _ _⟩
def WRunE.T10 : Bool × List (List Nat × List Nat) := (true, [([], []), ([], []), ([1], [1]), ([2], [2]), ([3], [3]), ([0, 0], [0]), ([5, 0, 5], []), ([4, 6, 0, 1, 2, 3, 4, 5, 6], [4])])
def WRunE.B10 : List Nat := [0, 0, 2, 6, 14, 1, 33, 127]
theorem WRunE.tab10 : rtab .any (opsOf Try.f16 10) = WRunE.T10 := by kernel_rfl
theorem WRunE.bits10 : waitsOk WRunE.T10.2 WRunE.B10 = true := by kernel_rfl
def WRunK.T11 : Bool × List (List Nat × List Nat) := (true, [([], []), ([0], [0]), ([], []), ([2], [2]), ([3], [3]), ([], []), ([5], [5]), ([6, 4], [6]), ([1, 4, 7], [1, 4, 7]), ([8, 7, 0, 1, 2, 3, 4, 5, 6, 7, 8], [8]), ([9, 0, 1, 2, 3, 4, 5, 6, 7, 8, 9], []), ([10, 0, 1, 2, 3, 4, 5, 6, 7, 8, 9, 10], [])])
def WRunK.B11 : List Nat := [0, 1, 0, 4, 12, 0, 32, 124, 255, 511, 1023, 2047]
theorem WRunK.tab11 : rtab .any (opsOf Try.f16 11) = WRunK.T11 := by kernel_rfl
theorem WRunK.bits11 : waitsOk WRunK.T11.2 WRunK.B11 = true := by kernel_rfl
theorem wrun_calls (P : Option Rat → Prop) (fn over : Int) (hf5 : fn ≠ 5) (nl : Nat) (hn0 : 0 < nl) (w : World) (tq : Bool) (Aq : Option Addr) (nq cq : Nat) (Dq : Option Addr) (kq zq : Nat) (Al : Option Addr) (cl : Nat) (hmay : ∀ W, Kb (fun k => False) w W → Calls Try.prog 29 #[.int .i64 fn, .int .i64 over, .agg #[.bool tq, .slice Aq nq cq, .slice Dq kq zq], .slice Al nl cl] W fun e w' => e = .returned (.bool true) ∧ Below W.heap.size W w') (hrun : ∀ W rb, Kb (fun k => False) w W → w.heap.size ≤ rb → Rk W rb false → Calls Try.prog 30 #[.pointer (some ⟨rb, 0, none⟩), .int .i64 fn, .int .i64 over, .agg #[.bool tq, .slice Aq nq cq, .slice Dq kq zq], .slice Al nl cl] W fun e w' => ∃ v ans, P ans ∧ e = .returned v ∧ Res (fun k => k < w.heap.size ∨ W.heap.size ≤ k) w' v ans ∧ Rk w' rb ans.isNone ∧ Kb (fun k => k = rb) W w') :
 Calls Try.prog 16 #[.int .i64 fn, .int .i64 over, .agg #[.bool tq, .slice Aq nq cq, .slice Dq kq zq], .slice Al nl cl] w fun e w' => (∃ v ans, P ans ∧ e = .returned (.tuple #[v, .bool ans.isSome, .int .i64 (eno ans)]) ∧ Res (fun k => w.heap.size ≤ k) w' v ans) ∧ Below w.heap.size w w' := by
 have hu30 := Try.underlying30
 have hu61 := Try.underlying61
 have HM := a0_ hmay
 have HR := a0_ hrun
 have g1 : (fn == 5) = false := beq_eq_false_iff_ne.mpr hf5
 have g2 : ((nl : Int) == 0) = false := beq_eq_false_iff_ne.mpr (by omega)
 have g3 : decide (fn = 5) = false := decide_eq_false hf5
 have g4 : decide ((nl : Int) = 0) = false := decide_eq_false (by omega)
 have g5 : (nl == 0) = false := beq_eq_false_iff_ne.mpr (by omega)
 clear hmay hrun hn0
 have HB := kf_ w
 go_enter Try.func16, Try.ntmps16
 try go_step3
 go_wp2_with (first | ((with_reducible refine gd_ 6 rfl ?_); refine bx_ (N := 6) #[.bool tq, .slice Aq nq cq, .slice Dq kq zq] 30 ?_; intro g_q hg w101 hbox hb; have G_q := kb_g HB hg; replace HB := kb_b HB hb; clear hb; have V_q := a0_ hbox; have B_q := kf_ w101; have N_q := nf_ g_q; clear hbox hg) | ((with_reducible refine gd_ 8 rfl ?_); refine bx_ (N := 8) #[.bool false, .slice none 0 0, .slice none 0 0] 30 ?_; intro g_r hg w102 hbox hb; have G_r := kb_g HB hg; replace HB := kb_b HB hb; replace B_q := kb_b B_q hb; clear hb; have V_r := a0_ hbox; have B_r := kf_ w102; have N_r := nf_ g_r; clear hbox hg) | ((with_reducible refine gd_ 15 rfl ?_); refine load_ev rfl rfl (g := g_q) rfl (bk_ V_q B_q N_q) ?_))
 with_reducible refine (HM.out _ HB.out).mono ?_
 rintro e w103 ⟨rfl, hb⟩
 replace HB := kb_b HB hb
 replace B_q := kb_b B_q hb
 replace B_r := kb_b B_r hb
 clear hb
 go_wp2_with (first | ((with_reducible refine gd_ 39 rfl ?_); refine bx_ (N := 39) #[.int .i64 0] 61 ?_; intro g_k hg w104 hbox hb; have G_k := kb_g HB hg; have O_k_q := kb_g B_q hg; have O_k_r := kb_g B_r hg; replace HB := kb_b HB hb; replace B_q := kb_b B_q hb; replace B_r := kb_b B_r hb; clear hb; have V_k := a0_ hbox; have B_k := kf_ w104; have N_k := nf_ g_k; clear hbox hg) | ((with_reducible refine gd_ 43 rfl ?_); refine load_ev rfl rfl (g := g_q) rfl (bk_ V_q B_q N_q) ?_))
 have hrk : Rk w104 g_k false := by
  unfold Rk
  rw [if_neg (by decide)]
  exact bk_ V_k B_k N_k
 have hlk := blk_lt (bk_ V_k B_k N_k)
 have hlr := blk_lt (bk_ V_r B_r N_r)
 have hle := Kb.size HB.out
 with_reducible refine (HR.out _ g_k HB.out G_k.out hrk).mono ?_
 rintro e w105 ⟨v, ans, hP, rfl, hv, hrk2, hk⟩
 have HP := a0_ hP
 have HRK := a0_ hrk2
 clear hP hrk2 hrk
 have hv_ := Res.mono' (ok' := fun k => True ∧ k ≠ g_r ∧ k ≠ g_k ∧ w.heap.size ≤ k ∨ (True ∧ k ≠ g_r ∧ k ≠ g_k)) hv (fun k hk _ => by
  have h1 := G_r.out
  have h2 := G_k.out
  refine Or.inr ⟨trivial, ?_, ?_⟩ <;> (rcases hk with hk | hk <;> omega))
 have hv_ := Res.mono hv_ (ok' := fun k => True ∧ k ≠ g_r ∧ k ≠ g_k) (fun k h => h.elim (fun h => ⟨h.1, h.2.1, h.2.2.1⟩) (fun h => h))
 clear hv hlk hlr hle
 have O_r_k : Aside0 (¬ (g_k = g_r)) := ⟨fun e => by have := O_k_r.out; have := blk_lt V_r.out; omega⟩
 clear V_k B_k
 replace HB := kb_o HB hk G_k
 replace B_q := kb_o B_q hk O_k_q
 replace B_r := kb_o B_r hk O_k_r
 clear hk
 have V_v := a0_ hv_
 clear hv_
 have B_v := a0_ (Kb.refl (fun k => False ∨ k = g_r ∨ k = g_k) w105)
 clear V_q B_q
 cases ans with
 | none =>
  obtain ⟨tv, Av, nv, cv, Dv, kv, zv, rfl⟩ := V_v.out.agg
  go_wp2_with (first | ((with_reducible refine gt_ 30 8 45 rfl ?_); refine store_ev (p := .tmp 8) (v := .tmp 45) rfl rfl rfl (g := g_r) rfl rfl (bk_ V_r B_r N_r) ?_; intro w106 hbox hk; replace HB := kb_o HB hk G_r; replace B_v := kb_t B_v hk (fun i hi => by exact Or.inl (Or.inr (Or.inl hi))); have HRK2 := a0_ (Rk.kb HRK.out hk O_r_k.out); have hz_rk := Rk.cell HRK2.out; simp only [if_true, Option.isNone_none] at hz_rk; clear V_r B_r; have V_r := a0_ hbox; have B_r := kf_ w106; clear hbox hk))
  clear hz_rk
  clear V_v B_v
  have hb : Below w106.heap.size w106 w106.drew := below_drew1 (Below.refl _ _)
  replace HB := kb_b HB hb
  replace B_r := kb_b B_r hb
  clear hb
  refine start_ (n := 8) (S := fun w' => (w'.cell? ⟨g_k, 0, none⟩ = some (.int .i64 20))) (ds := []) (tB_ 8 0) (by kernel_rfl) rfl (by kernel_rfl) (((Rk.cell HRK2.out).trans (by simp))) (fun hHeld => ?_)
  refine with_tabW WRunE.tab10 WRunE.bits10 (fun HT_ HW_ => ?_)
  generalize w106.drew = w107 at HB B_r hHeld ⊢
  refine pu_ 0 (some 51) 1 HT_ ?_
  refine pu_ 1 (some 52) 3 HT_ ?_
  refine pu_ 2 (some 53) 7 HT_ ?_
  refine pu_ 3 (some 54) 15 HT_ ?_
  refine tk_ 4 (some 55) 31 HT_ HW_ hHeld ?_ ?_ ?_ ?_ ?_
  rotate_left
  · intro w' hs
    have hb_ := hs
    have c0_ := hb_
    clear hs
    go_simp
    with_reducible rfl
  rotate_left
  · simp only [PU]
    rfl
  refine on_ 5 none 63 HT_ (fun K hK => ?_)
  have bk_r := bk_ V_r B_r N_r
  have hz_r_0 : w107.cell? ⟨g_r, 0, none⟩ = some (.bool tv) := (blk_cell bk_r 0).trans rfl
  have hf_r_0 := blk_frozen bk_r 0
  have hz_r_1 : w107.cell? ⟨g_r, 1, none⟩ = some (.slice Av nv cv) := (blk_cell bk_r 1).trans rfl
  have hf_r_1 := blk_frozen bk_r 1
  have hz_r_2 : w107.cell? ⟨g_r, 2, none⟩ = some (.slice Dv kv zv) := (blk_cell bk_r 2).trans rfl
  have hf_r_2 := blk_frozen bk_r 2
  clear bk_r
  refine skip_ (w1 := ((w107.setCell ⟨g_r, 0, none⟩ (.bool false)).setCell ⟨g_r, 1, none⟩ (.slice none 0 0)).setCell ⟨g_r, 2, none⟩ (.slice none 0 0)) (by rfl) rfl ?_ ?_
  · first | (go_simp; done) | (go_simp; rfl)
  clear hz_r_0 hf_r_0 hz_r_1 hf_r_1 hz_r_2 hf_r_2
  have hbox : (((w107.setCell ⟨g_r, 0, none⟩ (.bool false)).setCell ⟨g_r, 1, none⟩ (.slice none 0 0)).setCell ⟨g_r, 2, none⟩ (.slice none 0 0)).heap[g_r]? = some (.cells #[.bool false, .slice none 0 0, .slice none 0 0] 30 (0, 0)) := blk_put (blk_put (blk_put (bk_ V_r B_r N_r) 0 _ rfl) 1 _ rfl) 2 _ rfl
  have hk : Kb (fun k => k = g_r) w107 (((w107.setCell ⟨g_r, 0, none⟩ (.bool false)).setCell ⟨g_r, 1, none⟩ (.slice none 0 0)).setCell ⟨g_r, 2, none⟩ (.slice none 0 0)) := (((Kb.refl (fun k => k = g_r) w107).setCell (p := ⟨g_r, 0, none⟩) (Or.inl rfl) _).setCell (p := ⟨g_r, 1, none⟩) (Or.inl rfl) _).setCell (p := ⟨g_r, 2, none⟩) (Or.inl rfl) _
  refine hK.out _ _ (by exact Kb.cell hHeld hk (show ¬ (g_k = g_r) from O_r_k.out)) (fun hHeld => ?_)
  clear hK K
  obtain ⟨w108, hw_⟩ : ∃ x, x = ((w107.setCell ⟨g_r, 0, none⟩ (.bool false)).setCell ⟨g_r, 1, none⟩ (.slice none 0 0)).setCell ⟨g_r, 2, none⟩ (.slice none 0 0) := ⟨_, rfl⟩
  rw [← hw_] at hk hbox hHeld ⊢
  clear hw_
  replace HB := kb_o HB hk G_r
  clear V_r B_r
  have V_r := a0_ hbox
  have B_r := kf_ w108
  clear hbox hk
  refine pu_ 6 (some 9) 127 HT_ ?_
  refine pu_ 7 (some 10) 255 HT_ ?_
  refine do_ HT_ ?_
  clear HT_ HW_ hHeld
  go_wp2_with fail
  refine bodyPost_ret (results_ctt rfl _ _ g_r 30 #[.bool false, .slice none 0 0, .slice none 0 0] (0, 0) _ rfl (bk_ V_r B_r N_r) Try.underlying30 rfl (by kernel_rfl)) rfl ?_
  exact ⟨⟨_, none, HP.out, rfl, IsT.zero _ _⟩, (Kb.to_below HB.out (fun _ h => h.elim))⟩
 | some x =>
  have hx := Res.isR V_v.out
  obtain ⟨A0, c0, A1, c1, rfl, hr0, hr1⟩ := hx.rows
  have HF := a0_ hx.1
  obtain ⟨sg, hsg⟩ : ∃ s, s = decide (x.num < 0) := ⟨_, rfl⟩
  obtain ⟨m, hm⟩ : ∃ m, m = x.num.natAbs := ⟨_, rfl⟩
  obtain ⟨d, hd⟩ : ∃ d, d = x.den := ⟨_, rfl⟩
  rw [← hsg, ← hm, ← hd]
  rw [← hm] at hr0
  rw [← hd] at hr1
  have HMD := a0_ (And.intro hsg (And.intro hm hd))
  clear hsg hm hd hx
  clear V_v B_v
  have V_m := a0_ hr0
  clear hr0
  have B_m := a0_ (Kb.refl (fun k => False ∨ k = g_r ∨ k = g_k) w105)
  have V_d := a0_ hr1
  clear hr1
  have B_d := a0_ (Kb.refl (fun k => False ∨ k = g_r ∨ k = g_k) w105)
  go_wp2_with (first | ((with_reducible refine gt_ 30 8 45 rfl ?_); refine store_ev (p := .tmp 8) (v := .tmp 45) rfl rfl rfl (g := g_r) rfl rfl (bk_ V_r B_r N_r) ?_; intro w106 hbox hk; replace HB := kb_o HB hk G_r; replace B_m := kb_t B_m hk (fun i hi => by exact Or.inl (Or.inr (Or.inl hi))); replace B_d := kb_t B_d hk (fun i hi => by exact Or.inl (Or.inr (Or.inl hi))); have HRK2 := a0_ (Rk.kb HRK.out hk O_r_k.out); have hz_rk := Rk.cell HRK2.out; simp only [Option.isNone_some, Bool.false_eq_true, if_false] at hz_rk; clear V_r B_r; have V_r := a0_ hbox; have B_r := kf_ w106; clear hbox hk))
  clear hz_rk
  have hb : Below w106.heap.size w106 w106.drew := below_drew1 (Below.refl _ _)
  replace HB := kb_b HB hb
  replace B_r := kb_b B_r hb
  replace B_m := kb_b B_m hb
  replace B_d := kb_b B_d hb
  clear hb
  refine start_ (n := 12) (S := fun w' => w'.heap[g_r]? = some (.cells #[.bool sg, .slice A0 (limbs m).length c0, .slice A1 (limbs d).length c1] 30 (0, 0))) (ds := [9]) (tB_ 12 0) (by kernel_rfl) rfl (by kernel_rfl) (bk_ V_r B_r N_r) (fun hHeld => ?_)
  refine with_tabW WRunK.tab11 WRunK.bits11 (fun HT_ HW_ => ?_)
  generalize w106.drew = w107 at HB B_r B_m B_d hHeld ⊢
  refine pu_ 0 (some 56) 1 HT_ ?_
  refine tk_ 1 (some 57) 3 HT_ HW_ hHeld ?_ ?_ ?_ ?_ ?_
  rotate_left
  · intro w' hs
    have hb_ := hs
    obtain ⟨c0_, c1_, c2_⟩ := b3_ hb_
    clear hb_ hs
    go_simp
    with_reducible rfl
  rotate_left
  · simp only [PU]
    rfl
  refine pu_ 2 (some 58) 7 HT_ ?_
  refine tk_ 3 (some 59) 15 HT_ HW_ hHeld ?_ ?_ ?_ ?_ ?_
  rotate_left
  · intro w' hs
    have hb_ := hs
    obtain ⟨c0_, c1_, c2_⟩ := b3_ hb_
    clear hb_ hs
    go_simp
    with_reducible rfl
  rotate_left
  · simp only [PU]
    rfl
  refine pu_ 5 (some 61) 47 HT_ ?_
  refine tk_ 6 (some 62) 111 HT_ HW_ hHeld ?_ ?_ ?_ ?_ ?_
  rotate_left
  · intro w' hs
    have hb_ := hs
    obtain ⟨c0_, c1_, c2_⟩ := b3_ hb_
    clear hb_ hs
    go_simp
    with_reducible rfl
  rotate_left
  · simp only [PU]
    rfl
  refine on_ 4 (some 60) 127 HT_ (fun K hK => ?_)
  refine gs_ Try.func31 #[.slice A0 (limbs m).length c0] ?_
  refine (lclone m (by rw [HMD.out.2.1]; exact HF.out.1) _ _ _ (RowL.c (RowL.kb (S := fun k => False ∨ k = g_r ∨ k = g_k) V_m.out B_m.out (fun k h hs => hs.elim (fun f => f) (fun hs2 => hs2.elim h.2.1 h.2.2)))) (RowL.le V_m.out)).mono ?_
  rintro e w108 ⟨v60, rfl, h1, hb⟩
  obtain ⟨A2, c2, rfl⟩ := RowL.slice h1
  have hle := Kb.size HB.out
  have hlr := blk_lt (bk_ V_r B_r N_r)
  have h1 := RowL.mono' (ok' := fun k => True ∧ k ≠ g_r ∧ w.heap.size ≤ k) h1 (fun k hk _ => ⟨trivial, by omega, by omega⟩)
  clear hle hlr
  refine ⟨_, rfl, ?_⟩
  refine hK.out _ _ (by exact blk_below hHeld hb) (fun hHeld => ?_)
  clear hK K
  refine nm_ (some 60) ?_
  replace HB := kb_b HB hb
  replace B_r := kb_b B_r hb
  replace B_m := kb_b B_m hb
  replace B_d := kb_b B_d hb
  clear hb
  have V_n := a0_ h1
  clear h1
  have B_n := a0_ (Kb.refl (fun k => False ∨ k = g_r) w108)
  refine on_ 7 (some 63) 255 HT_ (fun K hK => ?_)
  refine gs_ Try.func31 #[.slice A1 (limbs d).length c1] ?_
  refine (lclone d (by rw [HMD.out.2.2]; exact HF.out.2) _ _ _ (RowL.c (RowL.kb (S := fun k => False ∨ k = g_r ∨ k = g_k) V_d.out B_d.out (fun k h hs => hs.elim (fun f => f) (fun hs2 => hs2.elim h.2.1 h.2.2)))) (RowL.le V_d.out)).mono ?_
  rintro e w109 ⟨v63, rfl, h1, hb⟩
  obtain ⟨A3, c3, rfl⟩ := RowL.slice h1
  have hle := Kb.size HB.out
  have hlr := blk_lt (bk_ V_r B_r N_r)
  have h1 := RowL.mono' (ok' := fun k => True ∧ k ≠ g_r ∧ w.heap.size ≤ k) h1 (fun k hk _ => ⟨trivial, by omega, by omega⟩)
  clear hle hlr
  refine ⟨_, rfl, ?_⟩
  refine hK.out _ _ (by exact blk_below hHeld hb) (fun hHeld => ?_)
  clear hK K
  refine nm_ (some 63) ?_
  replace HB := kb_b HB hb
  replace B_r := kb_b B_r hb
  replace B_m := kb_b B_m hb
  replace B_d := kb_b B_d hb
  replace B_n := kb_b B_n hb
  clear hb
  have V_e := a0_ h1
  clear h1
  have B_e := a0_ (Kb.refl (fun k => False ∨ k = g_r) w109)
  clear V_m B_m
  clear V_d B_d
  refine pu_ 8 (some 64) 511 HT_ ?_
  refine la_ 9 none 1023 HT_ (fun K hK => ?_)
  have bk_r := bk_ V_r B_r N_r
  have hz_r_0 : w109.cell? ⟨g_r, 0, none⟩ = some (.bool sg) := (blk_cell bk_r 0).trans rfl
  have hf_r_0 := blk_frozen bk_r 0
  have hz_r_1 : w109.cell? ⟨g_r, 1, none⟩ = some (.slice A0 (limbs m).length c0) := (blk_cell bk_r 1).trans rfl
  have hf_r_1 := blk_frozen bk_r 1
  have hz_r_2 : w109.cell? ⟨g_r, 2, none⟩ = some (.slice A1 (limbs d).length c1) := (blk_cell bk_r 2).trans rfl
  have hf_r_2 := blk_frozen bk_r 2
  clear bk_r
  refine skip_ (w1 := ((w109.setCell ⟨g_r, 0, none⟩ (.bool sg)).setCell ⟨g_r, 1, none⟩ (.slice A2 (limbs m).length c2)).setCell ⟨g_r, 2, none⟩ (.slice A3 (limbs d).length c3)) (by rfl) rfl ?_ ?_
  · first | (go_simp; done) | (go_simp; rfl)
  clear hz_r_0 hf_r_0 hz_r_1 hf_r_1 hz_r_2 hf_r_2
  have hbox : (((w109.setCell ⟨g_r, 0, none⟩ (.bool sg)).setCell ⟨g_r, 1, none⟩ (.slice A2 (limbs m).length c2)).setCell ⟨g_r, 2, none⟩ (.slice A3 (limbs d).length c3)).heap[g_r]? = some (.cells #[.bool sg, .slice A2 (limbs m).length c2, .slice A3 (limbs d).length c3] 30 (0, 0)) := blk_put (blk_put (blk_put (bk_ V_r B_r N_r) 0 _ rfl) 1 _ rfl) 2 _ rfl
  have hk : Kb (fun k => k = g_r) w109 (((w109.setCell ⟨g_r, 0, none⟩ (.bool sg)).setCell ⟨g_r, 1, none⟩ (.slice A2 (limbs m).length c2)).setCell ⟨g_r, 2, none⟩ (.slice A3 (limbs d).length c3)) := (((Kb.refl (fun k => k = g_r) w109).setCell (p := ⟨g_r, 0, none⟩) (Or.inl rfl) _).setCell (p := ⟨g_r, 1, none⟩) (Or.inl rfl) _).setCell (p := ⟨g_r, 2, none⟩) (Or.inl rfl) _
  refine hK.out _ _ ?_
  clear hHeld
  have hHeld := trivial
  clear hK K
  obtain ⟨w110, hw_⟩ : ∃ x, x = ((w109.setCell ⟨g_r, 0, none⟩ (.bool sg)).setCell ⟨g_r, 1, none⟩ (.slice A2 (limbs m).length c2)).setCell ⟨g_r, 2, none⟩ (.slice A3 (limbs d).length c3) := ⟨_, rfl⟩
  rw [← hw_] at hk hbox ⊢
  clear hw_
  replace HB := kb_o HB hk G_r
  replace B_n := kb_t B_n hk (fun i hi => by exact Or.inl (Or.inr hi))
  replace B_e := kb_t B_e hk (fun i hi => by exact Or.inl (Or.inr hi))
  clear V_r B_r
  have V_r := a0_ hbox
  have B_r := kf_ w110
  clear hbox hk
  refine pu_ 10 (some 9) 2047 HT_ ?_
  refine pu_ 11 (some 10) 4095 HT_ ?_
  refine do_ HT_ ?_
  clear HT_ HW_ hHeld
  go_wp2_with fail
  have hn := Kd.V_mono (RowL.kb (S := fun k => False ∨ k = g_r) V_n.out B_n.out (fun k h hs => hs.elim (fun f => f) h.2.1)) (fun k h => h.2.2)
  have he := Kd.V_mono (RowL.kb (S := fun k => False ∨ k = g_r) V_e.out B_e.out (fun k h hs => hs.elim (fun f => f) h.2.1)) (fun k h => h.2.2)
  rw [HMD.out.2.1] at hn
  rw [HMD.out.2.2] at he
  refine bodyPost_ret (results_ctt rfl _ _ g_r 30 #[.bool sg, .slice A2 (limbs m).length c2, .slice A3 (limbs d).length c3] (0, 0) _ rfl (bk_ V_r B_r N_r) Try.underlying30 rfl (by kernel_rfl)) rfl ?_
  refine ⟨⟨_, some x, HP.out, rfl, ?_⟩, (Kb.to_below HB.out (fun _ h => h.elim))⟩
  have h8 := IsR.of_calls HF.out hn he
  rw [← HMD.out.1, ← HMD.out.2.1, ← HMD.out.2.2] at h8
  exact h8
theorem part_calls (a b : Int) (ha0 : -9223372036854775808 ≤ a) (ha1 : a ≤ 9223372036854775807) (hb0 : 0 < b) (hb1 : b ≤ 9223372036854775807) (hf : FitR ((a : Rat) / (b : Rat))) (w : World) :
 Calls Try.prog 13 #[.int .i64 a, .int .i64 b] w fun e w' => (∃ v, e = .returned v ∧ IsR (fun k => w.heap.size ≤ k) w' v ((a : Rat) / (b : Rat))) ∧ Below w.heap.size w w' := by
 have hu30 := Try.underlying30
 have HH := a0_ (And.intro ha0 (And.intro ha1 (And.intro hb0 (And.intro hb1 hf))))
 clear ha0 ha1 hb0 hb1 hf
 have HB := kf_ w
 go_enter Try.func13, Try.ntmps13
 go_wp2_with (first | ((with_reducible refine gd_ 4 rfl ?_); refine bx_ (N := 4) #[.bool false, .slice none 0 0, .slice none 0 0] 30 ?_; intro g_r hg w101 hbox hb; have G_r := kb_g HB hg; replace HB := kb_b HB hb; clear hb; have V_r := a0_ hbox; have B_r := kf_ w101; have N_r := nf_ g_r; clear hbox hg))
 with_reducible refine (qof_calls a HH.out.1 HH.out.2.1 _).mono ?_
 rintro e w102 ⟨⟨v, rfl, hv⟩, hb⟩
 obtain ⟨tx, Ax, nx, cx, Dx, kx, zx, rfl⟩ := hv.agg
 have hle := Kb.size HB.out
 have hv_ := IsR.mono' (ok' := fun k => True) hv (fun k hk _ => by trivial)
 clear hv hle
 replace HB := kb_b HB hb
 replace B_r := kb_b B_r hb
 clear hb
 have V_x := a0_ hv_
 clear hv_
 have B_x := kf_ w102
 go_wp2_with fail
 with_reducible refine (qof_calls b (by have := HH.out.2.2.1; omega) HH.out.2.2.2.1 _).mono ?_
 rintro e w103 ⟨⟨v, rfl, hv⟩, hb⟩
 obtain ⟨ty, Ay, ny, cy, Dy, ky, zy, rfl⟩ := hv.agg
 have hle := Kb.size HB.out
 have hv_ := IsR.mono' (ok' := fun k => True) hv (fun k hk _ => by trivial)
 clear hv hle
 replace HB := kb_b HB hb
 replace B_r := kb_b B_r hb
 replace B_x := kb_b B_x hb
 clear hb
 have V_y := a0_ hv_
 clear hv_
 have B_y := kf_ w103
 go_wp2_with fail
 with_reducible refine (Op2.calls qdiv_op (x := (a : Rat)) (y := (b : Rat)) (by rw [Rat.num_intCast]; have := HH.out.2.2.1; omega) (IsR.kb (S := fun k => False) V_x.out B_x.out (fun _ _ h => h)) (IsR.kb (S := fun k => False) V_y.out B_y.out (fun _ _ h => h))).mono ?_
 have e9 : fit ((a : Rat) / (b : Rat)) = some ((a : Rat) / (b : Rat)) := by unfold fit; rw [if_pos HH.out.2.2.2.2]
 rw [e9]
 rintro e w104 ⟨⟨v, rfl, hv⟩, hb⟩
 have hv := Res.isR hv
 clear e9
 obtain ⟨tv, Av, nv, cv, Dv, kv, zv, rfl⟩ := hv.agg
 clear V_x B_x
 clear V_y B_y
 have hle := Kb.size HB.out
 have hl_r := blk_lt (bk_ V_r B_r N_r)
 have hv_ := IsR.mono' (ok' := fun k => True ∧ k ≠ g_r ∧ w.heap.size ≤ k) hv (fun k hk _ => by refine ⟨?_, ?_, ?_⟩ <;> first | trivial | omega)
 clear hv hle hl_r
 replace HB := kb_b HB hb
 replace B_r := kb_b B_r hb
 clear hb
 have V_v := a0_ hv_
 clear hv_
 have B_v := a0_ (Kb.refl (fun k => False ∨ k = g_r) w104)
 go_wp2_with (first | ((with_reducible refine gd_ 5 rfl ?_); refine bx_ (N := 5) #[.bool false, .slice none 0 0, .slice none 0 0] 30 ?_; intro g_p hg w105 hbox hb; have G_p := kb_g HB hg; have O_p_r := kb_g B_r hg; have O_p_v := kb_g B_v hg; replace HB := kb_b HB hb; replace B_r := kb_b B_r hb; replace B_v := kb_b B_v hb; clear hb; have V_p := a0_ hbox; have B_p := kf_ w105; have N_p := nf_ g_p; clear hbox hg) | ((with_reducible refine gt_ 30 5 13 rfl ?_); refine store_ev (p := .tmp 5) (v := .tmp 13) rfl rfl rfl (g := g_p) rfl rfl (bk_ V_p B_p N_p) ?_; intro w106 hbox hk; replace HB := kb_o HB hk G_p; replace B_r := kb_o B_r hk O_p_r; replace B_v := kb_o B_v hk O_p_v; clear V_p B_p; have V_p := a0_ hbox; have B_p := kf_ w106; clear hbox hk) | ((with_reducible refine gd_ 15 rfl ?_); refine load_ev rfl rfl (g := g_p) rfl (bk_ V_p B_p N_p) ?_) | ((with_reducible refine gt_ 30 4 15 rfl ?_); refine store_ev (p := .tmp 4) (v := .tmp 15) rfl rfl rfl (g := g_r) rfl rfl (bk_ V_r B_r N_r) ?_; intro w107 hbox hk; replace HB := kb_o HB hk G_r; replace B_v := kb_t B_v hk (fun i hi => by exact Or.inl (Or.inr hi)); clear V_r B_r; have V_r := a0_ hbox; have B_r := kf_ w107; clear hbox hk))
 refine bodyPost_ret (results_cell_row rfl _ _ g_r 30 #[.bool tv, .slice Av nv cv, .slice Dv kv zv] (0, 0) _ rfl (bk_ V_r B_r N_r) Try.underlying30 rfl (by kernel_rfl)) rfl ?_
 exact ⟨⟨_, rfl, (IsR.mono (IsR.kb (S := fun k => False ∨ k = g_r) V_v.out B_v.out (fun k h hs => hs.elim (fun f => f) h.2.1)) (fun k h => h.2.2))⟩, (Kb.to_below HB.out (fun _ h => h.elim))⟩
def smpOf (i : Nat) (q : Rat) : Smp := ⟨(i : Int), (i : Int), some q⟩
def smpsOf (qs : List Rat) : List Smp := qs.zipIdx.map (fun p => smpOf p.2 p.1)
theorem smpsOf_len (qs : List Rat) : (smpsOf qs).length = qs.length := by unfold smpsOf; rw [List.length_map, List.length_zipIdx]
theorem smpsOf_get (qs : List Rat) (i : Nat) (h : i < qs.length) : (smpsOf qs)[i]? = some (smpOf i (qs.getD i 0)) := by
 unfold smpsOf
 rw [List.getElem?_map, List.getElem?_zipIdx, List.getElem?_eq_getElem h, Nat.zero_add, List.getD_eq_getElem?_getD, List.getElem?_eq_getElem h]
 rfl
theorem smpsOf_take (qs : List Rat) (k : Nat) (h : k < qs.length) : (smpsOf qs).take k ++ [smpOf k (qs.getD k 0)] = (smpsOf qs).take (k + 1) := by
 have h2 := smpsOf_get qs k h
 rw [List.take_add_one, h2]
 rfl
theorem IsR.mkS {ok : Nat → Prop} {w : World} {t : Bool} {A0 A1 : Option Addr} {n0 c0 n1 c1 : Nat} {x : Rat} {a b : Int} (h : IsR ok w (.agg #[.bool t, .slice A0 n0 c0, .slice A1 n1 c1]) x) : Kd.FK kdS w ok ⟨a, b, some x⟩ [.int .i64 a, .int .i64 b, .bool t, .slice A0 n0 c0, .slice A1 n1 c1] := kdS_FK' (x := ⟨a, b, some x⟩) (c := ⟨t, A0, n0, c0, A1, n1, c1⟩) (fun q hq => by obtain rfl := Option.some.inj hq; exact h)
theorem of_calls {ok : Nat → Prop} (qs : List Rat) (hsz : qs.length ≤ 100000) (w : World) (vl : Value) (hl : RowQ ok w vl qs) :
 Calls Try.prog 21 #[vl] w fun e w' => (∃ v, e = .returned v ∧ RowS (fun k => ok k ∨ w.heap.size ≤ k) w' v (smpsOf qs)) ∧ Below w.heap.size w w' := by
 have hu30 := Try.underlying30
 have hu39 := Try.underlying39
 obtain ⟨Al, cl, rfl⟩ := hl.slice
 obtain ⟨nl, hnl⟩ : ∃ nl, nl = qs.length := ⟨_, rfl⟩
 rw [← hnl] at hl hsz ⊢
 have HNL := a0_ hnl
 have hl := RowQ.mono' (ok' := fun j => ok j ∧ j < w.heap.size) hl (fun k h1 h2 => ⟨h1, h2⟩)
 clear hnl
 have HB := kf_ w
 have V_l := a0_ hl
 clear hl
 have B_l := kf_ w
 obtain ⟨okN, hokN⟩ : ∃ okN : Nat → Prop, okN = fun k => (ok k ∧ k < w.heap.size) ∨ w.heap.size ≤ k := ⟨_, rfl⟩
 have HOK := a0_ hokN
 clear hokN
 go_enter Try.func21, Try.ntmps21
 go_wp2_with fail
 go_loopg [3, 4] nl (fun kg v3 v4 wr => ∃ (k : Nat), v4 = .int .i64 k ∧ Aside0 (k + kg = nl) ∧ Aside0 (Kd.N kdS 39 wr w.heap.size okN v3 ((smpsOf qs).take k)) ∧ Aside0 (Kb (fun k => False) w wr))
 case atStart => exact ⟨0, rfl, ⟨by omega⟩, ⟨by rw [List.take_zero]; exact Kd.N_nil _ _ _ _ _⟩, HB⟩
 case round =>
  obtain ⟨k, rfl, HK, HN, HB2⟩ := hrel
  clear HB B_l
  have HB := HB2
  clear HB2
  have B_l := HB
  by_cases hlt : k < nl
  · have hz : (k : Int) < (nl : Int) := by omega
    obtain ⟨bl, ol, rfl⟩ := RowQ.some_ V_l.out (by omega)
    obtain ⟨tu, Au, nu, cu, Du, ku, zu, hy, c0, c1, c2⟩ := RowQ.get (RowQ.kb V_l.out B_l.out (fun _ _ h => h)) k (by rw [← HNL.out]; exact hlt)
    have C0 := a0_ (And.intro c0 (And.intro c1 c2))
    clear c0 c1 c2
    have HFK := a0_ (IsR.mkS (a := (k : Int)) (b := (k : Int)) hy)
    clear hy
    have e1 : IntKind.i64.wrap ((k : Int) + 1) = ((k + 1 : Nat) : Int) := (i64_w _).trans ((w64 (by omega) (by omega)).trans (by omega))
    have hpk : ∀ j, (ok j ∧ j < w.heap.size) → okN j ∧ some j ≠ u3.ownBlock := by
     intro j hj
     rw [HOK.out]
     have k1 := Kd.N_base HN.out
     exact ⟨.inl hj, fun e => by have := k1 j e.symm; omega⟩
    have HPK := a0_ hpk
    clear hpk
    have hfr : ∀ k, wr.heap.size ≤ k → okN k := by
     intro j hj
     rw [HOK.out]
     have := Kb.size HB.out
     exact .inr (by omega)
    have HFR := a0_ hfr
    clear hfr
    have hlen : ((smpsOf qs).take k).length = k := by rw [List.length_take, smpsOf_len]; have := HNL.out; omega
    have HLEN := a0_ hlen
    clear hlen
    go_wp2_with (first | ((with_reducible refine gd_ 17 rfl ?_); refine load_at rfl rfl (g := bl) (k := (ol + k * 3)) rfl C0.out.1 C0.out.2.1 C0.out.2.2 ?_) | ((with_reducible refine gate_builtin (b := .append) (xs := #[.tmp 11, .tmp 19]) rfl ?_); at_builtin; refine Kd.N_append kdS (w0 := wr) w.heap.size rfl (.tmp 11) (.tmp 19) 25 39 (.agg #[.int .i64 0, .int .i64 0, .bool false, .slice none 0 0, .slice none 0 0]) 72 rfl Try.underlying25 (by kernel_rfl) rfl (by decide) (by omega) u3 ((smpsOf qs).take k) (smpOf k (qs.getD k 0)) [.int .i64 k, .int .i64 k, .bool tu, .slice Au nu cu, .slice Du ku zu] okN (fun j => ok j ∧ j < w.heap.size) rfl rfl HFK.out HPK.out HFR.out HN.out (Below.refl _ _) (Kb.size HB.out) (by have := HLEN.out; omega) ?_; intro v_ w_ hn hb hg hat; have hk := Kb.grown HB.out hg (fun j hj => .inr (Kd.N_base HN.out j hj)); have HN2 := a0_ hn; have HB2 := a0_ hk; clear hn hb hg hat hk))
    go_roundg (nl - (k + 1))
    case measure => have := HK.out; omega
    case rel => exact ⟨k + 1, by first | rfl | rw [e1], ⟨by have := HK.out; omega⟩, ⟨by rw [← smpsOf_take qs k (by rw [← HNL.out]; exact hlt)]; exact HN2.out⟩, HB2⟩
  · have hz : ¬ (k : Int) < (nl : Int) := by omega
    have hkn : (smpsOf qs).take k = smpsOf qs := List.take_of_length_le (by rw [smpsOf_len]; have := HK.out; have := HNL.out; omega)
    have hn := HN.out
    rw [hkn] at hn
    clear HN hkn hlt
    have HN := a0_ hn
    clear hn
    go_wp2_with fail
    go_ret
    refine ⟨⟨_, rfl, ?_⟩, (Kb.to_below HB.out (fun _ h => h.elim))⟩
    exact RowS.mono (Kd.N_V HN.out) (fun j hj => by rw [HOK.out] at hj; exact hj.elim (fun h => .inl h.1) .inr)
theorem makes_calls {okw : Nat → Prop} (fn over : Int) (x y : Rat) (w : World) (tq : Bool) (Aq : Option Addr) (nq cq : Nat) (Dq : Option Addr) (kq zq : Nat) (Al : Option Addr) (nl cl : Nat) (vw : Value) (hy : IsR okw w vw y) (hrun : ∀ W, Kb (fun k => False) w W → Calls Try.prog 16 #[.int .i64 fn, .int .i64 over, .agg #[.bool tq, .slice Aq nq cq, .slice Dq kq zq], .slice Al nl cl] W fun e w' => (∃ v, e = .returned (.tuple #[v, .bool true, .int .i64 0]) ∧ IsR (fun k => W.heap.size ≤ k) w' v x) ∧ Below W.heap.size W w') :
 Calls Try.prog 14 #[.int .i64 fn, .int .i64 over, .agg #[.bool tq, .slice Aq nq cq, .slice Dq kq zq], .slice Al nl cl, vw] w fun e w' => e = .returned (.bool (decide (x = y))) ∧ Below w.heap.size w w' := by
 have hu30 := Try.underlying30
 obtain ⟨zd, hzd⟩ : ∃ z, z = decide (x = y) := ⟨_, rfl⟩
 rw [← hzd]
 have HZ := a0_ hzd
 have HR := a0_ hrun
 clear hzd hrun
 obtain ⟨ty, Ay, ny, cy, Dy, ky, zy, rfl⟩ := hy.agg
 have HB := kf_ w
 have V_y := a0_ hy
 clear hy
 have B_y := kf_ w
 go_enter Try.func14, Try.ntmps14
 go_wp2_with (first | ((with_reducible refine gd_ 7 rfl ?_); refine bx_ (N := 7) #[.bool tq, .slice Aq nq cq, .slice Dq kq zq] 30 ?_; intro g_q hg w101 hbox hb; have G_q := kb_g HB hg; replace HB := kb_b HB hb; replace B_y := kb_b B_y hb; clear hb; have V_q := a0_ hbox; have B_q := kf_ w101; have N_q := nf_ g_q; clear hbox hg) | ((with_reducible refine gd_ 9 rfl ?_); refine bx_ (N := 9) #[.bool ty, .slice Ay ny cy, .slice Dy ky zy] 30 ?_; intro g_t hg w102 hbox hb; have G_t := kb_g HB hg; replace HB := kb_b HB hb; replace B_y := kb_b B_y hb; replace B_q := kb_b B_q hb; clear hb; have V_t := a0_ hbox; have B_t := kf_ w102; have N_t := nf_ g_t; clear hbox hg) | ((with_reducible refine gd_ 17 rfl ?_); refine load_ev rfl rfl (g := g_q) rfl (bk_ V_q B_q N_q) ?_))
 with_reducible refine (HR.out _ HB.out).mono ?_
 rintro e w103 ⟨⟨v, rfl, hv⟩, hb⟩
 obtain ⟨tv, Av, nv, cv, Dv, kv, zv, rfl⟩ := hv.agg
 have hle := Kb.size HB.out
 have hv_ := IsR.mono' (ok' := fun k => True) hv (fun k hk _ => by trivial)
 clear hv hle
 replace HB := kb_b HB hb
 replace B_y := kb_b B_y hb
 replace B_q := kb_b B_q hb
 replace B_t := kb_b B_t hb
 clear hb
 have V_v := a0_ hv_
 clear hv_
 have B_v := kf_ w103
 go_wp2_with (first | ((with_reducible refine gd_ 11 rfl ?_); refine bx_ (N := 11) #[.bool false, .slice none 0 0, .slice none 0 0] 30 ?_; intro g_p hg w104 hbox hb; have G_p := kb_g HB hg; have O_p_y := kb_g B_y hg; have O_p_q := kb_g B_q hg; have O_p_t := kb_g B_t hg; have O_p_v := kb_g B_v hg; replace HB := kb_b HB hb; replace B_y := kb_b B_y hb; replace B_q := kb_b B_q hb; replace B_t := kb_b B_t hb; replace B_v := kb_b B_v hb; clear hb; have V_p := a0_ hbox; have B_p := kf_ w104; have N_p := nf_ g_p; clear hbox hg) | ((with_reducible refine gt_ 30 11 20 rfl ?_); refine store_ev (p := .tmp 11) (v := .tmp 20) rfl rfl rfl (g := g_p) rfl rfl (bk_ V_p B_p N_p) ?_; intro w105 hbox hk; replace HB := kb_o HB hk G_p; replace B_y := kb_o B_y hk O_p_y; replace B_q := kb_o B_q hk O_p_q; replace B_t := kb_o B_t hk O_p_t; replace B_v := kb_o B_v hk O_p_v; clear V_p B_p; have V_p := a0_ hbox; have B_p := kf_ w105; clear hbox hk) | ((with_reducible refine gd_ 29 rfl ?_); refine gate_guard (by rfl) ?_; dsimp only; refine load_ev rfl rfl (g := g_p) rfl (bk_ V_p B_p N_p) ?_) | ((with_reducible refine gd_ 30 rfl ?_); refine gate_guard (by rfl) ?_; dsimp only; refine load_ev rfl rfl (g := g_t) rfl (bk_ V_t B_t N_t) ?_))
 with_reducible refine (qsame_calls x y _ _ _ (IsR.kb (S := fun k => False) V_v.out B_v.out (fun _ _ h => h)) (IsR.kb (S := fun k => False) V_y.out B_y.out (fun _ _ h => h))).mono ?_
 rintro e w106 ⟨rfl, hb⟩
 rw [← HZ.out]
 replace HB := kb_b HB hb
 replace B_y := kb_b B_y hb
 replace B_q := kb_b B_q hb
 replace B_t := kb_b B_t hb
 replace B_v := kb_b B_v hb
 replace B_p := kb_b B_p hb
 clear hb
 go_wp2_with fail
 go_ret
 exact ⟨rfl, (Kb.to_below HB.out (fun _ h => h.elim))⟩
theorem told_calls (P : Option Rat → Prop) (fn : Int) (w : World) (tq : Bool) (Aq : Option Addr) (nq cq : Nat) (Dq : Option Addr) (kq zq : Nat) (Al : Option Addr) (nl cl : Nat) (hrun2 : ∀ W, Kb (fun k => False) w W → Calls Try.prog 16 #[.int .i64 fn, .int .i64 1000, .agg #[.bool tq, .slice Aq nq cq, .slice Dq kq zq], .slice Al nl cl] W fun e w' => (∃ v ans, P ans ∧ e = .returned (.tuple #[v, .bool ans.isSome, .int .i64 (eno ans)]) ∧ Res (fun k => W.heap.size ≤ k) w' v ans) ∧ Below W.heap.size W w') :
 Calls Try.prog 11 #[.int .i64 fn, .agg #[.bool tq, .slice Aq nq cq, .slice Dq kq zq], .slice Al nl cl] w fun e w' => (∃ v ans, P ans ∧ e = .returned (.tuple #[v, .bool ans.isSome]) ∧ Res (fun k => w.heap.size ≤ k) w' v ans) ∧ Below w.heap.size w w' := by
 have hu30 := Try.underlying30
 have HR := a0_ hrun2
 clear hrun2
 have HB := kf_ w
 go_enter Try.func11, Try.ntmps11
 go_wp2_with (first | ((with_reducible refine gd_ 4 rfl ?_); refine bx_ (N := 4) #[.bool tq, .slice Aq nq cq, .slice Dq kq zq] 30 ?_; intro g_q hg w101 hbox hb; have G_q := kb_g HB hg; replace HB := kb_b HB hb; clear hb; have V_q := a0_ hbox; have B_q := kf_ w101; have N_q := nf_ g_q; clear hbox hg) | ((with_reducible refine gd_ 6 rfl ?_); refine bx_ (N := 6) #[.bool false, .slice none 0 0, .slice none 0 0] 30 ?_; intro g_r hg w102 hbox hb; have G_r := kb_g HB hg; replace HB := kb_b HB hb; replace B_q := kb_b B_q hb; clear hb; have V_r := a0_ hbox; have B_r := kf_ w102; have N_r := nf_ g_r; clear hbox hg) | ((with_reducible refine gd_ 13 rfl ?_); refine load_ev rfl rfl (g := g_q) rfl (bk_ V_q B_q N_q) ?_))
 with_reducible refine (HR.out _ HB.out).mono ?_
 rintro e w103 ⟨⟨v, ans, hP, rfl, hv⟩, hb⟩
 have HP := a0_ hP
 clear hP
 obtain ⟨tv, Av, nv, cv, Dv, kv, zv, rfl⟩ := hv.agg
 have hle := Kb.size HB.out
 have hl_r := blk_lt (bk_ V_r B_r N_r)
 have hv_ := Res.mono' (ok' := fun k => True ∧ k ≠ g_r ∧ w.heap.size ≤ k) hv (fun k hk _ => by refine ⟨?_, ?_, ?_⟩ <;> first | trivial | omega)
 clear hv hle hl_r
 replace HB := kb_b HB hb
 replace B_q := kb_b B_q hb
 replace B_r := kb_b B_r hb
 clear hb
 have V_v := a0_ hv_
 clear hv_
 have B_v := a0_ (Kb.refl (fun k => False ∨ k = g_r) w103)
 clear V_q B_q
 cases ans
 · skip
   go_wp2_with (first | ((with_reducible refine gd_ 8 rfl ?_); refine bx_ (N := 8) #[.bool false, .slice none 0 0, .slice none 0 0] 30 ?_; intro g_p hg w104 hbox hb; have G_p := kb_g HB hg; have O_p_r := kb_g B_r hg; have O_p_v := kb_g B_v hg; replace HB := kb_b HB hb; replace B_r := kb_b B_r hb; replace B_v := kb_b B_v hb; clear hb; have V_p := a0_ hbox; have B_p := kf_ w104; have N_p := nf_ g_p; clear hbox hg) | ((with_reducible refine gt_ 30 8 16 rfl ?_); refine store_ev (p := .tmp 8) (v := .tmp 16) rfl rfl rfl (g := g_p) rfl rfl (bk_ V_p B_p N_p) ?_; intro w105 hbox hk; replace HB := kb_o HB hk G_p; replace B_r := kb_o B_r hk O_p_r; replace B_v := kb_o B_v hk O_p_v; clear V_p B_p; have V_p := a0_ hbox; have B_p := kf_ w105; clear hbox hk) | ((with_reducible refine gd_ 19 rfl ?_); refine load_ev rfl rfl (g := g_p) rfl (bk_ V_p B_p N_p) ?_) | ((with_reducible refine gt_ 30 6 19 rfl ?_); refine store_ev (p := .tmp 6) (v := .tmp 19) rfl rfl rfl (g := g_r) rfl rfl (bk_ V_r B_r N_r) ?_; intro w106 hbox hk; replace HB := kb_o HB hk G_r; replace B_v := kb_t B_v hk (fun i hi => by exact Or.inl (Or.inr hi)); clear V_r B_r; have V_r := a0_ hbox; have B_r := kf_ w106; clear hbox hk))
   refine bodyPost_ret (results_ct rfl _ _ g_r 30 #[.bool tv, .slice Av nv cv, .slice Dv kv zv] (0, 0) _ rfl (bk_ V_r B_r N_r) Try.underlying30 rfl (by kernel_rfl)) rfl ?_
   exact ⟨⟨_, _, HP.out, rfl, (Res.mono (Res.kb (S := fun k => False ∨ k = g_r) V_v.out B_v.out (fun k h hs => hs.elim (fun f => f) h.2.1)) (fun k h => h.2.2))⟩, (Kb.to_below HB.out (fun _ h => h.elim))⟩
 · skip
   go_wp2_with (first | ((with_reducible refine gd_ 8 rfl ?_); refine bx_ (N := 8) #[.bool false, .slice none 0 0, .slice none 0 0] 30 ?_; intro g_p hg w104 hbox hb; have G_p := kb_g HB hg; have O_p_r := kb_g B_r hg; have O_p_v := kb_g B_v hg; replace HB := kb_b HB hb; replace B_r := kb_b B_r hb; replace B_v := kb_b B_v hb; clear hb; have V_p := a0_ hbox; have B_p := kf_ w104; have N_p := nf_ g_p; clear hbox hg) | ((with_reducible refine gt_ 30 8 16 rfl ?_); refine store_ev (p := .tmp 8) (v := .tmp 16) rfl rfl rfl (g := g_p) rfl rfl (bk_ V_p B_p N_p) ?_; intro w105 hbox hk; replace HB := kb_o HB hk G_p; replace B_r := kb_o B_r hk O_p_r; replace B_v := kb_o B_v hk O_p_v; clear V_p B_p; have V_p := a0_ hbox; have B_p := kf_ w105; clear hbox hk) | ((with_reducible refine gd_ 19 rfl ?_); refine load_ev rfl rfl (g := g_p) rfl (bk_ V_p B_p N_p) ?_) | ((with_reducible refine gt_ 30 6 19 rfl ?_); refine store_ev (p := .tmp 6) (v := .tmp 19) rfl rfl rfl (g := g_r) rfl rfl (bk_ V_r B_r N_r) ?_; intro w106 hbox hk; replace HB := kb_o HB hk G_r; replace B_v := kb_t B_v hk (fun i hi => by exact Or.inl (Or.inr hi)); clear V_r B_r; have V_r := a0_ hbox; have B_r := kf_ w106; clear hbox hk))
   refine bodyPost_ret (results_ct rfl _ _ g_r 30 #[.bool tv, .slice Av nv cv, .slice Dv kv zv] (0, 0) _ rfl (bk_ V_r B_r N_r) Try.underlying30 rfl (by kernel_rfl)) rfl ?_
   exact ⟨⟨_, _, HP.out, rfl, (Res.mono (Res.kb (S := fun k => False ∨ k = g_r) V_v.out B_v.out (fun k h hs => hs.elim (fun f => f) h.2.1)) (fun k h => h.2.2))⟩, (Kb.to_below HB.out (fun _ h => h.elim))⟩
theorem wrun1 {okl : Nat → Prop} (over : Int) (h0 : 1 ≤ over) (h1 : over ≤ 9007199254740991) (ss : List Smp) (hby : ByS ss) (hn0 : 0 < ss.length) (hsz : ss.length ≤ 1000000) (w : World) (tq : Bool) (Aq : Option Addr) (nq cq : Nat) (Dq : Option Addr) (kq zq : Nat) (Al : Option Addr) (cl : Nat) (hl : RowS okl w (.slice Al ss.length cl) ss) :
 Calls Try.prog 16 #[.int .i64 1, .int .i64 over, .agg #[.bool tq, .slice Aq nq cq, .slice Dq kq zq], .slice Al ss.length cl] w fun e w' => (∃ v ans, (fun a => a = some (ss.length : Rat)) ans ∧ e = .returned (.tuple #[v, .bool ans.isSome, .int .i64 (eno ans)]) ∧ Res (fun k => w.heap.size ≤ k) w' v ans) ∧ Below w.heap.size w w' := by
 have hl2 : RowS (fun k => okl k ∧ k < w.heap.size) w (.slice Al ss.length cl) ss := RowS.mono' hl (fun k h1 h2 => ⟨h1, h2⟩)
 refine wrun_calls (fun a => a = some (ss.length : Rat)) 1 over (by decide) ss.length hn0 w _ _ _ _ _ _ _ _ _ (fun W hW => may1_calls over h0 h1 ss hby hsz W _ _ _ _ _ _ _ _ (RowS.kb hl2 hW (fun _ _ h => h))) (fun W rb hW hrb hr => (run1_calls rb over ss  hn0 hsz W _ _ _ _ _ _ _ _ hr (RowS.kb hl2 hW (fun _ _ h => h)) (fun k h => by have := h.2; omega) ).mono ?_)
 rintro e w' ⟨v, rfl, hv, hk1, hk2⟩
 exact ⟨v, _, rfl, rfl, Res.mono hv (fun k h => h.elim (fun h => .inl h.2) .inr), hk1, hk2⟩
theorem wrun2 {okl : Nat → Prop} (over : Int) (h0 : 1 ≤ over) (h1 : over ≤ 9007199254740991) (ss : List Smp) (hby : ByS ss) (hn0 : 0 < ss.length) (hsz : ss.length ≤ 1000000) (w : World) (tq : Bool) (Aq : Option Addr) (nq cq : Nat) (Dq : Option Addr) (kq zq : Nat) (Al : Option Addr) (cl : Nat) (hl : RowS okl w (.slice Al ss.length cl) ss) :
 Calls Try.prog 16 #[.int .i64 2, .int .i64 over, .agg #[.bool tq, .slice Aq nq cq, .slice Dq kq zq], .slice Al ss.length cl] w fun e w' => (∃ v ans, (fun a => a = rateO (some (ss.length : Rat)) (over : Rat)) ans ∧ e = .returned (.tuple #[v, .bool ans.isSome, .int .i64 (eno ans)]) ∧ Res (fun k => w.heap.size ≤ k) w' v ans) ∧ Below w.heap.size w w' := by
 have hl2 : RowS (fun k => okl k ∧ k < w.heap.size) w (.slice Al ss.length cl) ss := RowS.mono' hl (fun k h1 h2 => ⟨h1, h2⟩)
 refine wrun_calls (fun a => a = rateO (some (ss.length : Rat)) (over : Rat)) 2 over (by decide) ss.length hn0 w _ _ _ _ _ _ _ _ _ (fun W hW => may2_calls over h0 h1 ss hby hsz W _ _ _ _ _ _ _ _ (RowS.kb hl2 hW (fun _ _ h => h))) (fun W rb hW hrb hr => (run2_calls rb over ss (by omega) (by omega) hn0 hsz W _ _ _ _ _ _ _ _ hr (RowS.kb hl2 hW (fun _ _ h => h)) (fun k h => by have := h.2; omega) ).mono ?_)
 rintro e w' ⟨v, rfl, hv, hk1, hk2⟩
 exact ⟨v, _, rfl, rfl, Res.mono hv (fun k h => h.elim (fun h => .inl h.2) .inr), hk1, hk2⟩
theorem wrun3 {okl : Nat → Prop} (over : Int) (h0 : 1 ≤ over) (h1 : over ≤ 9007199254740991) (ss : List Smp) (hby : ByS ss) (hn0 : 0 < ss.length) (hsz : ss.length ≤ 1000000) (w : World) (tq : Bool) (Aq : Option Addr) (nq cq : Nat) (Dq : Option Addr) (kq zq : Nat) (Al : Option Addr) (cl : Nat) (hl : RowS okl w (.slice Al ss.length cl) ss) :
 Calls Try.prog 16 #[.int .i64 3, .int .i64 over, .agg #[.bool tq, .slice Aq nq cq, .slice Dq kq zq], .slice Al ss.length cl] w fun e w' => (∃ v ans, (fun a => a = sumO (some 0) (bytesQ ss)) ans ∧ e = .returned (.tuple #[v, .bool ans.isSome, .int .i64 (eno ans)]) ∧ Res (fun k => w.heap.size ≤ k) w' v ans) ∧ Below w.heap.size w w' := by
 have hl2 : RowS (fun k => okl k ∧ k < w.heap.size) w (.slice Al ss.length cl) ss := RowS.mono' hl (fun k h1 h2 => ⟨h1, h2⟩)
 refine wrun_calls (fun a => a = sumO (some 0) (bytesQ ss)) 3 over (by decide) ss.length hn0 w _ _ _ _ _ _ _ _ _ (fun W hW => may3_calls over h0 h1 ss hby hsz W _ _ _ _ _ _ _ _ (RowS.kb hl2 hW (fun _ _ h => h))) (fun W rb hW hrb hr => (run3_calls rb over ss  hn0 hsz W _ _ _ _ _ _ _ _ hr (RowS.kb hl2 hW (fun _ _ h => h)) (fun k h => by have := h.2; omega) hby).mono ?_)
 rintro e w' ⟨v, rfl, hv, hk1, hk2⟩
 exact ⟨v, _, rfl, rfl, Res.mono hv (fun k h => h.elim (fun h => .inl h.2) .inr), hk1, hk2⟩
theorem wrun4 {okl : Nat → Prop} (over : Int) (h0 : 1 ≤ over) (h1 : over ≤ 9007199254740991) (ss : List Smp) (hby : ByS ss) (hn0 : 0 < ss.length) (hsz : ss.length ≤ 1000000) (w : World) (tq : Bool) (Aq : Option Addr) (nq cq : Nat) (Dq : Option Addr) (kq zq : Nat) (Al : Option Addr) (cl : Nat) (hl : RowS okl w (.slice Al ss.length cl) ss) :
 Calls Try.prog 16 #[.int .i64 4, .int .i64 over, .agg #[.bool tq, .slice Aq nq cq, .slice Dq kq zq], .slice Al ss.length cl] w fun e w' => (∃ v ans, (fun a => a = rateO (sumO (some 0) (bytesQ ss)) (over : Rat)) ans ∧ e = .returned (.tuple #[v, .bool ans.isSome, .int .i64 (eno ans)]) ∧ Res (fun k => w.heap.size ≤ k) w' v ans) ∧ Below w.heap.size w w' := by
 have hl2 : RowS (fun k => okl k ∧ k < w.heap.size) w (.slice Al ss.length cl) ss := RowS.mono' hl (fun k h1 h2 => ⟨h1, h2⟩)
 refine wrun_calls (fun a => a = rateO (sumO (some 0) (bytesQ ss)) (over : Rat)) 4 over (by decide) ss.length hn0 w _ _ _ _ _ _ _ _ _ (fun W hW => may4_calls over h0 h1 ss hby hsz W _ _ _ _ _ _ _ _ (RowS.kb hl2 hW (fun _ _ h => h))) (fun W rb hW hrb hr => (run4_calls rb over ss (by omega) (by omega) hn0 hsz W _ _ _ _ _ _ _ _ hr (RowS.kb hl2 hW (fun _ _ h => h)) (fun k h => by have := h.2; omega) hby).mono ?_)
 rintro e w' ⟨v, rfl, hv, hk1, hk2⟩
 exact ⟨v, _, rfl, rfl, Res.mono hv (fun k h => h.elim (fun h => .inl h.2) .inr), hk1, hk2⟩
theorem wrun6 {okl : Nat → Prop} (over : Int) (h0 : 1 ≤ over) (h1 : over ≤ 9007199254740991) (ss : List Smp) (hby : ByS ss) (qs : List Rat) (hvs : ValS ss qs) (hn0 : 0 < ss.length) (hsz : ss.length ≤ 1000000) (w : World) (tq : Bool) (Aq : Option Addr) (nq cq : Nat) (Dq : Option Addr) (kq zq : Nat) (Al : Option Addr) (cl : Nat) (hl : RowS okl w (.slice Al ss.length cl) ss) :
 Calls Try.prog 16 #[.int .i64 6, .int .i64 over, .agg #[.bool tq, .slice Aq nq cq, .slice Dq kq zq], .slice Al ss.length cl] w fun e w' => (∃ v ans, (fun a => a = sumO (some 0) qs) ans ∧ e = .returned (.tuple #[v, .bool ans.isSome, .int .i64 (eno ans)]) ∧ Res (fun k => w.heap.size ≤ k) w' v ans) ∧ Below w.heap.size w w' := by
 have hl2 : RowS (fun k => okl k ∧ k < w.heap.size) w (.slice Al ss.length cl) ss := RowS.mono' hl (fun k h1 h2 => ⟨h1, h2⟩)
 refine wrun_calls (fun a => a = sumO (some 0) qs) 6 over (by decide) ss.length hn0 w _ _ _ _ _ _ _ _ _ (fun W hW => may6_calls over h0 h1 ss hby qs hvs hsz W _ _ _ _ _ _ _ _ (RowS.kb hl2 hW (fun _ _ h => h))) (fun W rb hW hrb hr => (run6_calls rb over ss qs hn0 hsz W _ _ _ _ _ _ _ _ hr (RowS.kb hl2 hW (fun _ _ h => h)) (fun k h => by have := h.2; omega) hvs).mono ?_)
 rintro e w' ⟨v, rfl, hv, hk1, hk2⟩
 exact ⟨v, _, rfl, rfl, Res.mono hv (fun k h => h.elim (fun h => .inl h.2) .inr), hk1, hk2⟩
theorem wrun7 {okl : Nat → Prop} (over : Int) (h0 : 1 ≤ over) (h1 : over ≤ 9007199254740991) (ss : List Smp) (hby : ByS ss) (qs : List Rat) (hvs : ValS ss qs) (hn0 : 0 < ss.length) (hsz : ss.length ≤ 1000000) (w : World) (tq : Bool) (Aq : Option Addr) (nq cq : Nat) (Dq : Option Addr) (kq zq : Nat) (Al : Option Addr) (cl : Nat) (hl : RowS okl w (.slice Al ss.length cl) ss) :
 Calls Try.prog 16 #[.int .i64 7, .int .i64 over, .agg #[.bool tq, .slice Aq nq cq, .slice Dq kq zq], .slice Al ss.length cl] w fun e w' => (∃ v ans, (fun a => a = doO (sumO (some 0) qs).isNone (fun x y => x / y) (sumO (some 0) qs) (some (ss.length : Rat))) ans ∧ e = .returned (.tuple #[v, .bool ans.isSome, .int .i64 (eno ans)]) ∧ Res (fun k => w.heap.size ≤ k) w' v ans) ∧ Below w.heap.size w w' := by
 have hl2 : RowS (fun k => okl k ∧ k < w.heap.size) w (.slice Al ss.length cl) ss := RowS.mono' hl (fun k h1 h2 => ⟨h1, h2⟩)
 refine wrun_calls (fun a => a = doO (sumO (some 0) qs).isNone (fun x y => x / y) (sumO (some 0) qs) (some (ss.length : Rat))) 7 over (by decide) ss.length hn0 w _ _ _ _ _ _ _ _ _ (fun W hW => may7_calls over h0 h1 ss hby qs hvs hsz W _ _ _ _ _ _ _ _ (RowS.kb hl2 hW (fun _ _ h => h))) (fun W rb hW hrb hr => (run7_calls rb over ss qs hn0 hsz W _ _ _ _ _ _ _ _ hr (RowS.kb hl2 hW (fun _ _ h => h)) (fun k h => by have := h.2; omega) hvs).mono ?_)
 rintro e w' ⟨v, rfl, hv, hk1, hk2⟩
 exact ⟨v, _, rfl, rfl, Res.mono hv (fun k h => h.elim (fun h => .inl h.2) .inr), hk1, hk2⟩
theorem wrun12 {okl : Nat → Prop} (over : Int) (h0 : 1 ≤ over) (h1 : over ≤ 9007199254740991) (ss : List Smp) (hby : ByS ss) (qs : List Rat) (hvs : ValS ss qs)  (q : Rat) (hq0 : 0 ≤ q) (hq1 : q ≤ 1) (h20 : ss.length ≤ 1000000) {okq : Nat → Prop} (hn0 : 0 < ss.length) (hsz : ss.length ≤ 1000000) (w : World) (tq : Bool) (Aq : Option Addr) (nq cq : Nat) (Dq : Option Addr) (kq zq : Nat) (Al : Option Addr) (cl : Nat) (hl : RowS okl w (.slice Al ss.length cl) ss) (hq : IsR okq w (.agg #[.bool tq, .slice Aq nq cq, .slice Dq kq zq]) q) :
 Calls Try.prog 16 #[.int .i64 12, .int .i64 over, .agg #[.bool tq, .slice Aq nq cq, .slice Dq kq zq], .slice Al ss.length cl] w fun e w' => (∃ v ans, (fun a => ∃ qs', qs'.Perm qs ∧ qs'.Pairwise (· ≤ ·) ∧ a = quantO q qs') ans ∧ e = .returned (.tuple #[v, .bool ans.isSome, .int .i64 (eno ans)]) ∧ Res (fun k => w.heap.size ≤ k) w' v ans) ∧ Below w.heap.size w w' := by
 have hl2 : RowS (fun k => okl k ∧ k < w.heap.size) w (.slice Al ss.length cl) ss := RowS.mono' hl (fun k h1 h2 => ⟨h1, h2⟩)
 refine wrun_calls (fun a => ∃ qs', qs'.Perm qs ∧ qs'.Pairwise (· ≤ ·) ∧ a = quantO q qs') 12 over (by decide) ss.length hn0 w _ _ _ _ _ _ _ _ _ (fun W hW => may12_calls over h0 h1 ss hby qs hvs hsz W _ _ (RowS.kb hl2 hW (fun _ _ h => h)) q hq0 hq1 (IsR.kb hq hW (fun _ _ h => h))) (fun W rb hW hrb hr => (run12_calls rb over ss qs q hq0 hq1 hn0 hsz W _ _ hr (RowS.kb hl2 hW (fun _ _ h => h)) (fun k h => by have := h.2; omega) hvs h20 (IsR.mono' (IsR.kb (IsR.bound hq) hW (fun _ _ h => h)) (fun k h _ => by have := h.2; omega))).mono ?_)
 rintro e w' ⟨v, qs', rfl, hp, hw, hv, hk1, hk2⟩
 exact ⟨v, _, ⟨qs', hp, hw, rfl⟩, rfl, Res.mono hv (fun k h => h.elim (fun h => .inl h.2) .inr), hk1, hk2⟩
theorem wrun5_nil (over : Int) (h0 : 1 ≤ over) (h1 : over ≤ 9007199254740991) (w : World) (tq : Bool) (Aq : Option Addr) (nq cq : Nat) (Dq : Option Addr) (kq zq : Nat) :
 Calls Try.prog 16 #[.int .i64 5, .int .i64 over, .agg #[.bool tq, .slice Aq nq cq, .slice Dq kq zq], .slice none 0 0] w fun e w' => (∃ v, e = .returned (.tuple #[v, .bool true, .int .i64 0]) ∧ IsR (fun k => w.heap.size ≤ k) w' v 1) ∧ Below w.heap.size w w' := by
 have hu30 := Try.underlying30
 have HM := a0_ (fun W => may5_calls (okl := fun _ => True) over h0 h1 [] (fun i h => absurd h (Nat.not_lt_zero _)) (by decide) W tq Aq nq cq Dq kq zq (.slice none 0 0) (Kd.V_nil _ _ _ _ _))
 have HB := kf_ w
 go_enter Try.func16, Try.ntmps16
 try go_step3
 go_wp2_with (first | ((with_reducible refine gd_ 6 rfl ?_); refine bx_ (N := 6) #[.bool tq, .slice Aq nq cq, .slice Dq kq zq] 30 ?_; intro g_q hg w101 hbox hb; have G_q := kb_g HB hg; replace HB := kb_b HB hb; clear hb; have V_q := a0_ hbox; have B_q := kf_ w101; have N_q := nf_ g_q; clear hbox hg) | ((with_reducible refine gd_ 8 rfl ?_); refine bx_ (N := 8) #[.bool false, .slice none 0 0, .slice none 0 0] 30 ?_; intro g_r hg w102 hbox hb; have G_r := kb_g HB hg; replace HB := kb_b HB hb; replace B_q := kb_b B_q hb; clear hb; have V_r := a0_ hbox; have B_r := kf_ w102; have N_r := nf_ g_r; clear hbox hg) | ((with_reducible refine gd_ 15 rfl ?_); refine load_ev rfl rfl (g := g_q) rfl (bk_ V_q B_q N_q) ?_))
 with_reducible refine (HM.out _).mono ?_
 rintro e w103 ⟨rfl, hb⟩
 replace HB := kb_b HB hb
 replace B_q := kb_b B_q hb
 replace B_r := kb_b B_r hb
 clear hb
 clear V_q B_q
 go_wp2_with fail
 with_reducible refine (qof_calls 1 (by omega) (by omega) _).mono ?_
 rintro e w104 ⟨⟨v, rfl, hv⟩, hb⟩
 have hv : IsR _ _ _ (1 : Rat) := hv
 obtain ⟨tv, Av, nv, cv, Dv, kv, zv, rfl⟩ := hv.agg
 have hle := Kb.size HB.out
 have hl_r := blk_lt (bk_ V_r B_r N_r)
 have hv_ := IsR.mono' (ok' := fun k => True ∧ k ≠ g_r ∧ w.heap.size ≤ k) hv (fun k hk _ => by refine ⟨?_, ?_, ?_⟩ <;> first | trivial | omega)
 clear hv hle hl_r
 replace HB := kb_b HB hb
 replace B_r := kb_b B_r hb
 clear hb
 have V_v := a0_ hv_
 clear hv_
 have B_v := a0_ (Kb.refl (fun k => False ∨ k = g_r) w104)
 go_wp2_with (first | ((with_reducible refine gt_ 30 8 28 rfl ?_); refine store_ev (p := .tmp 8) (v := .tmp 28) rfl rfl rfl (g := g_r) rfl rfl (bk_ V_r B_r N_r) ?_; intro w105 hbox hk; replace HB := kb_o HB hk G_r; replace B_v := kb_t B_v hk (fun i hi => by exact Or.inl (Or.inr hi)); clear V_r B_r; have V_r := a0_ hbox; have B_r := kf_ w105; clear hbox hk))
 refine bodyPost_ret (results_ctt rfl _ _ g_r 30 #[.bool tv, .slice Av nv cv, .slice Dv kv zv] (0, 0) _ rfl (bk_ V_r B_r N_r) Try.underlying30 rfl (by kernel_rfl)) rfl ?_
 exact ⟨⟨_, rfl, (IsR.mono (IsR.kb (S := fun k => False ∨ k = g_r) V_v.out B_v.out (fun k h hs => hs.elim (fun f => f) h.2.1)) (fun k h => h.2.2))⟩, (Kb.to_below HB.out (fun _ h => h.elim))⟩
theorem wrun1_nil (over : Int) (h0 : 1 ≤ over) (h1 : over ≤ 9007199254740991) (w : World) (tq : Bool) (Aq : Option Addr) (nq cq : Nat) (Dq : Option Addr) (kq zq : Nat) :
 Calls Try.prog 16 #[.int .i64 1, .int .i64 over, .agg #[.bool tq, .slice Aq nq cq, .slice Dq kq zq], .slice none 0 0] w fun e w' => e = .returned (.tuple #[.agg #[.bool false, .slice none 0 0, .slice none 0 0], .bool false, .int .i64 0]) ∧ Below w.heap.size w w' := by
 have hu30 := Try.underlying30
 have HM := a0_ (fun W => may1_calls (okl := fun _ => True) over h0 h1 [] (fun i h => absurd h (Nat.not_lt_zero _)) (by decide) W tq Aq nq cq Dq kq zq (.slice none 0 0) (Kd.V_nil _ _ _ _ _))
 have HB := kf_ w
 go_enter Try.func16, Try.ntmps16
 try go_step3
 go_wp2_with (first | ((with_reducible refine gd_ 6 rfl ?_); refine bx_ (N := 6) #[.bool tq, .slice Aq nq cq, .slice Dq kq zq] 30 ?_; intro g_q hg w101 hbox hb; have G_q := kb_g HB hg; replace HB := kb_b HB hb; clear hb; have V_q := a0_ hbox; have B_q := kf_ w101; have N_q := nf_ g_q; clear hbox hg) | ((with_reducible refine gd_ 8 rfl ?_); refine bx_ (N := 8) #[.bool false, .slice none 0 0, .slice none 0 0] 30 ?_; intro g_r hg w102 hbox hb; have G_r := kb_g HB hg; replace HB := kb_b HB hb; replace B_q := kb_b B_q hb; clear hb; have V_r := a0_ hbox; have B_r := kf_ w102; have N_r := nf_ g_r; clear hbox hg) | ((with_reducible refine gd_ 15 rfl ?_); refine load_ev rfl rfl (g := g_q) rfl (bk_ V_q B_q N_q) ?_))
 with_reducible refine (HM.out _).mono ?_
 rintro e w103 ⟨rfl, hb⟩
 replace HB := kb_b HB hb
 replace B_q := kb_b B_q hb
 replace B_r := kb_b B_r hb
 clear hb
 clear V_q B_q
 go_wp2_with (first | ((with_reducible refine gt_ 30 8 37 rfl ?_); refine store_ev (p := .tmp 8) (v := .tmp 37) rfl rfl rfl (g := g_r) rfl rfl (bk_ V_r B_r N_r) ?_; intro w104 hbox hk; replace HB := kb_o HB hk G_r; clear V_r B_r; have V_r := a0_ hbox; have B_r := kf_ w104; clear hbox hk))
 refine bodyPost_ret (results_ctt rfl _ _ g_r 30 #[.bool false, .slice none 0 0, .slice none 0 0] (0, 0) _ rfl (bk_ V_r B_r N_r) Try.underlying30 rfl (by kernel_rfl)) rfl ?_
 exact ⟨rfl, (Kb.to_below HB.out (fun _ h => h.elim))⟩
end Go.Proofs.Ytgdkgahbmfhgcaa.PN
