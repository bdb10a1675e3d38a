/- What the statement rests on, part 14: YH YA LC NA5 LD LE YF. -/
import Derived.Test.YtgdkgahbmfhgcaaK13
set_option linter.unusedVariables false
set_option linter.unusedSimpArgs false
set_option maxHeartbeats 4000000
set_option maxRecDepth 100000
namespace Go.Proofs.Ytgdkgahbmfhgcaa.PN
open Go.RowKit Go.Proofs.Ytgdkgahbmfhgcaa.NS Go.Proofs.Ytgdkgahbmfhgcaa.Limbs Go.Proofs.YtgdkgahbmfhgcaaW.PrintWords Go.Proofs.YtgdkgahbmfhgcaaW.PrintLast Go.Proofs.YtgdkgahbmfhgcaaW.PrintMore
theorem mayf0 (w : World) (tq : Bool) (Aq : Option Addr) (nq cq : Nat) (Dq : Option Addr) (kq zq : Nat) (Al : Option Addr) (nl cl : Nat) :
 Calls Try.prog 29 #[.int .i64 0, .int .i64 1, .agg #[.bool tq, .slice Aq nq cq, .slice Dq kq zq], .slice Al nl cl] w fun e w' => e = .returned (.bool false) ∧ Below w.heap.size w w' := by
 have hu30 := Try.underlying30
 have HB := kf_ w
 go_enter Try.func29, Try.ntmps29
 go_wp2_with (first | ((with_reducible refine gd_ 6 rfl ?_); refine bx_ (N := 6) #[.bool tq, .slice Aq nq cq, .slice Dq kq zq] 30 ?_; intro g_q hg w101 hbox hb; have G_q := kb_g HB hg; replace HB := kb_b HB hb; clear hb; have V_q := a0_ hbox; have B_q := kf_ w101; have N_q := nf_ g_q; clear hbox hg))
 go_ret
 exact ⟨rfl, (Kb.to_below HB.out (fun _ h => h.elim))⟩
theorem mayf1 (w : World) (tq : Bool) (Aq : Option Addr) (nq cq : Nat) (Dq : Option Addr) (kq zq : Nat) (Al : Option Addr) (nl cl : Nat) :
 Calls Try.prog 29 #[.int .i64 13, .int .i64 1, .agg #[.bool tq, .slice Aq nq cq, .slice Dq kq zq], .slice Al nl cl] w fun e w' => e = .returned (.bool false) ∧ Below w.heap.size w w' := by
 have hu30 := Try.underlying30
 have HB := kf_ w
 go_enter Try.func29, Try.ntmps29
 go_wp2_with (first | ((with_reducible refine gd_ 6 rfl ?_); refine bx_ (N := 6) #[.bool tq, .slice Aq nq cq, .slice Dq kq zq] 30 ?_; intro g_q hg w101 hbox hb; have G_q := kb_g HB hg; replace HB := kb_b HB hb; clear hb; have V_q := a0_ hbox; have B_q := kf_ w101; have N_q := nf_ g_q; clear hbox hg))
 go_ret
 exact ⟨rfl, (Kb.to_below HB.out (fun _ h => h.elim))⟩
theorem mayf2 (w : World) (tq : Bool) (Aq : Option Addr) (nq cq : Nat) (Dq : Option Addr) (kq zq : Nat) (Al : Option Addr) (nl cl : Nat) :
 Calls Try.prog 29 #[.int .i64 1, .int .i64 0, .agg #[.bool tq, .slice Aq nq cq, .slice Dq kq zq], .slice Al nl cl] w fun e w' => e = .returned (.bool false) ∧ Below w.heap.size w w' := by
 have hu30 := Try.underlying30
 have HB := kf_ w
 go_enter Try.func29, Try.ntmps29
 go_wp2_with (first | ((with_reducible refine gd_ 6 rfl ?_); refine bx_ (N := 6) #[.bool tq, .slice Aq nq cq, .slice Dq kq zq] 30 ?_; intro g_q hg w101 hbox hb; have G_q := kb_g HB hg; replace HB := kb_b HB hb; clear hb; have V_q := a0_ hbox; have B_q := kf_ w101; have N_q := nf_ g_q; clear hbox hg))
 go_ret
 exact ⟨rfl, (Kb.to_below HB.out (fun _ h => h.elim))⟩
theorem mayf3 (w : World) (tq : Bool) (Aq : Option Addr) (nq cq : Nat) (Dq : Option Addr) (kq zq : Nat) (Al : Option Addr) (nl cl : Nat) :
 Calls Try.prog 29 #[.int .i64 1, .int .i64 9007199254740992, .agg #[.bool tq, .slice Aq nq cq, .slice Dq kq zq], .slice Al nl cl] w fun e w' => e = .returned (.bool false) ∧ Below w.heap.size w w' := by
 have hu30 := Try.underlying30
 have HB := kf_ w
 go_enter Try.func29, Try.ntmps29
 go_wp2_with (first | ((with_reducible refine gd_ 6 rfl ?_); refine bx_ (N := 6) #[.bool tq, .slice Aq nq cq, .slice Dq kq zq] 30 ?_; intro g_q hg w101 hbox hb; have G_q := kb_g HB hg; replace HB := kb_b HB hb; clear hb; have V_q := a0_ hbox; have B_q := kf_ w101; have N_q := nf_ g_q; clear hbox hg))
 go_ret
 exact ⟨rfl, (Kb.to_below HB.out (fun _ h => h.elim))⟩
theorem mayby_calls (w : World) (tq : Bool) (Aq : Option Addr) (nq cq : Nat) (Dq : Option Addr) (kq zq : Nat) (bl ol cl : Nat) (sa : Int) (ty : Bool) (Ay : Option Addr) (ny cy : Nat) (Dy : Option Addr) (ky zy : Nat) (c0 : w.cell? ⟨bl, ol, none⟩ = some (.int .i64 sa)) (c1 : w.cell? ⟨bl, ol + 1, none⟩ = some (.int .i64 (-1))) (c2 : w.cell? ⟨bl, ol + 2, none⟩ = some (.bool ty)) (c3 : w.cell? ⟨bl, ol + 3, none⟩ = some (.slice Ay ny cy)) (c4 : w.cell? ⟨bl, ol + 4, none⟩ = some (.slice Dy ky zy)) :
 Calls Try.prog 29 #[.int .i64 1, .int .i64 1, .agg #[.bool tq, .slice Aq nq cq, .slice Dq kq zq], .slice (some ⟨bl, ol, none⟩) 1 cl] w fun e w' => e = .returned (.bool false) ∧ Below w.heap.size w w' := by
 have hu30 := Try.underlying30
 have hu39 := Try.underlying39
 have C0 := a0_ (And.intro c0 (And.intro c1 (And.intro c2 (And.intro c3 c4))))
 clear c0 c1 c2 c3 c4
 have HB := kf_ w
 go_enter Try.func29, Try.ntmps29
 go_wp2_with (first | ((with_reducible refine gd_ 6 rfl ?_); refine bx_ (N := 6) #[.bool tq, .slice Aq nq cq, .slice Dq kq zq] 30 ?_; intro g_q hg w101 hbox hb; have G_q := kb_g HB hg; replace HB := kb_b HB hb; clear hb; have V_q := a0_ hbox; have B_q := kf_ w101; have N_q := nf_ g_q; clear hbox hg))
 go_loopg [27] 0 (fun kg v27 wr => v27 = .int .i64 0 ∧ Aside0 (Kb (fun k => False) w wr))
 case atStart => exact ⟨rfl, HB⟩
 case round =>
  obtain ⟨rfl, HB2⟩ := hrel
  clear HB V_q B_q
  have HB := HB2
  clear HB2
  have B_l := HB
  go_wp2_with (first | ((with_reducible refine gd_ 30 rfl ?_); refine load_at5 rfl rfl (g := bl) (k := ol) rfl (Kb.cell (S := fun k => False) C0.out.1 B_l.out (fun h => h)) (Kb.cell (S := fun k => False) C0.out.2.1 B_l.out (fun h => h)) (Kb.cell (S := fun k => False) C0.out.2.2.1 B_l.out (fun h => h)) (Kb.cell (S := fun k => False) C0.out.2.2.2.1 B_l.out (fun h => h)) (Kb.cell (S := fun k => False) C0.out.2.2.2.2 B_l.out (fun h => h)) ?_) | ((with_reducible refine gd_ 10 rfl ?_); refine bx_ (N := 10) #[.int .i64 0, .int .i64 0, .bool false, .slice none 0 0, .slice none 0 0] 39 ?_; intro g_s hg w103 hbox hb; have G_s := kb_g HB hg; have O_s_l := kb_g B_l hg; replace HB := kb_b HB hb; replace B_l := kb_b B_l hb; clear hb; have V_s := a0_ hbox; have B_s := kf_ w103; have N_s := nf_ g_s; clear hbox hg) | ((with_reducible refine gt_ 39 10 30 rfl ?_); refine store_ev5 (p := .tmp 10) (v := .tmp 30) rfl rfl rfl (g := g_s) rfl rfl (bk_ V_s B_s N_s) ?_; intro w104 hbox hk; replace HB := kb_o HB hk G_s; replace B_l := kb_o B_l hk O_s_l; clear V_s B_s; have V_s := a0_ hbox; have B_s := kf_ w104; clear hbox hk; have bk_s := bk_ V_s B_s N_s; have hz_s_0 : w104.cell? ⟨g_s, 0, none⟩ = some (.int .i64 sa) := (blk_cell bk_s 0).trans rfl; have hz_s_1 : w104.cell? ⟨g_s, 1, none⟩ = some (.int .i64 (-1)) := (blk_cell bk_s 1).trans rfl; have hz_s_2 : w104.cell? ⟨g_s, 2, none⟩ = some (.bool ty) := (blk_cell bk_s 2).trans rfl; have hz_s_3 : w104.cell? ⟨g_s, 3, none⟩ = some (.slice Ay ny cy) := (blk_cell bk_s 3).trans rfl; have hz_s_4 : w104.cell? ⟨g_s, 4, none⟩ = some (.slice Dy ky zy) := (blk_cell bk_s 4).trans rfl; clear bk_s))
  go_ret
  exact ⟨rfl, (Kb.to_below HB.out (fun _ h => h.elim))⟩
def Mayqbad.T9 : Bool × List (List Nat × List Nat) := (true, [([], []), ([0], [0]), ([1], [1]), ([2], [2]), ([3, 2, 2], [2, 3]), ([4, 2], [2, 4]), ([5, 4, 2], [2, 5]), ([6], [6]), ([7, 6], [6, 7]), ([8, 6], [6, 8]), ([6, 9, 2], [2, 6, 9]), ([10, 6, 2], [2, 10]), ([11], [11]), ([11, 11], [11]), ([12, 13, 13, 11], [11, 12, 13]), ([14, 11], [11, 14]), ([11, 15, 2], [2, 11, 15]), ([2, 16], [2, 16]), ([17, 14, 0, 1, 2, 3, 4, 5, 6, 7, 8, 9, 10, 11, 12, 13, 14, 15, 16, 17], [17])])
def Mayqbad.B9 : List Nat := [0, 1, 3, 7, 15, 31, 63, 127, 255, 511, 1023, 2047, 4095, 4095, 16383, 32767, 65535, 131071, 262143]
theorem Mayqbad.tab9 : rtab .any (opsOf Try.f29 9) = Mayqbad.T9 := by kernel_rfl
theorem Mayqbad.bits9 : waitsOk Mayqbad.T9.2 Mayqbad.B9 = true := by kernel_rfl
theorem mayq_bad {okl : Nat → Prop} (over : Int) (h0 : 1 ≤ over) (h1 : over ≤ 9007199254740991) (ss : List Smp) (hby : ByS ss) (hsz : ss.length ≤ 1000000) (qs : List Rat) (hvs : ValS ss qs) (w : World) (tq : Bool) (Aq : Option Addr) (nq cq : Nat) (Dq : Option Addr) (kq zq : Nat) (vl : Value) (hl : RowS okl w vl ss) (hchk : ∀ W, Kb (fun k => False) w W → Calls Try.prog 17 #[.agg #[.bool tq, .slice Aq nq cq, .slice Dq kq zq]] W fun e w' => (∃ c : Int, c ≠ 0 ∧ e = .returned (.int .i64 c)) ∧ Below W.heap.size W w') :
 Calls Try.prog 29 #[.int .i64 12, .int .i64 over, .agg #[.bool tq, .slice Aq nq cq, .slice Dq kq zq], vl] w fun e w' => e = .returned (.bool false) ∧ Below w.heap.size w w' := by
 have hu30 := Try.underlying30
 have hu39 := Try.underlying39
 obtain ⟨Al, cl, rfl⟩ := hl.slice
 obtain ⟨nl, hnl⟩ : ∃ nl, nl = ss.length := ⟨_, rfl⟩
 rw [← hnl] at hl hsz ⊢
 have HNL := a0_ (And.intro hnl hsz)
 have HBY := a0_ hby
 have e3 : ¬ over < 1 := by omega
 have e4 : ¬ 9007199254740991 < over := by omega
 clear hnl hby hsz h0 h1
 have HVS := a0_ hvs
 clear hvs
 have HCK := a0_ hchk
 clear hchk
 have HB := kf_ w
 have V_l := a0_ hl
 clear hl
 have B_l := kf_ w
 go_enter Try.func29, Try.ntmps29
 go_wp2_with (first | ((with_reducible refine gd_ 6 rfl ?_); refine bx_ (N := 6) #[.bool tq, .slice Aq nq cq, .slice Dq kq zq] 30 ?_; intro g_q hg w101 hbox hb; have G_q := kb_g HB hg; replace HB := kb_b HB hb; replace B_l := kb_b B_l hb; clear hb; have V_q := a0_ hbox; have B_q := kf_ w101; have N_q := nf_ g_q; clear hbox hg))
 go_loopg [27] nl (fun kg v27 wr => ∃ (j : Nat), v27 = .int .i64 j ∧ Aside0 (j + kg = nl) ∧ Aside0 (Kb (fun k => False) w wr) ∧ Aside0 (Kb (fun k => False) w101 wr))
 case atStart => exact ⟨0, rfl, ⟨by omega⟩, HB, B_q⟩
 case round =>
  obtain ⟨j, rfl, HJ, HB2, HQB⟩ := hrel
  clear HB B_l B_q
  have HB := HB2
  clear HB2
  have B_l := HB
  have B_q := HQB
  clear HQB
  by_cases hlt : j < nl
  · have hz : (j : Int) < (nl : Int) := by omega
    have e1 : IntKind.i64.wrap ((j : Int) + 1) = ((j + 1 : Nat) : Int) := (i64_w _).trans ((w64 (by have := HNL.out.2; omega) (by have := HNL.out.2; omega)).trans (by omega))
    obtain ⟨bl, ol, rfl⟩ := RowS.some_ V_l.out (by omega)
    obtain ⟨ty, Ay, ny, cy, Dy, ky, zy, hy, c0, c1, c2, c3, c4⟩ := RowS.get (RowS.kb V_l.out B_l.out (fun _ _ h => h)) j (by rw [← HNL.out.1]; exact hlt)
    have C0 := a0_ (And.intro c0 (And.intro c1 (And.intro c2 (And.intro c3 c4))))
    clear c0 c1 c2 c3 c4
    have hbj := HBY.out j (by rw [← HNL.out.1]; exact hlt)
    obtain ⟨sa, hsa⟩ : ∃ x, x = (ss.getD j ⟨0, 0, none⟩).at_ := ⟨_, rfl⟩
    obtain ⟨sb, hsb⟩ : ∃ x, x = (ss.getD j ⟨0, 0, none⟩).by_ := ⟨_, rfl⟩
    rw [← hsa, ← hsb] at C0
    rw [← hsb] at hbj
    have f1 : ¬ sb < 0 := by omega
    have f2 : ¬ 9007199254740991 < sb := by omega
    clear hsa hsb hbj
    have hyv := hy _ (HVS.out.2 j (by rw [← HNL.out.1]; exact hlt))
    clear hy
    have V_y := a0_ hyv
    clear hyv
    have B_y := kf_ wr
    go_wp2_with (first | ((with_reducible refine gd_ 30 rfl ?_); refine load_at5 rfl rfl (g := bl) (k := ol + j * 5) rfl C0.out.1 C0.out.2.1 C0.out.2.2.1 C0.out.2.2.2.1 C0.out.2.2.2.2 ?_) | ((with_reducible refine gd_ 10 rfl ?_); refine bx_ (N := 10) #[.int .i64 0, .int .i64 0, .bool false, .slice none 0 0, .slice none 0 0] 39 ?_; intro g_s hg w103 hbox hb; have G_s := kb_g HB hg; have O_s_l := kb_g B_l hg; have O_s_q := kb_g B_q hg; have O_s_y := kb_g B_y hg; replace HB := kb_b HB hb; replace B_l := kb_b B_l hb; replace B_q := kb_b B_q hb; replace B_y := kb_b B_y hb; clear hb; have V_s := a0_ hbox; have B_s := kf_ w103; have N_s := nf_ g_s; clear hbox hg) | ((with_reducible refine gt_ 39 10 30 rfl ?_); refine store_ev5 (p := .tmp 10) (v := .tmp 30) rfl rfl rfl (g := g_s) rfl rfl (bk_ V_s B_s N_s) ?_; intro w104 hbox hk; replace HB := kb_o HB hk G_s; replace B_l := kb_o B_l hk O_s_l; replace B_q := kb_o B_q hk O_s_q; replace B_y := kb_o B_y hk O_s_y; clear V_s B_s; have V_s := a0_ hbox; have B_s := kf_ w104; clear hbox hk; have bk_s := bk_ V_s B_s N_s; have hz_s_0 : w104.cell? ⟨g_s, 0, none⟩ = some (.int .i64 sa) := (blk_cell bk_s 0).trans rfl; have hz_s_1 : w104.cell? ⟨g_s, 1, none⟩ = some (.int .i64 sb) := (blk_cell bk_s 1).trans rfl; have hz_s_2 : w104.cell? ⟨g_s, 2, none⟩ = some (.bool ty) := (blk_cell bk_s 2).trans rfl; have hz_s_3 : w104.cell? ⟨g_s, 3, none⟩ = some (.slice Ay ny cy) := (blk_cell bk_s 3).trans rfl; have hz_s_4 : w104.cell? ⟨g_s, 4, none⟩ = some (.slice Dy ky zy) := (blk_cell bk_s 4).trans rfl; clear bk_s))
    with_reducible refine (qcheck_calls (qs.getD j 0) _ _ (IsR.kb (S := fun k => False) V_y.out B_y.out (fun _ _ h => h))).mono ?_
    rintro e w105 ⟨rfl, hb⟩
    clear hz_s_0 hz_s_1 hz_s_2 hz_s_3 hz_s_4
    replace HB := kb_b HB hb
    replace B_l := kb_b B_l hb
    replace B_q := kb_b B_q hb
    replace B_y := kb_b B_y hb
    replace B_s := kb_b B_s hb
    clear hb
    go_wp2_with fail
    go_roundg (nl - (j + 1))
    case measure => have := HJ.out; omega
    case rel => exact ⟨j + 1, by first | rfl | rw [e1], ⟨by have := HJ.out; omega⟩, HB, B_q⟩
  · have hz : ¬ (j : Int) < (nl : Int) := by omega
    clear hlt
    go_wp2_with fail
    have hb : Below wr.heap.size wr wr.drew := below_drew1 (Below.refl _ _)
    replace HB := kb_b HB hb
    replace B_l := kb_b B_l hb
    replace B_q := kb_b B_q hb
    clear hb
    refine start_ (n := 19) (S := fun w' => w'.heap[g_q]? = some (.cells #[.bool tq, .slice Aq nq cq, .slice Dq kq zq] 30 (0, 0))) (ds := []) (tB_ 19 0) (by kernel_rfl) rfl (by kernel_rfl) (bk_ V_q B_q N_q) (fun hHeld => ?_)
    refine with_tabW Mayqbad.tab9 Mayqbad.bits9 (fun HT_ HW_ => ?_)
    generalize wr.drew = w103 at HB B_l B_q hHeld ⊢
    refine pu_ 0 (some 50) 1 HT_ ?_
    refine pu_ 1 (some 51) 3 HT_ ?_
    refine pu_ 2 (some 52) 7 HT_ ?_
    refine tk_ 3 (some 53) 15 HT_ HW_ hHeld ?_ ?_ ?_ ?_ ?_
    rotate_left
    · intro w' hs
      have hb_ := hs
      obtain ⟨c0_, c1_, c2_⟩ := b3_ hb_
      clear hb_ hs
      go_simp
      with_reducible rfl
    rotate_left
    · simp only [PU]
      rfl
    refine on_ 4 (some 54) 31 HT_ (fun K hK => ?_)
    refine gs_ Try.func17 #[.agg #[.bool tq, .slice Aq nq cq, .slice Dq kq zq]] ?_
    refine (HCK.out _ HB.out).mono ?_
    rintro e w104 ⟨⟨cc, hcc, rfl⟩, hb⟩
    refine ⟨_, rfl, ?_⟩
    refine hK.out _ _ (by exact blk_below hHeld hb) (fun hHeld => ?_)
    clear hK K
    refine nm_ (some 54) ?_
    replace HB := kb_b HB hb
    replace B_l := kb_b B_l hb
    replace B_q := kb_b B_q hb
    clear hb
    have hcb : (cc == 0) = false := beq_eq_false_iff_ne.2 hcc
    have hcd : decide (cc = 0) = false := decide_eq_false hcc
    refine pu_ 5 (some 55) 63 HT_ ?_
    refine pu_ 6 (some 56) 127 HT_ ?_
    refine sk_ 7 (some 57) 255 HT_ ?_
    refine sk_ 8 (some 58) 511 HT_ ?_
    refine sk_ 9 (some 59) 1023 HT_ ?_
    refine pu_ 10 (some 60) 2047 HT_ ?_
    refine pu_ 11 (some 61) 4095 HT_ ?_
    refine sk_ 12 (some 62) 8191 HT_ ?_
    refine sk_ 13 (some 63) 16383 HT_ ?_
    refine sk_ 14 (some 64) 32767 HT_ ?_
    refine sk_ 15 (some 65) 65535 HT_ ?_
    refine pu_ 16 (some 66) 131071 HT_ ?_
    refine pu_ 17 (some 67) 262143 HT_ ?_
    refine pu_ 18 (some 8) 524287 HT_ ?_
    refine do_ HT_ ?_
    clear HT_ HW_ hHeld
    go_wp2_with fail
    go_ret
    exact ⟨rfl, (Kb.to_below HB.out (fun _ h => h.elim))⟩
def Mayqneg.T9 : Bool × List (List Nat × List Nat) := (true, [([], []), ([0], [0]), ([1], [1]), ([2], [2]), ([3, 2, 2], [2, 3]), ([4, 2], [2, 4]), ([5, 4, 2], [2, 5]), ([6], [6]), ([7, 6], [6, 7]), ([8, 6], [6, 8]), ([6, 9, 2], [2, 6, 9]), ([10, 6, 2], [2, 10]), ([11], [11]), ([11, 11], [11]), ([12, 13, 13, 11], [11, 12, 13]), ([14, 11], [11, 14]), ([11, 15, 2], [2, 11, 15]), ([2, 16], [2, 16]), ([17, 14, 0, 1, 2, 3, 4, 5, 6, 7, 8, 9, 10, 11, 12, 13, 14, 15, 16, 17], [17])])
def Mayqneg.B9 : List Nat := [0, 1, 3, 7, 15, 31, 63, 127, 255, 511, 1023, 2047, 4095, 4095, 16383, 32767, 65535, 131071, 262143]
theorem Mayqneg.tab9 : rtab .any (opsOf Try.f29 9) = Mayqneg.T9 := by kernel_rfl
theorem Mayqneg.bits9 : waitsOk Mayqneg.T9.2 Mayqneg.B9 = true := by kernel_rfl
theorem mayq_neg {okl : Nat → Prop} (over : Int) (h0 : 1 ≤ over) (h1 : over ≤ 9007199254740991) (ss : List Smp) (hby : ByS ss) (hsz : ss.length ≤ 1000000) (qs : List Rat) (hvs : ValS ss qs) (w : World) (vq : Value) (vl : Value) (hl : RowS okl w vl ss) {okq : Nat → Prop} (q : Rat) (hq0 : q < 0) (hq : IsR okq w vq q) :
 Calls Try.prog 29 #[.int .i64 12, .int .i64 over, vq, vl] w fun e w' => e = .returned (.bool false) ∧ Below w.heap.size w w' := by
 have hu30 := Try.underlying30
 have hu39 := Try.underlying39
 obtain ⟨Al, cl, rfl⟩ := hl.slice
 obtain ⟨nl, hnl⟩ : ∃ nl, nl = ss.length := ⟨_, rfl⟩
 rw [← hnl] at hl hsz ⊢
 have HNL := a0_ (And.intro hnl hsz)
 have HBY := a0_ hby
 have e3 : ¬ over < 1 := by omega
 have e4 : ¬ 9007199254740991 < over := by omega
 clear hnl hby hsz h0 h1
 have HVS := a0_ hvs
 clear hvs
 have HQ := a0_ hq0
 clear hq0
 obtain ⟨tq, Aq, nq, cq, Dq, kq, zq, rfl⟩ := hq.agg
 have htq : tq = true := by
  have h := IsR.sign hq
  rw [h]
  exact decide_eq_true (Int.not_le.1 (fun h => Rat.not_lt.2 (Rat.num_nonneg.1 h) HQ.out))
 subst htq
 have HB := kf_ w
 have V_l := a0_ hl
 clear hl
 have B_l := kf_ w
 have V_vq := a0_ hq
 clear hq
 have B_vq := kf_ w
 go_enter Try.func29, Try.ntmps29
 go_wp2_with (first | ((with_reducible refine gd_ 6 rfl ?_); refine bx_ (N := 6) #[.bool true, .slice Aq nq cq, .slice Dq kq zq] 30 ?_; intro g_q hg w101 hbox hb; have G_q := kb_g HB hg; replace HB := kb_b HB hb; replace B_l := kb_b B_l hb; replace B_vq := kb_b B_vq hb; clear hb; have V_q := a0_ hbox; have B_q := kf_ w101; have N_q := nf_ g_q; clear hbox hg))
 go_loopg [27] nl (fun kg v27 wr => ∃ (j : Nat), v27 = .int .i64 j ∧ Aside0 (j + kg = nl) ∧ Aside0 (Kb (fun k => False) w wr) ∧ Aside0 (Kb (fun k => False) w101 wr))
 case atStart => exact ⟨0, rfl, ⟨by omega⟩, HB, B_q⟩
 case round =>
  obtain ⟨j, rfl, HJ, HB2, HQB⟩ := hrel
  clear HB B_l B_q B_vq
  have HB := HB2
  clear HB2
  have B_l := HB
  have B_q := HQB
  clear HQB
  have B_vq := HB
  by_cases hlt : j < nl
  · have hz : (j : Int) < (nl : Int) := by omega
    have e1 : IntKind.i64.wrap ((j : Int) + 1) = ((j + 1 : Nat) : Int) := (i64_w _).trans ((w64 (by have := HNL.out.2; omega) (by have := HNL.out.2; omega)).trans (by omega))
    obtain ⟨bl, ol, rfl⟩ := RowS.some_ V_l.out (by omega)
    obtain ⟨ty, Ay, ny, cy, Dy, ky, zy, hy, c0, c1, c2, c3, c4⟩ := RowS.get (RowS.kb V_l.out B_l.out (fun _ _ h => h)) j (by rw [← HNL.out.1]; exact hlt)
    have C0 := a0_ (And.intro c0 (And.intro c1 (And.intro c2 (And.intro c3 c4))))
    clear c0 c1 c2 c3 c4
    have hbj := HBY.out j (by rw [← HNL.out.1]; exact hlt)
    obtain ⟨sa, hsa⟩ : ∃ x, x = (ss.getD j ⟨0, 0, none⟩).at_ := ⟨_, rfl⟩
    obtain ⟨sb, hsb⟩ : ∃ x, x = (ss.getD j ⟨0, 0, none⟩).by_ := ⟨_, rfl⟩
    rw [← hsa, ← hsb] at C0
    rw [← hsb] at hbj
    have f1 : ¬ sb < 0 := by omega
    have f2 : ¬ 9007199254740991 < sb := by omega
    clear hsa hsb hbj
    have hyv := hy _ (HVS.out.2 j (by rw [← HNL.out.1]; exact hlt))
    clear hy
    have V_y := a0_ hyv
    clear hyv
    have B_y := kf_ wr
    go_wp2_with (first | ((with_reducible refine gd_ 30 rfl ?_); refine load_at5 rfl rfl (g := bl) (k := ol + j * 5) rfl C0.out.1 C0.out.2.1 C0.out.2.2.1 C0.out.2.2.2.1 C0.out.2.2.2.2 ?_) | ((with_reducible refine gd_ 10 rfl ?_); refine bx_ (N := 10) #[.int .i64 0, .int .i64 0, .bool false, .slice none 0 0, .slice none 0 0] 39 ?_; intro g_s hg w103 hbox hb; have G_s := kb_g HB hg; have O_s_l := kb_g B_l hg; have O_s_vq := kb_g B_vq hg; have O_s_q := kb_g B_q hg; have O_s_y := kb_g B_y hg; replace HB := kb_b HB hb; replace B_l := kb_b B_l hb; replace B_vq := kb_b B_vq hb; replace B_q := kb_b B_q hb; replace B_y := kb_b B_y hb; clear hb; have V_s := a0_ hbox; have B_s := kf_ w103; have N_s := nf_ g_s; clear hbox hg) | ((with_reducible refine gt_ 39 10 30 rfl ?_); refine store_ev5 (p := .tmp 10) (v := .tmp 30) rfl rfl rfl (g := g_s) rfl rfl (bk_ V_s B_s N_s) ?_; intro w104 hbox hk; replace HB := kb_o HB hk G_s; replace B_l := kb_o B_l hk O_s_l; replace B_vq := kb_o B_vq hk O_s_vq; replace B_q := kb_o B_q hk O_s_q; replace B_y := kb_o B_y hk O_s_y; clear V_s B_s; have V_s := a0_ hbox; have B_s := kf_ w104; clear hbox hk; have bk_s := bk_ V_s B_s N_s; have hz_s_0 : w104.cell? ⟨g_s, 0, none⟩ = some (.int .i64 sa) := (blk_cell bk_s 0).trans rfl; have hz_s_1 : w104.cell? ⟨g_s, 1, none⟩ = some (.int .i64 sb) := (blk_cell bk_s 1).trans rfl; have hz_s_2 : w104.cell? ⟨g_s, 2, none⟩ = some (.bool ty) := (blk_cell bk_s 2).trans rfl; have hz_s_3 : w104.cell? ⟨g_s, 3, none⟩ = some (.slice Ay ny cy) := (blk_cell bk_s 3).trans rfl; have hz_s_4 : w104.cell? ⟨g_s, 4, none⟩ = some (.slice Dy ky zy) := (blk_cell bk_s 4).trans rfl; clear bk_s))
    with_reducible refine (qcheck_calls (qs.getD j 0) _ _ (IsR.kb (S := fun k => False) V_y.out B_y.out (fun _ _ h => h))).mono ?_
    rintro e w105 ⟨rfl, hb⟩
    clear hz_s_0 hz_s_1 hz_s_2 hz_s_3 hz_s_4
    replace HB := kb_b HB hb
    replace B_l := kb_b B_l hb
    replace B_vq := kb_b B_vq hb
    replace B_q := kb_b B_q hb
    replace B_y := kb_b B_y hb
    replace B_s := kb_b B_s hb
    clear hb
    go_wp2_with fail
    go_roundg (nl - (j + 1))
    case measure => have := HJ.out; omega
    case rel => exact ⟨j + 1, by first | rfl | rw [e1], ⟨by have := HJ.out; omega⟩, HB, B_q⟩
  · have hz : ¬ (j : Int) < (nl : Int) := by omega
    clear hlt
    go_wp2_with fail
    have hb : Below wr.heap.size wr wr.drew := below_drew1 (Below.refl _ _)
    replace HB := kb_b HB hb
    replace B_l := kb_b B_l hb
    replace B_vq := kb_b B_vq hb
    replace B_q := kb_b B_q hb
    clear hb
    refine start_ (n := 19) (S := fun w' => w'.heap[g_q]? = some (.cells #[.bool true, .slice Aq nq cq, .slice Dq kq zq] 30 (0, 0))) (ds := []) (tB_ 19 0) (by kernel_rfl) rfl (by kernel_rfl) (bk_ V_q B_q N_q) (fun hHeld => ?_)
    refine with_tabW Mayqneg.tab9 Mayqneg.bits9 (fun HT_ HW_ => ?_)
    generalize wr.drew = w103 at HB B_l B_vq B_q hHeld ⊢
    refine pu_ 0 (some 50) 1 HT_ ?_
    refine pu_ 1 (some 51) 3 HT_ ?_
    refine pu_ 2 (some 52) 7 HT_ ?_
    refine tk_ 3 (some 53) 15 HT_ HW_ hHeld ?_ ?_ ?_ ?_ ?_
    rotate_left
    · intro w' hs
      have hb_ := hs
      obtain ⟨c0_, c1_, c2_⟩ := b3_ hb_
      clear hb_ hs
      go_simp
      with_reducible rfl
    rotate_left
    · simp only [PU]
      rfl
    refine on_ 4 (some 54) 31 HT_ (fun K hK => ?_)
    refine gs_ Try.func17 #[.agg #[.bool true, .slice Aq nq cq, .slice Dq kq zq]] ?_
    refine (qcheck_calls q _ _ (IsR.kb (S := fun k => False) V_vq.out B_vq.out (fun _ _ h => h))).mono ?_
    rintro e w104 ⟨rfl, hb⟩
    refine ⟨_, rfl, ?_⟩
    refine hK.out _ _ (by exact blk_below hHeld hb) (fun hHeld => ?_)
    clear hK K
    refine nm_ (some 54) ?_
    replace HB := kb_b HB hb
    replace B_l := kb_b B_l hb
    replace B_vq := kb_b B_vq hb
    replace B_q := kb_b B_q hb
    clear hb
    refine pu_ 5 (some 55) 63 HT_ ?_
    refine pu_ 6 (some 56) 127 HT_ ?_
    refine pu_ 7 (some 57) 255 HT_ ?_
    refine tk_ 8 (some 58) 511 HT_ HW_ hHeld ?_ ?_ ?_ ?_ ?_
    rotate_left
    · intro w' hs
      have hb_ := hs
      obtain ⟨c0_, c1_, c2_⟩ := b3_ hb_
      clear hb_ hs
      go_simp
      with_reducible rfl
    rotate_left
    · simp only [PU]
      rfl
    refine pu_ 9 (some 59) 1023 HT_ ?_
    refine pu_ 10 (some 60) 2047 HT_ ?_
    refine pu_ 11 (some 61) 4095 HT_ ?_
    refine sk_ 12 (some 62) 8191 HT_ ?_
    refine sk_ 13 (some 63) 16383 HT_ ?_
    refine sk_ 14 (some 64) 32767 HT_ ?_
    refine sk_ 15 (some 65) 65535 HT_ ?_
    refine pu_ 16 (some 66) 131071 HT_ ?_
    refine pu_ 17 (some 67) 262143 HT_ ?_
    refine pu_ 18 (some 8) 524287 HT_ ?_
    refine do_ HT_ ?_
    clear HT_ HW_ hHeld
    go_wp2_with fail
    go_ret
    exact ⟨rfl, (Kb.to_below HB.out (fun _ h => h.elim))⟩
def Mayqbig.T9 : Bool × List (List Nat × List Nat) := (true, [([], []), ([0], [0]), ([1], [1]), ([2], [2]), ([3, 2, 2], [2, 3]), ([4, 2], [2, 4]), ([5, 4, 2], [2, 5]), ([6], [6]), ([7, 6], [6, 7]), ([8, 6], [6, 8]), ([6, 9, 2], [2, 6, 9]), ([10, 6, 2], [2, 10]), ([11], [11]), ([11, 11], [11]), ([12, 13, 13, 11], [11, 12, 13]), ([14, 11], [11, 14]), ([11, 15, 2], [2, 11, 15]), ([2, 16], [2, 16]), ([17, 14, 0, 1, 2, 3, 4, 5, 6, 7, 8, 9, 10, 11, 12, 13, 14, 15, 16, 17], [17])])
def Mayqbig.B9 : List Nat := [0, 1, 3, 7, 15, 31, 63, 127, 255, 511, 1023, 2047, 4095, 4095, 16383, 32767, 65535, 131071, 262143]
theorem Mayqbig.tab9 : rtab .any (opsOf Try.f29 9) = Mayqbig.T9 := by kernel_rfl
theorem Mayqbig.bits9 : waitsOk Mayqbig.T9.2 Mayqbig.B9 = true := by kernel_rfl
theorem mayq_big {okl : Nat → Prop} (over : Int) (h0 : 1 ≤ over) (h1 : over ≤ 9007199254740991) (ss : List Smp) (hby : ByS ss) (hsz : ss.length ≤ 1000000) (qs : List Rat) (hvs : ValS ss qs) (w : World) (vq : Value) (vl : Value) (hl : RowS okl w vl ss) {okq : Nat → Prop} (q : Rat) (hq0 : 0 ≤ q ∧ ¬ q ≤ 1) (hq : IsR okq w vq q) :
 Calls Try.prog 29 #[.int .i64 12, .int .i64 over, vq, vl] w fun e w' => e = .returned (.bool false) ∧ Below w.heap.size w w' := by
 have hu30 := Try.underlying30
 have hu39 := Try.underlying39
 obtain ⟨Al, cl, rfl⟩ := hl.slice
 obtain ⟨nl, hnl⟩ : ∃ nl, nl = ss.length := ⟨_, rfl⟩
 rw [← hnl] at hl hsz ⊢
 have HNL := a0_ (And.intro hnl hsz)
 have HBY := a0_ hby
 have e3 : ¬ over < 1 := by omega
 have e4 : ¬ 9007199254740991 < over := by omega
 clear hnl hby hsz h0 h1
 have HVS := a0_ hvs
 clear hvs
 have HQ := a0_ hq0
 clear hq0
 obtain ⟨tq, Aq, nq, cq, Dq, kq, zq, rfl⟩ := hq.agg
 have htq : tq = false := by
  have h := IsR.sign hq
  rw [h]
  exact decide_eq_false (by have := Rat.num_nonneg.2 HQ.out.1; omega)
 subst htq
 have HB := kf_ w
 have V_l := a0_ hl
 clear hl
 have B_l := kf_ w
 have V_vq := a0_ hq
 clear hq
 have B_vq := kf_ w
 go_enter Try.func29, Try.ntmps29
 go_wp2_with (first | ((with_reducible refine gd_ 6 rfl ?_); refine bx_ (N := 6) #[.bool false, .slice Aq nq cq, .slice Dq kq zq] 30 ?_; intro g_q hg w101 hbox hb; have G_q := kb_g HB hg; replace HB := kb_b HB hb; replace B_l := kb_b B_l hb; replace B_vq := kb_b B_vq hb; clear hb; have V_q := a0_ hbox; have B_q := kf_ w101; have N_q := nf_ g_q; clear hbox hg))
 go_loopg [27] nl (fun kg v27 wr => ∃ (j : Nat), v27 = .int .i64 j ∧ Aside0 (j + kg = nl) ∧ Aside0 (Kb (fun k => False) w wr) ∧ Aside0 (Kb (fun k => False) w101 wr))
 case atStart => exact ⟨0, rfl, ⟨by omega⟩, HB, B_q⟩
 case round =>
  obtain ⟨j, rfl, HJ, HB2, HQB⟩ := hrel
  clear HB B_l B_q B_vq
  have HB := HB2
  clear HB2
  have B_l := HB
  have B_q := HQB
  clear HQB
  have B_vq := HB
  by_cases hlt : j < nl
  · have hz : (j : Int) < (nl : Int) := by omega
    have e1 : IntKind.i64.wrap ((j : Int) + 1) = ((j + 1 : Nat) : Int) := (i64_w _).trans ((w64 (by have := HNL.out.2; omega) (by have := HNL.out.2; omega)).trans (by omega))
    obtain ⟨bl, ol, rfl⟩ := RowS.some_ V_l.out (by omega)
    obtain ⟨ty, Ay, ny, cy, Dy, ky, zy, hy, c0, c1, c2, c3, c4⟩ := RowS.get (RowS.kb V_l.out B_l.out (fun _ _ h => h)) j (by rw [← HNL.out.1]; exact hlt)
    have C0 := a0_ (And.intro c0 (And.intro c1 (And.intro c2 (And.intro c3 c4))))
    clear c0 c1 c2 c3 c4
    have hbj := HBY.out j (by rw [← HNL.out.1]; exact hlt)
    obtain ⟨sa, hsa⟩ : ∃ x, x = (ss.getD j ⟨0, 0, none⟩).at_ := ⟨_, rfl⟩
    obtain ⟨sb, hsb⟩ : ∃ x, x = (ss.getD j ⟨0, 0, none⟩).by_ := ⟨_, rfl⟩
    rw [← hsa, ← hsb] at C0
    rw [← hsb] at hbj
    have f1 : ¬ sb < 0 := by omega
    have f2 : ¬ 9007199254740991 < sb := by omega
    clear hsa hsb hbj
    have hyv := hy _ (HVS.out.2 j (by rw [← HNL.out.1]; exact hlt))
    clear hy
    have V_y := a0_ hyv
    clear hyv
    have B_y := kf_ wr
    go_wp2_with (first | ((with_reducible refine gd_ 30 rfl ?_); refine load_at5 rfl rfl (g := bl) (k := ol + j * 5) rfl C0.out.1 C0.out.2.1 C0.out.2.2.1 C0.out.2.2.2.1 C0.out.2.2.2.2 ?_) | ((with_reducible refine gd_ 10 rfl ?_); refine bx_ (N := 10) #[.int .i64 0, .int .i64 0, .bool false, .slice none 0 0, .slice none 0 0] 39 ?_; intro g_s hg w103 hbox hb; have G_s := kb_g HB hg; have O_s_l := kb_g B_l hg; have O_s_vq := kb_g B_vq hg; have O_s_q := kb_g B_q hg; have O_s_y := kb_g B_y hg; replace HB := kb_b HB hb; replace B_l := kb_b B_l hb; replace B_vq := kb_b B_vq hb; replace B_q := kb_b B_q hb; replace B_y := kb_b B_y hb; clear hb; have V_s := a0_ hbox; have B_s := kf_ w103; have N_s := nf_ g_s; clear hbox hg) | ((with_reducible refine gt_ 39 10 30 rfl ?_); refine store_ev5 (p := .tmp 10) (v := .tmp 30) rfl rfl rfl (g := g_s) rfl rfl (bk_ V_s B_s N_s) ?_; intro w104 hbox hk; replace HB := kb_o HB hk G_s; replace B_l := kb_o B_l hk O_s_l; replace B_vq := kb_o B_vq hk O_s_vq; replace B_q := kb_o B_q hk O_s_q; replace B_y := kb_o B_y hk O_s_y; clear V_s B_s; have V_s := a0_ hbox; have B_s := kf_ w104; clear hbox hk; have bk_s := bk_ V_s B_s N_s; have hz_s_0 : w104.cell? ⟨g_s, 0, none⟩ = some (.int .i64 sa) := (blk_cell bk_s 0).trans rfl; have hz_s_1 : w104.cell? ⟨g_s, 1, none⟩ = some (.int .i64 sb) := (blk_cell bk_s 1).trans rfl; have hz_s_2 : w104.cell? ⟨g_s, 2, none⟩ = some (.bool ty) := (blk_cell bk_s 2).trans rfl; have hz_s_3 : w104.cell? ⟨g_s, 3, none⟩ = some (.slice Ay ny cy) := (blk_cell bk_s 3).trans rfl; have hz_s_4 : w104.cell? ⟨g_s, 4, none⟩ = some (.slice Dy ky zy) := (blk_cell bk_s 4).trans rfl; clear bk_s))
    with_reducible refine (qcheck_calls (qs.getD j 0) _ _ (IsR.kb (S := fun k => False) V_y.out B_y.out (fun _ _ h => h))).mono ?_
    rintro e w105 ⟨rfl, hb⟩
    clear hz_s_0 hz_s_1 hz_s_2 hz_s_3 hz_s_4
    replace HB := kb_b HB hb
    replace B_l := kb_b B_l hb
    replace B_vq := kb_b B_vq hb
    replace B_q := kb_b B_q hb
    replace B_y := kb_b B_y hb
    replace B_s := kb_b B_s hb
    clear hb
    go_wp2_with fail
    go_roundg (nl - (j + 1))
    case measure => have := HJ.out; omega
    case rel => exact ⟨j + 1, by first | rfl | rw [e1], ⟨by have := HJ.out; omega⟩, HB, B_q⟩
  · have hz : ¬ (j : Int) < (nl : Int) := by omega
    clear hlt
    go_wp2_with fail
    have hb : Below wr.heap.size wr wr.drew := below_drew1 (Below.refl _ _)
    replace HB := kb_b HB hb
    replace B_l := kb_b B_l hb
    replace B_vq := kb_b B_vq hb
    replace B_q := kb_b B_q hb
    clear hb
    refine start_ (n := 19) (S := fun w' => w'.heap[g_q]? = some (.cells #[.bool false, .slice Aq nq cq, .slice Dq kq zq] 30 (0, 0))) (ds := []) (tB_ 19 0) (by kernel_rfl) rfl (by kernel_rfl) (bk_ V_q B_q N_q) (fun hHeld => ?_)
    refine with_tabW Mayqbig.tab9 Mayqbig.bits9 (fun HT_ HW_ => ?_)
    generalize wr.drew = w103 at HB B_l B_vq B_q hHeld ⊢
    refine pu_ 0 (some 50) 1 HT_ ?_
    refine pu_ 1 (some 51) 3 HT_ ?_
    refine pu_ 2 (some 52) 7 HT_ ?_
    refine tk_ 3 (some 53) 15 HT_ HW_ hHeld ?_ ?_ ?_ ?_ ?_
    rotate_left
    · intro w' hs
      have hb_ := hs
      obtain ⟨c0_, c1_, c2_⟩ := b3_ hb_
      clear hb_ hs
      go_simp
      with_reducible rfl
    rotate_left
    · simp only [PU]
      rfl
    refine on_ 4 (some 54) 31 HT_ (fun K hK => ?_)
    refine gs_ Try.func17 #[.agg #[.bool false, .slice Aq nq cq, .slice Dq kq zq]] ?_
    refine (qcheck_calls q _ _ (IsR.kb (S := fun k => False) V_vq.out B_vq.out (fun _ _ h => h))).mono ?_
    rintro e w104 ⟨rfl, hb⟩
    refine ⟨_, rfl, ?_⟩
    refine hK.out _ _ (by exact blk_below hHeld hb) (fun hHeld => ?_)
    clear hK K
    refine nm_ (some 54) ?_
    replace HB := kb_b HB hb
    replace B_l := kb_b B_l hb
    replace B_vq := kb_b B_vq hb
    replace B_q := kb_b B_q hb
    clear hb
    refine pu_ 5 (some 55) 63 HT_ ?_
    refine pu_ 6 (some 56) 127 HT_ ?_
    refine pu_ 7 (some 57) 255 HT_ ?_
    refine tk_ 8 (some 58) 511 HT_ HW_ hHeld ?_ ?_ ?_ ?_ ?_
    rotate_left
    · intro w' hs
      have hb_ := hs
      obtain ⟨c0_, c1_, c2_⟩ := b3_ hb_
      clear hb_ hs
      go_simp
      with_reducible rfl
    rotate_left
    · simp only [PU]
      rfl
    refine pu_ 9 (some 59) 1023 HT_ ?_
    refine pu_ 10 (some 60) 2047 HT_ ?_
    refine pu_ 11 (some 61) 4095 HT_ ?_
    refine tk_ 12 (some 62) 8191 HT_ HW_ hHeld ?_ ?_ ?_ ?_ ?_
    rotate_left
    · intro w' hs
      have hb_ := hs
      obtain ⟨c0_, c1_, c2_⟩ := b3_ hb_
      clear hb_ hs
      go_simp
      with_reducible rfl
    rotate_left
    · simp only [PU]
      rfl
    obtain ⟨cv, hcv⟩ : ∃ c : Int, c = (if q < ((1 : Nat) : Rat) then -1 else if q = ((1 : Nat) : Rat) then 0 else 1) := ⟨_, rfl⟩
    have a1 : ¬ q < ((1 : Nat) : Rat) := fun h => HQ.out.2 (Rat.le_of_lt h)
    have a2 : ¬ q = ((1 : Nat) : Rat) := fun h => HQ.out.2 (by rw [h]; exact Rat.le_refl)
    have hcv2 : ¬ cv ≤ 0 := by
     rw [hcv, if_neg a1, if_neg a2]
     omega
    clear a1 a2
    have HCV := a0_ (And.intro hcv hcv2)
    clear hcv hcv2
    refine on_ 13 (some 63) 16383 HT_ (fun K hK => ?_)
    refine gs_ Try.func12 #[.int .i64 1] ?_
    refine (qofn_calls 1 (by omega) _).mono ?_
    rintro e w105 ⟨⟨v63, rfl, hv⟩, hb⟩
    obtain ⟨tu, Au, nu, cu, Du, ku, zu, rfl⟩ := hv.agg
    refine ⟨_, rfl, ?_⟩
    refine hK.out _ _ (by exact blk_below hHeld hb) (fun hHeld => ?_)
    clear hK K
    refine nm_ (some 63) ?_
    have hle := Kb.size HB.out
    have hv_ := IsR.mono' (ok' := fun k => True) hv (fun k hk _ => by trivial)
    clear hv hle
    replace HB := kb_b HB hb
    replace B_l := kb_b B_l hb
    replace B_vq := kb_b B_vq hb
    replace B_q := kb_b B_q hb
    clear hb
    have V_u := a0_ hv_
    clear hv_
    have B_u := kf_ w105
    refine on_ 14 (some 64) 32767 HT_ (fun K hK => ?_)
    refine gs_ Try.func39 #[.agg #[.bool false, .slice Aq nq cq, .slice Dq kq zq], .agg #[.bool tu, .slice Au nu cu, .slice Du ku zu]] ?_
    refine (cmp_as (wcompare_calls q ((1 : Nat) : Rat) _ _ _ (IsR.kb (S := fun k => False) V_vq.out B_vq.out (fun _ _ h => h)) (IsR.kb (S := fun k => False) V_u.out B_u.out (fun _ _ h => h))) HCV.out.1).mono ?_
    rintro e w106 ⟨rfl, hb⟩
    refine ⟨_, rfl, ?_⟩
    refine hK.out _ _ (by exact blk_below hHeld hb) (fun hHeld => ?_)
    clear hK K
    refine nm_ (some 64) ?_
    replace HB := kb_b HB hb
    replace B_l := kb_b B_l hb
    replace B_vq := kb_b B_vq hb
    replace B_q := kb_b B_q hb
    replace B_u := kb_b B_u hb
    clear hb
    have hc1 : decide (cv ≤ 0) = false := decide_eq_false HCV.out.2
    have hc2 : ¬ cv ≤ 0 := HCV.out.2
    refine pu_ 15 (some 65) 65535 HT_ ?_
    refine pu_ 16 (some 66) 131071 HT_ ?_
    refine pu_ 17 (some 67) 262143 HT_ ?_
    refine pu_ 18 (some 8) 524287 HT_ ?_
    refine do_ HT_ ?_
    clear HT_ HW_ hHeld
    go_wp2_with fail
    go_ret
    exact ⟨rfl, (Kb.to_below HB.out (fun _ h => h.elim))⟩
theorem wabs_calls (over : Int) (nl : Nat) (hn0 : 0 < nl) (w : World) (tq : Bool) (Aq : Option Addr) (nq cq : Nat) (Dq : Option Addr) (kq zq : Nat) (Al : Option Addr) (cl : Nat) (hmay : ∀ W, Kb (fun k => False) w W → Calls Try.prog 29 #[.int .i64 5, .int .i64 over, .agg #[.bool tq, .slice Aq nq cq, .slice Dq kq zq], .slice Al nl cl] W fun e w' => e = .returned (.bool true) ∧ Below W.heap.size W w') :
 Calls Try.prog 16 #[.int .i64 5, .int .i64 over, .agg #[.bool tq, .slice Aq nq cq, .slice Dq kq zq], .slice Al nl cl] w fun e w' => e = .returned (.tuple #[.agg #[.bool false, .slice none 0 0, .slice none 0 0], .bool false, .int .i64 0]) ∧ Below w.heap.size w w' := by
 have hu30 := Try.underlying30
 have HM := a0_ hmay
 have g2 : ((nl : Int) == 0) = false := beq_eq_false_iff_ne.mpr (by omega)
 have g4 : decide ((nl : Int) = 0) = false := decide_eq_false (by omega)
 have g5 : (nl == 0) = false := beq_eq_false_iff_ne.mpr (by omega)
 clear hmay hn0
 have HB := kf_ w
 go_enter Try.func16, Try.ntmps16
 try go_step3
 go_wp2_with (first | ((with_reducible refine gd_ 6 rfl ?_); refine bx_ (N := 6) #[.bool tq, .slice Aq nq cq, .slice Dq kq zq] 30 ?_; intro g_q hg w101 hbox hb; have G_q := kb_g HB hg; replace HB := kb_b HB hb; clear hb; have V_q := a0_ hbox; have B_q := kf_ w101; have N_q := nf_ g_q; clear hbox hg) | ((with_reducible refine gd_ 8 rfl ?_); refine bx_ (N := 8) #[.bool false, .slice none 0 0, .slice none 0 0] 30 ?_; intro g_r hg w102 hbox hb; have G_r := kb_g HB hg; replace HB := kb_b HB hb; replace B_q := kb_b B_q hb; clear hb; have V_r := a0_ hbox; have B_r := kf_ w102; have N_r := nf_ g_r; clear hbox hg) | ((with_reducible refine gd_ 15 rfl ?_); refine load_ev rfl rfl (g := g_q) rfl (bk_ V_q B_q N_q) ?_))
 with_reducible refine (HM.out _ HB.out).mono ?_
 rintro e w103 ⟨rfl, hb⟩
 replace HB := kb_b HB hb
 replace B_q := kb_b B_q hb
 replace B_r := kb_b B_r hb
 clear hb
 clear V_q B_q
 go_wp2_with (first | ((with_reducible refine gt_ 30 8 37 rfl ?_); refine store_ev (p := .tmp 8) (v := .tmp 37) rfl rfl rfl (g := g_r) rfl rfl (bk_ V_r B_r N_r) ?_; intro w104 hbox hk; replace HB := kb_o HB hk G_r; clear V_r B_r; have V_r := a0_ hbox; have B_r := kf_ w104; clear hbox hk))
 refine bodyPost_ret (results_ctt rfl _ _ g_r 30 #[.bool false, .slice none 0 0, .slice none 0 0] (0, 0) _ rfl (bk_ V_r B_r N_r) Try.underlying30 rfl (by kernel_rfl)) rfl ?_
 exact ⟨rfl, (Kb.to_below HB.out (fun _ h => h.elim))⟩
theorem wrun12_nil {okq : Nat → Prop} (over : Int) (h0 : 1 ≤ over) (h1 : over ≤ 9007199254740991) (w : World) (tq : Bool) (Aq : Option Addr) (nq cq : Nat) (Dq : Option Addr) (kq zq : Nat) (q : Rat) (hq0 : 0 ≤ q) (hq1 : q ≤ 1) (hq : IsR okq w (.agg #[.bool tq, .slice Aq nq cq, .slice Dq kq zq]) q) :
 Calls Try.prog 16 #[.int .i64 12, .int .i64 over, .agg #[.bool tq, .slice Aq nq cq, .slice Dq kq zq], .slice none 0 0] w fun e w' => e = .returned (.tuple #[.agg #[.bool false, .slice none 0 0, .slice none 0 0], .bool false, .int .i64 0]) ∧ Below w.heap.size w w' := by
 have hu30 := Try.underlying30
 have HM := a0_ (fun W (hW : Kb (fun k => False) w W) => may12_calls (okl := fun _ => True) over h0 h1 [] (fun i h => absurd h (Nat.not_lt_zero _)) [] ⟨rfl, fun i h => absurd h (Nat.not_lt_zero _)⟩ (by decide) W (.agg #[.bool tq, .slice Aq nq cq, .slice Dq kq zq]) (.slice none 0 0) (Kd.V_nil _ _ _ _ _) q hq0 hq1 (IsR.kb hq hW (fun _ _ h => h)))
 clear hq
 have HB := kf_ w
 go_enter Try.func16, Try.ntmps16
 try go_step3
 go_wp2_with (first | ((with_reducible refine gd_ 6 rfl ?_); refine bx_ (N := 6) #[.bool tq, .slice Aq nq cq, .slice Dq kq zq] 30 ?_; intro g_q hg w101 hbox hb; have G_q := kb_g HB hg; replace HB := kb_b HB hb; clear hb; have V_q := a0_ hbox; have B_q := kf_ w101; have N_q := nf_ g_q; clear hbox hg) | ((with_reducible refine gd_ 8 rfl ?_); refine bx_ (N := 8) #[.bool false, .slice none 0 0, .slice none 0 0] 30 ?_; intro g_r hg w102 hbox hb; have G_r := kb_g HB hg; replace HB := kb_b HB hb; replace B_q := kb_b B_q hb; clear hb; have V_r := a0_ hbox; have B_r := kf_ w102; have N_r := nf_ g_r; clear hbox hg) | ((with_reducible refine gd_ 15 rfl ?_); refine load_ev rfl rfl (g := g_q) rfl (bk_ V_q B_q N_q) ?_))
 with_reducible refine (HM.out _ HB.out).mono ?_
 rintro e w103 ⟨rfl, hb⟩
 replace HB := kb_b HB hb
 replace B_q := kb_b B_q hb
 replace B_r := kb_b B_r hb
 clear hb
 clear V_q B_q
 go_wp2_with (first | ((with_reducible refine gt_ 30 8 37 rfl ?_); refine store_ev (p := .tmp 8) (v := .tmp 37) rfl rfl rfl (g := g_r) rfl rfl (bk_ V_r B_r N_r) ?_; intro w104 hbox hk; replace HB := kb_o HB hk G_r; clear V_r B_r; have V_r := a0_ hbox; have B_r := kf_ w104; clear hbox hk))
 refine bodyPost_ret (results_ctt rfl _ _ g_r 30 #[.bool false, .slice none 0 0, .slice none 0 0] (0, 0) _ rfl (bk_ V_r B_r N_r) Try.underlying30 rfl (by kernel_rfl)) rfl ?_
 exact ⟨rfl, (Kb.to_below HB.out (fun _ h => h.elim))⟩
theorem Check_bad (l : List Int) (h : ¬ Tight l) (hl : l.length ≤ 64) : nat_Check.f l = some 2 := by
 unfold nat_Check.f
 have hp : 0 < l.length := by
  rcases Nat.eq_zero_or_pos l.length with e | e
  · exact absurd (by rw [List.eq_nil_of_length_eq_zero e]; exact Tight_nil) h
  · exact e
 rw [if_neg (by omega), if_pos (by omega), w64 (by omega) (by omega), if_pos (by omega), if_pos (by omega), show (l.length : Int) - 1 = ((l.length - 1 : Nat) : Int) by omega, rdi l (l.length - 1) (by omega), if_pos]
 by_cases c : l[l.length - 1] = 0
 · exact c
 · exact absurd (fun x hx => by rw [List.getLast?_eq_getElem?, List.getElem?_eq_getElem (by omega)] at hx; injection hx with hx; rw [← hx]; exact c) h
theorem both_bad {ls ds : List Int} (h : ¬ (Tight ls ∧ Tight ds)) (h1 : ls.length ≤ 64) (h2 : ds.length ≤ 64) : nat_both.f ls ds = some 2 := by
 unfold nat_both.f
 by_cases c : Tight ls
 · rw [Check_eq ls c, if_neg (by omega), Option.bind_some, if_pos rfl, Check_bad ds (fun e => h ⟨c, e⟩) h2]
   rfl
 · rw [Check_bad ls c h1, Option.bind_some, if_neg (by omega)]
theorem ngcd_bad (ls ds : List Int) (h : ¬ (Tight ls ∧ Tight ds)) (h1 : ls.length ≤ 64) (h2 : ds.length ≤ 64) (A0 : Option Addr) (c0 : Nat) (A1 : Option Addr) (c1 : Nat) (w : World)
 (hra : Kd.C (Kd.int .u32) w A0 ls.length ls) (hca : ls.length ≤ c0) (hrb : Kd.C (Kd.int .u32) w A1 ds.length ds) (hcb : ds.length ≤ c1) :
 Calls Try.prog 32 #[.slice A0 ls.length c0, .slice A1 ds.length c1] w fun e w' => e = .returned (.tuple #[.slice none 0 0, .int .i64 2]) ∧ Below w.heap.size w w' := by
 have HF := a0_ (both_bad h h1 h2)
 clear h h1 h2
 have HA := a0_ hra
 have HD := a0_ hrb
 clear hra hrb
 go_enter Try.func32, Try.ntmps32
 go_wp2_with fail
 with_reducible refine (nat_both.calls _ _ ls _ _ ds _ _ HA.out hca HD.out hcb HF.out).mono ?_
 rintro e w101 ⟨rfl, hb0⟩
 have hb := hb0.below
 clear hb0
 go_wp2_with fail
 go_ret2
 exact ⟨rfl, hb⟩
theorem chk_long (s : Bool) (ls ds : List Int) (hl : 16 < ls.length) (A0 : Option Addr) (c0 : Nat) (A1 : Option Addr) (c1 : Nat) (w : World)
 (hra : Kd.C (Kd.int .u32) w A0 ls.length ls) (hca : ls.length ≤ c0) (hrb : Kd.C (Kd.int .u32) w A1 ds.length ds) (hcb : ds.length ≤ c1) :
 Calls Try.prog 17 #[.agg #[.bool s, .slice A0 ls.length c0, .slice A1 ds.length c1]] w fun e w' => e = .returned (.int .i64 20) ∧ Below w.heap.size w w' := by
 have R_a := a0_ hra
 have C_a := a0_ hca
 clear hra hca
 have B_a := a0_ (Below.refl w.heap.size w)
 have R_b := a0_ hrb
 have C_b := a0_ hcb
 clear hrb hcb
 have B_b := a0_ (Below.refl w.heap.size w)
 have HB := a0_ (Below.refl w.heap.size w)
 have hd1 : decide ((16 : Int) < (ls.length : Int)) = true := decide_eq_true (by omega)
 have hd3 : decide (16 < ls.length) = true := decide_eq_true hl
 clear hl
 have hu30 := Try.underlying30
 go_enter Try.func17, Try.ntmps17
 go_wp2_with (first | ((with_reducible refine gd_ 1 rfl ?_); refine bx_ (N := 1) #[.bool s, .slice A0 ls.length c0, .slice A1 ds.length c1] 30 ?_; intro g_x hg w101 hbox hb; have G_x := rd_b HB hg; replace B_a := bl_b B_a hb; replace B_b := bl_b B_b hb; replace HB := bl_b HB hb; clear hb; have K_x := a0_ hbox; have B_x := a0_ (Below.refl w101.heap.size w101); clear hbox hg; have bk_x := blk_below K_x.out B_x.out; have hz_x_0 : w101.cell? ⟨g_x, 0, none⟩ = some (.bool s) := (blk_cell bk_x 0).trans rfl; have hz_x_1 : w101.cell? ⟨g_x, 1, none⟩ = some (.slice A0 ls.length c0) := (blk_cell bk_x 1).trans rfl; have hz_x_2 : w101.cell? ⟨g_x, 2, none⟩ = some (.slice A1 ds.length c1) := (blk_cell bk_x 2).trans rfl; clear bk_x))
 go_ret
 exact ⟨rfl, HB.out⟩
theorem chk_long2 (s : Bool) (ls ds : List Int) (hl : ls.length ≤ 16 ∧ 16 < ds.length) (A0 : Option Addr) (c0 : Nat) (A1 : Option Addr) (c1 : Nat) (w : World)
 (hra : Kd.C (Kd.int .u32) w A0 ls.length ls) (hca : ls.length ≤ c0) (hrb : Kd.C (Kd.int .u32) w A1 ds.length ds) (hcb : ds.length ≤ c1) :
 Calls Try.prog 17 #[.agg #[.bool s, .slice A0 ls.length c0, .slice A1 ds.length c1]] w fun e w' => e = .returned (.int .i64 20) ∧ Below w.heap.size w w' := by
 have R_a := a0_ hra
 have C_a := a0_ hca
 clear hra hca
 have B_a := a0_ (Below.refl w.heap.size w)
 have R_b := a0_ hrb
 have C_b := a0_ hcb
 clear hrb hcb
 have B_b := a0_ (Below.refl w.heap.size w)
 have HB := a0_ (Below.refl w.heap.size w)
 have hd1 : decide ((16 : Int) < (ls.length : Int)) = false := decide_eq_false (by omega)
 have hd3 : decide (16 < ls.length) = false := decide_eq_false (by omega)
 have hd2 : decide ((16 : Int) < (ds.length : Int)) = true := decide_eq_true (by omega)
 have hd4 : decide (16 < ds.length) = true := decide_eq_true hl.2
 clear hl
 have hu30 := Try.underlying30
 go_enter Try.func17, Try.ntmps17
 go_wp2_with (first | ((with_reducible refine gd_ 1 rfl ?_); refine bx_ (N := 1) #[.bool s, .slice A0 ls.length c0, .slice A1 ds.length c1] 30 ?_; intro g_x hg w101 hbox hb; have G_x := rd_b HB hg; replace B_a := bl_b B_a hb; replace B_b := bl_b B_b hb; replace HB := bl_b HB hb; clear hb; have K_x := a0_ hbox; have B_x := a0_ (Below.refl w101.heap.size w101); clear hbox hg; have bk_x := blk_below K_x.out B_x.out; have hz_x_0 : w101.cell? ⟨g_x, 0, none⟩ = some (.bool s) := (blk_cell bk_x 0).trans rfl; have hz_x_1 : w101.cell? ⟨g_x, 1, none⟩ = some (.slice A0 ls.length c0) := (blk_cell bk_x 1).trans rfl; have hz_x_2 : w101.cell? ⟨g_x, 2, none⟩ = some (.slice A1 ds.length c1) := (blk_cell bk_x 2).trans rfl; clear bk_x))
 go_ret
 exact ⟨rfl, HB.out⟩
theorem chk_loose (s : Bool) (ls ds : List Int) (hb : ¬ (Tight ls ∧ Tight ds)) (hl1 : ls.length ≤ 16) (hl2 : ds.length ≤ 16) (A0 : Option Addr) (c0 : Nat) (A1 : Option Addr) (c1 : Nat) (w : World)
 (hra : Kd.C (Kd.int .u32) w A0 ls.length ls) (hca : ls.length ≤ c0) (hrb : Kd.C (Kd.int .u32) w A1 ds.length ds) (hcb : ds.length ≤ c1) :
 Calls Try.prog 17 #[.agg #[.bool s, .slice A0 ls.length c0, .slice A1 ds.length c1]] w fun e w' => e = .returned (.int .i64 2) ∧ Below w.heap.size w w' := by
 have R_a := a0_ hra
 have C_a := a0_ hca
 clear hra hca
 have B_a := a0_ (Below.refl w.heap.size w)
 have R_b := a0_ hrb
 have C_b := a0_ hcb
 clear hrb hcb
 have B_b := a0_ (Below.refl w.heap.size w)
 have HB := a0_ (Below.refl w.heap.size w)
 have hd1 : decide ((16 : Int) < (ls.length : Int)) = false := decide_eq_false (by omega)
 have hd2 : decide ((16 : Int) < (ds.length : Int)) = false := decide_eq_false (by omega)
 have hd3 : decide (16 < ls.length) = false := decide_eq_false (by omega)
 have hd4 : decide (16 < ds.length) = false := decide_eq_false (by omega)
 have HT := a0_ (And.intro hb (And.intro hl1 hl2))
 clear hb hl1 hl2
 have hu30 := Try.underlying30
 go_enter Try.func17, Try.ntmps17
 go_wp2_with (first | ((with_reducible refine gd_ 1 rfl ?_); refine bx_ (N := 1) #[.bool s, .slice A0 ls.length c0, .slice A1 ds.length c1] 30 ?_; intro g_x hg w101 hbox hb; have G_x := rd_b HB hg; replace B_a := bl_b B_a hb; replace B_b := bl_b B_b hb; replace HB := bl_b HB hb; clear hb; have K_x := a0_ hbox; have B_x := a0_ (Below.refl w101.heap.size w101); clear hbox hg; have bk_x := blk_below K_x.out B_x.out; have hz_x_0 : w101.cell? ⟨g_x, 0, none⟩ = some (.bool s) := (blk_cell bk_x 0).trans rfl; have hz_x_1 : w101.cell? ⟨g_x, 1, none⟩ = some (.slice A0 ls.length c0) := (blk_cell bk_x 1).trans rfl; have hz_x_2 : w101.cell? ⟨g_x, 2, none⟩ = some (.slice A1 ds.length c1) := (blk_cell bk_x 2).trans rfl; clear bk_x))
 with_reducible refine (ngcd_bad ls ds HT.out.1 (by have := HT.out.2; omega) (by have := HT.out.2; omega) _ _ _ _ _ (Kd.C_below R_a.out B_a.out) C_a.out (Kd.C_below R_b.out B_b.out) C_b.out).mono ?_
 rintro e w102 ⟨rfl, hb⟩
 clear hz_x_0 hz_x_1 hz_x_2
 replace B_a := bl_b B_a hb
 replace B_b := bl_b B_b hb
 replace HB := bl_b HB hb
 replace B_x := bl_b B_x hb
 clear hb
 have bk_x := blk_below K_x.out B_x.out
 have hz_x_0 : w102.cell? ⟨g_x, 0, none⟩ = some (.bool s) := (blk_cell bk_x 0).trans rfl
 have hz_x_1 : w102.cell? ⟨g_x, 1, none⟩ = some (.slice A0 ls.length c0) := (blk_cell bk_x 1).trans rfl
 have hz_x_2 : w102.cell? ⟨g_x, 2, none⟩ = some (.slice A1 ds.length c1) := (blk_cell bk_x 2).trans rfl
 clear bk_x
 go_wp2_with fail
 go_ret
 exact ⟨rfl, HB.out⟩
theorem chk_den_true (m d : Nat) (hm : m < 4294967296 ^ 16) (hd : d < 4294967296 ^ 16) (h0 : d = 0) (A0 : Option Addr) (c0 : Nat) (A1 : Option Addr) (c1 : Nat) (w : World)
 (hra : Kd.C (Kd.int .u32) w A0 (limbs m).length (limbs m)) (hca : (limbs m).length ≤ c0) (hrb : Kd.C (Kd.int .u32) w A1 (limbs d).length (limbs d)) (hcb : (limbs d).length ≤ c1) :
 Calls Try.prog 17 #[.agg #[.bool true, .slice A0 (limbs m).length c0, .slice A1 (limbs d).length c1]] w fun e w' => e = .returned (.int .i64 2) ∧ Below w.heap.size w w' := by
 have R_a := a0_ hra
 have C_a := a0_ hca
 clear hra hca
 have B_a := a0_ (Below.refl w.heap.size w)
 have R_b := a0_ hrb
 have C_b := a0_ hcb
 clear hrb hcb
 have B_b := a0_ (Below.refl w.heap.size w)
 have HB := a0_ (Below.refl w.heap.size w)
 have hl1 := len16 hm
 have hl2 := len16 hd
 have hd1 : decide ((16 : Int) < ((limbs m).length : Int)) = false := decide_eq_false (by omega)
 have hd2 : decide ((16 : Int) < ((limbs d).length : Int)) = false := decide_eq_false (by omega)
 have hd3 : decide (16 < (limbs m).length) = false := decide_eq_false (by omega)
 have hd4 : decide (16 < (limbs d).length) = false := decide_eq_false (by omega)
 have hzd1 : (((limbs d).length : Int) == 0) = true := by rw [limbs_len0']; exact decide_eq_true (h0)
 have hzd2 : ((limbs d).length == 0) = true := by rw [limbs_len0]; exact decide_eq_true (h0)
 clear h0
 have HF := a0_ (And.intro (fits16 hm) (fits16 hd))
 clear hm hd hl1 hl2
 have hu30 := Try.underlying30
 go_enter Try.func17, Try.ntmps17
 go_wp2_with (first | ((with_reducible refine gd_ 1 rfl ?_); refine bx_ (N := 1) #[.bool true, .slice A0 (limbs m).length c0, .slice A1 (limbs d).length c1] 30 ?_; intro g_x hg w101 hbox hb; have G_x := rd_b HB hg; replace B_a := bl_b B_a hb; replace B_b := bl_b B_b hb; replace HB := bl_b HB hb; clear hb; have K_x := a0_ hbox; have B_x := a0_ (Below.refl w101.heap.size w101); clear hbox hg; have bk_x := blk_below K_x.out B_x.out; have hz_x_0 : w101.cell? ⟨g_x, 0, none⟩ = some (.bool true) := (blk_cell bk_x 0).trans rfl; have hz_x_1 : w101.cell? ⟨g_x, 1, none⟩ = some (.slice A0 (limbs m).length c0) := (blk_cell bk_x 1).trans rfl; have hz_x_2 : w101.cell? ⟨g_x, 2, none⟩ = some (.slice A1 (limbs d).length c1) := (blk_cell bk_x 2).trans rfl; clear bk_x))
 with_reducible refine (ngcd_calls m d HF.out.1 HF.out.2 _ _ _ _ _ (Kd.C_below R_a.out B_a.out) C_a.out (Kd.C_below R_b.out B_b.out) C_b.out).mono ?_
 rintro e w102 ⟨v, rfl, h1, hb⟩
 clear hz_x_0 hz_x_1 hz_x_2
 have ho := h1
 clear h1
 obtain ⟨A_g, c_g, rfl, hlo, hC⟩ := Rd.reads ho
 clear ho
 replace B_a := bl_b B_a hb
 replace B_b := bl_b B_b hb
 replace HB := bl_b HB hb
 replace B_x := bl_b B_x hb
 clear hb
 have R_g := a0_ hC
 have C_g := a0_ hlo
 clear hC hlo
 have B_g := a0_ (Below.refl w102.heap.size w102)
 have bk_x := blk_below K_x.out B_x.out
 have hz_x_0 : w102.cell? ⟨g_x, 0, none⟩ = some (.bool true) := (blk_cell bk_x 0).trans rfl
 have hz_x_1 : w102.cell? ⟨g_x, 1, none⟩ = some (.slice A0 (limbs m).length c0) := (blk_cell bk_x 1).trans rfl
 have hz_x_2 : w102.cell? ⟨g_x, 2, none⟩ = some (.slice A1 (limbs d).length c1) := (blk_cell bk_x 2).trans rfl
 clear bk_x
 go_wp2_with fail
 go_ret
 exact ⟨rfl, HB.out⟩
theorem chk_den_false (m d : Nat) (hm : m < 4294967296 ^ 16) (hd : d < 4294967296 ^ 16) (h0 : d = 0) (A0 : Option Addr) (c0 : Nat) (A1 : Option Addr) (c1 : Nat) (w : World)
 (hra : Kd.C (Kd.int .u32) w A0 (limbs m).length (limbs m)) (hca : (limbs m).length ≤ c0) (hrb : Kd.C (Kd.int .u32) w A1 (limbs d).length (limbs d)) (hcb : (limbs d).length ≤ c1) :
 Calls Try.prog 17 #[.agg #[.bool false, .slice A0 (limbs m).length c0, .slice A1 (limbs d).length c1]] w fun e w' => e = .returned (.int .i64 2) ∧ Below w.heap.size w w' := by
 have R_a := a0_ hra
 have C_a := a0_ hca
 clear hra hca
 have B_a := a0_ (Below.refl w.heap.size w)
 have R_b := a0_ hrb
 have C_b := a0_ hcb
 clear hrb hcb
 have B_b := a0_ (Below.refl w.heap.size w)
 have HB := a0_ (Below.refl w.heap.size w)
 have hl1 := len16 hm
 have hl2 := len16 hd
 have hd1 : decide ((16 : Int) < ((limbs m).length : Int)) = false := decide_eq_false (by omega)
 have hd2 : decide ((16 : Int) < ((limbs d).length : Int)) = false := decide_eq_false (by omega)
 have hd3 : decide (16 < (limbs m).length) = false := decide_eq_false (by omega)
 have hd4 : decide (16 < (limbs d).length) = false := decide_eq_false (by omega)
 have hzd1 : (((limbs d).length : Int) == 0) = true := by rw [limbs_len0']; exact decide_eq_true (h0)
 have hzd2 : ((limbs d).length == 0) = true := by rw [limbs_len0]; exact decide_eq_true (h0)
 clear h0
 have HF := a0_ (And.intro (fits16 hm) (fits16 hd))
 clear hm hd hl1 hl2
 have hu30 := Try.underlying30
 go_enter Try.func17, Try.ntmps17
 go_wp2_with (first | ((with_reducible refine gd_ 1 rfl ?_); refine bx_ (N := 1) #[.bool false, .slice A0 (limbs m).length c0, .slice A1 (limbs d).length c1] 30 ?_; intro g_x hg w101 hbox hb; have G_x := rd_b HB hg; replace B_a := bl_b B_a hb; replace B_b := bl_b B_b hb; replace HB := bl_b HB hb; clear hb; have K_x := a0_ hbox; have B_x := a0_ (Below.refl w101.heap.size w101); clear hbox hg; have bk_x := blk_below K_x.out B_x.out; have hz_x_0 : w101.cell? ⟨g_x, 0, none⟩ = some (.bool false) := (blk_cell bk_x 0).trans rfl; have hz_x_1 : w101.cell? ⟨g_x, 1, none⟩ = some (.slice A0 (limbs m).length c0) := (blk_cell bk_x 1).trans rfl; have hz_x_2 : w101.cell? ⟨g_x, 2, none⟩ = some (.slice A1 (limbs d).length c1) := (blk_cell bk_x 2).trans rfl; clear bk_x))
 with_reducible refine (ngcd_calls m d HF.out.1 HF.out.2 _ _ _ _ _ (Kd.C_below R_a.out B_a.out) C_a.out (Kd.C_below R_b.out B_b.out) C_b.out).mono ?_
 rintro e w102 ⟨v, rfl, h1, hb⟩
 clear hz_x_0 hz_x_1 hz_x_2
 have ho := h1
 clear h1
 obtain ⟨A_g, c_g, rfl, hlo, hC⟩ := Rd.reads ho
 clear ho
 replace B_a := bl_b B_a hb
 replace B_b := bl_b B_b hb
 replace HB := bl_b HB hb
 replace B_x := bl_b B_x hb
 clear hb
 have R_g := a0_ hC
 have C_g := a0_ hlo
 clear hC hlo
 have B_g := a0_ (Below.refl w102.heap.size w102)
 have bk_x := blk_below K_x.out B_x.out
 have hz_x_0 : w102.cell? ⟨g_x, 0, none⟩ = some (.bool false) := (blk_cell bk_x 0).trans rfl
 have hz_x_1 : w102.cell? ⟨g_x, 1, none⟩ = some (.slice A0 (limbs m).length c0) := (blk_cell bk_x 1).trans rfl
 have hz_x_2 : w102.cell? ⟨g_x, 2, none⟩ = some (.slice A1 (limbs d).length c1) := (blk_cell bk_x 2).trans rfl
 clear bk_x
 go_wp2_with fail
 go_ret
 exact ⟨rfl, HB.out⟩
theorem chk_neg (m d : Nat) (hm : m < 4294967296 ^ 16) (hd : d < 4294967296 ^ 16) (h0 : d ≠ 0) (hm0 : m = 0) (A0 : Option Addr) (c0 : Nat) (A1 : Option Addr) (c1 : Nat) (w : World)
 (hra : Kd.C (Kd.int .u32) w A0 (limbs m).length (limbs m)) (hca : (limbs m).length ≤ c0) (hrb : Kd.C (Kd.int .u32) w A1 (limbs d).length (limbs d)) (hcb : (limbs d).length ≤ c1) :
 Calls Try.prog 17 #[.agg #[.bool true, .slice A0 (limbs m).length c0, .slice A1 (limbs d).length c1]] w fun e w' => e = .returned (.int .i64 2) ∧ Below w.heap.size w w' := by
 have R_a := a0_ hra
 have C_a := a0_ hca
 clear hra hca
 have B_a := a0_ (Below.refl w.heap.size w)
 have R_b := a0_ hrb
 have C_b := a0_ hcb
 clear hrb hcb
 have B_b := a0_ (Below.refl w.heap.size w)
 have HB := a0_ (Below.refl w.heap.size w)
 have hl1 := len16 hm
 have hl2 := len16 hd
 have hd1 : decide ((16 : Int) < ((limbs m).length : Int)) = false := decide_eq_false (by omega)
 have hd2 : decide ((16 : Int) < ((limbs d).length : Int)) = false := decide_eq_false (by omega)
 have hd3 : decide (16 < (limbs m).length) = false := decide_eq_false (by omega)
 have hd4 : decide (16 < (limbs d).length) = false := decide_eq_false (by omega)
 have hzd1 : (((limbs d).length : Int) == 0) = false := by rw [limbs_len0']; exact decide_eq_false (h0)
 have hzd2 : ((limbs d).length == 0) = false := by rw [limbs_len0]; exact decide_eq_false (h0)
 have hzm1 : (((limbs m).length : Int) == 0) = true := by rw [limbs_len0']; exact decide_eq_true (hm0)
 have hzm2 : ((limbs m).length == 0) = true := by rw [limbs_len0]; exact decide_eq_true (hm0)
 clear h0 hm0
 have HF := a0_ (And.intro (fits16 hm) (fits16 hd))
 clear hm hd hl1 hl2
 have hu30 := Try.underlying30
 go_enter Try.func17, Try.ntmps17
 go_wp2_with (first | ((with_reducible refine gd_ 1 rfl ?_); refine bx_ (N := 1) #[.bool true, .slice A0 (limbs m).length c0, .slice A1 (limbs d).length c1] 30 ?_; intro g_x hg w101 hbox hb; have G_x := rd_b HB hg; replace B_a := bl_b B_a hb; replace B_b := bl_b B_b hb; replace HB := bl_b HB hb; clear hb; have K_x := a0_ hbox; have B_x := a0_ (Below.refl w101.heap.size w101); clear hbox hg; have bk_x := blk_below K_x.out B_x.out; have hz_x_0 : w101.cell? ⟨g_x, 0, none⟩ = some (.bool true) := (blk_cell bk_x 0).trans rfl; have hz_x_1 : w101.cell? ⟨g_x, 1, none⟩ = some (.slice A0 (limbs m).length c0) := (blk_cell bk_x 1).trans rfl; have hz_x_2 : w101.cell? ⟨g_x, 2, none⟩ = some (.slice A1 (limbs d).length c1) := (blk_cell bk_x 2).trans rfl; clear bk_x))
 with_reducible refine (ngcd_calls m d HF.out.1 HF.out.2 _ _ _ _ _ (Kd.C_below R_a.out B_a.out) C_a.out (Kd.C_below R_b.out B_b.out) C_b.out).mono ?_
 rintro e w102 ⟨v, rfl, h1, hb⟩
 clear hz_x_0 hz_x_1 hz_x_2
 have ho := h1
 clear h1
 obtain ⟨A_g, c_g, rfl, hlo, hC⟩ := Rd.reads ho
 clear ho
 replace B_a := bl_b B_a hb
 replace B_b := bl_b B_b hb
 replace HB := bl_b HB hb
 replace B_x := bl_b B_x hb
 clear hb
 have R_g := a0_ hC
 have C_g := a0_ hlo
 clear hC hlo
 have B_g := a0_ (Below.refl w102.heap.size w102)
 have bk_x := blk_below K_x.out B_x.out
 have hz_x_0 : w102.cell? ⟨g_x, 0, none⟩ = some (.bool true) := (blk_cell bk_x 0).trans rfl
 have hz_x_1 : w102.cell? ⟨g_x, 1, none⟩ = some (.slice A0 (limbs m).length c0) := (blk_cell bk_x 1).trans rfl
 have hz_x_2 : w102.cell? ⟨g_x, 2, none⟩ = some (.slice A1 (limbs d).length c1) := (blk_cell bk_x 2).trans rfl
 clear bk_x
 go_wp2_with fail
 go_ret
 exact ⟨rfl, HB.out⟩
theorem chk_gcd_true (m d : Nat) (hm : m < 4294967296 ^ 16) (hd : d < 4294967296 ^ 16) (h0 : d ≠ 0) (hm0 : m ≠ 0) (hg : Nat.gcd m d ≠ 1) (A0 : Option Addr) (c0 : Nat) (A1 : Option Addr) (c1 : Nat) (w : World)
 (hra : Kd.C (Kd.int .u32) w A0 (limbs m).length (limbs m)) (hca : (limbs m).length ≤ c0) (hrb : Kd.C (Kd.int .u32) w A1 (limbs d).length (limbs d)) (hcb : (limbs d).length ≤ c1) :
 Calls Try.prog 17 #[.agg #[.bool true, .slice A0 (limbs m).length c0, .slice A1 (limbs d).length c1]] w fun e w' => e = .returned (.int .i64 2) ∧ Below w.heap.size w w' := by
 have R_a := a0_ hra
 have C_a := a0_ hca
 clear hra hca
 have B_a := a0_ (Below.refl w.heap.size w)
 have R_b := a0_ hrb
 have C_b := a0_ hcb
 clear hrb hcb
 have B_b := a0_ (Below.refl w.heap.size w)
 have HB := a0_ (Below.refl w.heap.size w)
 have hl1 := len16 hm
 have hl2 := len16 hd
 have hd1 : decide ((16 : Int) < ((limbs m).length : Int)) = false := decide_eq_false (by omega)
 have hd2 : decide ((16 : Int) < ((limbs d).length : Int)) = false := decide_eq_false (by omega)
 have hd3 : decide (16 < (limbs m).length) = false := decide_eq_false (by omega)
 have hd4 : decide (16 < (limbs d).length) = false := decide_eq_false (by omega)
 have hzd1 : (((limbs d).length : Int) == 0) = false := by rw [limbs_len0']; exact decide_eq_false (h0)
 have hzd2 : ((limbs d).length == 0) = false := by rw [limbs_len0]; exact decide_eq_false (h0)
 have hzm1 : (((limbs m).length : Int) == 0) = false := by rw [limbs_len0']; exact decide_eq_false (hm0)
 have hzm2 : ((limbs m).length == 0) = false := by rw [limbs_len0]; exact decide_eq_false (hm0)
 obtain ⟨ke, hke⟩ := (equal_ev (limbs (Nat.gcd m d)) (limbs 1) (by have := limbs_len_le (Nat.lt_of_le_of_lt (Nat.gcd_le_right m (Nat.pos_of_ne_zero h0)) hd); omega)).rounds
 rw [decide_eq_false (fun e => hg (limbs_inj e))] at hke
 have HE := a0_ hke
 clear hke hg
 clear h0 hm0
 have HF := a0_ (And.intro (fits16 hm) (fits16 hd))
 clear hm hd hl1 hl2
 have hu30 := Try.underlying30
 go_enter Try.func17, Try.ntmps17
 go_wp2_with (first | ((with_reducible refine gd_ 1 rfl ?_); refine bx_ (N := 1) #[.bool true, .slice A0 (limbs m).length c0, .slice A1 (limbs d).length c1] 30 ?_; intro g_x hg w101 hbox hb; have G_x := rd_b HB hg; replace B_a := bl_b B_a hb; replace B_b := bl_b B_b hb; replace HB := bl_b HB hb; clear hb; have K_x := a0_ hbox; have B_x := a0_ (Below.refl w101.heap.size w101); clear hbox hg; have bk_x := blk_below K_x.out B_x.out; have hz_x_0 : w101.cell? ⟨g_x, 0, none⟩ = some (.bool true) := (blk_cell bk_x 0).trans rfl; have hz_x_1 : w101.cell? ⟨g_x, 1, none⟩ = some (.slice A0 (limbs m).length c0) := (blk_cell bk_x 1).trans rfl; have hz_x_2 : w101.cell? ⟨g_x, 2, none⟩ = some (.slice A1 (limbs d).length c1) := (blk_cell bk_x 2).trans rfl; clear bk_x))
 with_reducible refine (ngcd_calls m d HF.out.1 HF.out.2 _ _ _ _ _ (Kd.C_below R_a.out B_a.out) C_a.out (Kd.C_below R_b.out B_b.out) C_b.out).mono ?_
 rintro e w102 ⟨v, rfl, h1, hb⟩
 clear hz_x_0 hz_x_1 hz_x_2
 have ho := h1
 clear h1
 obtain ⟨A_g, c_g, rfl, hlo, hC⟩ := Rd.reads ho
 clear ho
 replace B_a := bl_b B_a hb
 replace B_b := bl_b B_b hb
 replace HB := bl_b HB hb
 replace B_x := bl_b B_x hb
 clear hb
 have R_g := a0_ hC
 have C_g := a0_ hlo
 clear hC hlo
 have B_g := a0_ (Below.refl w102.heap.size w102)
 have bk_x := blk_below K_x.out B_x.out
 have hz_x_0 : w102.cell? ⟨g_x, 0, none⟩ = some (.bool true) := (blk_cell bk_x 0).trans rfl
 have hz_x_1 : w102.cell? ⟨g_x, 1, none⟩ = some (.slice A0 (limbs m).length c0) := (blk_cell bk_x 1).trans rfl
 have hz_x_2 : w102.cell? ⟨g_x, 2, none⟩ = some (.slice A1 (limbs d).length c1) := (blk_cell bk_x 2).trans rfl
 clear bk_x
 go_wp2_with fail
 with_reducible refine (one_calls _).mono ?_
 rintro e w103 ⟨v, rfl, ho, hb⟩
 clear hz_x_0 hz_x_1 hz_x_2
 obtain ⟨A_o, c_o, rfl, hlo, hC⟩ := Rd.reads ho
 clear ho
 replace B_a := bl_b B_a hb
 replace B_b := bl_b B_b hb
 replace B_g := bl_b B_g hb
 replace HB := bl_b HB hb
 replace B_x := bl_b B_x hb
 clear hb
 have R_o := a0_ hC
 have C_o := a0_ hlo
 clear hC hlo
 have B_o := a0_ (Below.refl w103.heap.size w103)
 go_wp2_with fail
 with_reducible refine (slices_Equal_uint32_uint32.calls ke _ _ (limbs (Nat.gcd m d)) _ _ (limbs 1) _ _ (Kd.C_below R_g.out B_g.out) C_g.out (Kd.C_below R_o.out B_o.out) C_o.out HE.out).mono ?_
 rintro e w104 ⟨rfl, hb0⟩
 have hb := hb0.below
 clear hb0
 replace B_a := bl_b B_a hb
 replace B_b := bl_b B_b hb
 replace B_g := bl_b B_g hb
 replace B_o := bl_b B_o hb
 replace HB := bl_b HB hb
 replace B_x := bl_b B_x hb
 clear hb
 go_wp2_with fail
 go_ret
 exact ⟨rfl, HB.out⟩
theorem chk_gcd_false (m d : Nat) (hm : m < 4294967296 ^ 16) (hd : d < 4294967296 ^ 16) (h0 : d ≠ 0) (hg : Nat.gcd m d ≠ 1) (A0 : Option Addr) (c0 : Nat) (A1 : Option Addr) (c1 : Nat) (w : World)
 (hra : Kd.C (Kd.int .u32) w A0 (limbs m).length (limbs m)) (hca : (limbs m).length ≤ c0) (hrb : Kd.C (Kd.int .u32) w A1 (limbs d).length (limbs d)) (hcb : (limbs d).length ≤ c1) :
 Calls Try.prog 17 #[.agg #[.bool false, .slice A0 (limbs m).length c0, .slice A1 (limbs d).length c1]] w fun e w' => e = .returned (.int .i64 2) ∧ Below w.heap.size w w' := by
 have R_a := a0_ hra
 have C_a := a0_ hca
 clear hra hca
 have B_a := a0_ (Below.refl w.heap.size w)
 have R_b := a0_ hrb
 have C_b := a0_ hcb
 clear hrb hcb
 have B_b := a0_ (Below.refl w.heap.size w)
 have HB := a0_ (Below.refl w.heap.size w)
 have hl1 := len16 hm
 have hl2 := len16 hd
 have hd1 : decide ((16 : Int) < ((limbs m).length : Int)) = false := decide_eq_false (by omega)
 have hd2 : decide ((16 : Int) < ((limbs d).length : Int)) = false := decide_eq_false (by omega)
 have hd3 : decide (16 < (limbs m).length) = false := decide_eq_false (by omega)
 have hd4 : decide (16 < (limbs d).length) = false := decide_eq_false (by omega)
 have hzd1 : (((limbs d).length : Int) == 0) = false := by rw [limbs_len0']; exact decide_eq_false (h0)
 have hzd2 : ((limbs d).length == 0) = false := by rw [limbs_len0]; exact decide_eq_false (h0)
 obtain ⟨ke, hke⟩ := (equal_ev (limbs (Nat.gcd m d)) (limbs 1) (by have := limbs_len_le (Nat.lt_of_le_of_lt (Nat.gcd_le_right m (Nat.pos_of_ne_zero h0)) hd); omega)).rounds
 rw [decide_eq_false (fun e => hg (limbs_inj e))] at hke
 have HE := a0_ hke
 clear hke hg
 clear h0
 have HF := a0_ (And.intro (fits16 hm) (fits16 hd))
 clear hm hd hl1 hl2
 have hu30 := Try.underlying30
 go_enter Try.func17, Try.ntmps17
 go_wp2_with (first | ((with_reducible refine gd_ 1 rfl ?_); refine bx_ (N := 1) #[.bool false, .slice A0 (limbs m).length c0, .slice A1 (limbs d).length c1] 30 ?_; intro g_x hg w101 hbox hb; have G_x := rd_b HB hg; replace B_a := bl_b B_a hb; replace B_b := bl_b B_b hb; replace HB := bl_b HB hb; clear hb; have K_x := a0_ hbox; have B_x := a0_ (Below.refl w101.heap.size w101); clear hbox hg; have bk_x := blk_below K_x.out B_x.out; have hz_x_0 : w101.cell? ⟨g_x, 0, none⟩ = some (.bool false) := (blk_cell bk_x 0).trans rfl; have hz_x_1 : w101.cell? ⟨g_x, 1, none⟩ = some (.slice A0 (limbs m).length c0) := (blk_cell bk_x 1).trans rfl; have hz_x_2 : w101.cell? ⟨g_x, 2, none⟩ = some (.slice A1 (limbs d).length c1) := (blk_cell bk_x 2).trans rfl; clear bk_x))
 with_reducible refine (ngcd_calls m d HF.out.1 HF.out.2 _ _ _ _ _ (Kd.C_below R_a.out B_a.out) C_a.out (Kd.C_below R_b.out B_b.out) C_b.out).mono ?_
 rintro e w102 ⟨v, rfl, h1, hb⟩
 clear hz_x_0 hz_x_1 hz_x_2
 have ho := h1
 clear h1
 obtain ⟨A_g, c_g, rfl, hlo, hC⟩ := Rd.reads ho
 clear ho
 replace B_a := bl_b B_a hb
 replace B_b := bl_b B_b hb
 replace HB := bl_b HB hb
 replace B_x := bl_b B_x hb
 clear hb
 have R_g := a0_ hC
 have C_g := a0_ hlo
 clear hC hlo
 have B_g := a0_ (Below.refl w102.heap.size w102)
 have bk_x := blk_below K_x.out B_x.out
 have hz_x_0 : w102.cell? ⟨g_x, 0, none⟩ = some (.bool false) := (blk_cell bk_x 0).trans rfl
 have hz_x_1 : w102.cell? ⟨g_x, 1, none⟩ = some (.slice A0 (limbs m).length c0) := (blk_cell bk_x 1).trans rfl
 have hz_x_2 : w102.cell? ⟨g_x, 2, none⟩ = some (.slice A1 (limbs d).length c1) := (blk_cell bk_x 2).trans rfl
 clear bk_x
 go_wp2_with fail
 with_reducible refine (one_calls _).mono ?_
 rintro e w103 ⟨v, rfl, ho, hb⟩
 clear hz_x_0 hz_x_1 hz_x_2
 obtain ⟨A_o, c_o, rfl, hlo, hC⟩ := Rd.reads ho
 clear ho
 replace B_a := bl_b B_a hb
 replace B_b := bl_b B_b hb
 replace B_g := bl_b B_g hb
 replace HB := bl_b HB hb
 replace B_x := bl_b B_x hb
 clear hb
 have R_o := a0_ hC
 have C_o := a0_ hlo
 clear hC hlo
 have B_o := a0_ (Below.refl w103.heap.size w103)
 go_wp2_with fail
 with_reducible refine (slices_Equal_uint32_uint32.calls ke _ _ (limbs (Nat.gcd m d)) _ _ (limbs 1) _ _ (Kd.C_below R_g.out B_g.out) C_g.out (Kd.C_below R_o.out B_o.out) C_o.out HE.out).mono ?_
 rintro e w104 ⟨rfl, hb0⟩
 have hb := hb0.below
 clear hb0
 replace B_a := bl_b B_a hb
 replace B_b := bl_b B_b hb
 replace B_g := bl_b B_g hb
 replace B_o := bl_b B_o hb
 replace HB := bl_b HB hb
 replace B_x := bl_b B_x hb
 clear hb
 go_wp2_with fail
 go_ret
 exact ⟨rfl, HB.out⟩
def Bad (s : Bool) (ls ds : List Int) : Prop := Ok ls ∧ Ok ds ∧ ¬ ∃ m d, ls = limbs m ∧ ds = limbs d ∧ OkR s m d
theorem chk_bad (s : Bool) (ls ds : List Int) (hbad : Bad s ls ds) (A0 : Option Addr) (c0 : Nat) (A1 : Option Addr) (c1 : Nat) (w : World)
 (hra : Kd.C (Kd.int .u32) w A0 ls.length ls) (hca : ls.length ≤ c0) (hrb : Kd.C (Kd.int .u32) w A1 ds.length ds) (hcb : ds.length ≤ c1) :
 Calls Try.prog 17 #[.agg #[.bool s, .slice A0 ls.length c0, .slice A1 ds.length c1]] w fun e w' => (∃ c : Int, c ≠ 0 ∧ e = .returned (.int .i64 c)) ∧ Below w.heap.size w w' := by
 obtain ⟨okl, okd, hno⟩ := hbad
 by_cases h1 : 16 < ls.length
 · exact (chk_long s ls ds h1 _ _ _ _ _ hra hca hrb hcb).mono fun e w' h => ⟨⟨20, by omega, h.1⟩, h.2⟩
 by_cases h2 : 16 < ds.length
 · exact (chk_long2 s ls ds ⟨by omega, h2⟩ _ _ _ _ _ hra hca hrb hcb).mono fun e w' h => ⟨⟨20, by omega, h.1⟩, h.2⟩
 by_cases ht : Tight ls ∧ Tight ds
 · have e1 := (limbs_V okl ht.1).symm
   have e2 := (limbs_V okd ht.2).symm
   have hm : V ls < 4294967296 ^ 16 := lt_of_limbs_len (by rw [← e1]; omega)
   have hd : V ds < 4294967296 ^ 16 := lt_of_limbs_len (by rw [← e2]; omega)
   generalize V ls = m at e1 hm
   generalize V ds = d at e2 hd
   subst e1
   subst e2
   by_cases h0 : d = 0
   · cases s with
     | true => exact (chk_den_true m d hm hd h0 _ _ _ _ _ hra hca hrb hcb).mono fun e w' h => ⟨⟨2, by omega, h.1⟩, h.2⟩
     | false => exact (chk_den_false m d hm hd h0 _ _ _ _ _ hra hca hrb hcb).mono fun e w' h => ⟨⟨2, by omega, h.1⟩, h.2⟩
   · cases s with
     | true =>
      by_cases hm0 : m = 0
      · exact (chk_neg m d hm hd h0 hm0 _ _ _ _ _ hra hca hrb hcb).mono fun e w' h => ⟨⟨2, by omega, h.1⟩, h.2⟩
      · exact (chk_gcd_true m d hm hd h0 hm0 (fun hg => hno ⟨m, d, rfl, rfl, (⟨fun _ => by omega, by omega, hg, hm, hd⟩ : OkR true m d)⟩) _ _ _ _ _ hra hca hrb hcb).mono fun e w' h => ⟨⟨2, by omega, h.1⟩, h.2⟩
     | false => exact (chk_gcd_false m d hm hd h0 (fun hg => hno ⟨m, d, rfl, rfl, (⟨fun h => (by cases h), by omega, hg, hm, hd⟩ : OkR false m d)⟩) _ _ _ _ _ hra hca hrb hcb).mono fun e w' h => ⟨⟨2, by omega, h.1⟩, h.2⟩
 · exact (chk_loose s ls ds ht (by omega) (by omega) _ _ _ _ _ hra hca hrb hcb).mono fun e w' h => ⟨⟨2, by omega, h.1⟩, h.2⟩
theorem run_some {args : Array Value} {W : World} {P : Option Rat → Prop} {x : Rat} (h : Calls Try.prog 16 args W fun e w' => (∃ v ans, P ans ∧ e = .returned (.tuple #[v, .bool ans.isSome, .int .i64 (eno ans)]) ∧ Res (fun k => W.heap.size ≤ k) w' v ans) ∧ Below W.heap.size W w') (hp : ∀ a, P a → a = some x) :
 Calls Try.prog 16 args W fun e w' => (∃ v, e = .returned (.tuple #[v, .bool true, .int .i64 0]) ∧ IsR (fun k => W.heap.size ≤ k) w' v x) ∧ Below W.heap.size W w' := by
 refine h.mono ?_
 rintro e w' ⟨⟨v, ans, hP, rfl, hv⟩, hb⟩
 obtain rfl := hp ans hP
 exact ⟨⟨v, rfl, hv⟩, hb⟩
theorem makes_true {okw : Nat → Prop} (fn over : Int) (x : Rat) (w : World) (tq : Bool) (Aq : Option Addr) (nq cq : Nat) (Dq : Option Addr) (kq zq : Nat) (Al : Option Addr) (nl cl : Nat) (vw : Value) (hy : IsR okw w vw x) (hrun : ∀ W, Kb (fun k => False) w W → Calls Try.prog 16 #[.int .i64 fn, .int .i64 over, .agg #[.bool tq, .slice Aq nq cq, .slice Dq kq zq], .slice Al nl cl] W fun e w' => (∃ v, e = .returned (.tuple #[v, .bool true, .int .i64 0]) ∧ IsR (fun k => W.heap.size ≤ k) w' v x) ∧ Below W.heap.size W w') : Calls Try.prog 14 #[.int .i64 fn, .int .i64 over, .agg #[.bool tq, .slice Aq nq cq, .slice Dq kq zq], .slice Al nl cl, vw] w fun e w' => e = .returned (.bool true) ∧ Below w.heap.size w w' := by
 have h := makes_calls fn over x x w tq Aq nq cq Dq kq zq Al nl cl vw hy hrun
 rw [decide_eq_true (show x = x from rfl)] at h
 exact h
theorem reps3 {ok : Nat → Prop} {w : World} {x0 x1 x2 : Rat} {a0 a1 a2 b0 b1 b2 c0 c1 c2 : Value} (h0 : Kd.FK kdR w ok x0 [a0, a1, a2]) (h1 : Kd.FK kdR w ok x1 [b0, b1, b2]) (h2 : Kd.FK kdR w ok x2 [c0, c1, c2]) : Reps (Kd.FK kdR w ok) kdR.sz [x0, x1, x2] [a0, a1, a2, b0, b1, b2, c0, c1, c2] := ⟨rfl, fun j p hp => by
 match j, hp with
 | 0, hp => obtain rfl := Option.some.inj hp; exact h0
 | 1, hp => obtain rfl := Option.some.inj hp; exact h1
 | 2, hp => obtain rfl := Option.some.inj hp; exact h2
 | j + 3, hp => simp at hp⟩
theorem reps_by {ok : Nat → Prop} {w : World} : Reps (Kd.FK kdS w ok) kdS.sz [⟨0, 4, none⟩, ⟨0, 6, none⟩] [.int .i64 0, .int .i64 4, .bool false, .slice none 0 0, .slice none 0 0, .int .i64 0, .int .i64 6, .bool false, .slice none 0 0, .slice none 0 0] := ⟨rfl, fun j p hp => by
 match j, hp with
 | 0, hp => obtain rfl := Option.some.inj hp; exact kdS_FK' (x := ⟨0, 4, none⟩) (c := ⟨false, none, 0, 0, none, 0, 0⟩) (fun q hq => by cases hq)
 | 1, hp => obtain rfl := Option.some.inj hp; exact kdS_FK' (x := ⟨0, 6, none⟩) (c := ⟨false, none, 0, 0, none, 0, 0⟩) (fun q hq => by cases hq)
 | j + 2, hp => simp at hp⟩
theorem by2 : ByS [⟨0, 4, none⟩, ⟨0, 6, none⟩] := fun i hi => by
 match i, hi with
 | 0, _ => exact ⟨by decide, by decide⟩
 | 1, _ => exact ⟨by decide, by decide⟩
 | j + 2, hi => exact absurd hi (by simp)
def l3 : List Rat := [((3 : Int) : Rat), (((1 : Int) : Rat) / ((2 : Int) : Rat)), ((5 : Int) : Rat)]
theorem smpsOf_val (qs : List Rat) : ValS (smpsOf qs) qs := ⟨(smpsOf_len qs).symm, fun i hi => by
 rw [smpsOf_len] at hi
 rw [List.getD_eq_getElem?_getD, smpsOf_get qs i hi]
 rfl⟩
theorem smpsOf_by (qs : List Rat) (h : qs.length ≤ 1000000) : ByS (smpsOf qs) := fun i hi => by
 rw [smpsOf_len] at hi
 rw [List.getD_eq_getElem?_getD, smpsOf_get qs i hi]
 show (0 : Int) ≤ (i : Int) ∧ (i : Int) ≤ 9007199254740991
 omega
theorem sorted3 {qs : List Rat} (hp : qs.Perm l3) (hw : qs.Pairwise (· ≤ ·)) : qs = [(((1 : Int) : Rat) / ((2 : Int) : Rat)), ((3 : Int) : Rat), ((5 : Int) : Rat)] :=
 List.Perm.eq_of_pairwise (fun a b _ _ h1 h2 => Rat.le_antisymm h1 h2) hw (by decide +kernel) (hp.trans (by unfold l3; exact List.Perm.swap _ _ _))
def Works5.T5 : Bool × List (List Nat × List Nat) := (true, [([], []), ([], []), ([], []), ([0, 1, 2, 2], [0, 1, 2]), ([3, 3], [3]), ([4], [4]), ([4], [4]), ([4, 4], [4]), ([5, 6, 7, 7, 4], [4, 5, 6, 7]), ([4, 8], [4, 8]), ([9, 8], [9]), ([10], [10]), ([10], [10]), ([10, 10], [10]), ([11, 12, 13, 13, 10], [10, 11, 12, 13]), ([10, 14], [10, 14]), ([15, 14], [15]), ([16, 16], [16]), ([16], [16]), ([17, 16], [16]), ([17, 18, 19, 19, 16], [16, 17, 18, 19]), ([16, 20], [16, 20]), ([21, 20], [21]), ([22, 22], [22]), ([22], [22]), ([23, 22], [22]), ([23, 24, 25, 25, 22], [22, 23, 24, 25]), ([22, 26], [22, 26]), ([27, 26], [27]), ([28], [28]), ([28, 28], [28]), ([29, 30, 30, 28], [28, 29, 30]), ([28, 31], [28, 31]), ([32, 31], [32]), ([33], [33]), ([34, 33], [33, 34]), ([33, 35], [33, 35]), ([36, 33], [36]), ([37], [37]), ([38, 37], [37, 38]), ([37, 39], [37, 39]), ([40, 37, 0, 1, 2, 3, 4, 5, 6, 7, 8, 9, 10, 11, 12, 13, 14, 15, 16, 17, 18, 19, 20, 21, 22, 23, 24, 25, 26, 27, 28, 29, 30, 31, 32, 33, 34, 35, 36, 37, 38, 39, 40], [40])])
def Works5.B5 : List Nat := [0, 0, 0, 7, 15, 31, 31, 31, 255, 511, 1023, 2047, 2047, 2047, 16383, 32767, 65535, 131071, 131071, 262143, 1048575, 2097151, 4194303, 8388607, 8388607, 16777215, 67108863, 134217727, 268435455, 536870911, 536870911, 2147483647, 4294967295, 8589934591, 17179869183, 34359738367, 68719476735, 137438953471, 274877906943, 549755813887, 1099511627775, 2199023255551]
theorem Works5.tab5 : rtab .any (opsOf Try.f8 5) = Works5.T5 := by kernel_rfl
theorem Works5.bits5 : waitsOk Works5.T5.2 Works5.B5 = true := by kernel_rfl
theorem works_calls (w : World) :
 Calls Try.prog 8 #[] w fun e w' => e = .returned (.bool true) ∧ Below w.heap.size w w' := by
 have hu30 := Try.underlying30
 have hu39 := Try.underlying39
 have HB := kf_ w
 go_enter Try.func8, Try.ntmps8
 go_wp2_with fail
 with_reducible refine (qof_calls 3 (by omega) (by omega) _).mono ?_
 rintro e w101 ⟨⟨v, rfl, hv⟩, hb⟩
 obtain ⟨tx, Ax, nx, cx, Dx, kx, zx, rfl⟩ := hv.agg
 have hle := Kb.size HB.out
 have hv_ := IsR.mono' (ok' := fun k => True) hv (fun k hk _ => by trivial)
 clear hv hle
 replace HB := kb_b HB hb
 clear hb
 have V_x := a0_ hv_
 clear hv_
 have B_x := kf_ w101
 go_wp2_with fail
 with_reducible refine (part_calls 1 2 (by omega) (by omega) (by omega) (by omega) (by decide +kernel) _).mono ?_
 rintro e w102 ⟨⟨v, rfl, hv⟩, hb⟩
 obtain ⟨ty, Ay, ny, cy, Dy, ky, zy, rfl⟩ := hv.agg
 have hle := Kb.size HB.out
 have hv_ := IsR.mono' (ok' := fun k => True) hv (fun k hk _ => by trivial)
 clear hv hle
 replace HB := kb_b HB hb
 replace B_x := kb_b B_x hb
 clear hb
 have V_y := a0_ hv_
 clear hv_
 have B_y := kf_ w102
 go_wp2_with fail
 with_reducible refine (qof_calls 5 (by omega) (by omega) _).mono ?_
 rintro e w103 ⟨⟨v, rfl, hv⟩, hb⟩
 obtain ⟨tz, Az, nz, cz, Dz, kz, zz, rfl⟩ := hv.agg
 have hle := Kb.size HB.out
 have hv_ := IsR.mono' (ok' := fun k => True) hv (fun k hk _ => by trivial)
 clear hv hle
 replace HB := kb_b HB hb
 replace B_x := kb_b B_x hb
 replace B_y := kb_b B_y hb
 clear hb
 have V_z := a0_ hv_
 clear hv_
 have B_z := kf_ w103
 go_wp2_with (first | ((with_reducible refine gd_ 10 rfl ?_); refine Kd.N_lit kdR (w0 := w103) w103.heap.size 30 ?hg (N' := 10) ?hd (xs := l3) (inner := [.bool tx, .slice Ax nx cx, .slice Dx kx zx, .bool ty, .slice Ay ny cy, .slice Dy ky zy, .bool tz, .slice Az nz cz, .slice Dz kz zz]) (ok := fun _ => True) (okp := fun _ => True) ?hr ?hp (fun _ h => h) trivial (Below.refl _ _) (Nat.le_refl _) (by decide) ?_; (case hd => rfl); (case hg => rfl); (case hr => first | (go_simp; done) | (go_simp; rfl)); (case hp => exact reps3 (IsR.mk' (IsR.kb (S := fun k => False) V_x.out B_x.out (fun _ _ h => h))) (IsR.mk' (IsR.kb (S := fun k => False) V_y.out B_y.out (fun _ _ h => h))) (IsR.mk' (IsR.kb (S := fun k => False) V_z.out B_z.out (fun _ _ h => h)))); intro v_ w120 hn hb hg_ hnew_; have hl3 : RowQ (fun _ => True) w120 v_ l3 := Kd.N_V hn; clear hn hg_ hnew_; replace HB := kb_b HB hb; replace B_x := kb_b B_x hb; replace B_y := kb_b B_y hb; replace B_z := kb_b B_z hb; clear hb))
 clear V_x B_x
 clear V_y B_y
 clear V_z B_z
 with_reducible refine (of_calls l3 (by decide) _ _ hl3).mono ?_
 rintro e w105 ⟨⟨v, rfl, hv⟩, hb⟩
 clear hl3
 obtain ⟨As, cs, rfl⟩ := RowS.slice hv
 have hv := RowS.mono hv (ok' := fun _ => True) (fun _ _ => trivial)
 replace HB := kb_b HB hb
 clear hb
 obtain ⟨ss, hss⟩ : ∃ s, s = smpsOf l3 := ⟨_, rfl⟩
 rw [← hss] at hv
 rw [← hss]
 have HS := a0_ (show ss.length = 3 ∧ ByS ss ∧ ValS ss l3 from by rw [hss]; exact ⟨by rw [smpsOf_len]; rfl, smpsOf_by _ (by decide), smpsOf_val _⟩)
 clear hss
 have V_s := a0_ hv
 clear hv
 have B_s := kf_ w105
 go_wp2_with fail
 with_reducible refine (qof_calls 0 (by omega) (by omega) _).mono ?_
 rintro e w106 ⟨⟨v, rfl, hv⟩, hb⟩
 obtain ⟨tu, Au, nu, cu, Du, ku, zu, rfl⟩ := hv.agg
 have hle := Kb.size HB.out
 have hv_ := IsR.mono' (ok' := fun k => True) hv (fun k hk _ => by trivial)
 clear hv hle
 replace HB := kb_b HB hb
 replace B_s := kb_b B_s hb
 clear hb
 have V_u := a0_ hv_
 clear hv_
 have B_u := kf_ w106
 go_wp2_with (first | ((with_reducible refine gd_ 2 rfl ?_); refine bx_ (N := 2) #[.bool false, .slice none 0 0, .slice none 0 0] 30 ?_; intro g_n hg w107 hbox hb; have G_n := kb_g HB hg; have O_n_s := kb_g B_s hg; have O_n_u := kb_g B_u hg; replace HB := kb_b HB hb; replace B_s := kb_b B_s hb; replace B_u := kb_b B_u hb; clear hb; have V_n := a0_ hbox; have B_n := kf_ w107; have N_n := nf_ g_n; clear hbox hg) | ((with_reducible refine gt_ 30 2 12 rfl ?_); refine store_ev (p := .tmp 2) (v := .tmp 12) rfl rfl rfl (g := g_n) rfl rfl (bk_ V_n B_n N_n) ?_; intro w108 hbox hk; replace HB := kb_o HB hk G_n; replace B_s := kb_o B_s hk O_n_s; replace B_u := kb_o B_u hk O_n_u; clear V_n B_n; have V_n := a0_ hbox; have B_n := kf_ w108; clear hbox hk) | ((with_reducible refine gd_ 15 rfl ?_); refine Kd.N_lit kdS (w0 := w108) w108.heap.size 39 ?hg (N' := 15) ?hd (xs := [⟨0, 4, none⟩, ⟨0, 6, none⟩]) (inner := [.int .i64 0, .int .i64 4, .bool false, .slice none 0 0, .slice none 0 0, .int .i64 0, .int .i64 6, .bool false, .slice none 0 0, .slice none 0 0]) (ok := fun _ => True) (okp := fun _ => True) ?hr ?hp (fun _ h => h) trivial (Below.refl _ _) (Nat.le_refl _) (by decide) ?_; (case hd => rfl); (case hg => rfl); (case hr => first | (go_simp; done) | (go_simp; rfl)); (case hp => exact reps_by); intro v2_ w140 hn hb hg_ hnew_; have hlb : RowS (fun _ => True) w140 v2_ [⟨0, 4, none⟩, ⟨0, 6, none⟩] := Kd.N_V hn; have HLB := a0_ hlb; clear hn hg_ hnew_ hlb; replace HB := kb_b HB hb; replace B_s := kb_b B_s hb; replace B_u := kb_b B_u hb; replace B_n := kb_b B_n hb; clear hb) | ((with_reducible refine gd_ 17 rfl ?_); refine load_ev rfl rfl (g := g_n) rfl (bk_ V_n B_n N_n) ?_))
 have hlb := HLB.out
 clear HLB
 obtain ⟨Ab, cb, rfl⟩ := RowS.slice hlb
 obtain ⟨sb, hsb⟩ : ∃ s : List Smp, s = [⟨0, 4, none⟩, ⟨0, 6, none⟩] := ⟨_, rfl⟩
 rw [← hsb] at hlb
 rw [← hsb]
 have HSB := a0_ (show sb.length = 2 ∧ ByS sb ∧ bytesQ sb = [((4 : Int) : Rat), ((6 : Int) : Rat)] from by rw [hsb]; exact ⟨rfl, by2, rfl⟩)
 clear hsb
 have V_b := a0_ hlb
 clear hlb
 have B_b := kf_ w140
 with_reducible refine (wrun1_nil 1 (by omega) (by omega) _ _ _ _ _ _ _ _).mono ?_
 rintro e w110 ⟨rfl, hb⟩
 replace HB := kb_b HB hb
 replace B_s := kb_b B_s hb
 replace B_u := kb_b B_u hb
 replace B_n := kb_b B_n hb
 replace B_b := kb_b B_b hb
 clear hb
 go_wp2_with (first | ((with_reducible refine gd_ 4 rfl ?_); refine bx_ (N := 4) #[.bool false, .slice none 0 0, .slice none 0 0] 30 ?_; intro g_p hg w111 hbox hb; have G_p := kb_g HB hg; have O_p_s := kb_g B_s hg; have O_p_u := kb_g B_u hg; have O_p_n := kb_g B_n hg; have O_p_b := kb_g B_b hg; replace HB := kb_b HB hb; replace B_s := kb_b B_s hb; replace B_u := kb_b B_u hb; replace B_n := kb_b B_n hb; replace B_b := kb_b B_b hb; clear hb; have V_p := a0_ hbox; have B_p := kf_ w111; have N_p := nf_ g_p; clear hbox hg) | ((with_reducible refine gt_ 30 4 19 rfl ?_); refine store_ev (p := .tmp 4) (v := .tmp 19) rfl rfl rfl (g := g_p) rfl rfl (bk_ V_p B_p N_p) ?_; intro w112 hbox hk; replace HB := kb_o HB hk G_p; replace B_s := kb_o B_s hk O_p_s; replace B_u := kb_o B_u hk O_p_u; replace B_n := kb_o B_n hk O_p_n; replace B_b := kb_o B_b hk O_p_b; clear V_p B_p; have V_p := a0_ hbox; have B_p := kf_ w112; clear hbox hk))
 clear V_p B_p
 have hb : Below w112.heap.size w112 w112.drew := below_drew1 (Below.refl _ _)
 replace HB := kb_b HB hb
 replace B_s := kb_b B_s hb
 replace B_u := kb_b B_u hb
 replace B_n := kb_b B_n hb
 replace B_b := kb_b B_b hb
 clear hb
 refine start_ (n := 42) (S := fun w' => w'.heap[g_n]? = some (.cells #[.bool tu, .slice Au nu cu, .slice Du ku zu] 30 (0, 0))) (ds := []) (tB_ 42 0) (by kernel_rfl) rfl (by kernel_rfl) (bk_ V_n B_n N_n) (fun hHeld => ?_)
 refine with_tabW Works5.tab5 Works5.bits5 (fun HT_ HW_ => ?_)
 generalize w112.drew = w113 at HB B_s B_u B_n B_b hHeld ⊢
 have hs0 : 0 < ss.length := by rw [HS.out.1]; decide
 have hs1 : ss.length ≤ 1000000 := by rw [HS.out.1]; decide
 have hs2 : ss.length ≤ 20 := by rw [HS.out.1]; decide
 have hb0 : 0 < sb.length := by rw [HSB.out.1]; decide
 have hb1 : sb.length ≤ 1000000 := by rw [HSB.out.1]; decide
 have HF := a0_ (And.intro hs0 (And.intro hs1 (And.intro hs2 (And.intro hb0 hb1))))
 clear hs0 hs1 hs2 hb0 hb1
 refine tk_ 0 (some 22) 1 HT_ HW_ hHeld ?_ ?_ ?_ ?_ ?_
 rotate_left
 · intro w' hs
   have hb_ := hs
   obtain ⟨c0_, c1_, c2_⟩ := b3_ hb_
   clear hb_ hs
   go_simp
   with_reducible rfl
 rotate_left
 · simp only [PU]
   rfl
 refine pu_ 1 (some 23) 3 HT_ ?_
 refine on_ 2 (some 24) 7 HT_ (fun K hK => ?_)
 refine gs_ Try.func13 #[.int .i64 3, .int .i64 2] ?_
 refine (part_calls 3 2 (by omega) (by omega) (by omega) (by omega) (by decide +kernel) _).mono ?_
 rintro e w114 ⟨⟨v24, rfl, hv⟩, hb⟩
 obtain ⟨ta, Aa, na, ca, Da, ka, za, rfl⟩ := hv.agg
 refine ⟨_, rfl, ?_⟩
 refine hK.out _ _ (by exact blk_below hHeld hb) (fun hHeld => ?_)
 clear hK K
 refine nm_ (some 24) ?_
 have hle := Kb.size HB.out
 have hv_ := IsR.mono' (ok' := fun k => True) hv (fun k hk _ => by trivial)
 clear hv hle
 replace HB := kb_b HB hb
 replace B_s := kb_b B_s hb
 replace B_u := kb_b B_u hb
 replace B_n := kb_b B_n hb
 replace B_b := kb_b B_b hb
 clear hb
 have V_a := a0_ hv_
 clear hv_
 have B_a := kf_ w114
 refine on_ 3 (some 25) 15 HT_ (fun K hK => ?_)
 refine gs_ Try.func14 #[.int .i64 2, .int .i64 2000, .agg #[.bool tu, .slice Au nu cu, .slice Du ku zu], .slice As ss.length cs, .agg #[.bool ta, .slice Aa na ca, .slice Da ka za]] ?_
 refine (makes_true 2 2000 (((3 : Int) : Rat) / ((2 : Int) : Rat)) _ _ _ _ _ _ _ _ _ _ _ _ (IsR.kb (S := fun k => False) V_a.out B_a.out (fun _ _ h => h)) (fun W hW => run_some (wrun2 2000 (by omega) (by omega) ss HS.out.2.1 HF.out.1 HF.out.2.1 W _ _ _ _ _ _ _ _ _ (RowS.kb (RowS.kb V_s.out B_s.out (fun _ _ h => h)) hW (fun _ _ h => h))) (fun a ha => by rw [ha, HS.out.1]; decide +kernel))).mono ?_
 rintro e w115 ⟨rfl, hb⟩
 refine ⟨_, rfl, ?_⟩
 refine hK.out _ _ (by exact blk_below hHeld hb) (fun hHeld => ?_)
 clear hK K
 refine nm_ (some 25) ?_
 replace HB := kb_b HB hb
 replace B_s := kb_b B_s hb
 replace B_u := kb_b B_u hb
 replace B_n := kb_b B_n hb
 replace B_b := kb_b B_b hb
 replace B_a := kb_b B_a hb
 clear hb
 clear V_a B_a
 refine pu_ 4 (some 26) 31 HT_ ?_
 refine tk_ 5 (some 27) 63 HT_ HW_ hHeld ?_ ?_ ?_ ?_ ?_
 rotate_left
 · intro w' hs
   have hb_ := hs
   obtain ⟨c0_, c1_, c2_⟩ := b3_ hb_
   clear hb_ hs
   go_simp
   with_reducible rfl
 rotate_left
 · simp only [PU]
   rfl
 refine pu_ 6 (some 28) 127 HT_ ?_
 refine on_ 7 (some 29) 255 HT_ (fun K hK => ?_)
 refine gs_ Try.func12 #[.int .i64 2] ?_
 refine (qof_calls 2 (by omega) (by omega) _).mono ?_
 rintro e w116 ⟨⟨v29, rfl, hv⟩, hb⟩
 obtain ⟨ta2, Aa2, na2, ca2, Da2, ka2, za2, rfl⟩ := hv.agg
 refine ⟨_, rfl, ?_⟩
 refine hK.out _ _ (by exact blk_below hHeld hb) (fun hHeld => ?_)
 clear hK K
 refine nm_ (some 29) ?_
 have hle := Kb.size HB.out
 have hv_ := IsR.mono' (ok' := fun k => True) hv (fun k hk _ => by trivial)
 clear hv hle
 replace HB := kb_b HB hb
 replace B_s := kb_b B_s hb
 replace B_u := kb_b B_u hb
 replace B_n := kb_b B_n hb
 replace B_b := kb_b B_b hb
 clear hb
 have V_a2 := a0_ hv_
 clear hv_
 have B_a2 := kf_ w116
 refine on_ 8 (some 30) 511 HT_ (fun K hK => ?_)
 refine gs_ Try.func14 #[.int .i64 4, .int .i64 5000, .agg #[.bool tu, .slice Au nu cu, .slice Du ku zu], .slice Ab sb.length cb, .agg #[.bool ta2, .slice Aa2 na2 ca2, .slice Da2 ka2 za2]] ?_
 refine (makes_true 4 5000 ((2 : Int) : Rat) _ _ _ _ _ _ _ _ _ _ _ _ (IsR.kb (S := fun k => False) V_a2.out B_a2.out (fun _ _ h => h)) (fun W hW => run_some (wrun4 5000 (by omega) (by omega) sb HSB.out.2.1 HF.out.2.2.2.1 HF.out.2.2.2.2 W _ _ _ _ _ _ _ _ _ (RowS.kb (RowS.kb V_b.out B_b.out (fun _ _ h => h)) hW (fun _ _ h => h))) (fun a ha => by rw [ha, HSB.out.2.2]; decide +kernel))).mono ?_
 rintro e w117 ⟨rfl, hb⟩
 refine ⟨_, rfl, ?_⟩
 refine hK.out _ _ (by exact blk_below hHeld hb) (fun hHeld => ?_)
 clear hK K
 refine nm_ (some 30) ?_
 replace HB := kb_b HB hb
 replace B_s := kb_b B_s hb
 replace B_u := kb_b B_u hb
 replace B_n := kb_b B_n hb
 replace B_b := kb_b B_b hb
 replace B_a2 := kb_b B_a2 hb
 clear hb
 clear V_a2 B_a2
 clear V_b B_b
 refine pu_ 9 (some 31) 1023 HT_ ?_
 refine pu_ 10 (some 32) 2047 HT_ ?_
 refine tk_ 11 (some 33) 4095 HT_ HW_ hHeld ?_ ?_ ?_ ?_ ?_
 rotate_left
 · intro w' hs
   have hb_ := hs
   obtain ⟨c0_, c1_, c2_⟩ := b3_ hb_
   clear hb_ hs
   go_simp
   with_reducible rfl
 rotate_left
 · simp only [PU]
   rfl
 refine pu_ 12 (some 34) 8191 HT_ ?_
 refine on_ 13 (some 35) 16383 HT_ (fun K hK => ?_)
 refine gs_ Try.func13 #[.int .i64 17, .int .i64 6] ?_
 refine (part_calls 17 6 (by omega) (by omega) (by omega) (by omega) (by decide +kernel) _).mono ?_
 rintro e w118 ⟨⟨v35, rfl, hv⟩, hb⟩
 obtain ⟨ta3, Aa3, na3, ca3, Da3, ka3, za3, rfl⟩ := hv.agg
 refine ⟨_, rfl, ?_⟩
 refine hK.out _ _ (by exact blk_below hHeld hb) (fun hHeld => ?_)
 clear hK K
 refine nm_ (some 35) ?_
 have hle := Kb.size HB.out
 have hv_ := IsR.mono' (ok' := fun k => True) hv (fun k hk _ => by trivial)
 clear hv hle
 replace HB := kb_b HB hb
 replace B_s := kb_b B_s hb
 replace B_u := kb_b B_u hb
 replace B_n := kb_b B_n hb
 clear hb
 have V_a3 := a0_ hv_
 clear hv_
 have B_a3 := kf_ w118
 refine on_ 14 (some 36) 32767 HT_ (fun K hK => ?_)
 refine gs_ Try.func14 #[.int .i64 7, .int .i64 1, .agg #[.bool tu, .slice Au nu cu, .slice Du ku zu], .slice As ss.length cs, .agg #[.bool ta3, .slice Aa3 na3 ca3, .slice Da3 ka3 za3]] ?_
 refine (makes_true 7 1 (((17 : Int) : Rat) / ((6 : Int) : Rat)) _ _ _ _ _ _ _ _ _ _ _ _ (IsR.kb (S := fun k => False) V_a3.out B_a3.out (fun _ _ h => h)) (fun W hW => run_some (wrun7 1 (by omega) (by omega) ss HS.out.2.1 l3 HS.out.2.2 HF.out.1 HF.out.2.1 W _ _ _ _ _ _ _ _ _ (RowS.kb (RowS.kb V_s.out B_s.out (fun _ _ h => h)) hW (fun _ _ h => h))) (fun a ha => by rw [ha, HS.out.1]; decide +kernel))).mono ?_
 rintro e w119 ⟨rfl, hb⟩
 refine ⟨_, rfl, ?_⟩
 refine hK.out _ _ (by exact blk_below hHeld hb) (fun hHeld => ?_)
 clear hK K
 refine nm_ (some 36) ?_
 replace HB := kb_b HB hb
 replace B_s := kb_b B_s hb
 replace B_u := kb_b B_u hb
 replace B_n := kb_b B_n hb
 replace B_a3 := kb_b B_a3 hb
 clear hb
 clear V_a3 B_a3
 refine pu_ 15 (some 37) 65535 HT_ ?_
 refine pu_ 16 (some 38) 131071 HT_ ?_
 refine pu_ 18 (some 40) 393215 HT_ ?_
 refine on_ 17 (some 39) 524287 HT_ (fun K hK => ?_)
 refine gs_ Try.func13 #[.int .i64 3, .int .i64 4] ?_
 refine (part_calls 3 4 (by omega) (by omega) (by omega) (by omega) (by decide +kernel) _).mono ?_
 rintro e w120 ⟨⟨v39, rfl, hv⟩, hb⟩
 obtain ⟨tq1, Aq1, nq1, cq1, Dq1, kq1, zq1, rfl⟩ := hv.agg
 refine ⟨_, rfl, ?_⟩
 refine hK.out _ _ (by exact blk_below hHeld hb) (fun hHeld => ?_)
 clear hK K
 refine nm_ (some 39) ?_
 have hle := Kb.size HB.out
 have hv_ := IsR.mono' (ok' := fun k => True) hv (fun k hk _ => by trivial)
 clear hv hle
 replace HB := kb_b HB hb
 replace B_s := kb_b B_s hb
 replace B_u := kb_b B_u hb
 replace B_n := kb_b B_n hb
 clear hb
 have V_q1 := a0_ hv_
 clear hv_
 have B_q1 := kf_ w120
 refine on_ 19 (some 41) 1048575 HT_ (fun K hK => ?_)
 refine gs_ Try.func12 #[.int .i64 4] ?_
 refine (qof_calls 4 (by omega) (by omega) _).mono ?_
 rintro e w121 ⟨⟨v41, rfl, hv⟩, hb⟩
 obtain ⟨ta4, Aa4, na4, ca4, Da4, ka4, za4, rfl⟩ := hv.agg
 refine ⟨_, rfl, ?_⟩
 refine hK.out _ _ (by exact blk_below hHeld hb) (fun hHeld => ?_)
 clear hK K
 refine nm_ (some 41) ?_
 have hle := Kb.size HB.out
 have hv_ := IsR.mono' (ok' := fun k => True) hv (fun k hk _ => by trivial)
 clear hv hle
 replace HB := kb_b HB hb
 replace B_s := kb_b B_s hb
 replace B_u := kb_b B_u hb
 replace B_n := kb_b B_n hb
 replace B_q1 := kb_b B_q1 hb
 clear hb
 have V_a4 := a0_ hv_
 clear hv_
 have B_a4 := kf_ w121
 refine on_ 20 (some 42) 2097151 HT_ (fun K hK => ?_)
 refine gs_ Try.func14 #[.int .i64 12, .int .i64 1, .agg #[.bool tq1, .slice Aq1 nq1 cq1, .slice Dq1 kq1 zq1], .slice As ss.length cs, .agg #[.bool ta4, .slice Aa4 na4 ca4, .slice Da4 ka4 za4]] ?_
 refine (makes_true 12 1 ((4 : Int) : Rat) _ _ _ _ _ _ _ _ _ _ _ _ (IsR.kb (S := fun k => False) V_a4.out B_a4.out (fun _ _ h => h)) (fun W hW => run_some (wrun12 1 (by omega) (by omega) ss HS.out.2.1 l3 HS.out.2.2 (((3 : Int) : Rat) / ((4 : Int) : Rat)) (by decide +kernel) (by decide +kernel) HF.out.2.2.1 HF.out.1 HF.out.2.1 W _ _ _ _ _ _ _ _ _ (RowS.kb (RowS.kb V_s.out B_s.out (fun _ _ h => h)) hW (fun _ _ h => h)) (IsR.kb (IsR.kb (S := fun k => False) V_q1.out B_q1.out (fun _ _ h => h)) hW (fun _ _ h => h))) (fun a ha => by obtain ⟨qs', hp, hw, rfl⟩ := ha; rw [sorted3 hp hw]; decide +kernel))).mono ?_
 rintro e w122 ⟨rfl, hb⟩
 refine ⟨_, rfl, ?_⟩
 refine hK.out _ _ (by exact blk_below hHeld hb) (fun hHeld => ?_)
 clear hK K
 refine nm_ (some 42) ?_
 replace HB := kb_b HB hb
 replace B_s := kb_b B_s hb
 replace B_u := kb_b B_u hb
 replace B_n := kb_b B_n hb
 replace B_q1 := kb_b B_q1 hb
 replace B_a4 := kb_b B_a4 hb
 clear hb
 clear V_q1 B_q1
 clear V_a4 B_a4
 refine pu_ 21 (some 43) 4194303 HT_ ?_
 refine pu_ 22 (some 44) 8388607 HT_ ?_
 refine pu_ 24 (some 46) 25165823 HT_ ?_
 refine on_ 23 (some 45) 33554431 HT_ (fun K hK => ?_)
 refine gs_ Try.func13 #[.int .i64 1, .int .i64 2] ?_
 refine (part_calls 1 2 (by omega) (by omega) (by omega) (by omega) (by decide +kernel) _).mono ?_
 rintro e w123 ⟨⟨v45, rfl, hv⟩, hb⟩
 obtain ⟨tq2, Aq2, nq2, cq2, Dq2, kq2, zq2, rfl⟩ := hv.agg
 refine ⟨_, rfl, ?_⟩
 refine hK.out _ _ (by exact blk_below hHeld hb) (fun hHeld => ?_)
 clear hK K
 refine nm_ (some 45) ?_
 have hle := Kb.size HB.out
 have hv_ := IsR.mono' (ok' := fun k => True) hv (fun k hk _ => by trivial)
 clear hv hle
 replace HB := kb_b HB hb
 replace B_s := kb_b B_s hb
 replace B_u := kb_b B_u hb
 replace B_n := kb_b B_n hb
 clear hb
 have V_q2 := a0_ hv_
 clear hv_
 have B_q2 := kf_ w123
 refine on_ 25 (some 47) 67108863 HT_ (fun K hK => ?_)
 refine gs_ Try.func12 #[.int .i64 3] ?_
 refine (qof_calls 3 (by omega) (by omega) _).mono ?_
 rintro e w124 ⟨⟨v47, rfl, hv⟩, hb⟩
 obtain ⟨ta5, Aa5, na5, ca5, Da5, ka5, za5, rfl⟩ := hv.agg
 refine ⟨_, rfl, ?_⟩
 refine hK.out _ _ (by exact blk_below hHeld hb) (fun hHeld => ?_)
 clear hK K
 refine nm_ (some 47) ?_
 have hle := Kb.size HB.out
 have hv_ := IsR.mono' (ok' := fun k => True) hv (fun k hk _ => by trivial)
 clear hv hle
 replace HB := kb_b HB hb
 replace B_s := kb_b B_s hb
 replace B_u := kb_b B_u hb
 replace B_n := kb_b B_n hb
 replace B_q2 := kb_b B_q2 hb
 clear hb
 have V_a5 := a0_ hv_
 clear hv_
 have B_a5 := kf_ w124
 refine on_ 26 (some 48) 134217727 HT_ (fun K hK => ?_)
 refine gs_ Try.func14 #[.int .i64 12, .int .i64 1, .agg #[.bool tq2, .slice Aq2 nq2 cq2, .slice Dq2 kq2 zq2], .slice As ss.length cs, .agg #[.bool ta5, .slice Aa5 na5 ca5, .slice Da5 ka5 za5]] ?_
 refine (makes_true 12 1 ((3 : Int) : Rat) _ _ _ _ _ _ _ _ _ _ _ _ (IsR.kb (S := fun k => False) V_a5.out B_a5.out (fun _ _ h => h)) (fun W hW => run_some (wrun12 1 (by omega) (by omega) ss HS.out.2.1 l3 HS.out.2.2 (((1 : Int) : Rat) / ((2 : Int) : Rat)) (by decide +kernel) (by decide +kernel) HF.out.2.2.1 HF.out.1 HF.out.2.1 W _ _ _ _ _ _ _ _ _ (RowS.kb (RowS.kb V_s.out B_s.out (fun _ _ h => h)) hW (fun _ _ h => h)) (IsR.kb (IsR.kb (S := fun k => False) V_q2.out B_q2.out (fun _ _ h => h)) hW (fun _ _ h => h))) (fun a ha => by obtain ⟨qs', hp, hw, rfl⟩ := ha; rw [sorted3 hp hw]; decide +kernel))).mono ?_
 rintro e w125 ⟨rfl, hb⟩
 refine ⟨_, rfl, ?_⟩
 refine hK.out _ _ (by exact blk_below hHeld hb) (fun hHeld => ?_)
 clear hK K
 refine nm_ (some 48) ?_
 replace HB := kb_b HB hb
 replace B_s := kb_b B_s hb
 replace B_u := kb_b B_u hb
 replace B_n := kb_b B_n hb
 replace B_q2 := kb_b B_q2 hb
 replace B_a5 := kb_b B_a5 hb
 clear hb
 clear V_q2 B_q2
 clear V_a5 B_a5
 clear V_s B_s
 refine pu_ 27 (some 49) 268435455 HT_ ?_
 refine pu_ 28 (some 50) 536870911 HT_ ?_
 refine tk_ 29 (some 51) 1073741823 HT_ HW_ hHeld ?_ ?_ ?_ ?_ ?_
 rotate_left
 · intro w' hs
   have hb_ := hs
   obtain ⟨c0_, c1_, c2_⟩ := b3_ hb_
   clear hb_ hs
   go_simp
   with_reducible rfl
 rotate_left
 · simp only [PU]
   rfl
 refine on_ 30 (some 52) 2147483647 HT_ (fun K hK => ?_)
 refine gs_ Try.func12 #[.int .i64 1] ?_
 refine (qof_calls 1 (by omega) (by omega) _).mono ?_
 rintro e w126 ⟨⟨v52, rfl, hv⟩, hb⟩
 obtain ⟨ta6, Aa6, na6, ca6, Da6, ka6, za6, rfl⟩ := hv.agg
 refine ⟨_, rfl, ?_⟩
 refine hK.out _ _ (by exact blk_below hHeld hb) (fun hHeld => ?_)
 clear hK K
 refine nm_ (some 52) ?_
 have hle := Kb.size HB.out
 have hv_ := IsR.mono' (ok' := fun k => True) hv (fun k hk _ => by trivial)
 clear hv hle
 replace HB := kb_b HB hb
 replace B_u := kb_b B_u hb
 replace B_n := kb_b B_n hb
 clear hb
 have V_a6 := a0_ hv_
 clear hv_
 have B_a6 := kf_ w126
 refine on_ 31 (some 53) 4294967295 HT_ (fun K hK => ?_)
 refine gs_ Try.func14 #[.int .i64 5, .int .i64 1, .agg #[.bool tu, .slice Au nu cu, .slice Du ku zu], .slice none 0 0, .agg #[.bool ta6, .slice Aa6 na6 ca6, .slice Da6 ka6 za6]] ?_
 refine (makes_true 5 1 ((1 : Int) : Rat) _ _ _ _ _ _ _ _ _ _ _ _ (IsR.kb (S := fun k => False) V_a6.out B_a6.out (fun _ _ h => h)) (fun W hW => wrun5_nil 1 (by omega) (by omega) W _ _ _ _ _ _ _)).mono ?_
 rintro e w127 ⟨rfl, hb⟩
 refine ⟨_, rfl, ?_⟩
 refine hK.out _ _ (by exact blk_below hHeld hb) (fun hHeld => ?_)
 clear hK K
 refine nm_ (some 53) ?_
 replace HB := kb_b HB hb
 replace B_u := kb_b B_u hb
 replace B_n := kb_b B_n hb
 replace B_a6 := kb_b B_a6 hb
 clear hb
 refine pu_ 32 (some 54) 8589934591 HT_ ?_
 refine pu_ 33 (some 55) 17179869183 HT_ ?_
 refine pu_ 34 (some 56) 34359738367 HT_ ?_
 refine pu_ 35 (some 57) 68719476735 HT_ ?_
 refine pu_ 36 (some 58) 137438953471 HT_ ?_
 refine pu_ 37 (some 59) 274877906943 HT_ ?_
 refine pu_ 38 (some 60) 549755813887 HT_ ?_
 refine pu_ 39 (some 61) 1099511627775 HT_ ?_
 refine pu_ 40 (some 62) 2199023255551 HT_ ?_
 refine pu_ 41 (some 0) 4398046511103 HT_ ?_
 refine do_ HT_ ?_
 clear HT_ HW_ hHeld
 go_wp2_with fail
 go_ret
 exact ⟨rfl, (Kb.to_below HB.out (fun _ h => h.elim))⟩
open Go.RowKit Go.Proofs.YtgdkgahbmfhgcaaW.PrintWords Go.Proofs.YtgdkgahbmfhgcaaW.PrintLast Go.Proofs.YtgdkgahbmfhgcaaW.PrintMore
attribute [local go_sem] max2_int min2_int max_two min_two max_three min_three max_four min_four
def driftnetref00_Bring.f (a0 : Int) (a1 : Int) : Option (Int) := if a1 ≤ 0 then (some 0) else (if a1 = 0 then (none) else (if (Int.tmod a0 a1) < 0 then (some (wrap64 ((Int.tmod a0 a1) + a1))) else (some (Int.tmod a0 a1))))
theorem driftnetref00_Bring.calls (a0 : Int) (a1 : Int) (r : Int) (w : World) (h : driftnetref00_Bring.f a0 a1 = some r) :
 Calls Try.prog 10 #[.int .i64 a0, .int .i64 a1] w fun e w' => e = .returned (.int .i64 r) ∧ Drawn0 w w' := by
 have H : (if a1 ≤ 0 then (some 0) else (if a1 = 0 then (none) else (if (Int.tmod a0 a1) < 0 then (some (wrap64 ((Int.tmod a0 a1) + a1))) else (some (Int.tmod a0 a1))))) = some r := h
 clear h
 by_cases c3 : a1 ≤ 0
 · rw [if_pos c3] at H
   have c3b0 : decide (a1 ≤ 0) = true := decide_eq_true c3
   clear c3
   obtain rfl := Option.some.inj H
   go_enter Try.func10, Try.ntmps10
   go_wp2
   go_ret
   exact ⟨by first | rfl | (simp; done) | (simp [*]; done), by repeat (first | exact Drawn0.refl _ | apply Drawn0.step)⟩
 · rw [if_neg c3] at H
   have c3b0 : decide (a1 ≤ 0) = false := decide_eq_false c3
   clear c3
   by_cases c4 : a1 = 0
   · rw [if_pos c4] at H
     exact absurd H (by simp)
   · rw [if_neg c4] at H
     have c4b0 : (a1 == 0) = false := beq_eq_false_iff_ne.mpr c4
     have c4b1 : (a1 != 0) = true := bne_iff_ne.mpr c4
     by_cases c5 : (Int.tmod a0 a1) < 0
     · rw [if_pos c5] at H
       have c5b0 : decide ((Int.tmod a0 a1) < 0) = true := decide_eq_true c5
       clear c5
       obtain rfl := Option.some.inj H
       go_enter Try.func10, Try.ntmps10
       go_wp2
       go_ret
       exact ⟨by first | rfl | (simp; done) | (simp [*]; done), by repeat (first | exact Drawn0.refl _ | apply Drawn0.step)⟩
     · rw [if_neg c5] at H
       have c5b0 : decide ((Int.tmod a0 a1) < 0) = false := decide_eq_false c5
       clear c5
       obtain rfl := Option.some.inj H
       go_enter Try.func10, Try.ntmps10
       go_wp2
       go_ret
       exact ⟨by first | rfl | (simp; done) | (simp [*]; done), by repeat (first | exact Drawn0.refl _ | apply Drawn0.step)⟩
def k3 : Kd (Int × Int × Int) := Kd.pair (Kd.int .i64) (Kd.pair (Kd.int .i64) (Kd.int .i64))
def Some5.T5 : Bool × List (List Nat × List Nat) := (true, [([], []), ([], []), ([], []), ([], []), ([2, 3], [2, 3]), ([4], [4]), ([5], [5]), ([6], [6]), ([], []), ([], []), ([8, 9], [8, 9]), ([10], [10]), ([11], [11]), ([12, 7], [12]), ([13], [13]), ([], []), ([], []), ([15, 16], [15, 16]), ([17], [17]), ([18], [18]), ([19, 13], [19]), ([20], [20]), ([14, 21, 20], [14, 21]), ([1, 7, 22], [1, 7, 22]), ([23], [23]), ([0, 24, 22], [0, 24]), ([25, 25, 0, 1, 2, 3, 4, 5, 6, 7, 8, 9, 10, 11, 12, 13, 14, 15, 16, 17, 18, 19, 20, 21, 22, 23, 24, 25], [0, 25])])
def Some5.B5 : List Nat := [0, 0, 0, 0, 12, 28, 60, 124, 0, 0, 768, 1792, 3840, 8188, 16380, 0, 0, 98304, 229376, 491520, 1032188, 2080764, 4194300, 8388606, 16777214, 33554431, 67108863]
theorem Some5.tab5 : rtab .any (opsOf Try.f9 5) = Some5.T5 := by kernel_rfl
theorem Some5.bits5 : waitsOk Some5.T5.2 Some5.B5 = true := by kernel_rfl
theorem RowS.take {ok : Nat → Prop} {w : World} {A : Option Addr} {c : Nat} {ss : List Smp} (h : RowS ok w (.slice A ss.length c) ss) (m : Nat) (hm : m ≤ ss.length) : RowS ok w (.slice A (ss.take m).length c) (ss.take m) := by
 have hl := (Kd.V_at h).2.1
 exact Kd.V_mk (by rw [List.length_take]; omega) (Kd.F_take (Kd.V_F h) hm)
theorem RowS.drop {ok : Nat → Prop} {w : World} {A : Option Addr} {c : Nat} {ss : List Smp} (h : RowS ok w (.slice A ss.length c) ss) (m : Nat) (hm : m ≤ ss.length) : RowS ok w (.slice (if c = m then A else A.map (·.add (m * 5))) (ss.drop m).length (c - m)) (ss.drop m) := by
 have hl := (Kd.V_at h).2.1
 exact Kd.V_mk (by rw [List.length_drop]; omega) (Kd.F_imp (Kd.V_F h) (fun W' hC => Kd.C_drop hC hm hl))
theorem reps1 {ok : Nat → Prop} {w : World} {x : Smp} {a b c d e : Value} (h : Kd.FK kdS w ok x [a, b, c, d, e]) : Reps (Kd.FK kdS w ok) kdS.sz [x] [a, b, c, d, e] := ⟨rfl, fun j p hp => by
 match j, hp with
 | 0, hp => obtain rfl := Option.some.inj hp; exact h
 | j + 1, hp => simp at hp⟩
section
variable {P : Program} {ops : Array Oper} {Q : Exit → Act → World → Prop} {rest : List Oper} {o : Oper} {a : Act} {W : World}
theorem lit_event (hgd : o.guard = none) {N : Tmp} (_hd : o.dst = some N) {cs : Array Value} {t : TypeId}
 (hrun : (execOp a.eval o).run P W = .ok (.value (.slice (some ⟨W.heap.size, 0, none⟩) 1 1)) (W.alloc (.cells cs t (0, 0))))
 (h : ∀ g, g = W.heap.size → ∀ w1, w1.heap[g]? = some (.cells cs t (0, 0)) → Below W.heap.size W w1 → wpList P ops Q rest (a.put o.dst (.slice (some ⟨g, 0, none⟩) 1 1)) w1) : wpList P ops Q (o :: rest) a W :=
 Kd.event_run hgd hrun (h _ rfl _ (blk_new W _) (below_alloc (Below.refl _ _) _))
end
end Go.Proofs.Ytgdkgahbmfhgcaa.PN
