/- What the statement rests on, part 15: YG. -/
import Derived.Test.YtgdkgahbmfhgcaaK14
set_option linter.unusedVariables false
set_option linter.unusedSimpArgs false
set_option maxHeartbeats 4000000
set_option maxRecDepth 100000
namespace Go.Proofs.Ytgdkgahbmfhgcaa.PN
open Go.RowKit Go.Proofs.Ytgdkgahbmfhgcaa.NS Go.Proofs.Ytgdkgahbmfhgcaa.Limbs Go.Proofs.YtgdkgahbmfhgcaaW.PrintWords Go.Proofs.YtgdkgahbmfhgcaaW.PrintLast Go.Proofs.YtgdkgahbmfhgcaaW.PrintMore
section
variable {ops : Array Oper} {rest : List Oper} {o : Oper} {a : Act} {Q : Exit → Act → World → Prop} {W : World}
theorem store1_ev (hgd : o.guard = none) (hd : o.dst = none) {p v : Operand} (ho : o.op = .store 28 p v) {A : Option Addr} {n c : Nat} {g t : Nat} {x0 x1 x2 : Value} (hp : a.eval p = .pointer (some ⟨g, 1, none⟩)) (hv : a.eval v = .slice A n c) (hb : W.heap[g]? = some (.cells #[x0, x1, x2] t (0, 0)))
 (h : ∀ w1, w1.heap[g]? = some (.cells #[x0, .slice A n c, x2] t (0, 0)) → Kb (fun k => k = g) W w1 → wpList Try.prog ops Q rest a w1) : wpList Try.prog ops Q (o :: rest) a W := by
 have h0 : W.cell? ⟨g, 1, none⟩ = some x1 := (blk_cell hb 1).trans rfl
 have f0 := blk_frozen hb 1
 have hu := Try.underlying28
 have hw := h (W.setCell ⟨g, 1, none⟩ (.slice A n c)) (blk_put hb 1 _ rfl) ((Kb.refl (fun k => k = g) W).setCell (p := ⟨g, 1, none⟩) (.inl rfl) _)
 refine wpList_plain hgd fun K hK => ?_
 unfold Oper.wp
 have key : ∀ ev : Operand → Value, ev p = .pointer (some ⟨g, 1, none⟩) → ev v = .slice A n c → (execOp ev o).run Try.prog W = .ok .skip (W.setCell ⟨g, 1, none⟩ (.slice A n c)) := by
  intro ev hev hev2
  unfold execOp
  rw [ho]
  simp only [hev, hev2]
  clear h hw hK
  go_simp
 rw [key _ hp hv]
 exact hK _ _ (by rw [hd]; exact hw)
end
theorem one_row {w : World} {g x : Nat} (h : w.heap[g]? = some (.cells #[.int .u32 x] 48 (0, 0))) : Kd.V (Kd.int .u32) 48 w 0 (fun k => k = g) (.slice (some ⟨g, 0, none⟩) 1 1) [(x : Int)] := by
 refine Kd.V_mk (xs := [(x : Int)]) (by show 1 ≤ 1; decide) (fun W' hW => ?_)
 have h2 : W'.heap[g]? = some (.cells #[.int .u32 x] 48 (0, 0)) := (hW g rfl (blk_lt h)).trans h
 refine ⟨rfl, by show 1 ≤ 9223372036854775807; decide, fun _ => ⟨⟨g, 0, none⟩, rfl, fun j p hp => ?_⟩⟩
 match j, hp with
 | 0, hp =>
  obtain rfl := Option.some.inj hp
  refine ⟨[.int .u32 x], rfl, rfl, fun i u hu => ?_⟩
  match i, hu with
  | 0, hu => obtain rfl := Option.some.inj hu; exact (blk_cell h2 0).trans rfl
  | i + 1, hu => simp at hu
 | j + 1, hp => simp at hp
def bigN : Nat := 2 ^ 512 - 1
theorem V_big : V (List.replicate 16 4294967295) = bigN := by decide +kernel
theorem limbs_big : limbs bigN = List.replicate 16 4294967295 := by
 rw [← V_big]
 refine limbs_V (fun x hx => ?_) (fun x hx => ?_)
 · obtain ⟨_, rfl⟩ := List.mem_replicate.1 hx; omega
 · have : x = 4294967295 := by simpa [List.getLast?_replicate] using hx.symm
   omega
theorem limbs_one : limbs 1 = [1] := by
 have h := limbs_V (l := [1]) (fun x hx => by obtain rfl := List.mem_singleton.1 hx; omega) (Tight_one.2 (by decide))
 rwa [show V [1] = 1 from by decide] at h
theorem bigR : FitR (bigN : Rat) ∧ decide ((bigN : Rat).num < 0) = false ∧ (bigN : Rat).num.natAbs = bigN ∧ (bigN : Rat).den = 1 := by decide +kernel
theorem rep_snoc (k : Nat) : List.replicate k (4294967295 : Int) ++ [4294967295] = List.replicate (k + 1) 4294967295 := by rw [List.replicate_succ']
theorem odd_true (fn over e0 : Int) (w : World) (tq : Bool) (Aq : Option Addr) (nq cq : Nat) (Dq : Option Addr) (kq zq : Nat) (Al : Option Addr) (nl cl : Nat) (hrun : ∀ W, Kb (fun k => False) w W → Calls Try.prog 16 #[.int .i64 fn, .int .i64 over, .agg #[.bool tq, .slice Aq nq cq, .slice Dq kq zq], .slice Al nl cl] W fun e w' => (∃ v, e = .returned (.tuple #[v, .bool false, .int .i64 e0]) ∧ Res (fun _ => True) w' v none) ∧ Below W.heap.size W w') :
 Calls Try.prog 22 #[.int .i64 fn, .int .i64 over, .agg #[.bool tq, .slice Aq nq cq, .slice Dq kq zq], .slice Al nl cl, .int .i64 e0] w fun e w' => e = .returned (.bool true) ∧ Below w.heap.size w w' := by
 have hu30 := Try.underlying30
 have HR := a0_ hrun
 have hee : decide (e0 = e0) = true := decide_eq_true rfl
 clear hrun
 have HB := kf_ w
 go_enter Try.func22, Try.ntmps22
 go_wp2_with (first | ((with_reducible refine gd_ 7 rfl ?_); refine bx_ (N := 7) #[.bool tq, .slice Aq nq cq, .slice Dq kq zq] 30 ?_; intro g_q hg w101 hbox hb; have G_q := kb_g HB hg; replace HB := kb_b HB hb; clear hb; have V_q := a0_ hbox; have B_q := kf_ w101; have N_q := nf_ g_q; clear hbox hg) | ((with_reducible refine gd_ 17 rfl ?_); refine load_ev rfl rfl (g := g_q) rfl (bk_ V_q B_q N_q) ?_))
 with_reducible refine (HR.out _ HB.out).mono ?_
 rintro e w102 ⟨⟨v, rfl, hv⟩, hb⟩
 obtain ⟨v1, v2, rfl, hv1, hv2⟩ := (show IsT _ _ v false 0 0 from hv)
 rw [limbs_zero] at hv1 hv2
 obtain ⟨A1, c1, rfl⟩ : ∃ A c, v1 = .slice A 0 c := Kd.V_slice hv1
 obtain ⟨A2, c2, rfl⟩ : ∃ A c, v2 = .slice A 0 c := Kd.V_slice hv2
 clear hv hv1 hv2
 replace HB := kb_b HB hb
 replace B_q := kb_b B_q hb
 clear hb
 clear V_q B_q
 go_wp2_with (first | ((with_reducible refine gd_ 11 rfl ?_); refine bx_ (N := 11) #[.bool false, .slice none 0 0, .slice none 0 0] 30 ?_; intro g_p hg w103 hbox hb; have G_p := kb_g HB hg; replace HB := kb_b HB hb; clear hb; have V_p := a0_ hbox; have B_p := kf_ w103; have N_p := nf_ g_p; clear hbox hg) | ((with_reducible refine gt_ 30 11 20 rfl ?_); refine store_ev (p := .tmp 11) (v := .tmp 20) rfl rfl rfl (g := g_p) rfl rfl (bk_ V_p B_p N_p) ?_; intro w104 hbox hk; replace HB := kb_o HB hk G_p; clear V_p B_p; have V_p := a0_ hbox; have B_p := kf_ w104; clear hbox hk; have bk_p := bk_ V_p B_p N_p; have hz_p_0 : w104.cell? ⟨g_p, 0, none⟩ = some (.bool false) := (blk_cell bk_p 0).trans rfl; have hz_p_1 : w104.cell? ⟨g_p, 1, none⟩ = some (.slice A1 0 c1) := (blk_cell bk_p 1).trans rfl; have hz_p_2 : w104.cell? ⟨g_p, 2, none⟩ = some (.slice A2 0 c2) := (blk_cell bk_p 2).trans rfl; clear bk_p))
 go_ret
 exact ⟨rfl, (Kb.to_below HB.out (fun _ h => h.elim))⟩
theorem wide_calls (w : World) :
 Calls Try.prog 23 #[.int .i64 16] w fun e w' => (∃ v, e = .returned v ∧ IsR (fun k => w.heap.size ≤ k) w' v (bigN : Rat)) ∧ Below w.heap.size w w' := by
 have hu30 := Try.underlying30
 have hu28 := Try.underlying28
 have HB := kf_ w
 go_enter Try.func23, Try.ntmps23
 go_wp2_with (first | ((with_reducible refine gd_ 2 rfl ?_); refine bx_ (N := 2) #[.bool false, .slice none 0 0, .slice none 0 0] 30 ?_; intro g_r hg w101 hbox hb; have G_r := kb_g HB hg; replace HB := kb_b HB hb; clear hb; have V_r := a0_ hbox; have B_r := kf_ w101; have N_r := nf_ g_r; clear hbox hg) | ((with_reducible refine gd_ 5 rfl ?_); refine lit_event ?hg (N := 5) ?hd (cs := #[.int .u32 1]) (t := 48) ?hr ?_; (case hd => rfl); (case hg => rfl); (case hr => first | (go_simp; done) | (go_simp; rfl)); intro g_d hg w102 hbox hb; have G_d := kb_g HB hg; have O_d_r := kb_g B_r hg; replace HB := kb_b HB hb; replace B_r := kb_b B_r hb; clear hb; have V_d := a0_ hbox; have B_d := kf_ w102; have N_d := nf_ g_d; clear hbox hg) | ((with_reducible refine gd_ 3 rfl ?_); refine bx_ (N := 3) #[.bool false, .slice none 0 0, .slice none 0 0] 30 ?_; intro g_v hg w103 hbox hb; have G_v := kb_g HB hg; have O_v_r := kb_g B_r hg; have O_v_d := kb_g B_d hg; replace HB := kb_b HB hb; replace B_r := kb_b B_r hb; replace B_d := kb_b B_d hb; clear hb; have V_v := a0_ hbox; have B_v := kf_ w103; have N_v := nf_ g_v; clear hbox hg) | ((with_reducible refine gt_ 30 3 6 rfl ?_); refine store_ev (p := .tmp 3) (v := .tmp 6) rfl rfl rfl (g := g_v) rfl rfl (bk_ V_v B_v N_v) ?_; intro w104 hbox hk; replace HB := kb_o HB hk G_v; replace B_r := kb_o B_r hk O_v_r; replace B_d := kb_o B_d hk O_v_d; clear V_v B_v; have V_v := a0_ hbox; have B_v := kf_ w104; clear hbox hk))
 have HGV := a0_ (blk_lt V_v.out)
 go_loopg [4] 16 (fun kg v4 wr => ∃ (k : Nat) (A : Option Addr) (c : Nat), v4 = .int .i64 k ∧ Aside0 (k + kg = 16) ∧ Aside0 (wr.heap[g_v]? = some (.cells #[.bool false, .slice A k c, .slice (some ⟨g_d, 0, none⟩) 1 1] 30 (0, 0))) ∧ Aside0 (Kd.N (Kd.int .u32) 48 wr w104.heap.size (fun j => w104.heap.size ≤ j) (.slice A k c) (List.replicate k 4294967295)) ∧ Aside0 (Kb (fun k => False) w101 wr) ∧ Aside0 (Kb (fun k => False) w102 wr) ∧ Aside0 (w104.heap.size ≤ wr.heap.size) ∧ Aside0 (Kb (fun k => False) w wr))
 case atStart => exact ⟨0, none, 0, rfl, ⟨rfl⟩, V_v, ⟨Kd.N_nil _ _ _ _ _⟩, B_r, B_d, ⟨Nat.le_refl _⟩, HB⟩
 case round =>
  obtain ⟨k, A, c, rfl, HK, HV, HN, HR, HD, HSZ, HB2⟩ := hrel
  clear HB B_r B_d B_v V_v
  have HB := HB2
  clear HB2
  have B_r := HR
  have B_d := HD
  clear HR HD
  have V_v := HV
  have B_v := kf_ wr
  clear HV
  by_cases hlt : k < 16
  · have hz : (k : Int) < 16 := by omega
    have e1 : IntKind.i64.wrap ((k : Int) + 1) = ((k + 1 : Nat) : Int) := (i64_w _).trans ((w64 (by omega) (by omega)).trans (by omega))
    have bk_v := bk_ V_v B_v N_v
    have hz_v_0 : wr.cell? ⟨g_v, 0, none⟩ = some (.bool false) := (blk_cell bk_v 0).trans rfl
    have hz_v_1 : wr.cell? ⟨g_v, 1, none⟩ = some (.slice A k c) := (blk_cell bk_v 1).trans rfl
    have hz_v_2 : wr.cell? ⟨g_v, 2, none⟩ = some (.slice (some ⟨g_d, 0, none⟩) 1 1) := (blk_cell bk_v 2).trans rfl
    clear bk_v
    go_wp2_with (first | ((with_reducible refine gate_builtin (b := .append) (xs := #[.tmp 13, .tmp 14]) rfl ?_); at_builtin; refine Kd.N_append (Kd.int .u32) (w0 := wr) w104.heap.size rfl (.tmp 13) (.tmp 14) 28 48 (.int .u32 0) 4 rfl Try.underlying28 (by kernel_rfl) rfl (by decide) (by omega) (.slice A k c) (List.replicate k 4294967295) 4294967295 [.int .u32 4294967295] (fun j => w104.heap.size ≤ j) (fun _ => False) rfl rfl (fun W' _ => rfl) (fun _ h => h.elim) (fun j hj => Nat.le_trans HSZ.out hj) HN.out (Below.refl _ _) HSZ.out (by rw [List.length_replicate]; omega) ?_; intro v_ w106 hn hb hg hat; clear hz_v_0 hz_v_1 hz_v_2; rw [rep_snoc] at hn; obtain ⟨A', c', rfl⟩ := Kd.N_slice hn; rw [List.length_replicate] at hn ⊢; have hvb := (hg.block g_v (blk_lt V_v.out) (fun he => by have := Kd.N_base HN.out g_v he.symm; have := HGV.out; omega)).trans V_v.out; have hba := Kd.N_base HN.out; have Z_ := a0_ (Kb.grown HB.out hg (fun j hj => .inr (Nat.le_trans (by have := G_v.out; have := HGV.out; omega) (hba j hj)))); clear HB; have HB := Z_; clear Z_; have Z_ := a0_ (Kb.grown B_r.out hg (fun j hj => .inr (Nat.le_trans (by have := O_v_r.out; have := HGV.out; omega) (hba j hj)))); clear B_r; have B_r := Z_; clear Z_; have Z_ := a0_ (Kb.grown B_d.out hg (fun j hj => .inr (Nat.le_trans (by have := O_v_d.out; have := HGV.out; omega) (hba j hj)))); clear B_d; have B_d := Z_; clear Z_; have HS2 := a0_ (Nat.le_trans HSZ.out hg.size); clear V_v B_v HN hb hg hat hba HSZ; have HSZ := HS2; clear HS2; have HN := a0_ hn; have V_v := a0_ hvb; have B_v := kf_ w106; clear hn hvb) | ((with_reducible refine gt_ 28 16 15 rfl ?_); refine store1_ev (p := .tmp 16) (v := .tmp 15) rfl rfl rfl (g := g_v) rfl rfl V_v.out ?_; intro w107 hbox hk; have hn := Kd.N_step (w1 := w107) HN.out (fun j hj hl => hk.block j hl (fun e => by have := HGV.out; have := hj; omega)); clear HN; have HN := a0_ hn; clear hn; have HS2 := a0_ (Nat.le_trans HSZ.out hk.size); clear HSZ; have HSZ := HS2; clear HS2; replace HB := kb_o HB hk G_v; replace B_r := kb_o B_r hk O_v_r; replace B_d := kb_o B_d hk O_v_d; clear V_v B_v; have V_v := a0_ hbox; have B_v := kf_ w107; clear hbox; clear hk))
    go_roundg (16 - (k + 1))
    case measure => have := HK.out; omega
    case rel => exact ⟨k + 1, A', c', by first | rfl | rw [e1], ⟨by have := HK.out; omega⟩, V_v, HN, B_r, B_d, HSZ, HB⟩
  · have hz : ¬ (k : Int) < 16 := by omega
    obtain rfl : k = 16 := by have := HK.out; omega
    go_wp2_with (first | ((with_reducible refine gd_ 17 rfl ?_); refine load_ev rfl rfl (g := g_v) rfl (bk_ V_v B_v N_v) ?_) | ((with_reducible refine gt_ 30 2 17 rfl ?_); refine store_ev (p := .tmp 2) (v := .tmp 17) rfl rfl rfl (g := g_r) rfl rfl (bk_ V_r B_r N_r) ?_; intro w106 hbox hk; have O_r_d : Aside0 (¬ (g_d = g_r)) := ⟨fun e => by have := O_d_r.out; have := blk_lt V_r.out; omega⟩; have Zd := a0_ (Kb.blk (bk_ V_d B_d N_d) hk O_r_d.out); have hn := Kd.N_step (w1 := w106) HN.out (fun j hj hl => hk.block j hl (fun e => by have := HGV.out; have := hj; have := O_v_r.out; have hlr := blk_lt V_r.out; omega)); clear HN; have HN := a0_ hn; clear hn; replace HB := kb_o HB hk G_r; clear V_r B_r; have V_r := a0_ hbox; have B_r := kf_ w106; clear hbox hk))
    refine bodyPost_ret (results_cell_row rfl _ _ g_r 30 #[.bool false, .slice A 16 c, .slice (some ⟨g_d, 0, none⟩) 1 1] (0, 0) _ rfl (bk_ V_r B_r N_r) Try.underlying30 rfl (by kernel_rfl)) rfl ?_
    exact ⟨⟨_, rfl, ⟨bigR.1, by rw [bigR.2.1, bigR.2.2.1, bigR.2.2.2]; exact ⟨_, _, rfl, by rw [limbs_big]; exact Kd.V_mono (Kd.N_V HN.out) (fun j hj => by have := hj; have := G_v.out; have := HGV.out; omega), by rw [limbs_one]; exact Kd.V_mono (one_row (x := 1) Zd.out) (fun j hj => by have := G_d.out; have := hj; omega)⟩⟩⟩, (Kb.to_below HB.out (fun _ h => h.elim))⟩
def Neg4true.T4 : Bool × List (List Nat × List Nat) := (true, [([], []), ([0], [0]), ([1], [1]), ([2], [2]), ([3], [3]), ([4, 3], [3, 4]), ([5, 3], [3, 5]), ([6, 3], [3, 6]), ([3, 7], [3, 7]), ([], []), ([9], [9]), ([10, 3], [10]), ([], []), ([12], [12]), ([13, 11], [13]), ([8, 11, 14], [8, 11, 14]), ([15, 14, 0, 1, 2, 3, 4, 5, 6, 7, 8, 9, 10, 11, 12, 13, 14, 15], [15]), ([16, 0, 1, 2, 3, 4, 5, 6, 7, 8, 9, 10, 11, 12, 13, 14, 15, 16], [])])
def Neg4true.B4 : List Nat := [0, 1, 3, 7, 15, 31, 63, 127, 255, 0, 512, 1551, 0, 4096, 15887, 32767, 65535, 131071]
theorem Neg4true.tab4 : rtab .any (opsOf Try.f24 4) = Neg4true.T4 := by kernel_rfl
theorem Neg4true.bits4 : waitsOk Neg4true.T4.2 Neg4true.B4 = true := by kernel_rfl
theorem neg_true (m d : Nat) (hm : m < 4294967296 ^ 16) (hd : d < 4294967296 ^ 16) (x : Rat) (w : World) (A0 : Option Addr) (c0 : Nat) (A1 : Option Addr) (c1 : Nat) (hx : IsR (fun _ => True) w (.agg #[.bool true, .slice A0 (limbs m).length c0, .slice A1 (limbs d).length c1]) x) (hr0 : RowL (fun _ => True) w (.slice A0 (limbs m).length c0) (limbs m)) (hr1 : RowL (fun _ => True) w (.slice A1 (limbs d).length c1) (limbs d)) :
 Calls Try.prog 24 #[.agg #[.bool true, .slice A0 (limbs m).length c0, .slice A1 (limbs d).length c1]] w fun e w' => (∃ v1 v2, e = .returned (.tuple #[.agg #[.bool false, v1, v2], .int .i64 0]) ∧ Kd.V (Kd.int .u32) 48 w' 0 (fun k => w.heap.size ≤ k) v1 (limbs m) ∧ Kd.V (Kd.int .u32) 48 w' 0 (fun k => w.heap.size ≤ k) v2 (limbs d)) ∧ Below w.heap.size w w' := by
 have hu30 := Try.underlying30
 have hu28 := Try.underlying28
 have HMD := a0_ (And.intro hm hd)
 clear hm hd
 have HB := kf_ w
 have V_q := a0_ hx
 clear hx
 have B_q := kf_ w
 have V_m := a0_ hr0
 clear hr0
 have B_m := kf_ w
 have V_d := a0_ hr1
 clear hr1
 have B_d := kf_ w
 go_enter Try.func24, Try.ntmps24
 go_wp2_with (first | ((with_reducible refine gd_ 1 rfl ?_); refine bx_ (N := 1) #[.bool true, .slice A0 (limbs m).length c0, .slice A1 (limbs d).length c1] 30 ?_; intro g_x hg w101 hbox hb; have G_x := kb_g HB hg; replace HB := kb_b HB hb; replace B_q := kb_b B_q hb; replace B_m := kb_b B_m hb; replace B_d := kb_b B_d hb; clear hb; have V_x := a0_ hbox; have B_x := kf_ w101; have N_x := nf_ g_x; clear hbox hg) | ((with_reducible refine gd_ 2 rfl ?_); refine bx_ (N := 2) #[.bool false, .slice none 0 0, .slice none 0 0] 30 ?_; intro g_r hg w102 hbox hb; have G_r := kb_g HB hg; have O_r_x := kb_g B_x hg; replace HB := kb_b HB hb; replace B_q := kb_b B_q hb; replace B_m := kb_b B_m hb; replace B_d := kb_b B_d hb; replace B_x := kb_b B_x hb; clear hb; have V_r := a0_ hbox; have B_r := kf_ w102; have N_r := nf_ g_r; clear hbox hg) | ((with_reducible refine gd_ 5 rfl ?_); refine load_ev rfl rfl (g := g_x) rfl (bk_ V_x B_x N_x) ?_))
 with_reducible refine (qcheck_calls x _ _ (IsR.kb (S := fun k => False) V_q.out B_q.out (fun _ _ h => h))).mono ?_
 rintro e w103 ⟨rfl, hb⟩
 replace HB := kb_b HB hb
 replace B_q := kb_b B_q hb
 replace B_m := kb_b B_m hb
 replace B_d := kb_b B_d hb
 replace B_x := kb_b B_x hb
 replace B_r := kb_b B_r hb
 clear hb
 clear V_q B_q
 go_wp2_with fail
 have hb : Below w103.heap.size w103 w103.drew := below_drew1 (Below.refl _ _)
 replace HB := kb_b HB hb
 replace B_m := kb_b B_m hb
 replace B_d := kb_b B_d hb
 replace B_x := kb_b B_x hb
 replace B_r := kb_b B_r hb
 clear hb
 refine start_ (n := 18) (S := fun w' => w'.heap[g_x]? = some (.cells #[.bool true, .slice A0 (limbs m).length c0, .slice A1 (limbs d).length c1] 30 (0, 0))) (ds := []) (tB_ 18 0) (by kernel_rfl) rfl (by kernel_rfl) (bk_ V_x B_x N_x) (fun hHeld => ?_)
 refine with_tabW Neg4true.tab4 Neg4true.bits4 (fun HT_ HW_ => ?_)
 generalize w103.drew = w104 at HB B_m B_d B_x B_r hHeld ⊢
 refine pu_ 0 (some 11) 1 HT_ ?_
 refine tk_ 1 (some 12) 3 HT_ HW_ hHeld ?_ ?_ ?_ ?_ ?_
 rotate_left
 · intro w' hs
   have hb_ := hs
   obtain ⟨c0_, c1_, c2_⟩ := b3_ hb_
   clear hb_ hs
   go_simp
   with_reducible rfl
 rotate_left
 · simp only [PU]
   rfl
 refine pu_ 2 (some 13) 7 HT_ ?_
 refine pu_ 3 (some 14) 15 HT_ ?_
 refine sk_ 4 (some 15) 31 HT_ ?_
 refine sk_ 5 (some 16) 63 HT_ ?_
 refine sk_ 6 (some 17) 127 HT_ ?_
 refine sk_ 7 (some 18) 255 HT_ ?_
 refine pu_ 8 (some 19) 511 HT_ ?_
 refine pu_ 9 (some 20) 1023 HT_ ?_
 refine tk_ 10 (some 21) 2047 HT_ HW_ hHeld ?_ ?_ ?_ ?_ ?_
 rotate_left
 · intro w' hs
   have hb_ := hs
   obtain ⟨c0_, c1_, c2_⟩ := b3_ hb_
   clear hb_ hs
   go_simp
   with_reducible rfl
 rotate_left
 · simp only [PU]
   rfl
 refine pu_ 12 (some 23) 6143 HT_ ?_
 refine tk_ 13 (some 24) 14335 HT_ HW_ hHeld ?_ ?_ ?_ ?_ ?_
 rotate_left
 · intro w' hs
   have hb_ := hs
   obtain ⟨c0_, c1_, c2_⟩ := b3_ hb_
   clear hb_ hs
   go_simp
   with_reducible rfl
 rotate_left
 · simp only [PU]
   rfl
 refine on_ 11 (some 22) 16383 HT_ (fun K hK => ?_)
 refine gs_ Try.func31 #[.slice A0 (limbs m).length c0] ?_
 refine (lclone m HMD.out.1 _ _ _ (RowL.c (RowL.kb (S := fun k => False) V_m.out B_m.out (fun _ _ h => h))) (RowL.le V_m.out)).mono ?_
 rintro e w105 ⟨v22, rfl, h1, hb⟩
 obtain ⟨A2, c2, rfl⟩ := RowL.slice h1
 have hle := Kb.size HB.out
 have hlr := blk_lt (bk_ V_r B_r N_r)
 have h1 := RowL.mono' (ok' := fun k => True ∧ k ≠ g_r ∧ w.heap.size ≤ k) h1 (fun k hk _ => ⟨trivial, by omega, by omega⟩)
 clear hle hlr
 refine ⟨_, rfl, ?_⟩
 refine hK.out _ _ (by exact blk_below hHeld hb) (fun hHeld => ?_)
 clear hK K
 refine nm_ (some 22) ?_
 replace HB := kb_b HB hb
 replace B_m := kb_b B_m hb
 replace B_d := kb_b B_d hb
 replace B_x := kb_b B_x hb
 replace B_r := kb_b B_r hb
 clear hb
 have V_n := a0_ h1
 clear h1
 have B_n := a0_ (Kb.refl (fun k => False ∨ k = g_r) w105)
 refine on_ 14 (some 25) 32767 HT_ (fun K hK => ?_)
 refine gs_ Try.func31 #[.slice A1 (limbs d).length c1] ?_
 refine (lclone d HMD.out.2 _ _ _ (RowL.c (RowL.kb (S := fun k => False) V_d.out B_d.out (fun _ _ h => h))) (RowL.le V_d.out)).mono ?_
 rintro e w106 ⟨v25, rfl, h1, hb⟩
 obtain ⟨A3, c3, rfl⟩ := RowL.slice h1
 have hle := Kb.size HB.out
 have hlr := blk_lt (bk_ V_r B_r N_r)
 have h1 := RowL.mono' (ok' := fun k => True ∧ k ≠ g_r ∧ w.heap.size ≤ k) h1 (fun k hk _ => ⟨trivial, by omega, by omega⟩)
 clear hle hlr
 refine ⟨_, rfl, ?_⟩
 refine hK.out _ _ (by exact blk_below hHeld hb) (fun hHeld => ?_)
 clear hK K
 refine nm_ (some 25) ?_
 replace HB := kb_b HB hb
 replace B_m := kb_b B_m hb
 replace B_d := kb_b B_d hb
 replace B_x := kb_b B_x hb
 replace B_r := kb_b B_r hb
 replace B_n := kb_b B_n hb
 clear hb
 have V_e := a0_ h1
 clear h1
 have B_e := a0_ (Kb.refl (fun k => False ∨ k = g_r) w106)
 clear V_m B_m
 clear V_d B_d
 refine pu_ 15 (some 26) 65535 HT_ ?_
 refine on_ 16 none 131071 HT_ (fun K hK => ?_)
 have bk_r := bk_ V_r B_r N_r
 have hz_r_0 : w106.cell? ⟨g_r, 0, none⟩ = some (.bool false) := (blk_cell bk_r 0).trans rfl
 have hf_r_0 := blk_frozen bk_r 0
 have hz_r_1 : w106.cell? ⟨g_r, 1, none⟩ = some (.slice none 0 0) := (blk_cell bk_r 1).trans rfl
 have hf_r_1 := blk_frozen bk_r 1
 have hz_r_2 : w106.cell? ⟨g_r, 2, none⟩ = some (.slice none 0 0) := (blk_cell bk_r 2).trans rfl
 have hf_r_2 := blk_frozen bk_r 2
 clear bk_r
 refine skip_ (w1 := ((w106.setCell ⟨g_r, 0, none⟩ (.bool false)).setCell ⟨g_r, 1, none⟩ (.slice A2 (limbs m).length c2)).setCell ⟨g_r, 2, none⟩ (.slice A3 (limbs d).length c3)) (by rfl) rfl ?_ ?_
 · first | (go_simp; done) | (go_simp; rfl)
 clear hz_r_0 hf_r_0 hz_r_1 hf_r_1 hz_r_2 hf_r_2
 have hbox : (((w106.setCell ⟨g_r, 0, none⟩ (.bool false)).setCell ⟨g_r, 1, none⟩ (.slice A2 (limbs m).length c2)).setCell ⟨g_r, 2, none⟩ (.slice A3 (limbs d).length c3)).heap[g_r]? = some (.cells #[.bool false, .slice A2 (limbs m).length c2, .slice A3 (limbs d).length c3] 30 (0, 0)) := blk_put (blk_put (blk_put (bk_ V_r B_r N_r) 0 _ rfl) 1 _ rfl) 2 _ rfl
 have hk : Kb (fun k => k = g_r) w106 (((w106.setCell ⟨g_r, 0, none⟩ (.bool false)).setCell ⟨g_r, 1, none⟩ (.slice A2 (limbs m).length c2)).setCell ⟨g_r, 2, none⟩ (.slice A3 (limbs d).length c3)) := (((Kb.refl (fun k => k = g_r) w106).setCell (p := ⟨g_r, 0, none⟩) (Or.inl rfl) _).setCell (p := ⟨g_r, 1, none⟩) (Or.inl rfl) _).setCell (p := ⟨g_r, 2, none⟩) (Or.inl rfl) _
 refine hK.out _ _ (by have q_ := hHeld; exact Kb.blk q_ hk (show ¬ (g_x = g_r) from fun e => by have := blk_lt V_x.out; have := O_r_x.out; omega)) (fun hHeld => ?_)
 clear hK K
 obtain ⟨w107, hw_⟩ : ∃ x, x = ((w106.setCell ⟨g_r, 0, none⟩ (.bool false)).setCell ⟨g_r, 1, none⟩ (.slice A2 (limbs m).length c2)).setCell ⟨g_r, 2, none⟩ (.slice A3 (limbs d).length c3) := ⟨_, rfl⟩
 rw [← hw_] at hk hbox hHeld ⊢
 clear hw_
 replace HB := kb_o HB hk G_r
 replace B_x := kb_o B_x hk O_r_x
 replace B_n := kb_t B_n hk (fun i hi => by exact Or.inl (Or.inr hi))
 replace B_e := kb_t B_e hk (fun i hi => by exact Or.inl (Or.inr hi))
 clear V_r B_r
 have V_r := a0_ hbox
 have B_r := kf_ w107
 clear hbox hk
 refine pu_ 17 (some 3) 262143 HT_ ?_
 refine do_ HT_ ?_
 clear HT_ HW_ hHeld
 go_wp2_with fail
 refine bodyPost_ret (results_ct rfl _ _ g_r 30 #[.bool false, .slice A2 (limbs m).length c2, .slice A3 (limbs d).length c3] (0, 0) _ rfl (bk_ V_r B_r N_r) Try.underlying30 rfl (by kernel_rfl)) rfl ?_
 exact ⟨⟨_, _, rfl, Kd.V_mono (RowL.kb (S := fun k => False ∨ k = g_r) V_n.out B_n.out (fun k h hs => hs.elim (fun f => f) h.2.1)) (fun k h => h.2.2), Kd.V_mono (RowL.kb (S := fun k => False ∨ k = g_r) V_e.out B_e.out (fun k h hs => hs.elim (fun f => f) h.2.1)) (fun k h => h.2.2)⟩, (Kb.to_below HB.out (fun _ h => h.elim))⟩
def Neg4false.T4 : Bool × List (List Nat × List Nat) := (true, [([], []), ([0], [0]), ([1], [1]), ([2], [2]), ([3], [3]), ([4, 3], [3, 4]), ([5, 3], [3, 5]), ([6, 3], [3, 6]), ([3, 7], [3, 7]), ([], []), ([9], [9]), ([10, 3], [10]), ([], []), ([12], [12]), ([13, 11], [13]), ([8, 11, 14], [8, 11, 14]), ([15, 14, 0, 1, 2, 3, 4, 5, 6, 7, 8, 9, 10, 11, 12, 13, 14, 15], [15]), ([16, 0, 1, 2, 3, 4, 5, 6, 7, 8, 9, 10, 11, 12, 13, 14, 15, 16], [])])
def Neg4false.B4 : List Nat := [0, 1, 3, 7, 15, 31, 63, 127, 255, 0, 512, 1551, 0, 4096, 15887, 32767, 65535, 131071]
theorem Neg4false.tab4 : rtab .any (opsOf Try.f24 4) = Neg4false.T4 := by kernel_rfl
theorem Neg4false.bits4 : waitsOk Neg4false.T4.2 Neg4false.B4 = true := by kernel_rfl
theorem neg_false (m d : Nat) (hm : m < 4294967296 ^ 16) (hd : d < 4294967296 ^ 16) (x : Rat) (w : World) (A0 : Option Addr) (c0 : Nat) (A1 : Option Addr) (c1 : Nat) (hx : IsR (fun _ => True) w (.agg #[.bool false, .slice A0 (limbs m).length c0, .slice A1 (limbs d).length c1]) x) (hr0 : RowL (fun _ => True) w (.slice A0 (limbs m).length c0) (limbs m)) (hr1 : RowL (fun _ => True) w (.slice A1 (limbs d).length c1) (limbs d)) :
 Calls Try.prog 24 #[.agg #[.bool false, .slice A0 (limbs m).length c0, .slice A1 (limbs d).length c1]] w fun e w' => (∃ v1 v2, e = .returned (.tuple #[.agg #[.bool (decide (0 < (limbs m).length)), v1, v2], .int .i64 0]) ∧ Kd.V (Kd.int .u32) 48 w' 0 (fun k => w.heap.size ≤ k) v1 (limbs m) ∧ Kd.V (Kd.int .u32) 48 w' 0 (fun k => w.heap.size ≤ k) v2 (limbs d)) ∧ Below w.heap.size w w' := by
 have hu30 := Try.underlying30
 have hu28 := Try.underlying28
 have HMD := a0_ (And.intro hm hd)
 clear hm hd
 have HB := kf_ w
 have V_q := a0_ hx
 clear hx
 have B_q := kf_ w
 have V_m := a0_ hr0
 clear hr0
 have B_m := kf_ w
 have V_d := a0_ hr1
 clear hr1
 have B_d := kf_ w
 obtain ⟨nz, hnz⟩ : ∃ b, b = decide (0 < (limbs m).length) := ⟨_, rfl⟩
 rw [← hnz]
 have hnz2 : decide ((0 : Int) < ((limbs m).length : Int)) = nz := by rw [hnz]; exact decide_eq_decide.2 (by omega)
 go_enter Try.func24, Try.ntmps24
 go_wp2_with (first | ((with_reducible refine gd_ 1 rfl ?_); refine bx_ (N := 1) #[.bool false, .slice A0 (limbs m).length c0, .slice A1 (limbs d).length c1] 30 ?_; intro g_x hg w101 hbox hb; have G_x := kb_g HB hg; replace HB := kb_b HB hb; replace B_q := kb_b B_q hb; replace B_m := kb_b B_m hb; replace B_d := kb_b B_d hb; clear hb; have V_x := a0_ hbox; have B_x := kf_ w101; have N_x := nf_ g_x; clear hbox hg) | ((with_reducible refine gd_ 2 rfl ?_); refine bx_ (N := 2) #[.bool false, .slice none 0 0, .slice none 0 0] 30 ?_; intro g_r hg w102 hbox hb; have G_r := kb_g HB hg; have O_r_x := kb_g B_x hg; replace HB := kb_b HB hb; replace B_q := kb_b B_q hb; replace B_m := kb_b B_m hb; replace B_d := kb_b B_d hb; replace B_x := kb_b B_x hb; clear hb; have V_r := a0_ hbox; have B_r := kf_ w102; have N_r := nf_ g_r; clear hbox hg) | ((with_reducible refine gd_ 5 rfl ?_); refine load_ev rfl rfl (g := g_x) rfl (bk_ V_x B_x N_x) ?_))
 with_reducible refine (qcheck_calls x _ _ (IsR.kb (S := fun k => False) V_q.out B_q.out (fun _ _ h => h))).mono ?_
 rintro e w103 ⟨rfl, hb⟩
 replace HB := kb_b HB hb
 replace B_q := kb_b B_q hb
 replace B_m := kb_b B_m hb
 replace B_d := kb_b B_d hb
 replace B_x := kb_b B_x hb
 replace B_r := kb_b B_r hb
 clear hb
 clear V_q B_q
 go_wp2_with fail
 have hb : Below w103.heap.size w103 w103.drew := below_drew1 (Below.refl _ _)
 replace HB := kb_b HB hb
 replace B_m := kb_b B_m hb
 replace B_d := kb_b B_d hb
 replace B_x := kb_b B_x hb
 replace B_r := kb_b B_r hb
 clear hb
 refine start_ (n := 18) (S := fun w' => w'.heap[g_x]? = some (.cells #[.bool false, .slice A0 (limbs m).length c0, .slice A1 (limbs d).length c1] 30 (0, 0))) (ds := []) (tB_ 18 0) (by kernel_rfl) rfl (by kernel_rfl) (bk_ V_x B_x N_x) (fun hHeld => ?_)
 refine with_tabW Neg4false.tab4 Neg4false.bits4 (fun HT_ HW_ => ?_)
 generalize w103.drew = w104 at HB B_m B_d B_x B_r hHeld ⊢
 refine pu_ 0 (some 11) 1 HT_ ?_
 refine tk_ 1 (some 12) 3 HT_ HW_ hHeld ?_ ?_ ?_ ?_ ?_
 rotate_left
 · intro w' hs
   have hb_ := hs
   obtain ⟨c0_, c1_, c2_⟩ := b3_ hb_
   clear hb_ hs
   go_simp
   with_reducible rfl
 rotate_left
 · simp only [PU]
   rfl
 refine pu_ 2 (some 13) 7 HT_ ?_
 refine pu_ 3 (some 14) 15 HT_ ?_
 refine pu_ 4 (some 15) 31 HT_ ?_
 refine tk_ 5 (some 16) 63 HT_ HW_ hHeld ?_ ?_ ?_ ?_ ?_
 rotate_left
 · intro w' hs
   have hb_ := hs
   obtain ⟨c0_, c1_, c2_⟩ := b3_ hb_
   clear hb_ hs
   go_simp
   with_reducible rfl
 rotate_left
 · simp only [PU]
   rfl
 refine pu_ 6 (some 17) 127 HT_ ?_
 refine pu_ 7 (some 18) 255 HT_ ?_
 refine pu_ 8 (some 19) 511 HT_ ?_
 refine pu_ 9 (some 20) 1023 HT_ ?_
 refine tk_ 10 (some 21) 2047 HT_ HW_ hHeld ?_ ?_ ?_ ?_ ?_
 rotate_left
 · intro w' hs
   have hb_ := hs
   obtain ⟨c0_, c1_, c2_⟩ := b3_ hb_
   clear hb_ hs
   go_simp
   with_reducible rfl
 rotate_left
 · simp only [PU]
   rfl
 refine pu_ 12 (some 23) 6143 HT_ ?_
 refine tk_ 13 (some 24) 14335 HT_ HW_ hHeld ?_ ?_ ?_ ?_ ?_
 rotate_left
 · intro w' hs
   have hb_ := hs
   obtain ⟨c0_, c1_, c2_⟩ := b3_ hb_
   clear hb_ hs
   go_simp
   with_reducible rfl
 rotate_left
 · simp only [PU]
   rfl
 refine on_ 11 (some 22) 16383 HT_ (fun K hK => ?_)
 refine gs_ Try.func31 #[.slice A0 (limbs m).length c0] ?_
 refine (lclone m HMD.out.1 _ _ _ (RowL.c (RowL.kb (S := fun k => False) V_m.out B_m.out (fun _ _ h => h))) (RowL.le V_m.out)).mono ?_
 rintro e w105 ⟨v22, rfl, h1, hb⟩
 obtain ⟨A2, c2, rfl⟩ := RowL.slice h1
 have hle := Kb.size HB.out
 have hlr := blk_lt (bk_ V_r B_r N_r)
 have h1 := RowL.mono' (ok' := fun k => True ∧ k ≠ g_r ∧ w.heap.size ≤ k) h1 (fun k hk _ => ⟨trivial, by omega, by omega⟩)
 clear hle hlr
 refine ⟨_, rfl, ?_⟩
 refine hK.out _ _ (by exact blk_below hHeld hb) (fun hHeld => ?_)
 clear hK K
 refine nm_ (some 22) ?_
 replace HB := kb_b HB hb
 replace B_m := kb_b B_m hb
 replace B_d := kb_b B_d hb
 replace B_x := kb_b B_x hb
 replace B_r := kb_b B_r hb
 clear hb
 have V_n := a0_ h1
 clear h1
 have B_n := a0_ (Kb.refl (fun k => False ∨ k = g_r) w105)
 refine on_ 14 (some 25) 32767 HT_ (fun K hK => ?_)
 refine gs_ Try.func31 #[.slice A1 (limbs d).length c1] ?_
 refine (lclone d HMD.out.2 _ _ _ (RowL.c (RowL.kb (S := fun k => False) V_d.out B_d.out (fun _ _ h => h))) (RowL.le V_d.out)).mono ?_
 rintro e w106 ⟨v25, rfl, h1, hb⟩
 obtain ⟨A3, c3, rfl⟩ := RowL.slice h1
 have hle := Kb.size HB.out
 have hlr := blk_lt (bk_ V_r B_r N_r)
 have h1 := RowL.mono' (ok' := fun k => True ∧ k ≠ g_r ∧ w.heap.size ≤ k) h1 (fun k hk _ => ⟨trivial, by omega, by omega⟩)
 clear hle hlr
 refine ⟨_, rfl, ?_⟩
 refine hK.out _ _ (by exact blk_below hHeld hb) (fun hHeld => ?_)
 clear hK K
 refine nm_ (some 25) ?_
 replace HB := kb_b HB hb
 replace B_m := kb_b B_m hb
 replace B_d := kb_b B_d hb
 replace B_x := kb_b B_x hb
 replace B_r := kb_b B_r hb
 replace B_n := kb_b B_n hb
 clear hb
 have V_e := a0_ h1
 clear h1
 have B_e := a0_ (Kb.refl (fun k => False ∨ k = g_r) w106)
 clear V_m B_m
 clear V_d B_d
 refine pu_ 15 (some 26) 65535 HT_ ?_
 refine on_ 16 none 131071 HT_ (fun K hK => ?_)
 have bk_r := bk_ V_r B_r N_r
 have hz_r_0 : w106.cell? ⟨g_r, 0, none⟩ = some (.bool false) := (blk_cell bk_r 0).trans rfl
 have hf_r_0 := blk_frozen bk_r 0
 have hz_r_1 : w106.cell? ⟨g_r, 1, none⟩ = some (.slice none 0 0) := (blk_cell bk_r 1).trans rfl
 have hf_r_1 := blk_frozen bk_r 1
 have hz_r_2 : w106.cell? ⟨g_r, 2, none⟩ = some (.slice none 0 0) := (blk_cell bk_r 2).trans rfl
 have hf_r_2 := blk_frozen bk_r 2
 clear bk_r
 refine skip_ (w1 := ((w106.setCell ⟨g_r, 0, none⟩ (.bool nz)).setCell ⟨g_r, 1, none⟩ (.slice A2 (limbs m).length c2)).setCell ⟨g_r, 2, none⟩ (.slice A3 (limbs d).length c3)) (by rfl) rfl ?_ ?_
 · first | (go_simp; done) | (go_simp; rfl)
 clear hz_r_0 hf_r_0 hz_r_1 hf_r_1 hz_r_2 hf_r_2
 have hbox : (((w106.setCell ⟨g_r, 0, none⟩ (.bool nz)).setCell ⟨g_r, 1, none⟩ (.slice A2 (limbs m).length c2)).setCell ⟨g_r, 2, none⟩ (.slice A3 (limbs d).length c3)).heap[g_r]? = some (.cells #[.bool nz, .slice A2 (limbs m).length c2, .slice A3 (limbs d).length c3] 30 (0, 0)) := blk_put (blk_put (blk_put (bk_ V_r B_r N_r) 0 _ rfl) 1 _ rfl) 2 _ rfl
 have hk : Kb (fun k => k = g_r) w106 (((w106.setCell ⟨g_r, 0, none⟩ (.bool nz)).setCell ⟨g_r, 1, none⟩ (.slice A2 (limbs m).length c2)).setCell ⟨g_r, 2, none⟩ (.slice A3 (limbs d).length c3)) := (((Kb.refl (fun k => k = g_r) w106).setCell (p := ⟨g_r, 0, none⟩) (Or.inl rfl) _).setCell (p := ⟨g_r, 1, none⟩) (Or.inl rfl) _).setCell (p := ⟨g_r, 2, none⟩) (Or.inl rfl) _
 refine hK.out _ _ (by have q_ := hHeld; exact Kb.blk q_ hk (show ¬ (g_x = g_r) from fun e => by have := blk_lt V_x.out; have := O_r_x.out; omega)) (fun hHeld => ?_)
 clear hK K
 obtain ⟨w107, hw_⟩ : ∃ x, x = ((w106.setCell ⟨g_r, 0, none⟩ (.bool nz)).setCell ⟨g_r, 1, none⟩ (.slice A2 (limbs m).length c2)).setCell ⟨g_r, 2, none⟩ (.slice A3 (limbs d).length c3) := ⟨_, rfl⟩
 rw [← hw_] at hk hbox hHeld ⊢
 clear hw_
 replace HB := kb_o HB hk G_r
 replace B_x := kb_o B_x hk O_r_x
 replace B_n := kb_t B_n hk (fun i hi => by exact Or.inl (Or.inr hi))
 replace B_e := kb_t B_e hk (fun i hi => by exact Or.inl (Or.inr hi))
 clear V_r B_r
 have V_r := a0_ hbox
 have B_r := kf_ w107
 clear hbox hk
 refine pu_ 17 (some 3) 262143 HT_ ?_
 refine do_ HT_ ?_
 clear HT_ HW_ hHeld
 go_wp2_with fail
 refine bodyPost_ret (results_ct rfl _ _ g_r 30 #[.bool nz, .slice A2 (limbs m).length c2, .slice A3 (limbs d).length c3] (0, 0) _ rfl (bk_ V_r B_r N_r) Try.underlying30 rfl (by kernel_rfl)) rfl ?_
 exact ⟨⟨_, _, rfl, Kd.V_mono (RowL.kb (S := fun k => False ∨ k = g_r) V_n.out B_n.out (fun k h hs => hs.elim (fun f => f) h.2.1)) (fun k h => h.2.2), Kd.V_mono (RowL.kb (S := fun k => False ∨ k = g_r) V_e.out B_e.out (fun k h hs => hs.elim (fun f => f) h.2.1)) (fun k h => h.2.2)⟩, (Kb.to_below HB.out (fun _ h => h.elim))⟩
theorem neg_num (x : Rat) : (-x).num = -x.num ∧ (-x).den = x.den := ⟨Rat.neg_num x, Rat.neg_den x⟩
theorem qneg_calls {ok : Nat → Prop} (x : Rat) (w : World) (va : Value) (ha : IsR ok w va x) : Calls Try.prog 24 #[va] w fun e w' => (∃ v, e = .returned (.tuple #[v, .int .i64 0]) ∧ IsR (fun k => w.heap.size ≤ k) w' v (-x)) ∧ Below w.heap.size w w' := by
 have hx := IsR.mono ha (ok' := fun _ => True) (fun _ _ => trivial)
 obtain ⟨e1, e2⟩ := neg_num x
 have hf : FitR (-x) := ⟨by rw [e1, Int.natAbs_neg]; exact ha.1.1, by rw [e2]; exact ha.1.2⟩
 have key : ∀ (s : Bool) (w' : World) (v1 v2 : Value), s = decide ((-x).num < 0) → Kd.V (Kd.int .u32) 48 w' 0 (fun k => w.heap.size ≤ k) v1 (limbs x.num.natAbs) → Kd.V (Kd.int .u32) 48 w' 0 (fun k => w.heap.size ≤ k) v2 (limbs x.den) → IsR (fun k => w.heap.size ≤ k) w' (.agg #[.bool s, v1, v2]) (-x) := by
  intro s w' v1 v2 hs h1 h2
  refine ⟨hf, v1, v2, by rw [hs], ?_, ?_⟩
  · rw [e1, Int.natAbs_neg]; exact h1
  · rw [e2]; exact h2
 obtain ⟨A0, c0, A1, c1, rfl, hr0, hr1⟩ := hx.rows
 by_cases hn : x.num < 0
 · rw [decide_eq_true hn] at hx ⊢
   refine (neg_true _ _ hx.1.1 hx.1.2 x w A0 c0 A1 c1 hx hr0 hr1).mono ?_
   rintro e w' ⟨⟨v1, v2, rfl, h1, h2⟩, hb⟩
   exact ⟨⟨_, rfl, key _ _ _ _ (by rw [e1]; exact (decide_eq_false (by omega)).symm) h1 h2⟩, hb⟩
 · rw [decide_eq_false hn] at hx ⊢
   refine (neg_false _ _ hx.1.1 hx.1.2 x w A0 c0 A1 c1 hx hr0 hr1).mono ?_
   rintro e w' ⟨⟨v1, v2, rfl, h1, h2⟩, hb⟩
   refine ⟨⟨_, rfl, key _ _ _ _ ?_ h1 h2⟩, hb⟩
   rw [e1]
   refine decide_eq_decide.2 ⟨fun h => ?_, fun h => ?_⟩
   · have : x.num.natAbs ≠ 0 := fun e => by rw [e, limbs_zero] at h; exact absurd h (by decide)
     omega
   · exact List.length_pos_iff.2 (limbs_ne (by omega))
end Go.Proofs.Ytgdkgahbmfhgcaa.PN
