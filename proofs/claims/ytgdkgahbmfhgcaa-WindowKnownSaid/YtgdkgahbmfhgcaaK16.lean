/- What the statement rests on, part 16: YI. -/
import Derived.Test.YtgdkgahbmfhgcaaK15
set_option linter.unusedVariables false
set_option linter.unusedSimpArgs false
set_option maxHeartbeats 4000000
set_option maxRecDepth 100000
namespace Go.Proofs.Ytgdkgahbmfhgcaa.PN
open Go.RowKit Go.Proofs.Ytgdkgahbmfhgcaa.NS Go.Proofs.Ytgdkgahbmfhgcaa.Limbs Go.Proofs.YtgdkgahbmfhgcaaW.PrintWords Go.Proofs.YtgdkgahbmfhgcaaW.PrintLast Go.Proofs.YtgdkgahbmfhgcaaW.PrintMore
theorem row_of {α : Type} (d : Kd α) {e base : Nat} {W : World} {xs : List α} {inner : List Value} {ok : Nat → Prop} {g t : Nat} (h : W.heap[g]? = some (.cells inner.toArray t (0, 0))) (hlen : xs.length ≤ 9223372036854775807) (hr : Reps (Kd.FK d W ok) d.sz xs inner) : Kd.V d e W base (fun k => k = g ∨ ok k) (.slice (some ⟨g, 0, none⟩) xs.length xs.length) xs := by
 refine Kd.V_mk (Nat.le_refl _) (fun W' hW => ?_)
 have h2 : W'.heap[g]? = some (.cells inner.toArray t (0, 0)) := (hW g (.inl rfl) (blk_lt h)).trans h
 refine ⟨rfl, hlen, fun _ => ⟨⟨g, 0, none⟩, rfl, fun j p hp => ?_⟩⟩
 have hk := hr.2 j p hp W' (fun k hk hl => hW k (.inr hk) hl)
 refine ⟨_, d.K_len hk, hk, fun i u hu => ?_⟩
 have hi : i < d.sz := by
  have := (List.getElem?_eq_some_iff.1 hu).1
  rw [List.length_take] at this
  omega
 rw [List.getElem?_take_of_lt hi, List.getElem?_drop] at hu
 have h3 : W'.cell? ⟨g, j * d.sz + i, none⟩ = some u := (blk_cell h2 (j * d.sz + i)).trans (by rw [List.getElem?_toArray]; exact hu)
 have e : (⟨g, 0, none⟩ : Addr).add (j * d.sz + i) = ⟨g, j * d.sz + i, none⟩ := by unfold Addr.add; split <;> simp_all
 rw [e]
 exact h3
theorem reps2 {ok : Nat → Prop} {w : World} {x0 x1 : Rat} {a0 a1 a2 b0 b1 b2 : Value} (h0 : Kd.FK kdR w ok x0 [a0, a1, a2]) (h1 : Kd.FK kdR w ok x1 [b0, b1, b2]) : Reps (Kd.FK kdR w ok) kdR.sz [x0, x1] [a0, a1, a2, b0, b1, b2] := ⟨rfl, fun j p hp => by
 match j, hp with
 | 0, hp => obtain rfl := Option.some.inj hp; exact h0
 | 1, hp => obtain rfl := Option.some.inj hp; exact h1
 | j + 2, hp => simp at hp⟩
theorem smp_row {w : World} {g : Nat} {t : Bool} {A0 A1 : Option Addr} {n0 c0 n1 c1 : Nat} (h : w.heap[g]? = some (.cells #[.int .i64 0, .int .i64 0, .bool t, .slice A0 n0 c0, .slice A1 n1 c1] 39 (0, 0))) : RowS (fun _ => True) w (.slice (some ⟨g, 0, none⟩) ([⟨0, 0, none⟩] : List Smp).length 1) [⟨0, 0, none⟩] :=
 RowS.mono (row_of kdS (xs := [⟨0, 0, none⟩]) h (by decide) (reps1 (ok := fun _ => False) (kdS_FK' (x := ⟨0, 0, none⟩) (c := ⟨t, A0, n0, c0, A1, n1, c1⟩) (fun q hq => by cases hq)))) (fun _ _ => trivial)
theorem bad01 : Bad false [0] [1] := ⟨by intro x hx; obtain rfl := List.mem_singleton.1 hx; omega, by intro x hx; obtain rfl := List.mem_singleton.1 hx; omega, fun ⟨m, d, h1, _, _⟩ => by
 have h2 := V_limbs m
 rw [← h1] at h2
 have h3 : m = 0 := by rw [← h2]; decide
 rw [h3, limbs_zero] at h1
 exact absurd h1 (by decide)⟩
theorem odd_of {args : Array Value} {W : World} {c : Int} (h : Calls Try.prog 16 args W fun e w' => e = .returned (.tuple #[.agg #[.bool false, .slice none 0 0, .slice none 0 0], .bool false, .int .i64 c]) ∧ Below W.heap.size W w') :
 Calls Try.prog 16 args W fun e w' => (∃ v, e = .returned (.tuple #[v, .bool false, .int .i64 c]) ∧ Res (fun _ => True) w' v none) ∧ Below W.heap.size W w' := by
 refine h.mono ?_
 rintro e w' ⟨rfl, hb⟩
 exact ⟨⟨_, rfl, IsT.zero _ _⟩, hb⟩
theorem run_none {args : Array Value} {W : World} {P : Option Rat → Prop} (h : Calls Try.prog 16 args W fun e w' => (∃ v ans, P ans ∧ e = .returned (.tuple #[v, .bool ans.isSome, .int .i64 (eno ans)]) ∧ Res (fun k => W.heap.size ≤ k) w' v ans) ∧ Below W.heap.size W w') (hp : ∀ a, P a → a = none) :
 Calls Try.prog 16 args W fun e w' => (∃ v, e = .returned (.tuple #[v, .bool false, .int .i64 20]) ∧ Res (fun _ => True) w' v none) ∧ Below W.heap.size W w' := by
 refine h.mono ?_
 rintro e w' ⟨⟨v, ans, hP, rfl, hv⟩, hb⟩
 obtain rfl := hp ans hP
 exact ⟨⟨v, rfl, Res.mono hv (fun _ _ => trivial)⟩, hb⟩
theorem sorted2 {qs l : List Rat} (hp : qs.Perm l) (hw : qs.Pairwise (· ≤ ·)) (a b : Rat) (hl : l = [a, b]) (hab : b ≤ a) : qs = [b, a] := by
 subst hl
 exact List.Perm.eq_of_pairwise (fun a b _ _ h1 h2 => Rat.le_antisymm h1 h2) hw (by simpa using hab) (hp.trans (List.Perm.swap _ _ _))
def Known3.T3 : Bool × List (List Nat × List Nat) := (true, [([], []), ([0], [0]), ([1, 1], [1]), ([2], [2]), ([3, 2, 2], [2, 3]), ([2, 4], [2, 4]), ([5, 4], [5]), ([6], [6]), ([7, 6, 6], [6, 7]), ([6, 8], [6, 8]), ([9, 8], [9]), ([10], [10]), ([11, 10, 10], [10, 11]), ([10, 12], [10, 12]), ([13, 12], [13]), ([14], [14]), ([14], [14]), ([14, 14], [14]), ([15, 16, 17, 17, 14], [14, 15, 16, 17]), ([14, 18], [14, 18]), ([19, 18], [19]), ([20], [20]), ([20], [20]), ([22, 20], [20, 22]), ([21, 23, 20, 20], [20, 21, 23]), ([20, 24], [20, 24]), ([25, 24], [25]), ([26], [26]), ([26], [26]), ([28, 26], [26, 28]), ([29, 26], [26, 29]), ([27, 30, 26, 26], [26, 27, 30]), ([26, 31], [26, 31]), ([32, 31], [32]), ([33], [33]), ([33], [33]), ([35, 33], [33, 35]), ([36, 33], [33, 36]), ([33, 33], [33]), ([34, 37, 38, 38, 33], [33, 34, 37, 38]), ([33, 39], [33, 39]), ([40, 39], [40]), ([41], [41]), ([41], [41]), ([42, 43, 41, 41], [41, 42, 43]), ([41, 44], [41, 44]), ([45, 44], [45]), ([46, 46], [46]), ([46], [46]), ([47, 48, 47, 46], [46, 47, 48]), ([46, 49], [46, 49]), ([50, 49], [50]), ([51, 51], [51]), ([51], [51]), ([52, 53, 52, 51], [51, 52, 53]), ([51, 54], [51, 54]), ([55, 54, 0, 1, 2, 3, 4, 5, 6, 7, 8, 9, 10, 11, 12, 13, 14, 15, 16, 17, 18, 19, 20, 21, 22, 23, 24, 25, 26, 27, 28, 29, 30, 31, 32, 33, 34, 35, 36, 37, 38, 39, 40, 41, 42, 43, 44, 45, 46, 47, 48, 49, 50, 51, 52, 53, 54, 55], [55])])
def Known3.B3 : List Nat := [0, 1, 3, 7, 15, 31, 63, 127, 255, 511, 1023, 2047, 4095, 8191, 16383, 32767, 32767, 32767, 262143, 524287, 1048575, 2097151, 2097151, 6291455, 16777215, 33554431, 67108863, 134217727, 134217727, 402653183, 939524095, 2147483647, 4294967295, 8589934591, 17179869183, 17179869183, 51539607551, 120259084287, 17179869183, 549755813887, 1099511627775, 2199023255551, 4398046511103, 4398046511103, 17592186044415, 35184372088831, 70368744177663, 140737488355327, 140737488355327, 562949953421311, 1125899906842623, 2251799813685247, 4503599627370495, 4503599627370495, 18014398509481983, 36028797018963967, 72057594037927935]
theorem Known3.tab3 : rtab .any (opsOf Try.f7 3) = Known3.T3 := by kernel_rfl
theorem Known3.bits3 : waitsOk Known3.T3.2 Known3.B3 = true := by kernel_rfl
def Known6.T6 : Bool × List (List Nat × List Nat) := (true, [([], []), ([0], [0]), ([1], [1]), ([2], [2]), ([2], [2]), ([2], [2]), ([2], [2]), ([4, 5, 6, 2], [2, 4, 5, 6]), ([7, 2, 2], [2, 7]), ([3, 8, 8, 2], [2, 3, 8]), ([2, 9], [2, 9]), ([10, 9], [10]), ([11], [11]), ([11], [11]), ([11], [11]), ([11], [11]), ([13, 14, 15, 11], [11, 13, 14, 15]), ([16, 11, 11], [11, 16]), ([11], [11]), ([12, 17, 18, 17, 11], [11, 12, 17, 18]), ([11, 19], [11, 19]), ([20, 19], [20]), ([21], [21]), ([21], [21]), ([21], [21]), ([23, 24, 21], [21, 23, 24]), ([25, 21, 21], [21, 25]), ([21], [21]), ([22, 26, 27, 26, 21], [21, 22, 26, 27]), ([21, 28], [21, 28]), ([29, 28], [29]), ([30], [30]), ([30], [30]), ([30], [30]), ([32, 33, 30], [30, 32, 33]), ([34, 30, 30], [30, 34]), ([31, 35, 35, 30], [30, 31, 35]), ([30, 36], [30, 36]), ([37, 36], [37]), ([38, 38], [38]), ([38], [38]), ([38], [38]), ([40, 41, 38], [38, 40, 41]), ([42, 39, 38], [38, 42]), ([39, 43, 43, 38], [38, 39, 43]), ([38, 44], [38, 44]), ([45, 44], [45]), ([46], [46]), ([46], [46]), ([46], [46]), ([48, 49, 46], [46, 48, 49]), ([50, 46, 46], [46, 50]), ([46], [46]), ([47, 51, 52, 51, 46], [46, 47, 51, 52]), ([46, 53], [46, 53]), ([54, 53, 0, 1, 2, 3, 4, 5, 6, 7, 8, 9, 10, 11, 12, 13, 14, 15, 16, 17, 18, 19, 20, 21, 22, 23, 24, 25, 26, 27, 28, 29, 30, 31, 32, 33, 34, 35, 36, 37, 38, 39, 40, 41, 42, 43, 44, 45, 46, 47, 48, 49, 50, 51, 52, 53, 54], [54])])
def Known6.B6 : List Nat := [0, 1, 3, 7, 7, 7, 7, 119, 247, 511, 1023, 2047, 4095, 4095, 4095, 4095, 61439, 126975, 4095, 524287, 1048575, 2097151, 4194303, 4194303, 4194303, 29360127, 62914559, 4194303, 268435455, 536870911, 1073741823, 2147483647, 2147483647, 2147483647, 15032385535, 32212254719, 68719476735, 137438953471, 274877906943, 549755813887, 549755813887, 549755813887, 3848290697215, 8796093022207, 17592186044415, 35184372088831, 70368744177663, 140737488355327, 140737488355327, 140737488355327, 985162418487295, 2111062325329919, 140737488355327, 9007199254740991, 18014398509481983, 36028797018963967]
theorem Known6.tab6 : rtab .any (opsOf Try.f7 6) = Known6.T6 := by kernel_rfl
theorem Known6.bits6 : waitsOk Known6.T6.2 Known6.B6 = true := by kernel_rfl
def Known7.T7 : Bool × List (List Nat × List Nat) := (true, [([], []), ([], []), ([0, 1], [0, 1]), ([2, 2], [2]), ([3], [3]), ([4, 3, 3], [3, 4]), ([3, 5], [3, 5]), ([6, 5], [6]), ([7], [7]), ([7], [7]), ([8, 9, 7, 7], [7, 8, 9]), ([7, 10], [7, 10]), ([11, 10], [11]), ([12], [12]), ([12], [12]), ([12, 12], [12]), ([13, 14, 15, 15, 12], [12, 13, 14, 15]), ([12, 16], [12, 16]), ([17, 16], [17]), ([18], [18]), ([18], [18]), ([18, 18], [18]), ([19, 20, 21, 21, 18], [18, 19, 20, 21]), ([18, 22], [18, 22]), ([23, 22], [23]), ([24], [24]), ([24], [24]), ([24, 24], [24]), ([25, 26, 27, 27, 24], [24, 25, 26, 27]), ([24, 28], [24, 28]), ([29, 28, 0, 1, 2, 3, 4, 5, 6, 7, 8, 9, 10, 11, 12, 13, 14, 15, 16, 17, 18, 19, 20, 21, 22, 23, 24, 25, 26, 27, 28, 29], [29])])
def Known7.B7 : List Nat := [0, 0, 3, 7, 15, 31, 63, 127, 255, 255, 1023, 2047, 4095, 8191, 8191, 8191, 65535, 131071, 262143, 524287, 524287, 524287, 4194303, 8388607, 16777215, 33554431, 33554431, 33554431, 268435455, 536870911, 1073741823]
theorem Known7.tab7 : rtab .any (opsOf Try.f7 7) = Known7.T7 := by kernel_rfl
theorem Known7.bits7 : waitsOk Known7.T7.2 Known7.B7 = true := by kernel_rfl
theorem known_calls (w : World) :
 Calls Try.prog 7 #[] w fun e w' => e = .returned (.bool true) ∧ Below w.heap.size w w' := by
 have hu30 := Try.underlying30
 have hu39 := Try.underlying39
 have hu28 := Try.underlying28
 have HB := kf_ w
 go_enter Try.func7, Try.ntmps7
 go_wp2_with fail
 with_reducible refine (qof_calls 0 (by omega) (by omega) _).mono ?_
 rintro e w101 ⟨⟨v, rfl, hv⟩, hb⟩
 obtain ⟨tu, Au, nu, cu, Du, ku, zu, rfl⟩ := hv.agg
 have hle := Kb.size HB.out
 have hv_ := IsR.mono' (ok' := fun k => True) hv (fun k hk _ => by trivial)
 clear hv hle
 replace HB := kb_b HB hb
 clear hb
 have V_u := a0_ hv_
 clear hv_
 have B_u := kf_ w101
 go_wp2_with (first | ((with_reducible refine gd_ 12 rfl ?_); refine lit_event ?hg (N := 12) ?hd (cs := #[.int .u32 0]) (t := 48) ?hr ?_; (case hd => rfl); (case hg => rfl); (case hr => first | (go_simp; done) | (go_simp; rfl)); intro g_b0 hg w102 hbox hb; have G_b0 := kb_g HB hg; replace HB := kb_b HB hb; replace B_u := kb_b B_u hb; clear hb; have V_b0 := a0_ hbox; have B_b0 := kf_ w102; have N_b0 := nf_ g_b0; clear hbox hg) | ((with_reducible refine gd_ 13 rfl ?_); refine lit_event ?hg (N := 13) ?hd (cs := #[.int .u32 1]) (t := 48) ?hr ?_; (case hd => rfl); (case hg => rfl); (case hr => first | (go_simp; done) | (go_simp; rfl)); intro g_b1 hg w103 hbox hb; have G_b1 := kb_g HB hg; replace HB := kb_b HB hb; replace B_u := kb_b B_u hb; replace B_b0 := kb_b B_b0 hb; clear hb; have V_b1 := a0_ hbox; have B_b1 := kf_ w103; have N_b1 := nf_ g_b1; clear hbox hg) | ((with_reducible refine gd_ 1 rfl ?_); refine bx_ (N := 1) #[.bool false, .slice none 0 0, .slice none 0 0] 30 ?_; intro g_n hg w104 hbox hb; have G_n := kb_g HB hg; have O_n_u := kb_g B_u hg; have O_n_b0 := kb_g B_b0 hg; have O_n_b1 := kb_g B_b1 hg; replace HB := kb_b HB hb; replace B_u := kb_b B_u hb; replace B_b0 := kb_b B_b0 hb; replace B_b1 := kb_b B_b1 hb; clear hb; have V_n := a0_ hbox; have B_n := kf_ w104; have N_n := nf_ g_n; clear hbox hg) | ((with_reducible refine gd_ 2 rfl ?_); refine bx_ (N := 2) #[.bool false, .slice none 0 0, .slice none 0 0] 30 ?_; intro g_b hg w105 hbox hb; have G_b := kb_g HB hg; have O_b_u := kb_g B_u hg; have O_b_b0 := kb_g B_b0 hg; have O_b_b1 := kb_g B_b1 hg; have O_b_n := kb_g B_n hg; replace HB := kb_b HB hb; replace B_u := kb_b B_u hb; replace B_b0 := kb_b B_b0 hb; replace B_b1 := kb_b B_b1 hb; replace B_n := kb_b B_n hb; clear hb; have V_b := a0_ hbox; have B_b := kf_ w105; have N_b := nf_ g_b; clear hbox hg) | ((with_reducible refine gt_ 30 1 11 rfl ?_); refine store_ev (p := .tmp 1) (v := .tmp 11) rfl rfl rfl (g := g_n) rfl rfl (bk_ V_n B_n N_n) ?_; intro w106 hbox hk; replace HB := kb_o HB hk G_n; replace B_u := kb_o B_u hk O_n_u; replace B_b0 := kb_o B_b0 hk O_n_b0; replace B_b1 := kb_o B_b1 hk O_n_b1; have D_b_n : Aside0 (¬ (g_b = g_n)) := ⟨fun e => by have := O_b_n.out; have := blk_lt V_n.out; omega⟩; have D_n_b : Aside0 (¬ (g_n = g_b)) := ⟨fun e => D_b_n.out e.symm⟩; have hz_ := Kb.blk (bk_ V_b B_b N_b) hk D_b_n.out; clear V_b B_b; have V_b := a0_ hz_; have B_b := kf_ w106; clear hz_; clear V_n B_n; have V_n := a0_ hbox; have B_n := kf_ w106; clear hbox hk) | ((with_reducible refine gt_ 30 2 14 rfl ?_); refine store_ev (p := .tmp 2) (v := .tmp 14) rfl rfl rfl (g := g_b) rfl rfl (bk_ V_b B_b N_b) ?_; intro w107 hbox hk; replace HB := kb_o HB hk G_b; replace B_u := kb_o B_u hk O_b_u; replace B_b0 := kb_o B_b0 hk O_b_b0; replace B_b1 := kb_o B_b1 hk O_b_b1; have hz_ := Kb.blk (bk_ V_n B_n N_n) hk D_n_b.out; clear V_n B_n; have V_n := a0_ hz_; have B_n := kf_ w107; clear hz_; clear V_b B_b; have V_b := a0_ hbox; have B_b := kf_ w107; clear hbox hk))
 have hr0 := one_row (x := 0) (bk_ V_b0 B_b0 N_b0)
 have hr1 := one_row (x := 1) (bk_ V_b1 B_b1 N_b1)
 have HCK : Aside0 (∀ W, Kb (fun k => False) w107 W → Calls Try.prog 17 #[.agg #[.bool false, .slice (some ⟨g_b0, 0, none⟩) 1 1, .slice (some ⟨g_b1, 0, none⟩) 1 1]] W fun e w' => (∃ c : Int, c ≠ 0 ∧ e = .returned (.int .i64 c)) ∧ Below W.heap.size W w') := ⟨fun W hW => chk_bad false [0] [1] bad01 (some ⟨g_b0, 0, none⟩) 1 (some ⟨g_b1, 0, none⟩) 1 W (Kd.C_below (Kd.V_reads' hr0).2.2 (Kb.to_below hW (fun _ h => h.elim))) (Nat.le_refl 1) (Kd.C_below (Kd.V_reads' hr1).2.2 (Kb.to_below hW (fun _ h => h.elim))) (Nat.le_refl 1)⟩
 clear hr0 hr1
 clear V_b0 B_b0
 clear V_b1 B_b1
 have B_ck := kf_ w107
 with_reducible refine (qof_calls 3 (by omega) (by omega) _).mono ?_
 rintro e w108 ⟨⟨v, rfl, hv⟩, hb⟩
 obtain ⟨tx, Ax, nx, cx, Dx, kx, zx, rfl⟩ := hv.agg
 have hle := Kb.size HB.out
 have hv_ := IsR.mono' (ok' := fun k => True) hv (fun k hk _ => by trivial)
 clear hv hle
 replace HB := kb_b HB hb
 replace B_u := kb_b B_u hb
 replace B_n := kb_b B_n hb
 replace B_b := kb_b B_b hb
 replace B_ck := kb_b B_ck hb
 clear hb
 have V_x := a0_ hv_
 clear hv_
 have B_x := kf_ w108
 go_wp2_with fail
 with_reducible refine (part_calls 1 2 (by omega) (by omega) (by omega) (by omega) (by decide +kernel) _).mono ?_
 rintro e w109 ⟨⟨v, rfl, hv⟩, hb⟩
 obtain ⟨ty, Ay, ny, cy, Dy, ky, zy, rfl⟩ := hv.agg
 have hle := Kb.size HB.out
 have hv_ := IsR.mono' (ok' := fun k => True) hv (fun k hk _ => by trivial)
 clear hv hle
 replace HB := kb_b HB hb
 replace B_u := kb_b B_u hb
 replace B_n := kb_b B_n hb
 replace B_b := kb_b B_b hb
 replace B_ck := kb_b B_ck hb
 replace B_x := kb_b B_x hb
 clear hb
 have V_y := a0_ hv_
 clear hv_
 have B_y := kf_ w109
 go_wp2_with fail
 with_reducible refine (qof_calls 5 (by omega) (by omega) _).mono ?_
 rintro e w110 ⟨⟨v, rfl, hv⟩, hb⟩
 obtain ⟨tz, Az, nz, cz, Dz, kz, zz, rfl⟩ := hv.agg
 have hle := Kb.size HB.out
 have hv_ := IsR.mono' (ok' := fun k => True) hv (fun k hk _ => by trivial)
 clear hv hle
 replace HB := kb_b HB hb
 replace B_u := kb_b B_u hb
 replace B_n := kb_b B_n hb
 replace B_b := kb_b B_b hb
 replace B_ck := kb_b B_ck hb
 replace B_x := kb_b B_x hb
 replace B_y := kb_b B_y hb
 clear hb
 have V_z := a0_ hv_
 clear hv_
 have B_z := kf_ w110
 go_wp2_with (first | ((with_reducible refine gd_ 18 rfl ?_); refine Kd.N_lit kdR (w0 := w110) w110.heap.size 30 ?hg (N' := 18) ?hd (xs := l3) (inner := [.bool tx, .slice Ax nx cx, .slice Dx kx zx, .bool ty, .slice Ay ny cy, .slice Dy ky zy, .bool tz, .slice Az nz cz, .slice Dz kz zz]) (ok := fun _ => True) (okp := fun _ => True) ?hr ?hp (fun _ h => h) trivial (Below.refl _ _) (Nat.le_refl _) (by decide) ?_; (case hd => rfl); (case hg => rfl); (case hr => first | (go_simp; done) | (go_simp; rfl)); (case hp => exact reps3 (IsR.mk' (IsR.kb (S := fun k => False) V_x.out B_x.out (fun _ _ h => h))) (IsR.mk' (IsR.kb (S := fun k => False) V_y.out B_y.out (fun _ _ h => h))) (IsR.mk' (IsR.kb (S := fun k => False) V_z.out B_z.out (fun _ _ h => h)))); intro v_ wl18 hn hb hg_ hnew_; have hl3 : RowQ (fun _ => True) wl18 v_ l3 := Kd.N_V hn; clear hn hg_ hnew_; replace HB := kb_b HB hb; replace B_u := kb_b B_u hb; replace B_n := kb_b B_n hb; replace B_b := kb_b B_b hb; replace B_ck := kb_b B_ck hb; replace B_x := kb_b B_x hb; replace B_y := kb_b B_y hb; replace B_z := kb_b B_z hb; clear hb))
 clear V_x B_x
 clear V_y B_y
 clear V_z B_z
 with_reducible refine (of_calls l3 (by decide) _ _ hl3).mono ?_
 rintro e w112 ⟨⟨v, rfl, hv⟩, hb⟩
 clear hl3
 obtain ⟨As, cs, rfl⟩ := RowS.slice hv
 have hv := RowS.mono hv (ok' := fun _ => True) (fun _ _ => trivial)
 replace HB := kb_b HB hb
 replace B_u := kb_b B_u hb
 replace B_n := kb_b B_n hb
 replace B_b := kb_b B_b hb
 replace B_ck := kb_b B_ck hb
 clear hb
 obtain ⟨ss, hss⟩ : ∃ s, s = smpsOf l3 := ⟨_, rfl⟩
 rw [← hss] at hv
 rw [← hss]
 have HS := a0_ (show ss.length = 3 ∧ ByS ss ∧ ValS ss l3 ∧ bytesQ ss = [((0 : Int) : Rat), ((1 : Int) : Rat), ((2 : Int) : Rat)] from by rw [hss]; exact ⟨by rw [smpsOf_len]; rfl, smpsOf_by _ (by decide), smpsOf_val _, by decide +kernel⟩)
 clear hss
 have V_s := a0_ hv
 clear hv
 have B_s := kf_ w112
 have hs0 : 0 < ss.length := by rw [HS.out.1]; decide
 have hs1 : ss.length ≤ 1000000 := by rw [HS.out.1]; decide
 have hs2 : ss.length ≤ 20 := by rw [HS.out.1]; decide
 have HF := a0_ (And.intro hs0 (And.intro hs1 hs2))
 clear hs0 hs1 hs2
 go_wp2_with fail
 have hb : Below w112.heap.size w112 w112.drew := below_drew1 (Below.refl _ _)
 replace HB := kb_b HB hb
 replace B_u := kb_b B_u hb
 replace B_n := kb_b B_n hb
 replace B_b := kb_b B_b hb
 replace B_ck := kb_b B_ck hb
 replace B_s := kb_b B_s hb
 clear hb
 refine start_ (n := 57) (S := fun w' => w'.heap[g_n]? = some (.cells #[.bool tu, .slice Au nu cu, .slice Du ku zu] 30 (0, 0)) ∧ w'.heap[g_b]? = some (.cells #[.bool false, .slice (some ⟨g_b0, 0, none⟩) 1 1, .slice (some ⟨g_b1, 0, none⟩) 1 1] 30 (0, 0))) (ds := []) (tB_ 57 0) (by kernel_rfl) rfl (by kernel_rfl) ⟨bk_ V_n B_n N_n, bk_ V_b B_b N_b⟩ (fun hHeld => ?_)
 refine with_tabW Known3.tab3 Known3.bits3 (fun HT_ HW_ => ?_)
 generalize w112.drew = w113 at HB B_u B_n B_b B_ck B_s hHeld ⊢
 refine tk_ 0 (some 20) 1 HT_ HW_ hHeld ?_ ?_ ?_ ?_ ?_
 rotate_left
 · intro w' hs
   have hb_ := hs.1
   obtain ⟨c0_, c1_, c2_⟩ := b3_ hb_
   clear hb_ hs
   go_simp
   with_reducible rfl
 rotate_left
 · simp only [PU]
   rfl
 refine on_ 1 (some 21) 3 HT_ (fun K hK => ?_)
 refine gs_ Try.func22 #[.int .i64 0, .int .i64 1, .agg #[.bool tu, .slice Au nu cu, .slice Du ku zu], .slice none 0 0, .int .i64 2] ?_
 refine (odd_true 0 1 2 _ _ _ _ _ _ _ _ _ _ _ (fun W hW => odd_of (wbad_calls 0 1 0 W _ _ _ _ _ _ _ _ _ (fun W2 hW2 => mayf0 W2 _ _ _ _ _ _ _ _ _ _)))).mono ?_
 rintro e w114 ⟨rfl, hb⟩
 refine ⟨_, rfl, ?_⟩
 refine hK.out _ _ (by exact ⟨blk_below hHeld.1 hb, blk_below hHeld.2 hb⟩) (fun hHeld => ?_)
 clear hK K
 refine nm_ (some 21) ?_
 replace HB := kb_b HB hb
 replace B_u := kb_b B_u hb
 replace B_n := kb_b B_n hb
 replace B_b := kb_b B_b hb
 replace B_ck := kb_b B_ck hb
 replace B_s := kb_b B_s hb
 clear hb
 refine pu_ 2 (some 22) 7 HT_ ?_
 refine tk_ 3 (some 23) 15 HT_ HW_ hHeld ?_ ?_ ?_ ?_ ?_
 rotate_left
 · intro w' hs
   have hb_ := hs.1
   obtain ⟨c0_, c1_, c2_⟩ := b3_ hb_
   clear hb_ hs
   go_simp
   with_reducible rfl
 rotate_left
 · simp only [PU]
   rfl
 refine on_ 4 (some 24) 31 HT_ (fun K hK => ?_)
 refine gs_ Try.func22 #[.int .i64 13, .int .i64 1, .agg #[.bool tu, .slice Au nu cu, .slice Du ku zu], .slice none 0 0, .int .i64 2] ?_
 refine (odd_true 13 1 2 _ _ _ _ _ _ _ _ _ _ _ (fun W hW => odd_of (wbad_calls 13 1 0 W _ _ _ _ _ _ _ _ _ (fun W2 hW2 => mayf1 W2 _ _ _ _ _ _ _ _ _ _)))).mono ?_
 rintro e w115 ⟨rfl, hb⟩
 refine ⟨_, rfl, ?_⟩
 refine hK.out _ _ (by exact ⟨blk_below hHeld.1 hb, blk_below hHeld.2 hb⟩) (fun hHeld => ?_)
 clear hK K
 refine nm_ (some 24) ?_
 replace HB := kb_b HB hb
 replace B_u := kb_b B_u hb
 replace B_n := kb_b B_n hb
 replace B_b := kb_b B_b hb
 replace B_ck := kb_b B_ck hb
 replace B_s := kb_b B_s hb
 clear hb
 refine pu_ 5 (some 25) 63 HT_ ?_
 refine pu_ 6 (some 26) 127 HT_ ?_
 refine tk_ 7 (some 27) 255 HT_ HW_ hHeld ?_ ?_ ?_ ?_ ?_
 rotate_left
 · intro w' hs
   have hb_ := hs.1
   obtain ⟨c0_, c1_, c2_⟩ := b3_ hb_
   clear hb_ hs
   go_simp
   with_reducible rfl
 rotate_left
 · simp only [PU]
   rfl
 refine on_ 8 (some 28) 511 HT_ (fun K hK => ?_)
 refine gs_ Try.func22 #[.int .i64 1, .int .i64 0, .agg #[.bool tu, .slice Au nu cu, .slice Du ku zu], .slice none 0 0, .int .i64 2] ?_
 refine (odd_true 1 0 2 _ _ _ _ _ _ _ _ _ _ _ (fun W hW => odd_of (wbad_calls 1 0 0 W _ _ _ _ _ _ _ _ _ (fun W2 hW2 => mayf2 W2 _ _ _ _ _ _ _ _ _ _)))).mono ?_
 rintro e w116 ⟨rfl, hb⟩
 refine ⟨_, rfl, ?_⟩
 refine hK.out _ _ (by exact ⟨blk_below hHeld.1 hb, blk_below hHeld.2 hb⟩) (fun hHeld => ?_)
 clear hK K
 refine nm_ (some 28) ?_
 replace HB := kb_b HB hb
 replace B_u := kb_b B_u hb
 replace B_n := kb_b B_n hb
 replace B_b := kb_b B_b hb
 replace B_ck := kb_b B_ck hb
 replace B_s := kb_b B_s hb
 clear hb
 refine pu_ 9 (some 29) 1023 HT_ ?_
 refine pu_ 10 (some 30) 2047 HT_ ?_
 refine tk_ 11 (some 31) 4095 HT_ HW_ hHeld ?_ ?_ ?_ ?_ ?_
 rotate_left
 · intro w' hs
   have hb_ := hs.1
   obtain ⟨c0_, c1_, c2_⟩ := b3_ hb_
   clear hb_ hs
   go_simp
   with_reducible rfl
 rotate_left
 · simp only [PU]
   rfl
 refine on_ 12 (some 32) 8191 HT_ (fun K hK => ?_)
 refine gs_ Try.func22 #[.int .i64 1, .int .i64 9007199254740992, .agg #[.bool tu, .slice Au nu cu, .slice Du ku zu], .slice none 0 0, .int .i64 2] ?_
 refine (odd_true 1 9007199254740992 2 _ _ _ _ _ _ _ _ _ _ _ (fun W hW => odd_of (wbad_calls 1 9007199254740992 0 W _ _ _ _ _ _ _ _ _ (fun W2 hW2 => mayf3 W2 _ _ _ _ _ _ _ _ _ _)))).mono ?_
 rintro e w117 ⟨rfl, hb⟩
 refine ⟨_, rfl, ?_⟩
 refine hK.out _ _ (by exact ⟨blk_below hHeld.1 hb, blk_below hHeld.2 hb⟩) (fun hHeld => ?_)
 clear hK K
 refine nm_ (some 32) ?_
 replace HB := kb_b HB hb
 replace B_u := kb_b B_u hb
 replace B_n := kb_b B_n hb
 replace B_b := kb_b B_b hb
 replace B_ck := kb_b B_ck hb
 replace B_s := kb_b B_s hb
 clear hb
 refine pu_ 13 (some 33) 16383 HT_ ?_
 refine pu_ 14 (some 34) 32767 HT_ ?_
 refine tk_ 15 (some 35) 65535 HT_ HW_ hHeld ?_ ?_ ?_ ?_ ?_
 rotate_left
 · intro w' hs
   have hb_ := hs.1
   obtain ⟨c0_, c1_, c2_⟩ := b3_ hb_
   clear hb_ hs
   go_simp
   with_reducible rfl
 rotate_left
 · simp only [PU]
   rfl
 refine pu_ 16 (some 36) 131071 HT_ ?_
 refine on_ 17 (some 37) 262143 HT_ (fun K hK => ?_)
 refine gs_ Try.func13 #[.int .i64 (3000), .int .i64 9007199254740991] ?_
 refine (part_calls (3000) 9007199254740991 (by omega) (by omega) (by omega) (by omega) (by decide +kernel) _).mono ?_
 rintro e w118 ⟨⟨v37, rfl, hv⟩, hb⟩
 obtain ⟨ta, Aa, na, ca, Da, ka, za, rfl⟩ := hv.agg
 refine ⟨_, rfl, ?_⟩
 refine hK.out _ _ (by exact ⟨blk_below hHeld.1 hb, blk_below hHeld.2 hb⟩) (fun hHeld => ?_)
 clear hK K
 refine nm_ (some 37) ?_
 have hle := Kb.size HB.out
 have hv_ := IsR.mono' (ok' := fun k => True) hv (fun k hk _ => by trivial)
 clear hv hle
 replace HB := kb_b HB hb
 replace B_u := kb_b B_u hb
 replace B_n := kb_b B_n hb
 replace B_b := kb_b B_b hb
 replace B_ck := kb_b B_ck hb
 replace B_s := kb_b B_s hb
 clear hb
 have V_a := a0_ hv_
 clear hv_
 have B_a := kf_ w118
 refine on_ 18 (some 38) 524287 HT_ (fun K hK => ?_)
 refine gs_ Try.func14 #[.int .i64 2, .int .i64 9007199254740991, .agg #[.bool tu, .slice Au nu cu, .slice Du ku zu], .slice As ss.length cs, .agg #[.bool ta, .slice Aa na ca, .slice Da ka za]] ?_
 refine (makes_true 2 9007199254740991 (((3000 : Int) : Rat) / ((9007199254740991 : Int) : Rat)) _ _ _ _ _ _ _ _ _ _ _ _ (IsR.kb (S := fun k => False) V_a.out B_a.out (fun _ _ h => h)) (fun W hW => run_some (wrun2 9007199254740991 (by omega) (by omega) ss HS.out.2.1 HF.out.1 HF.out.2.1 W _ _ _ _ _ _ _ _ _ (RowS.kb (RowS.kb V_s.out B_s.out (fun _ _ h => h)) hW (fun _ _ h => h))) (fun a ha => by rw [ha, HS.out.1]; decide +kernel))).mono ?_
 rintro e w119 ⟨rfl, hb⟩
 refine ⟨_, rfl, ?_⟩
 refine hK.out _ _ (by exact ⟨blk_below hHeld.1 hb, blk_below hHeld.2 hb⟩) (fun hHeld => ?_)
 clear hK K
 refine nm_ (some 38) ?_
 replace HB := kb_b HB hb
 replace B_u := kb_b B_u hb
 replace B_n := kb_b B_n hb
 replace B_b := kb_b B_b hb
 replace B_ck := kb_b B_ck hb
 replace B_s := kb_b B_s hb
 replace B_a := kb_b B_a hb
 clear hb
 clear V_a B_a
 refine pu_ 19 (some 39) 1048575 HT_ ?_
 refine pu_ 20 (some 40) 2097151 HT_ ?_
 refine tk_ 21 (some 41) 4194303 HT_ HW_ hHeld ?_ ?_ ?_ ?_ ?_
 rotate_left
 · intro w' hs
   have hb_ := hs.1
   obtain ⟨c0_, c1_, c2_⟩ := b3_ hb_
   clear hb_ hs
   go_simp
   with_reducible rfl
 rotate_left
 · simp only [PU]
   rfl
 refine pu_ 22 (some 42) 8388607 HT_ ?_
 refine on_ 23 (some 43) 16777215 HT_ (fun K hK => ?_)
 refine vl_ ?_
 refine hK.out _ _ (by exact ⟨blk_below hHeld.1 (below_alloc (Below.refl _ _) _), blk_below hHeld.2 (below_alloc (Below.refl _ _) _)⟩) (fun hHeld => ?_)
 clear hK K
 refine nm_ (some 43) ?_
 have hb : Below w119.heap.size w119 (w119.alloc (.cells #[.int .i64 0, .int .i64 (-1), .bool false, .slice none 0 0, .slice none 0 0] 39 (0, 0))) := below_alloc (Below.refl _ _) _
 have hbox : (w119.alloc (.cells #[.int .i64 0, .int .i64 (-1), .bool false, .slice none 0 0, .slice none 0 0] 39 (0, 0))).heap[w119.heap.size]? = some (.cells #[.int .i64 0, .int .i64 (-1), .bool false, .slice none 0 0, .slice none 0 0] 39 (0, 0)) := blk_new w119 _
 obtain ⟨w120, hw_⟩ : ∃ x, x = w119.alloc (.cells #[.int .i64 0, .int .i64 (-1), .bool false, .slice none 0 0, .slice none 0 0] 39 (0, 0)) := ⟨_, rfl⟩
 rw [← hw_] at hb hbox hHeld ⊢
 clear hw_
 obtain ⟨g_m, hg⟩ : ∃ x, x = w119.heap.size := ⟨_, rfl⟩
 rw [← hg] at hbox ⊢
 clear hg
 replace HB := kb_b HB hb
 replace B_u := kb_b B_u hb
 replace B_n := kb_b B_n hb
 replace B_b := kb_b B_b hb
 replace B_ck := kb_b B_ck hb
 replace B_s := kb_b B_s hb
 clear hb
 have V_m := a0_ hbox
 have B_m := kf_ w120
 have N_m := nf_ g_m
 clear hbox
 refine on_ 24 (some 44) 33554431 HT_ (fun K hK => ?_)
 refine gs_ Try.func22 #[.int .i64 1, .int .i64 1, .agg #[.bool tu, .slice Au nu cu, .slice Du ku zu], .slice (some ⟨g_m, 0, none⟩) 1 1, .int .i64 2] ?_
 refine (odd_true 1 1 2 _ _ _ _ _ _ _ _ _ _ _ (fun W hW => odd_of (wbad_calls 1 1 1 W _ _ _ _ _ _ _ _ _ (fun W2 hW2 => mayby_calls W2 _ _ _ _ _ _ _ g_m 0 1 0 false none 0 0 none 0 0 ((blk_cell (Kb.blk V_m.out (((B_m.out).trans hW).trans hW2) N_m.out) 0).trans rfl) ((blk_cell (Kb.blk V_m.out (((B_m.out).trans hW).trans hW2) N_m.out) 1).trans rfl) ((blk_cell (Kb.blk V_m.out (((B_m.out).trans hW).trans hW2) N_m.out) 2).trans rfl) ((blk_cell (Kb.blk V_m.out (((B_m.out).trans hW).trans hW2) N_m.out) 3).trans rfl) ((blk_cell (Kb.blk V_m.out (((B_m.out).trans hW).trans hW2) N_m.out) 4).trans rfl))))).mono ?_
 rintro e w121 ⟨rfl, hb⟩
 refine ⟨_, rfl, ?_⟩
 refine hK.out _ _ (by exact ⟨blk_below hHeld.1 hb, blk_below hHeld.2 hb⟩) (fun hHeld => ?_)
 clear hK K
 refine nm_ (some 44) ?_
 replace HB := kb_b HB hb
 replace B_u := kb_b B_u hb
 replace B_n := kb_b B_n hb
 replace B_b := kb_b B_b hb
 replace B_ck := kb_b B_ck hb
 replace B_s := kb_b B_s hb
 replace B_m := kb_b B_m hb
 clear hb
 clear V_m B_m
 clear N_m
 refine pu_ 25 (some 45) 67108863 HT_ ?_
 refine pu_ 26 (some 46) 134217727 HT_ ?_
 refine tk_ 27 (some 47) 268435455 HT_ HW_ hHeld ?_ ?_ ?_ ?_ ?_
 rotate_left
 · intro w' hs
   have hb_ := hs.1
   obtain ⟨c0_, c1_, c2_⟩ := b3_ hb_
   clear hb_ hs
   go_simp
   with_reducible rfl
 rotate_left
 · simp only [PU]
   rfl
 refine tk_ 28 (some 48) 536870911 HT_ HW_ hHeld ?_ ?_ ?_ ?_ ?_
 rotate_left
 · intro w' hs
   have hb_ := hs.2
   obtain ⟨c0_, c1_, c2_⟩ := b3_ hb_
   clear hb_ hs
   go_simp
   with_reducible rfl
 rotate_left
 · simp only [PU]
   rfl
 refine pu_ 29 (some 49) 1073741823 HT_ ?_
 refine on_ 30 (some 50) 2147483647 HT_ (fun K hK => ?_)
 refine vl_ ?_
 refine hK.out _ _ (by exact ⟨blk_below hHeld.1 (below_alloc (Below.refl _ _) _), blk_below hHeld.2 (below_alloc (Below.refl _ _) _)⟩) (fun hHeld => ?_)
 clear hK K
 refine nm_ (some 50) ?_
 have hb : Below w121.heap.size w121 (w121.alloc (.cells #[.int .i64 0, .int .i64 0, .bool false, .slice (some ⟨g_b0, 0, none⟩) 1 1, .slice (some ⟨g_b1, 0, none⟩) 1 1] 39 (0, 0))) := below_alloc (Below.refl _ _) _
 have hbox : (w121.alloc (.cells #[.int .i64 0, .int .i64 0, .bool false, .slice (some ⟨g_b0, 0, none⟩) 1 1, .slice (some ⟨g_b1, 0, none⟩) 1 1] 39 (0, 0))).heap[w121.heap.size]? = some (.cells #[.int .i64 0, .int .i64 0, .bool false, .slice (some ⟨g_b0, 0, none⟩) 1 1, .slice (some ⟨g_b1, 0, none⟩) 1 1] 39 (0, 0)) := blk_new w121 _
 obtain ⟨w122, hw_⟩ : ∃ x, x = w121.alloc (.cells #[.int .i64 0, .int .i64 0, .bool false, .slice (some ⟨g_b0, 0, none⟩) 1 1, .slice (some ⟨g_b1, 0, none⟩) 1 1] 39 (0, 0)) := ⟨_, rfl⟩
 rw [← hw_] at hb hbox hHeld ⊢
 clear hw_
 obtain ⟨g_m, hg⟩ : ∃ x, x = w121.heap.size := ⟨_, rfl⟩
 rw [← hg] at hbox ⊢
 clear hg
 replace HB := kb_b HB hb
 replace B_u := kb_b B_u hb
 replace B_n := kb_b B_n hb
 replace B_b := kb_b B_b hb
 replace B_ck := kb_b B_ck hb
 replace B_s := kb_b B_s hb
 clear hb
 have V_m := a0_ hbox
 have B_m := kf_ w122
 have N_m := nf_ g_m
 clear hbox
 refine on_ 31 (some 51) 4294967295 HT_ (fun K hK => ?_)
 refine gs_ Try.func22 #[.int .i64 6, .int .i64 1, .agg #[.bool tu, .slice Au nu cu, .slice Du ku zu], .slice (some ⟨g_m, 0, none⟩) 1 1, .int .i64 2] ?_
 refine (odd_true 6 1 2 _ _ _ _ _ _ _ _ _ _ _ (fun W hW => odd_of (wbad_calls 6 1 1 W _ _ _ _ _ _ _ _ _ (fun W2 hW2 => maybad_calls 6 1 (by decide) (by decide) (by decide) (by decide) W2 _ _ _ _ _ _ _ g_m 0 1 0 0 (by decide) (by decide) false (some ⟨g_b0, 0, none⟩) 1 1 (some ⟨g_b1, 0, none⟩) 1 1 ((blk_cell (Kb.blk V_m.out (((B_m.out).trans hW).trans hW2) N_m.out) 0).trans rfl) ((blk_cell (Kb.blk V_m.out (((B_m.out).trans hW).trans hW2) N_m.out) 1).trans rfl) ((blk_cell (Kb.blk V_m.out (((B_m.out).trans hW).trans hW2) N_m.out) 2).trans rfl) ((blk_cell (Kb.blk V_m.out (((B_m.out).trans hW).trans hW2) N_m.out) 3).trans rfl) ((blk_cell (Kb.blk V_m.out (((B_m.out).trans hW).trans hW2) N_m.out) 4).trans rfl) (fun W3 hW3 => HCK.out W3 (((B_ck.out).trans hW).trans hW2 |>.trans hW3)))))).mono ?_
 rintro e w123 ⟨rfl, hb⟩
 refine ⟨_, rfl, ?_⟩
 refine hK.out _ _ (by exact ⟨blk_below hHeld.1 hb, blk_below hHeld.2 hb⟩) (fun hHeld => ?_)
 clear hK K
 refine nm_ (some 51) ?_
 replace HB := kb_b HB hb
 replace B_u := kb_b B_u hb
 replace B_n := kb_b B_n hb
 replace B_b := kb_b B_b hb
 replace B_ck := kb_b B_ck hb
 replace B_s := kb_b B_s hb
 replace B_m := kb_b B_m hb
 clear hb
 clear V_m B_m
 clear N_m
 refine pu_ 32 (some 52) 8589934591 HT_ ?_
 refine pu_ 33 (some 53) 17179869183 HT_ ?_
 refine tk_ 34 (some 54) 34359738367 HT_ HW_ hHeld ?_ ?_ ?_ ?_ ?_
 rotate_left
 · intro w' hs
   have hb_ := hs.2
   obtain ⟨c0_, c1_, c2_⟩ := b3_ hb_
   clear hb_ hs
   go_simp
   with_reducible rfl
 rotate_left
 · simp only [PU]
   rfl
 refine tk_ 35 (some 55) 68719476735 HT_ HW_ hHeld ?_ ?_ ?_ ?_ ?_
 rotate_left
 · intro w' hs
   have hb_ := hs.2
   obtain ⟨c0_, c1_, c2_⟩ := b3_ hb_
   clear hb_ hs
   go_simp
   with_reducible rfl
 rotate_left
 · simp only [PU]
   rfl
 refine pu_ 36 (some 56) 137438953471 HT_ ?_
 have B_z0 := kf_ w123
 refine join_ (σ := Value × Value) 18 (tB_ 57 549755813887) (fun s => [(57, s.1), (58, s.2)]) (fun s w' => (∃ (g_m : Nat) (tj : Bool) (Aj : Option Addr) (nj cj : Nat) (Dj : Option Addr) (kj zj : Nat), (s.1 = .slice (some ⟨g_m, 0, none⟩) 1 1 ∧ s.2 = .agg #[.bool tj, .slice Aj nj cj, .slice Dj kj zj]) ∧ w'.heap[g_m]? = some (.cells #[.int .i64 0, .int .i64 0, .bool false, .slice (some ⟨g_b0, 0, none⟩) 1 1, .slice (some ⟨g_b1, 0, none⟩) 1 1] 39 (0, 0)) ∧ IsR (fun _ => True) w' (.agg #[.bool tj, .slice Aj nj cj, .slice Dj kj zj]) ((1 : Int) : Rat)) ∧ Kb (fun k => False) w123 w' ∧ (w'.heap[g_n]? = some (.cells #[.bool tu, .slice Au nu cu, .slice Du ku zu] 30 (0, 0)) ∧ w'.heap[g_b]? = some (.cells #[.bool false, .slice (some ⟨g_b0, 0, none⟩) 1 1, .slice (some ⟨g_b1, 0, none⟩) 1 1] 30 (0, 0)))) ?hcont1 ?hord1
 rotate_left
 · intro HC
   refine tw_ 37 38 (some 57) (some 58) 274877906943 412316860415 HT_ (fun K hK => ?_) (fun K hK => ?_)
   · skip
     refine vl_ ?_
     refine hK.out _ _ (by exact ⟨blk_below hHeld.1 (below_alloc (Below.refl _ _) _), blk_below hHeld.2 (below_alloc (Below.refl _ _) _)⟩) (fun hHeld => ?_)
     clear hK K
     refine nm_ (some 57) ?_
     have hb : Below w123.heap.size w123 (w123.alloc (.cells #[.int .i64 0, .int .i64 0, .bool false, .slice (some ⟨g_b0, 0, none⟩) 1 1, .slice (some ⟨g_b1, 0, none⟩) 1 1] 39 (0, 0))) := below_alloc (Below.refl _ _) _
     have hbox : (w123.alloc (.cells #[.int .i64 0, .int .i64 0, .bool false, .slice (some ⟨g_b0, 0, none⟩) 1 1, .slice (some ⟨g_b1, 0, none⟩) 1 1] 39 (0, 0))).heap[w123.heap.size]? = some (.cells #[.int .i64 0, .int .i64 0, .bool false, .slice (some ⟨g_b0, 0, none⟩) 1 1, .slice (some ⟨g_b1, 0, none⟩) 1 1] 39 (0, 0)) := blk_new w123 _
     obtain ⟨w124, hw_⟩ : ∃ x, x = w123.alloc (.cells #[.int .i64 0, .int .i64 0, .bool false, .slice (some ⟨g_b0, 0, none⟩) 1 1, .slice (some ⟨g_b1, 0, none⟩) 1 1] 39 (0, 0)) := ⟨_, rfl⟩
     rw [← hw_] at hb hbox hHeld ⊢
     clear hw_
     obtain ⟨g_m, hg⟩ : ∃ x, x = w123.heap.size := ⟨_, rfl⟩
     rw [← hg] at hbox ⊢
     clear hg
     replace HB := kb_b HB hb
     replace B_u := kb_b B_u hb
     replace B_n := kb_b B_n hb
     replace B_b := kb_b B_b hb
     replace B_ck := kb_b B_ck hb
     replace B_s := kb_b B_s hb
     replace B_z0 := kb_b B_z0 hb
     clear hb
     have V_m := a0_ hbox
     have B_m := kf_ w124
     have N_m := nf_ g_m
     clear hbox
     refine on_ 38 (some 58) 549755813887 HT_ (fun K hK => ?_)
     refine gs_ Try.func12 #[.int .i64 (1)] ?_
     refine (qof_calls (1) (by omega) (by omega) _).mono ?_
     rintro e w125 ⟨⟨v58, rfl, hv⟩, hb⟩
     obtain ⟨tj, Aj, nj, cj, Dj, kj, zj, rfl⟩ := hv.agg
     refine ⟨_, rfl, ?_⟩
     refine hK.out _ _ (by exact ⟨blk_below hHeld.1 hb, blk_below hHeld.2 hb⟩) (fun hHeld => ?_)
     clear hK K
     refine nm_ (some 58) ?_
     have hle := Kb.size HB.out
     have hv_ := IsR.mono' (ok' := fun k => True) hv (fun k hk _ => by trivial)
     clear hv hle
     replace HB := kb_b HB hb
     replace B_u := kb_b B_u hb
     replace B_n := kb_b B_n hb
     replace B_b := kb_b B_b hb
     replace B_ck := kb_b B_ck hb
     replace B_s := kb_b B_s hb
     replace B_z0 := kb_b B_z0 hb
     replace B_m := kb_b B_m hb
     clear hb
     have V_j := a0_ hv_
     clear hv_
     have B_j := kf_ w125
     exact HC (.slice (some ⟨g_m, 0, none⟩) 1 1, .agg #[.bool tj, .slice Aj nj cj, .slice Dj kj zj]) _ ⟨⟨g_m, _, _, _, _, _, _, _, ⟨rfl, rfl⟩, (bk_ V_m B_m N_m), (IsR.kb (S := fun k => False) V_j.out B_j.out (fun _ _ h => h))⟩, B_z0.out, hHeld⟩
   · skip
     refine gs_ Try.func12 #[.int .i64 (1)] ?_
     refine (qof_calls (1) (by omega) (by omega) _).mono ?_
     rintro e w124 ⟨⟨v58, rfl, hv⟩, hb⟩
     obtain ⟨tj, Aj, nj, cj, Dj, kj, zj, rfl⟩ := hv.agg
     refine ⟨_, rfl, ?_⟩
     refine hK.out _ _ (by exact ⟨blk_below hHeld.1 hb, blk_below hHeld.2 hb⟩) (fun hHeld => ?_)
     clear hK K
     refine nm_ (some 58) ?_
     have hle := Kb.size HB.out
     have hv_ := IsR.mono' (ok' := fun k => True) hv (fun k hk _ => by trivial)
     clear hv hle
     replace HB := kb_b HB hb
     replace B_u := kb_b B_u hb
     replace B_n := kb_b B_n hb
     replace B_b := kb_b B_b hb
     replace B_ck := kb_b B_ck hb
     replace B_s := kb_b B_s hb
     replace B_z0 := kb_b B_z0 hb
     clear hb
     have V_j := a0_ hv_
     clear hv_
     have B_j := kf_ w124
     refine on_ 37 (some 57) 549755813887 HT_ (fun K hK => ?_)
     refine vl_ ?_
     refine hK.out _ _ (by exact ⟨blk_below hHeld.1 (below_alloc (Below.refl _ _) _), blk_below hHeld.2 (below_alloc (Below.refl _ _) _)⟩) (fun hHeld => ?_)
     clear hK K
     refine nm_ (some 57) ?_
     have hb : Below w124.heap.size w124 (w124.alloc (.cells #[.int .i64 0, .int .i64 0, .bool false, .slice (some ⟨g_b0, 0, none⟩) 1 1, .slice (some ⟨g_b1, 0, none⟩) 1 1] 39 (0, 0))) := below_alloc (Below.refl _ _) _
     have hbox : (w124.alloc (.cells #[.int .i64 0, .int .i64 0, .bool false, .slice (some ⟨g_b0, 0, none⟩) 1 1, .slice (some ⟨g_b1, 0, none⟩) 1 1] 39 (0, 0))).heap[w124.heap.size]? = some (.cells #[.int .i64 0, .int .i64 0, .bool false, .slice (some ⟨g_b0, 0, none⟩) 1 1, .slice (some ⟨g_b1, 0, none⟩) 1 1] 39 (0, 0)) := blk_new w124 _
     obtain ⟨w125, hw_⟩ : ∃ x, x = w124.alloc (.cells #[.int .i64 0, .int .i64 0, .bool false, .slice (some ⟨g_b0, 0, none⟩) 1 1, .slice (some ⟨g_b1, 0, none⟩) 1 1] 39 (0, 0)) := ⟨_, rfl⟩
     rw [← hw_] at hb hbox hHeld ⊢
     clear hw_
     obtain ⟨g_m, hg⟩ : ∃ x, x = w124.heap.size := ⟨_, rfl⟩
     rw [← hg] at hbox ⊢
     clear hg
     replace HB := kb_b HB hb
     replace B_u := kb_b B_u hb
     replace B_n := kb_b B_n hb
     replace B_b := kb_b B_b hb
     replace B_ck := kb_b B_ck hb
     replace B_s := kb_b B_s hb
     replace B_z0 := kb_b B_z0 hb
     replace B_j := kb_b B_j hb
     clear hb
     have V_m := a0_ hbox
     have B_m := kf_ w125
     have N_m := nf_ g_m
     clear hbox
     exact HC (.slice (some ⟨g_m, 0, none⟩) 1 1, .agg #[.bool tj, .slice Aj nj cj, .slice Dj kj zj]) _ ⟨⟨g_m, _, _, _, _, _, _, _, ⟨rfl, rfl⟩, (bk_ V_m B_m N_m), (IsR.kb (S := fun k => False) V_j.out B_j.out (fun _ _ h => h))⟩, B_z0.out, hHeld⟩
 rintro ⟨v57, v58⟩ w144 ⟨⟨g_m, tj, Aj, nj, cj, Dj, kj, zj, ⟨rfl, rfl⟩, hbox, hres⟩, hk, hHeld⟩
 refine norm_ (a' := ?_) ?_ ?_
 rotate_left
 · simp only [putAll, PU]
   rfl
 clear B_z0
 replace HB := kb_t HB hk (fun i hi => Or.inl hi)
 replace B_u := kb_t B_u hk (fun i hi => Or.inl hi)
 replace B_n := kb_t B_n hk (fun i hi => Or.inl hi)
 replace B_b := kb_t B_b hk (fun i hi => Or.inl hi)
 replace B_ck := kb_t B_ck hk (fun i hi => Or.inl hi)
 replace B_s := kb_t B_s hk (fun i hi => Or.inl hi)
 clear hk
 have V_m := a0_ hbox
 have B_m := kf_ w144
 have N_m := nf_ g_m
 clear hbox
 have V_j := a0_ hres
 clear hres
 have B_j := kf_ w144
 refine on_ 39 (some 59) 1099511627775 HT_ (fun K hK => ?_)
 refine gs_ Try.func14 #[.int .i64 1, .int .i64 1, .agg #[.bool false, .slice (some ⟨g_b0, 0, none⟩) 1 1, .slice (some ⟨g_b1, 0, none⟩) 1 1], .slice (some ⟨g_m, 0, none⟩) 1 1, .agg #[.bool tj, .slice Aj nj cj, .slice Dj kj zj]] ?_
 refine (makes_true 1 1 ((1 : Int) : Rat) _ _ _ _ _ _ _ _ _ _ _ _ (IsR.kb (S := fun k => False) V_j.out B_j.out (fun _ _ h => h)) (fun W hW => run_some (wrun1 1 (by decide) (by decide) [⟨0, 0, none⟩] (byS_one none) (by decide) (by decide) W _ _ _ _ _ _ _ _ _ (smp_row (Kb.blk V_m.out ((B_m.out).trans hW) N_m.out))) (fun a ha => by rw [ha]; decide +kernel))).mono ?_
 rintro e w145 ⟨rfl, hb⟩
 refine ⟨_, rfl, ?_⟩
 refine hK.out _ _ (by exact ⟨blk_below hHeld.1 hb, blk_below hHeld.2 hb⟩) (fun hHeld => ?_)
 clear hK K
 refine nm_ (some 59) ?_
 replace HB := kb_b HB hb
 replace B_u := kb_b B_u hb
 replace B_n := kb_b B_n hb
 replace B_b := kb_b B_b hb
 replace B_ck := kb_b B_ck hb
 replace B_s := kb_b B_s hb
 replace B_m := kb_b B_m hb
 replace B_j := kb_b B_j hb
 clear hb
 clear V_m B_m
 clear V_j B_j
 clear N_m
 refine pu_ 40 (some 60) 2199023255551 HT_ ?_
 refine pu_ 41 (some 61) 4398046511103 HT_ ?_
 refine tk_ 42 (some 62) 8796093022207 HT_ HW_ hHeld ?_ ?_ ?_ ?_ ?_
 rotate_left
 · intro w' hs
   have hb_ := hs.2
   obtain ⟨c0_, c1_, c2_⟩ := b3_ hb_
   clear hb_ hs
   go_simp
   with_reducible rfl
 rotate_left
 · simp only [PU]
   rfl
 refine pu_ 43 (some 63) 17592186044415 HT_ ?_
 refine on_ 44 (some 64) 35184372088831 HT_ (fun K hK => ?_)
 refine gs_ Try.func22 #[.int .i64 12, .int .i64 1, .agg #[.bool false, .slice (some ⟨g_b0, 0, none⟩) 1 1, .slice (some ⟨g_b1, 0, none⟩) 1 1], .slice As ss.length cs, .int .i64 2] ?_
 refine (odd_true 12 1 2 _ _ _ _ _ _ _ _ _ _ _ (fun W hW => odd_of (wbad_calls 12 1 ss.length W _ _ _ _ _ _ _ _ _ (fun W2 hW2 => mayq_bad 1 (by decide) (by decide) ss HS.out.2.1 HF.out.2.1 l3 HS.out.2.2.1 W2 _ _ _ _ _ _ _ _ (RowS.kb (RowS.kb (RowS.kb V_s.out B_s.out (fun _ _ h => h)) hW (fun _ _ h => h)) hW2 (fun _ _ h => h)) (fun W3 hW3 => HCK.out W3 ((((B_ck.out).trans hW).trans hW2).trans hW3)))))).mono ?_
 rintro e w146 ⟨rfl, hb⟩
 refine ⟨_, rfl, ?_⟩
 refine hK.out _ _ (by exact ⟨blk_below hHeld.1 hb, blk_below hHeld.2 hb⟩) (fun hHeld => ?_)
 clear hK K
 refine nm_ (some 64) ?_
 replace HB := kb_b HB hb
 replace B_u := kb_b B_u hb
 replace B_n := kb_b B_n hb
 replace B_b := kb_b B_b hb
 replace B_ck := kb_b B_ck hb
 replace B_s := kb_b B_s hb
 clear hb
 refine pu_ 45 (some 65) 70368744177663 HT_ ?_
 refine pu_ 46 (some 66) 140737488355327 HT_ ?_
 refine pu_ 48 (some 68) 422212465065983 HT_ ?_
 refine on_ 47 (some 67) 562949953421311 HT_ (fun K hK => ?_)
 refine gs_ Try.func12 #[.int .i64 (2)] ?_
 refine (qof_calls (2) (by omega) (by omega) _).mono ?_
 rintro e w147 ⟨⟨v67, rfl, hv⟩, hb⟩
 obtain ⟨ta, Aa, na, ca, Da, ka, za, rfl⟩ := hv.agg
 refine ⟨_, rfl, ?_⟩
 refine hK.out _ _ (by exact ⟨blk_below hHeld.1 hb, blk_below hHeld.2 hb⟩) (fun hHeld => ?_)
 clear hK K
 refine nm_ (some 67) ?_
 have hle := Kb.size HB.out
 have hv_ := IsR.mono' (ok' := fun k => True) hv (fun k hk _ => by trivial)
 clear hv hle
 replace HB := kb_b HB hb
 replace B_u := kb_b B_u hb
 replace B_n := kb_b B_n hb
 replace B_b := kb_b B_b hb
 replace B_ck := kb_b B_ck hb
 replace B_s := kb_b B_s hb
 clear hb
 have V_a := a0_ hv_
 clear hv_
 have B_a := kf_ w147
 refine on_ 49 (some 69) 1125899906842623 HT_ (fun K hK => ?_)
 refine gs_ Try.func22 #[.int .i64 12, .int .i64 1, .agg #[.bool ta, .slice Aa na ca, .slice Da ka za], .slice As ss.length cs, .int .i64 2] ?_
 refine (odd_true 12 1 2 _ _ _ _ _ _ _ _ _ _ _ (fun W hW => odd_of (wbad_calls 12 1 ss.length W _ _ _ _ _ _ _ _ _ (fun W2 hW2 => mayq_big 1 (by decide) (by decide) ss HS.out.2.1 HF.out.2.1 l3 HS.out.2.2.1 W2 _ _ (RowS.kb (RowS.kb (RowS.kb V_s.out B_s.out (fun _ _ h => h)) hW (fun _ _ h => h)) hW2 (fun _ _ h => h)) ((2 : Int) : Rat) (by decide +kernel) (IsR.kb (IsR.kb (IsR.kb (S := fun k => False) V_a.out B_a.out (fun _ _ h => h)) hW (fun _ _ h => h)) hW2 (fun _ _ h => h)))))).mono ?_
 rintro e w148 ⟨rfl, hb⟩
 refine ⟨_, rfl, ?_⟩
 refine hK.out _ _ (by exact ⟨blk_below hHeld.1 hb, blk_below hHeld.2 hb⟩) (fun hHeld => ?_)
 clear hK K
 refine nm_ (some 69) ?_
 replace HB := kb_b HB hb
 replace B_u := kb_b B_u hb
 replace B_n := kb_b B_n hb
 replace B_b := kb_b B_b hb
 replace B_ck := kb_b B_ck hb
 replace B_s := kb_b B_s hb
 replace B_a := kb_b B_a hb
 clear hb
 clear V_a B_a
 refine pu_ 50 (some 70) 2251799813685247 HT_ ?_
 refine pu_ 51 (some 71) 4503599627370495 HT_ ?_
 refine pu_ 53 (some 73) 13510798882111487 HT_ ?_
 refine on_ 52 (some 72) 18014398509481983 HT_ (fun K hK => ?_)
 refine gs_ Try.func13 #[.int .i64 (-1), .int .i64 9] ?_
 refine (part_calls (-1) 9 (by omega) (by omega) (by omega) (by omega) (by decide +kernel) _).mono ?_
 rintro e w149 ⟨⟨v72, rfl, hv⟩, hb⟩
 obtain ⟨ta, Aa, na, ca, Da, ka, za, rfl⟩ := hv.agg
 refine ⟨_, rfl, ?_⟩
 refine hK.out _ _ (by exact ⟨blk_below hHeld.1 hb, blk_below hHeld.2 hb⟩) (fun hHeld => ?_)
 clear hK K
 refine nm_ (some 72) ?_
 have hle := Kb.size HB.out
 have hv_ := IsR.mono' (ok' := fun k => True) hv (fun k hk _ => by trivial)
 clear hv hle
 replace HB := kb_b HB hb
 replace B_u := kb_b B_u hb
 replace B_n := kb_b B_n hb
 replace B_b := kb_b B_b hb
 replace B_ck := kb_b B_ck hb
 replace B_s := kb_b B_s hb
 clear hb
 have V_a := a0_ hv_
 clear hv_
 have B_a := kf_ w149
 refine on_ 54 (some 74) 36028797018963967 HT_ (fun K hK => ?_)
 refine gs_ Try.func22 #[.int .i64 12, .int .i64 1, .agg #[.bool ta, .slice Aa na ca, .slice Da ka za], .slice As ss.length cs, .int .i64 2] ?_
 refine (odd_true 12 1 2 _ _ _ _ _ _ _ _ _ _ _ (fun W hW => odd_of (wbad_calls 12 1 ss.length W _ _ _ _ _ _ _ _ _ (fun W2 hW2 => mayq_neg 1 (by decide) (by decide) ss HS.out.2.1 HF.out.2.1 l3 HS.out.2.2.1 W2 _ _ (RowS.kb (RowS.kb (RowS.kb V_s.out B_s.out (fun _ _ h => h)) hW (fun _ _ h => h)) hW2 (fun _ _ h => h)) (((-1 : Int) : Rat) / ((9 : Int) : Rat)) (by decide +kernel) (IsR.kb (IsR.kb (IsR.kb (S := fun k => False) V_a.out B_a.out (fun _ _ h => h)) hW (fun _ _ h => h)) hW2 (fun _ _ h => h)))))).mono ?_
 rintro e w150 ⟨rfl, hb⟩
 refine ⟨_, rfl, ?_⟩
 refine hK.out _ _ (by exact ⟨blk_below hHeld.1 hb, blk_below hHeld.2 hb⟩) (fun hHeld => ?_)
 clear hK K
 refine nm_ (some 74) ?_
 replace HB := kb_b HB hb
 replace B_u := kb_b B_u hb
 replace B_n := kb_b B_n hb
 replace B_b := kb_b B_b hb
 replace B_ck := kb_b B_ck hb
 replace B_s := kb_b B_s hb
 replace B_a := kb_b B_a hb
 clear hb
 clear V_a B_a
 refine pu_ 55 (some 75) 72057594037927935 HT_ ?_
 refine pu_ 56 (some 4) 144115188075855871 HT_ ?_
 refine do_ HT_ ?_
 clear HT_ HW_ hHeld
 clear HCK
 clear B_ck
 clear V_b B_b
 go_wp2_with fail
 with_reducible refine (wide_calls _).mono ?_
 rintro e w151 ⟨⟨v, rfl, hv⟩, hb⟩
 obtain ⟨tg, Ag, ng, cg, Dg, kg, zg, rfl⟩ := hv.agg
 have hle := Kb.size HB.out
 have hv_ := IsR.mono' (ok' := fun k => True) hv (fun k hk _ => by trivial)
 clear hv hle
 replace HB := kb_b HB hb
 replace B_u := kb_b B_u hb
 replace B_n := kb_b B_n hb
 replace B_s := kb_b B_s hb
 clear hb
 have V_g := a0_ hv_
 clear hv_
 have B_g := kf_ w151
 go_wp2_with fail
 with_reducible refine (qof_calls 1 (by omega) (by omega) _).mono ?_
 rintro e w152 ⟨⟨v, rfl, hv⟩, hb⟩
 obtain ⟨ti, Ai, ni, ci, Di, ki, zi, rfl⟩ := hv.agg
 have hle := Kb.size HB.out
 have hv_ := IsR.mono' (ok' := fun k => True) hv (fun k hk _ => by trivial)
 clear hv hle
 replace HB := kb_b HB hb
 replace B_u := kb_b B_u hb
 replace B_n := kb_b B_n hb
 replace B_s := kb_b B_s hb
 replace B_g := kb_b B_g hb
 clear hb
 have V_i := a0_ hv_
 clear hv_
 have B_i := kf_ w152
 go_wp2_with (first | ((with_reducible refine gd_ 5 rfl ?_); refine bx_ (N := 5) #[.bool false, .slice none 0 0, .slice none 0 0] 30 ?_; intro g_p5 hg w153 hbox hb; have G_p5 := kb_g HB hg; have O_p5_u := kb_g B_u hg; have O_p5_n := kb_g B_n hg; have O_p5_s := kb_g B_s hg; have O_p5_g := kb_g B_g hg; have O_p5_i := kb_g B_i hg; replace HB := kb_b HB hb; replace B_u := kb_b B_u hb; replace B_n := kb_b B_n hb; replace B_s := kb_b B_s hb; replace B_g := kb_b B_g hb; replace B_i := kb_b B_i hb; clear hb; have V_p5 := a0_ hbox; have B_p5 := kf_ w153; have N_p5 := nf_ g_p5; clear hbox hg) | ((with_reducible refine gd_ 6 rfl ?_); refine bx_ (N := 6) #[.bool false, .slice none 0 0, .slice none 0 0] 30 ?_; intro g_p6 hg w154 hbox hb; have G_p6 := kb_g HB hg; have O_p6_u := kb_g B_u hg; have O_p6_n := kb_g B_n hg; have O_p6_s := kb_g B_s hg; have O_p6_g := kb_g B_g hg; have O_p6_i := kb_g B_i hg; have O_p6_p5 := kb_g B_p5 hg; replace HB := kb_b HB hb; replace B_u := kb_b B_u hb; replace B_n := kb_b B_n hb; replace B_s := kb_b B_s hb; replace B_g := kb_b B_g hb; replace B_i := kb_b B_i hb; replace B_p5 := kb_b B_p5 hb; clear hb; have V_p6 := a0_ hbox; have B_p6 := kf_ w154; have N_p6 := nf_ g_p6; clear hbox hg) | ((with_reducible refine gt_ 30 5 76 rfl ?_); refine store_ev (p := .tmp 5) (v := .tmp 76) rfl rfl rfl (g := g_p5) rfl rfl (bk_ V_p5 B_p5 N_p5) ?_; intro w155 hbox hk; replace HB := kb_o HB hk G_p5; replace B_u := kb_o B_u hk O_p5_u; replace B_n := kb_o B_n hk O_p5_n; replace B_s := kb_o B_s hk O_p5_s; replace B_g := kb_o B_g hk O_p5_g; replace B_i := kb_o B_i hk O_p5_i; have D_p6_p5 : Aside0 (¬ (g_p6 = g_p5)) := ⟨fun e => by have := O_p6_p5.out; have := blk_lt V_p5.out; omega⟩; have D_p5_p6 : Aside0 (¬ (g_p5 = g_p6)) := ⟨fun e => D_p6_p5.out e.symm⟩; have hz_ := Kb.blk (bk_ V_p6 B_p6 N_p6) hk D_p6_p5.out; clear V_p6 B_p6; have V_p6 := a0_ hz_; have B_p6 := kf_ w155; clear hz_; clear V_p5 B_p5; have V_p5 := a0_ hbox; have B_p5 := kf_ w155; clear hbox hk) | ((with_reducible refine gt_ 30 6 77 rfl ?_); refine store_ev (p := .tmp 6) (v := .tmp 77) rfl rfl rfl (g := g_p6) rfl rfl (bk_ V_p6 B_p6 N_p6) ?_; intro w156 hbox hk; replace HB := kb_o HB hk G_p6; replace B_u := kb_o B_u hk O_p6_u; replace B_n := kb_o B_n hk O_p6_n; replace B_s := kb_o B_s hk O_p6_s; replace B_g := kb_o B_g hk O_p6_g; replace B_i := kb_o B_i hk O_p6_i; have hz_ := Kb.blk (bk_ V_p5 B_p5 N_p5) hk D_p5_p6.out; clear V_p5 B_p5; have V_p5 := a0_ hz_; have B_p5 := kf_ w156; clear hz_; clear V_p6 B_p6; have V_p6 := a0_ hbox; have B_p6 := kf_ w156; clear hbox hk) | ((with_reducible refine gd_ 79 rfl ?_); refine load_ev rfl rfl (g := g_p5) rfl (bk_ V_p5 B_p5 N_p5) ?_))
 with_reducible refine (qneg_calls ((bigN : Nat) : Rat) _ _ (IsR.kb (S := fun k => False) V_g.out B_g.out (fun _ _ h => h))).mono ?_
 rintro e w157 ⟨⟨v, rfl, hv⟩, hb⟩
 obtain ⟨th, Ah, nh, ch, Dh, kh, zh, rfl⟩ := hv.agg
 have hle := Kb.size HB.out
 have hv_ := IsR.mono' (ok' := fun k => True) hv (fun k hk _ => by trivial)
 clear hv hle
 replace HB := kb_b HB hb
 replace B_u := kb_b B_u hb
 replace B_n := kb_b B_n hb
 replace B_s := kb_b B_s hb
 replace B_g := kb_b B_g hb
 replace B_i := kb_b B_i hb
 replace B_p5 := kb_b B_p5 hb
 replace B_p6 := kb_b B_p6 hb
 clear hb
 have V_h := a0_ hv_
 clear hv_
 have B_h := kf_ w157
 go_wp2_with (first | ((with_reducible refine gd_ 7 rfl ?_); refine bx_ (N := 7) #[.bool false, .slice none 0 0, .slice none 0 0] 30 ?_; intro g_p7 hg w158 hbox hb; have G_p7 := kb_g HB hg; have O_p7_u := kb_g B_u hg; have O_p7_n := kb_g B_n hg; have O_p7_s := kb_g B_s hg; have O_p7_g := kb_g B_g hg; have O_p7_i := kb_g B_i hg; have O_p7_p5 := kb_g B_p5 hg; have O_p7_p6 := kb_g B_p6 hg; have O_p7_h := kb_g B_h hg; replace HB := kb_b HB hb; replace B_u := kb_b B_u hb; replace B_n := kb_b B_n hb; replace B_s := kb_b B_s hb; replace B_g := kb_b B_g hb; replace B_i := kb_b B_i hb; replace B_p5 := kb_b B_p5 hb; replace B_p6 := kb_b B_p6 hb; replace B_h := kb_b B_h hb; clear hb; have V_p7 := a0_ hbox; have B_p7 := kf_ w158; have N_p7 := nf_ g_p7; clear hbox hg) | ((with_reducible refine gt_ 30 7 81 rfl ?_); refine store_ev (p := .tmp 7) (v := .tmp 81) rfl rfl rfl (g := g_p7) rfl rfl (bk_ V_p7 B_p7 N_p7) ?_; intro w159 hbox hk; replace HB := kb_o HB hk G_p7; replace B_u := kb_o B_u hk O_p7_u; replace B_n := kb_o B_n hk O_p7_n; replace B_s := kb_o B_s hk O_p7_s; replace B_g := kb_o B_g hk O_p7_g; replace B_i := kb_o B_i hk O_p7_i; replace B_p5 := kb_o B_p5 hk O_p7_p5; replace B_p6 := kb_o B_p6 hk O_p7_p6; replace B_h := kb_o B_h hk O_p7_h; clear V_p7 B_p7; have V_p7 := a0_ hbox; have B_p7 := kf_ w159; clear hbox hk))
 have hb : Below w159.heap.size w159 w159.drew := below_drew1 (Below.refl _ _)
 replace HB := kb_b HB hb
 replace B_u := kb_b B_u hb
 replace B_n := kb_b B_n hb
 replace B_s := kb_b B_s hb
 replace B_g := kb_b B_g hb
 replace B_i := kb_b B_i hb
 replace B_p5 := kb_b B_p5 hb
 replace B_p6 := kb_b B_p6 hb
 replace B_h := kb_b B_h hb
 replace B_p7 := kb_b B_p7 hb
 clear hb
 refine start_ (n := 56) (S := fun w' => w'.heap[g_n]? = some (.cells #[.bool tu, .slice Au nu cu, .slice Du ku zu] 30 (0, 0)) ∧ w'.heap[g_p5]? = some (.cells #[.bool tg, .slice Ag ng cg, .slice Dg kg zg] 30 (0, 0)) ∧ w'.heap[g_p6]? = some (.cells #[.bool ti, .slice Ai ni ci, .slice Di ki zi] 30 (0, 0)) ∧ w'.heap[g_p7]? = some (.cells #[.bool th, .slice Ah nh ch, .slice Dh kh zh] 30 (0, 0))) (ds := []) (tB_ 56 0) (by kernel_rfl) rfl (by kernel_rfl) ⟨bk_ V_n B_n N_n, bk_ V_p5 B_p5 N_p5, bk_ V_p6 B_p6 N_p6, bk_ V_p7 B_p7 N_p7⟩ (fun hHeld => ?_)
 refine with_tabW Known6.tab6 Known6.bits6 (fun HT_ HW_ => ?_)
 generalize w159.drew = w160 at HB B_u B_n B_s B_g B_i B_p5 B_p6 B_h B_p7 hHeld ⊢
 refine pu_ 0 (some 83) 1 HT_ ?_
 refine pu_ 1 (some 84) 3 HT_ ?_
 refine pu_ 2 (some 85) 7 HT_ ?_
 refine tk_ 3 (some 86) 15 HT_ HW_ hHeld ?_ ?_ ?_ ?_ ?_
 rotate_left
 · intro w' hs
   have hb_ := hs.1
   obtain ⟨c0_, c1_, c2_⟩ := b3_ hb_
   clear hb_ hs
   go_simp
   with_reducible rfl
 rotate_left
 · simp only [PU]
   rfl
 refine tk_ 4 (some 87) 31 HT_ HW_ hHeld ?_ ?_ ?_ ?_ ?_
 rotate_left
 · intro w' hs
   have hb_ := hs.2.1
   obtain ⟨c0_, c1_, c2_⟩ := b3_ hb_
   clear hb_ hs
   go_simp
   with_reducible rfl
 rotate_left
 · simp only [PU]
   rfl
 refine tk_ 5 (some 88) 63 HT_ HW_ hHeld ?_ ?_ ?_ ?_ ?_
 rotate_left
 · intro w' hs
   have hb_ := hs.2.2.1
   obtain ⟨c0_, c1_, c2_⟩ := b3_ hb_
   clear hb_ hs
   go_simp
   with_reducible rfl
 rotate_left
 · simp only [PU]
   rfl
 refine tk_ 6 (some 89) 127 HT_ HW_ hHeld ?_ ?_ ?_ ?_ ?_
 rotate_left
 · intro w' hs
   have hb_ := hs.2.2.2
   obtain ⟨c0_, c1_, c2_⟩ := b3_ hb_
   clear hb_ hs
   go_simp
   with_reducible rfl
 rotate_left
 · simp only [PU]
   rfl
 refine on_ 7 (some 90) 255 HT_ (fun K hK => ?_)
 refine vl_ ?_
 refine hK.out _ _ (by exact ⟨blk_below hHeld.1 (below_alloc (Below.refl _ _) _), blk_below hHeld.2.1 (below_alloc (Below.refl _ _) _), blk_below hHeld.2.2.1 (below_alloc (Below.refl _ _) _), blk_below hHeld.2.2.2 (below_alloc (Below.refl _ _) _)⟩) (fun hHeld => ?_)
 clear hK K
 refine nm_ (some 90) ?_
 have hb : Below w160.heap.size w160 (w160.alloc (.cells #[.bool tg, .slice Ag ng cg, .slice Dg kg zg, .bool ti, .slice Ai ni ci, .slice Di ki zi, .bool th, .slice Ah nh ch, .slice Dh kh zh] 30 (0, 0))) := below_alloc (Below.refl _ _) _
 have hbox : (w160.alloc (.cells #[.bool tg, .slice Ag ng cg, .slice Dg kg zg, .bool ti, .slice Ai ni ci, .slice Di ki zi, .bool th, .slice Ah nh ch, .slice Dh kh zh] 30 (0, 0))).heap[w160.heap.size]? = some (.cells #[.bool tg, .slice Ag ng cg, .slice Dg kg zg, .bool ti, .slice Ai ni ci, .slice Di ki zi, .bool th, .slice Ah nh ch, .slice Dh kh zh] 30 (0, 0)) := blk_new w160 _
 obtain ⟨w161, hw_⟩ : ∃ x, x = w160.alloc (.cells #[.bool tg, .slice Ag ng cg, .slice Dg kg zg, .bool ti, .slice Ai ni ci, .slice Di ki zi, .bool th, .slice Ah nh ch, .slice Dh kh zh] 30 (0, 0)) := ⟨_, rfl⟩
 rw [← hw_] at hb hbox hHeld ⊢
 clear hw_
 obtain ⟨g_l, hg⟩ : ∃ x, x = w160.heap.size := ⟨_, rfl⟩
 rw [← hg] at hbox ⊢
 clear hg
 replace HB := kb_b HB hb
 replace B_u := kb_b B_u hb
 replace B_n := kb_b B_n hb
 replace B_s := kb_b B_s hb
 replace B_g := kb_b B_g hb
 replace B_i := kb_b B_i hb
 replace B_p5 := kb_b B_p5 hb
 replace B_p6 := kb_b B_p6 hb
 replace B_h := kb_b B_h hb
 replace B_p7 := kb_b B_p7 hb
 clear hb
 have V_l := a0_ hbox
 have B_l := kf_ w161
 have N_l := nf_ g_l
 clear hbox
 have hlq : RowQ (fun _ => True) w161 (.slice (some ⟨g_l, 0, none⟩) 3 3) [((bigN : Nat) : Rat), ((1 : Int) : Rat), (-((bigN : Nat) : Rat))] := RowQ.mono (row_of kdR (xs := [((bigN : Nat) : Rat), ((1 : Int) : Rat), (-((bigN : Nat) : Rat))]) (inner := [.bool tg, .slice Ag ng cg, .slice Dg kg zg, .bool ti, .slice Ai ni ci, .slice Di ki zi, .bool th, .slice Ah nh ch, .slice Dh kh zh]) (ok := fun _ => True) (bk_ V_l B_l N_l) (by show 3 ≤ 9223372036854775807; decide) (reps3 (IsR.mk' (IsR.kb (S := fun k => False) V_g.out B_g.out (fun _ _ h => h))) (IsR.mk' (IsR.kb (S := fun k => False) V_i.out B_i.out (fun _ _ h => h))) (IsR.mk' (IsR.kb (S := fun k => False) V_h.out B_h.out (fun _ _ h => h))))) (fun _ _ => trivial)
 clear V_l B_l
 clear N_l
 have V_l := a0_ hlq
 clear hlq
 have B_l := kf_ w161
 refine on_ 8 (some 91) 511 HT_ (fun K hK => ?_)
 refine gs_ Try.func21 #[.slice (some ⟨g_l, 0, none⟩) 3 3] ?_
 refine (of_calls [((bigN : Nat) : Rat), ((1 : Int) : Rat), (-((bigN : Nat) : Rat))] (by show 3 ≤ 100000; decide) _ _ (RowQ.kb V_l.out B_l.out (fun _ _ h => h))).mono ?_
 rintro e w162 ⟨⟨v91, rfl, hv⟩, hb⟩
 obtain ⟨A_e, c_e, rfl⟩ := RowS.slice hv
 have hv := RowS.mono hv (ok' := fun _ => True) (fun _ _ => trivial)
 obtain ⟨se, hss⟩ : ∃ s, s = smpsOf [((bigN : Nat) : Rat), ((1 : Int) : Rat), (-((bigN : Nat) : Rat))] := ⟨_, rfl⟩
 rw [← hss] at hv ⊢
 have HE := a0_ (show se.length = 3 ∧ ByS se ∧ ValS se [((bigN : Nat) : Rat), ((1 : Int) : Rat), (-((bigN : Nat) : Rat))] from by rw [hss]; exact ⟨by rw [smpsOf_len]; rfl, smpsOf_by _ (by show 3 ≤ 1000000; decide), smpsOf_val _⟩)
 clear hss
 have hs0 : 0 < se.length := by rw [HE.out.1]; decide
 have hs1 : se.length ≤ 1000000 := by rw [HE.out.1]; decide
 have hs2 : se.length ≤ 20 := by rw [HE.out.1]; decide
 have HG := a0_ (And.intro hs0 (And.intro hs1 hs2))
 clear hs0 hs1 hs2
 refine ⟨_, rfl, ?_⟩
 refine hK.out _ _ (by exact ⟨blk_below hHeld.1 hb, blk_below hHeld.2.1 hb, blk_below hHeld.2.2.1 hb, blk_below hHeld.2.2.2 hb⟩) (fun hHeld => ?_)
 clear hK K
 refine nm_ (some 91) ?_
 replace HB := kb_b HB hb
 replace B_u := kb_b B_u hb
 replace B_n := kb_b B_n hb
 replace B_s := kb_b B_s hb
 replace B_g := kb_b B_g hb
 replace B_i := kb_b B_i hb
 replace B_p5 := kb_b B_p5 hb
 replace B_p6 := kb_b B_p6 hb
 replace B_h := kb_b B_h hb
 replace B_p7 := kb_b B_p7 hb
 replace B_l := kb_b B_l hb
 clear hb
 clear V_l B_l
 have V_e := a0_ hv
 clear hv
 have B_e := kf_ w162
 refine on_ 9 (some 92) 1023 HT_ (fun K hK => ?_)
 refine gs_ Try.func22 #[.int .i64 6, .int .i64 1, .agg #[.bool tu, .slice Au nu cu, .slice Du ku zu], .slice A_e se.length c_e, .int .i64 20] ?_
 refine (odd_true 6 1 20 _ _ _ _ _ _ _ _ _ _ _ (fun W hW => run_none (wrun6 1 (by omega) (by omega) se HE.out.2.1 [((bigN : Nat) : Rat), ((1 : Int) : Rat), (-((bigN : Nat) : Rat))] HE.out.2.2 HG.out.1 HG.out.2.1 W _ _ _ _ _ _ _ _ _ (RowS.kb (RowS.kb V_e.out B_e.out (fun _ _ h => h)) hW (fun _ _ h => h))) (fun a ha => by rw [ha]; decide +kernel))).mono ?_
 rintro e w163 ⟨rfl, hb⟩
 refine ⟨_, rfl, ?_⟩
 refine hK.out _ _ (by exact ⟨blk_below hHeld.1 hb, blk_below hHeld.2.1 hb, blk_below hHeld.2.2.1 hb, blk_below hHeld.2.2.2 hb⟩) (fun hHeld => ?_)
 clear hK K
 refine nm_ (some 92) ?_
 replace HB := kb_b HB hb
 replace B_u := kb_b B_u hb
 replace B_n := kb_b B_n hb
 replace B_s := kb_b B_s hb
 replace B_g := kb_b B_g hb
 replace B_i := kb_b B_i hb
 replace B_p5 := kb_b B_p5 hb
 replace B_p6 := kb_b B_p6 hb
 replace B_h := kb_b B_h hb
 replace B_p7 := kb_b B_p7 hb
 replace B_e := kb_b B_e hb
 clear hb
 clear V_e B_e
 clear HE HG
 refine pu_ 10 (some 93) 2047 HT_ ?_
 refine pu_ 11 (some 94) 4095 HT_ ?_
 refine tk_ 12 (some 95) 8191 HT_ HW_ hHeld ?_ ?_ ?_ ?_ ?_
 rotate_left
 · intro w' hs
   have hb_ := hs.1
   obtain ⟨c0_, c1_, c2_⟩ := b3_ hb_
   clear hb_ hs
   go_simp
   with_reducible rfl
 rotate_left
 · simp only [PU]
   rfl
 refine tk_ 13 (some 96) 16383 HT_ HW_ hHeld ?_ ?_ ?_ ?_ ?_
 rotate_left
 · intro w' hs
   have hb_ := hs.2.1
   obtain ⟨c0_, c1_, c2_⟩ := b3_ hb_
   clear hb_ hs
   go_simp
   with_reducible rfl
 rotate_left
 · simp only [PU]
   rfl
 refine tk_ 14 (some 97) 32767 HT_ HW_ hHeld ?_ ?_ ?_ ?_ ?_
 rotate_left
 · intro w' hs
   have hb_ := hs.2.2.2
   obtain ⟨c0_, c1_, c2_⟩ := b3_ hb_
   clear hb_ hs
   go_simp
   with_reducible rfl
 rotate_left
 · simp only [PU]
   rfl
 refine tk_ 15 (some 98) 65535 HT_ HW_ hHeld ?_ ?_ ?_ ?_ ?_
 rotate_left
 · intro w' hs
   have hb_ := hs.2.2.1
   obtain ⟨c0_, c1_, c2_⟩ := b3_ hb_
   clear hb_ hs
   go_simp
   with_reducible rfl
 rotate_left
 · simp only [PU]
   rfl
 refine tk_ 18 (some 101) 327679 HT_ HW_ hHeld ?_ ?_ ?_ ?_ ?_
 rotate_left
 · intro w' hs
   have hb_ := hs.2.2.1
   obtain ⟨c0_, c1_, c2_⟩ := b3_ hb_
   clear hb_ hs
   go_simp
   with_reducible rfl
 rotate_left
 · simp only [PU]
   rfl
 refine on_ 16 (some 99) 393215 HT_ (fun K hK => ?_)
 refine vl_ ?_
 refine hK.out _ _ (by exact ⟨blk_below hHeld.1 (below_alloc (Below.refl _ _) _), blk_below hHeld.2.1 (below_alloc (Below.refl _ _) _), blk_below hHeld.2.2.1 (below_alloc (Below.refl _ _) _), blk_below hHeld.2.2.2 (below_alloc (Below.refl _ _) _)⟩) (fun hHeld => ?_)
 clear hK K
 refine nm_ (some 99) ?_
 have hb : Below w163.heap.size w163 (w163.alloc (.cells #[.bool tg, .slice Ag ng cg, .slice Dg kg zg, .bool th, .slice Ah nh ch, .slice Dh kh zh, .bool ti, .slice Ai ni ci, .slice Di ki zi] 30 (0, 0))) := below_alloc (Below.refl _ _) _
 have hbox : (w163.alloc (.cells #[.bool tg, .slice Ag ng cg, .slice Dg kg zg, .bool th, .slice Ah nh ch, .slice Dh kh zh, .bool ti, .slice Ai ni ci, .slice Di ki zi] 30 (0, 0))).heap[w163.heap.size]? = some (.cells #[.bool tg, .slice Ag ng cg, .slice Dg kg zg, .bool th, .slice Ah nh ch, .slice Dh kh zh, .bool ti, .slice Ai ni ci, .slice Di ki zi] 30 (0, 0)) := blk_new w163 _
 obtain ⟨w164, hw_⟩ : ∃ x, x = w163.alloc (.cells #[.bool tg, .slice Ag ng cg, .slice Dg kg zg, .bool th, .slice Ah nh ch, .slice Dh kh zh, .bool ti, .slice Ai ni ci, .slice Di ki zi] 30 (0, 0)) := ⟨_, rfl⟩
 rw [← hw_] at hb hbox hHeld ⊢
 clear hw_
 obtain ⟨g_l, hg⟩ : ∃ x, x = w163.heap.size := ⟨_, rfl⟩
 rw [← hg] at hbox ⊢
 clear hg
 replace HB := kb_b HB hb
 replace B_u := kb_b B_u hb
 replace B_n := kb_b B_n hb
 replace B_s := kb_b B_s hb
 replace B_g := kb_b B_g hb
 replace B_i := kb_b B_i hb
 replace B_p5 := kb_b B_p5 hb
 replace B_p6 := kb_b B_p6 hb
 replace B_h := kb_b B_h hb
 replace B_p7 := kb_b B_p7 hb
 clear hb
 have V_l := a0_ hbox
 have B_l := kf_ w164
 have N_l := nf_ g_l
 clear hbox
 have hlq : RowQ (fun _ => True) w164 (.slice (some ⟨g_l, 0, none⟩) 3 3) [((bigN : Nat) : Rat), (-((bigN : Nat) : Rat)), ((1 : Int) : Rat)] := RowQ.mono (row_of kdR (xs := [((bigN : Nat) : Rat), (-((bigN : Nat) : Rat)), ((1 : Int) : Rat)]) (inner := [.bool tg, .slice Ag ng cg, .slice Dg kg zg, .bool th, .slice Ah nh ch, .slice Dh kh zh, .bool ti, .slice Ai ni ci, .slice Di ki zi]) (ok := fun _ => True) (bk_ V_l B_l N_l) (by show 3 ≤ 9223372036854775807; decide) (reps3 (IsR.mk' (IsR.kb (S := fun k => False) V_g.out B_g.out (fun _ _ h => h))) (IsR.mk' (IsR.kb (S := fun k => False) V_h.out B_h.out (fun _ _ h => h))) (IsR.mk' (IsR.kb (S := fun k => False) V_i.out B_i.out (fun _ _ h => h))))) (fun _ _ => trivial)
 clear V_l B_l
 clear N_l
 have V_l := a0_ hlq
 clear hlq
 have B_l := kf_ w164
 refine on_ 17 (some 100) 524287 HT_ (fun K hK => ?_)
 refine gs_ Try.func21 #[.slice (some ⟨g_l, 0, none⟩) 3 3] ?_
 refine (of_calls [((bigN : Nat) : Rat), (-((bigN : Nat) : Rat)), ((1 : Int) : Rat)] (by show 3 ≤ 100000; decide) _ _ (RowQ.kb V_l.out B_l.out (fun _ _ h => h))).mono ?_
 rintro e w165 ⟨⟨v100, rfl, hv⟩, hb⟩
 obtain ⟨A_e, c_e, rfl⟩ := RowS.slice hv
 have hv := RowS.mono hv (ok' := fun _ => True) (fun _ _ => trivial)
 obtain ⟨se, hss⟩ : ∃ s, s = smpsOf [((bigN : Nat) : Rat), (-((bigN : Nat) : Rat)), ((1 : Int) : Rat)] := ⟨_, rfl⟩
 rw [← hss] at hv ⊢
 have HE := a0_ (show se.length = 3 ∧ ByS se ∧ ValS se [((bigN : Nat) : Rat), (-((bigN : Nat) : Rat)), ((1 : Int) : Rat)] from by rw [hss]; exact ⟨by rw [smpsOf_len]; rfl, smpsOf_by _ (by show 3 ≤ 1000000; decide), smpsOf_val _⟩)
 clear hss
 have hs0 : 0 < se.length := by rw [HE.out.1]; decide
 have hs1 : se.length ≤ 1000000 := by rw [HE.out.1]; decide
 have hs2 : se.length ≤ 20 := by rw [HE.out.1]; decide
 have HG := a0_ (And.intro hs0 (And.intro hs1 hs2))
 clear hs0 hs1 hs2
 refine ⟨_, rfl, ?_⟩
 refine hK.out _ _ (by exact ⟨blk_below hHeld.1 hb, blk_below hHeld.2.1 hb, blk_below hHeld.2.2.1 hb, blk_below hHeld.2.2.2 hb⟩) (fun hHeld => ?_)
 clear hK K
 refine nm_ (some 100) ?_
 replace HB := kb_b HB hb
 replace B_u := kb_b B_u hb
 replace B_n := kb_b B_n hb
 replace B_s := kb_b B_s hb
 replace B_g := kb_b B_g hb
 replace B_i := kb_b B_i hb
 replace B_p5 := kb_b B_p5 hb
 replace B_p6 := kb_b B_p6 hb
 replace B_h := kb_b B_h hb
 replace B_p7 := kb_b B_p7 hb
 replace B_l := kb_b B_l hb
 clear hb
 clear V_l B_l
 have V_e := a0_ hv
 clear hv
 have B_e := kf_ w165
 refine on_ 19 (some 102) 1048575 HT_ (fun K hK => ?_)
 refine gs_ Try.func14 #[.int .i64 6, .int .i64 1, .agg #[.bool tu, .slice Au nu cu, .slice Du ku zu], .slice A_e se.length c_e, .agg #[.bool ti, .slice Ai ni ci, .slice Di ki zi]] ?_
 refine (makes_true 6 1 ((1 : Int) : Rat) _ _ _ _ _ _ _ _ _ _ _ _ (IsR.kb (S := fun k => False) V_i.out B_i.out (fun _ _ h => h)) (fun W hW => run_some (wrun6 1 (by omega) (by omega) se HE.out.2.1 [((bigN : Nat) : Rat), (-((bigN : Nat) : Rat)), ((1 : Int) : Rat)] HE.out.2.2 HG.out.1 HG.out.2.1 W _ _ _ _ _ _ _ _ _ (RowS.kb (RowS.kb V_e.out B_e.out (fun _ _ h => h)) hW (fun _ _ h => h))) (fun a ha => by rw [ha]; decide +kernel))).mono ?_
 rintro e w166 ⟨rfl, hb⟩
 refine ⟨_, rfl, ?_⟩
 refine hK.out _ _ (by exact ⟨blk_below hHeld.1 hb, blk_below hHeld.2.1 hb, blk_below hHeld.2.2.1 hb, blk_below hHeld.2.2.2 hb⟩) (fun hHeld => ?_)
 clear hK K
 refine nm_ (some 102) ?_
 replace HB := kb_b HB hb
 replace B_u := kb_b B_u hb
 replace B_n := kb_b B_n hb
 replace B_s := kb_b B_s hb
 replace B_g := kb_b B_g hb
 replace B_i := kb_b B_i hb
 replace B_p5 := kb_b B_p5 hb
 replace B_p6 := kb_b B_p6 hb
 replace B_h := kb_b B_h hb
 replace B_p7 := kb_b B_p7 hb
 replace B_e := kb_b B_e hb
 clear hb
 clear V_e B_e
 clear HE HG
 refine pu_ 20 (some 103) 2097151 HT_ ?_
 refine pu_ 21 (some 104) 4194303 HT_ ?_
 refine tk_ 22 (some 105) 8388607 HT_ HW_ hHeld ?_ ?_ ?_ ?_ ?_
 rotate_left
 · intro w' hs
   have hb_ := hs.1
   obtain ⟨c0_, c1_, c2_⟩ := b3_ hb_
   clear hb_ hs
   go_simp
   with_reducible rfl
 rotate_left
 · simp only [PU]
   rfl
 refine tk_ 23 (some 106) 16777215 HT_ HW_ hHeld ?_ ?_ ?_ ?_ ?_
 rotate_left
 · intro w' hs
   have hb_ := hs.2.2.1
   obtain ⟨c0_, c1_, c2_⟩ := b3_ hb_
   clear hb_ hs
   go_simp
   with_reducible rfl
 rotate_left
 · simp only [PU]
   rfl
 refine tk_ 24 (some 107) 33554431 HT_ HW_ hHeld ?_ ?_ ?_ ?_ ?_
 rotate_left
 · intro w' hs
   have hb_ := hs.2.1
   obtain ⟨c0_, c1_, c2_⟩ := b3_ hb_
   clear hb_ hs
   go_simp
   with_reducible rfl
 rotate_left
 · simp only [PU]
   rfl
 refine tk_ 27 (some 110) 167772159 HT_ HW_ hHeld ?_ ?_ ?_ ?_ ?_
 rotate_left
 · intro w' hs
   have hb_ := hs.2.1
   obtain ⟨c0_, c1_, c2_⟩ := b3_ hb_
   clear hb_ hs
   go_simp
   with_reducible rfl
 rotate_left
 · simp only [PU]
   rfl
 refine on_ 25 (some 108) 201326591 HT_ (fun K hK => ?_)
 refine vl_ ?_
 refine hK.out _ _ (by exact ⟨blk_below hHeld.1 (below_alloc (Below.refl _ _) _), blk_below hHeld.2.1 (below_alloc (Below.refl _ _) _), blk_below hHeld.2.2.1 (below_alloc (Below.refl _ _) _), blk_below hHeld.2.2.2 (below_alloc (Below.refl _ _) _)⟩) (fun hHeld => ?_)
 clear hK K
 refine nm_ (some 108) ?_
 have hb : Below w166.heap.size w166 (w166.alloc (.cells #[.bool ti, .slice Ai ni ci, .slice Di ki zi, .bool tg, .slice Ag ng cg, .slice Dg kg zg] 30 (0, 0))) := below_alloc (Below.refl _ _) _
 have hbox : (w166.alloc (.cells #[.bool ti, .slice Ai ni ci, .slice Di ki zi, .bool tg, .slice Ag ng cg, .slice Dg kg zg] 30 (0, 0))).heap[w166.heap.size]? = some (.cells #[.bool ti, .slice Ai ni ci, .slice Di ki zi, .bool tg, .slice Ag ng cg, .slice Dg kg zg] 30 (0, 0)) := blk_new w166 _
 obtain ⟨w167, hw_⟩ : ∃ x, x = w166.alloc (.cells #[.bool ti, .slice Ai ni ci, .slice Di ki zi, .bool tg, .slice Ag ng cg, .slice Dg kg zg] 30 (0, 0)) := ⟨_, rfl⟩
 rw [← hw_] at hb hbox hHeld ⊢
 clear hw_
 obtain ⟨g_l, hg⟩ : ∃ x, x = w166.heap.size := ⟨_, rfl⟩
 rw [← hg] at hbox ⊢
 clear hg
 replace HB := kb_b HB hb
 replace B_u := kb_b B_u hb
 replace B_n := kb_b B_n hb
 replace B_s := kb_b B_s hb
 replace B_g := kb_b B_g hb
 replace B_i := kb_b B_i hb
 replace B_p5 := kb_b B_p5 hb
 replace B_p6 := kb_b B_p6 hb
 replace B_h := kb_b B_h hb
 replace B_p7 := kb_b B_p7 hb
 clear hb
 have V_l := a0_ hbox
 have B_l := kf_ w167
 have N_l := nf_ g_l
 clear hbox
 have hlq : RowQ (fun _ => True) w167 (.slice (some ⟨g_l, 0, none⟩) 2 2) [((1 : Int) : Rat), ((bigN : Nat) : Rat)] := RowQ.mono (row_of kdR (xs := [((1 : Int) : Rat), ((bigN : Nat) : Rat)]) (inner := [.bool ti, .slice Ai ni ci, .slice Di ki zi, .bool tg, .slice Ag ng cg, .slice Dg kg zg]) (ok := fun _ => True) (bk_ V_l B_l N_l) (by show 2 ≤ 9223372036854775807; decide) (reps2 (IsR.mk' (IsR.kb (S := fun k => False) V_i.out B_i.out (fun _ _ h => h))) (IsR.mk' (IsR.kb (S := fun k => False) V_g.out B_g.out (fun _ _ h => h))))) (fun _ _ => trivial)
 clear V_l B_l
 clear N_l
 have V_l := a0_ hlq
 clear hlq
 have B_l := kf_ w167
 refine on_ 26 (some 109) 268435455 HT_ (fun K hK => ?_)
 refine gs_ Try.func21 #[.slice (some ⟨g_l, 0, none⟩) 2 2] ?_
 refine (of_calls [((1 : Int) : Rat), ((bigN : Nat) : Rat)] (by show 2 ≤ 100000; decide) _ _ (RowQ.kb V_l.out B_l.out (fun _ _ h => h))).mono ?_
 rintro e w168 ⟨⟨v109, rfl, hv⟩, hb⟩
 obtain ⟨A_e, c_e, rfl⟩ := RowS.slice hv
 have hv := RowS.mono hv (ok' := fun _ => True) (fun _ _ => trivial)
 obtain ⟨se, hss⟩ : ∃ s, s = smpsOf [((1 : Int) : Rat), ((bigN : Nat) : Rat)] := ⟨_, rfl⟩
 rw [← hss] at hv ⊢
 have HE := a0_ (show se.length = 2 ∧ ByS se ∧ ValS se [((1 : Int) : Rat), ((bigN : Nat) : Rat)] from by rw [hss]; exact ⟨by rw [smpsOf_len]; rfl, smpsOf_by _ (by show 2 ≤ 1000000; decide), smpsOf_val _⟩)
 clear hss
 have hs0 : 0 < se.length := by rw [HE.out.1]; decide
 have hs1 : se.length ≤ 1000000 := by rw [HE.out.1]; decide
 have hs2 : se.length ≤ 20 := by rw [HE.out.1]; decide
 have HG := a0_ (And.intro hs0 (And.intro hs1 hs2))
 clear hs0 hs1 hs2
 refine ⟨_, rfl, ?_⟩
 refine hK.out _ _ (by exact ⟨blk_below hHeld.1 hb, blk_below hHeld.2.1 hb, blk_below hHeld.2.2.1 hb, blk_below hHeld.2.2.2 hb⟩) (fun hHeld => ?_)
 clear hK K
 refine nm_ (some 109) ?_
 replace HB := kb_b HB hb
 replace B_u := kb_b B_u hb
 replace B_n := kb_b B_n hb
 replace B_s := kb_b B_s hb
 replace B_g := kb_b B_g hb
 replace B_i := kb_b B_i hb
 replace B_p5 := kb_b B_p5 hb
 replace B_p6 := kb_b B_p6 hb
 replace B_h := kb_b B_h hb
 replace B_p7 := kb_b B_p7 hb
 replace B_l := kb_b B_l hb
 clear hb
 clear V_l B_l
 have V_e := a0_ hv
 clear hv
 have B_e := kf_ w168
 refine on_ 28 (some 111) 536870911 HT_ (fun K hK => ?_)
 refine gs_ Try.func14 #[.int .i64 9, .int .i64 1, .agg #[.bool tu, .slice Au nu cu, .slice Du ku zu], .slice A_e se.length c_e, .agg #[.bool tg, .slice Ag ng cg, .slice Dg kg zg]] ?_
 refine (makes_true 9 1 ((bigN : Nat) : Rat) _ _ _ _ _ _ _ _ _ _ _ _ (IsR.kb (S := fun k => False) V_g.out B_g.out (fun _ _ h => h)) (fun W hW => run_some (wrun9 1 (by omega) (by omega) se HE.out.2.1 [((1 : Int) : Rat), ((bigN : Nat) : Rat)] HE.out.2.2 HG.out.1 HG.out.2.1 W _ _ _ _ _ _ _ _ _ (RowS.kb (RowS.kb V_e.out B_e.out (fun _ _ h => h)) hW (fun _ _ h => h))) (fun a ha => by rw [ha]; decide +kernel))).mono ?_
 rintro e w169 ⟨rfl, hb⟩
 refine ⟨_, rfl, ?_⟩
 refine hK.out _ _ (by exact ⟨blk_below hHeld.1 hb, blk_below hHeld.2.1 hb, blk_below hHeld.2.2.1 hb, blk_below hHeld.2.2.2 hb⟩) (fun hHeld => ?_)
 clear hK K
 refine nm_ (some 111) ?_
 replace HB := kb_b HB hb
 replace B_u := kb_b B_u hb
 replace B_n := kb_b B_n hb
 replace B_s := kb_b B_s hb
 replace B_g := kb_b B_g hb
 replace B_i := kb_b B_i hb
 replace B_p5 := kb_b B_p5 hb
 replace B_p6 := kb_b B_p6 hb
 replace B_h := kb_b B_h hb
 replace B_p7 := kb_b B_p7 hb
 replace B_e := kb_b B_e hb
 clear hb
 clear V_e B_e
 clear HE HG
 refine pu_ 29 (some 112) 1073741823 HT_ ?_
 refine pu_ 30 (some 113) 2147483647 HT_ ?_
 refine tk_ 31 (some 114) 4294967295 HT_ HW_ hHeld ?_ ?_ ?_ ?_ ?_
 rotate_left
 · intro w' hs
   have hb_ := hs.1
   obtain ⟨c0_, c1_, c2_⟩ := b3_ hb_
   clear hb_ hs
   go_simp
   with_reducible rfl
 rotate_left
 · simp only [PU]
   rfl
 refine tk_ 32 (some 115) 8589934591 HT_ HW_ hHeld ?_ ?_ ?_ ?_ ?_
 rotate_left
 · intro w' hs
   have hb_ := hs.2.2.1
   obtain ⟨c0_, c1_, c2_⟩ := b3_ hb_
   clear hb_ hs
   go_simp
   with_reducible rfl
 rotate_left
 · simp only [PU]
   rfl
 refine tk_ 33 (some 116) 17179869183 HT_ HW_ hHeld ?_ ?_ ?_ ?_ ?_
 rotate_left
 · intro w' hs
   have hb_ := hs.2.1
   obtain ⟨c0_, c1_, c2_⟩ := b3_ hb_
   clear hb_ hs
   go_simp
   with_reducible rfl
 rotate_left
 · simp only [PU]
   rfl
 refine on_ 34 (some 117) 34359738367 HT_ (fun K hK => ?_)
 refine vl_ ?_
 refine hK.out _ _ (by exact ⟨blk_below hHeld.1 (below_alloc (Below.refl _ _) _), blk_below hHeld.2.1 (below_alloc (Below.refl _ _) _), blk_below hHeld.2.2.1 (below_alloc (Below.refl _ _) _), blk_below hHeld.2.2.2 (below_alloc (Below.refl _ _) _)⟩) (fun hHeld => ?_)
 clear hK K
 refine nm_ (some 117) ?_
 have hb : Below w169.heap.size w169 (w169.alloc (.cells #[.bool ti, .slice Ai ni ci, .slice Di ki zi, .bool tg, .slice Ag ng cg, .slice Dg kg zg] 30 (0, 0))) := below_alloc (Below.refl _ _) _
 have hbox : (w169.alloc (.cells #[.bool ti, .slice Ai ni ci, .slice Di ki zi, .bool tg, .slice Ag ng cg, .slice Dg kg zg] 30 (0, 0))).heap[w169.heap.size]? = some (.cells #[.bool ti, .slice Ai ni ci, .slice Di ki zi, .bool tg, .slice Ag ng cg, .slice Dg kg zg] 30 (0, 0)) := blk_new w169 _
 obtain ⟨w170, hw_⟩ : ∃ x, x = w169.alloc (.cells #[.bool ti, .slice Ai ni ci, .slice Di ki zi, .bool tg, .slice Ag ng cg, .slice Dg kg zg] 30 (0, 0)) := ⟨_, rfl⟩
 rw [← hw_] at hb hbox hHeld ⊢
 clear hw_
 obtain ⟨g_l, hg⟩ : ∃ x, x = w169.heap.size := ⟨_, rfl⟩
 rw [← hg] at hbox ⊢
 clear hg
 replace HB := kb_b HB hb
 replace B_u := kb_b B_u hb
 replace B_n := kb_b B_n hb
 replace B_s := kb_b B_s hb
 replace B_g := kb_b B_g hb
 replace B_i := kb_b B_i hb
 replace B_p5 := kb_b B_p5 hb
 replace B_p6 := kb_b B_p6 hb
 replace B_h := kb_b B_h hb
 replace B_p7 := kb_b B_p7 hb
 clear hb
 have V_l := a0_ hbox
 have B_l := kf_ w170
 have N_l := nf_ g_l
 clear hbox
 have hlq : RowQ (fun _ => True) w170 (.slice (some ⟨g_l, 0, none⟩) 2 2) [((1 : Int) : Rat), ((bigN : Nat) : Rat)] := RowQ.mono (row_of kdR (xs := [((1 : Int) : Rat), ((bigN : Nat) : Rat)]) (inner := [.bool ti, .slice Ai ni ci, .slice Di ki zi, .bool tg, .slice Ag ng cg, .slice Dg kg zg]) (ok := fun _ => True) (bk_ V_l B_l N_l) (by show 2 ≤ 9223372036854775807; decide) (reps2 (IsR.mk' (IsR.kb (S := fun k => False) V_i.out B_i.out (fun _ _ h => h))) (IsR.mk' (IsR.kb (S := fun k => False) V_g.out B_g.out (fun _ _ h => h))))) (fun _ _ => trivial)
 clear V_l B_l
 clear N_l
 have V_l := a0_ hlq
 clear hlq
 have B_l := kf_ w170
 refine on_ 35 (some 118) 68719476735 HT_ (fun K hK => ?_)
 refine gs_ Try.func21 #[.slice (some ⟨g_l, 0, none⟩) 2 2] ?_
 refine (of_calls [((1 : Int) : Rat), ((bigN : Nat) : Rat)] (by show 2 ≤ 100000; decide) _ _ (RowQ.kb V_l.out B_l.out (fun _ _ h => h))).mono ?_
 rintro e w171 ⟨⟨v118, rfl, hv⟩, hb⟩
 obtain ⟨A_e, c_e, rfl⟩ := RowS.slice hv
 have hv := RowS.mono hv (ok' := fun _ => True) (fun _ _ => trivial)
 obtain ⟨se, hss⟩ : ∃ s, s = smpsOf [((1 : Int) : Rat), ((bigN : Nat) : Rat)] := ⟨_, rfl⟩
 rw [← hss] at hv ⊢
 have HE := a0_ (show se.length = 2 ∧ ByS se ∧ ValS se [((1 : Int) : Rat), ((bigN : Nat) : Rat)] from by rw [hss]; exact ⟨by rw [smpsOf_len]; rfl, smpsOf_by _ (by show 2 ≤ 1000000; decide), smpsOf_val _⟩)
 clear hss
 have hs0 : 0 < se.length := by rw [HE.out.1]; decide
 have hs1 : se.length ≤ 1000000 := by rw [HE.out.1]; decide
 have hs2 : se.length ≤ 20 := by rw [HE.out.1]; decide
 have HG := a0_ (And.intro hs0 (And.intro hs1 hs2))
 clear hs0 hs1 hs2
 refine ⟨_, rfl, ?_⟩
 refine hK.out _ _ (by exact ⟨blk_below hHeld.1 hb, blk_below hHeld.2.1 hb, blk_below hHeld.2.2.1 hb, blk_below hHeld.2.2.2 hb⟩) (fun hHeld => ?_)
 clear hK K
 refine nm_ (some 118) ?_
 replace HB := kb_b HB hb
 replace B_u := kb_b B_u hb
 replace B_n := kb_b B_n hb
 replace B_s := kb_b B_s hb
 replace B_g := kb_b B_g hb
 replace B_i := kb_b B_i hb
 replace B_p5 := kb_b B_p5 hb
 replace B_p6 := kb_b B_p6 hb
 replace B_h := kb_b B_h hb
 replace B_p7 := kb_b B_p7 hb
 replace B_l := kb_b B_l hb
 clear hb
 clear V_l B_l
 have V_e := a0_ hv
 clear hv
 have B_e := kf_ w171
 refine on_ 36 (some 119) 137438953471 HT_ (fun K hK => ?_)
 refine gs_ Try.func22 #[.int .i64 7, .int .i64 1, .agg #[.bool tu, .slice Au nu cu, .slice Du ku zu], .slice A_e se.length c_e, .int .i64 20] ?_
 refine (odd_true 7 1 20 _ _ _ _ _ _ _ _ _ _ _ (fun W hW => run_none (wrun7 1 (by omega) (by omega) se HE.out.2.1 [((1 : Int) : Rat), ((bigN : Nat) : Rat)] HE.out.2.2 HG.out.1 HG.out.2.1 W _ _ _ _ _ _ _ _ _ (RowS.kb (RowS.kb V_e.out B_e.out (fun _ _ h => h)) hW (fun _ _ h => h))) (fun a ha => by rw [ha, HE.out.1]; decide +kernel))).mono ?_
 rintro e w172 ⟨rfl, hb⟩
 refine ⟨_, rfl, ?_⟩
 refine hK.out _ _ (by exact ⟨blk_below hHeld.1 hb, blk_below hHeld.2.1 hb, blk_below hHeld.2.2.1 hb, blk_below hHeld.2.2.2 hb⟩) (fun hHeld => ?_)
 clear hK K
 refine nm_ (some 119) ?_
 replace HB := kb_b HB hb
 replace B_u := kb_b B_u hb
 replace B_n := kb_b B_n hb
 replace B_s := kb_b B_s hb
 replace B_g := kb_b B_g hb
 replace B_i := kb_b B_i hb
 replace B_p5 := kb_b B_p5 hb
 replace B_p6 := kb_b B_p6 hb
 replace B_h := kb_b B_h hb
 replace B_p7 := kb_b B_p7 hb
 replace B_e := kb_b B_e hb
 clear hb
 clear V_e B_e
 clear HE HG
 refine pu_ 37 (some 120) 274877906943 HT_ ?_
 refine pu_ 38 (some 121) 549755813887 HT_ ?_
 refine tk_ 40 (some 123) 1649267441663 HT_ HW_ hHeld ?_ ?_ ?_ ?_ ?_
 rotate_left
 · intro w' hs
   have hb_ := hs.2.1
   obtain ⟨c0_, c1_, c2_⟩ := b3_ hb_
   clear hb_ hs
   go_simp
   with_reducible rfl
 rotate_left
 · simp only [PU]
   rfl
 refine tk_ 41 (some 124) 3848290697215 HT_ HW_ hHeld ?_ ?_ ?_ ?_ ?_
 rotate_left
 · intro w' hs
   have hb_ := hs.2.2.2
   obtain ⟨c0_, c1_, c2_⟩ := b3_ hb_
   clear hb_ hs
   go_simp
   with_reducible rfl
 rotate_left
 · simp only [PU]
   rfl
 have B_z0 := kf_ w172
 refine join_ (σ := Value × Value) 13 (tB_ 56 8796093022207) (fun s => [(122, s.1), (125, s.2)]) (fun s w' => (∃ (g_l : Nat) (tj : Bool) (Aj : Option Addr) (nj cj : Nat) (Dj : Option Addr) (kj zj : Nat), (s.2 = .slice (some ⟨g_l, 0, none⟩) 2 2 ∧ s.1 = .agg #[.bool tj, .slice Aj nj cj, .slice Dj kj zj]) ∧ w'.heap[g_l]? = some (.cells #[.bool tg, .slice Ag ng cg, .slice Dg kg zg, .bool th, .slice Ah nh ch, .slice Dh kh zh] 30 (0, 0)) ∧ IsR (fun _ => True) w' (.agg #[.bool tj, .slice Aj nj cj, .slice Dj kj zj]) (((1 : Int) : Rat) / ((2 : Int) : Rat))) ∧ Kb (fun k => False) w172 w' ∧ (w'.heap[g_n]? = some (.cells #[.bool tu, .slice Au nu cu, .slice Du ku zu] 30 (0, 0)) ∧ w'.heap[g_p5]? = some (.cells #[.bool tg, .slice Ag ng cg, .slice Dg kg zg] 30 (0, 0)) ∧ w'.heap[g_p6]? = some (.cells #[.bool ti, .slice Ai ni ci, .slice Di ki zi] 30 (0, 0)) ∧ w'.heap[g_p7]? = some (.cells #[.bool th, .slice Ah nh ch, .slice Dh kh zh] 30 (0, 0)))) ?hcont2 ?hord2
 rotate_left
 · intro HC
   refine tw_ 39 42 (some 122) (some 125) 4398046511103 8246337208319 HT_ (fun K hK => ?_) (fun K hK => ?_)
   · skip
     refine gs_ Try.func13 #[.int .i64 (1), .int .i64 2] ?_
     refine (part_calls (1) 2 (by omega) (by omega) (by omega) (by omega) (by decide +kernel) _).mono ?_
     rintro e w173 ⟨⟨v122, rfl, hv⟩, hb⟩
     obtain ⟨tj, Aj, nj, cj, Dj, kj, zj, rfl⟩ := hv.agg
     refine ⟨_, rfl, ?_⟩
     refine hK.out _ _ (by exact ⟨blk_below hHeld.1 hb, blk_below hHeld.2.1 hb, blk_below hHeld.2.2.1 hb, blk_below hHeld.2.2.2 hb⟩) (fun hHeld => ?_)
     clear hK K
     refine nm_ (some 122) ?_
     have hle := Kb.size HB.out
     have hv_ := IsR.mono' (ok' := fun k => True) hv (fun k hk _ => by trivial)
     clear hv hle
     replace HB := kb_b HB hb
     replace B_u := kb_b B_u hb
     replace B_n := kb_b B_n hb
     replace B_s := kb_b B_s hb
     replace B_g := kb_b B_g hb
     replace B_i := kb_b B_i hb
     replace B_p5 := kb_b B_p5 hb
     replace B_p6 := kb_b B_p6 hb
     replace B_h := kb_b B_h hb
     replace B_p7 := kb_b B_p7 hb
     replace B_z0 := kb_b B_z0 hb
     clear hb
     have V_j := a0_ hv_
     clear hv_
     have B_j := kf_ w173
     refine on_ 42 (some 125) 8796093022207 HT_ (fun K hK => ?_)
     refine vl_ ?_
     refine hK.out _ _ (by exact ⟨blk_below hHeld.1 (below_alloc (Below.refl _ _) _), blk_below hHeld.2.1 (below_alloc (Below.refl _ _) _), blk_below hHeld.2.2.1 (below_alloc (Below.refl _ _) _), blk_below hHeld.2.2.2 (below_alloc (Below.refl _ _) _)⟩) (fun hHeld => ?_)
     clear hK K
     refine nm_ (some 125) ?_
     have hb : Below w173.heap.size w173 (w173.alloc (.cells #[.bool tg, .slice Ag ng cg, .slice Dg kg zg, .bool th, .slice Ah nh ch, .slice Dh kh zh] 30 (0, 0))) := below_alloc (Below.refl _ _) _
     have hbox : (w173.alloc (.cells #[.bool tg, .slice Ag ng cg, .slice Dg kg zg, .bool th, .slice Ah nh ch, .slice Dh kh zh] 30 (0, 0))).heap[w173.heap.size]? = some (.cells #[.bool tg, .slice Ag ng cg, .slice Dg kg zg, .bool th, .slice Ah nh ch, .slice Dh kh zh] 30 (0, 0)) := blk_new w173 _
     obtain ⟨w174, hw_⟩ : ∃ x, x = w173.alloc (.cells #[.bool tg, .slice Ag ng cg, .slice Dg kg zg, .bool th, .slice Ah nh ch, .slice Dh kh zh] 30 (0, 0)) := ⟨_, rfl⟩
     rw [← hw_] at hb hbox hHeld ⊢
     clear hw_
     obtain ⟨g_l, hg⟩ : ∃ x, x = w173.heap.size := ⟨_, rfl⟩
     rw [← hg] at hbox ⊢
     clear hg
     replace HB := kb_b HB hb
     replace B_u := kb_b B_u hb
     replace B_n := kb_b B_n hb
     replace B_s := kb_b B_s hb
     replace B_g := kb_b B_g hb
     replace B_i := kb_b B_i hb
     replace B_p5 := kb_b B_p5 hb
     replace B_p6 := kb_b B_p6 hb
     replace B_h := kb_b B_h hb
     replace B_p7 := kb_b B_p7 hb
     replace B_z0 := kb_b B_z0 hb
     replace B_j := kb_b B_j hb
     clear hb
     have V_l := a0_ hbox
     have B_l := kf_ w174
     have N_l := nf_ g_l
     clear hbox
     exact HC (.agg #[.bool tj, .slice Aj nj cj, .slice Dj kj zj], .slice (some ⟨g_l, 0, none⟩) 2 2) _ ⟨⟨g_l, _, _, _, _, _, _, _, ⟨rfl, rfl⟩, (bk_ V_l B_l N_l), (IsR.kb (S := fun k => False) V_j.out B_j.out (fun _ _ h => h))⟩, B_z0.out, hHeld⟩
   · skip
     refine vl_ ?_
     refine hK.out _ _ (by exact ⟨blk_below hHeld.1 (below_alloc (Below.refl _ _) _), blk_below hHeld.2.1 (below_alloc (Below.refl _ _) _), blk_below hHeld.2.2.1 (below_alloc (Below.refl _ _) _), blk_below hHeld.2.2.2 (below_alloc (Below.refl _ _) _)⟩) (fun hHeld => ?_)
     clear hK K
     refine nm_ (some 125) ?_
     have hb : Below w172.heap.size w172 (w172.alloc (.cells #[.bool tg, .slice Ag ng cg, .slice Dg kg zg, .bool th, .slice Ah nh ch, .slice Dh kh zh] 30 (0, 0))) := below_alloc (Below.refl _ _) _
     have hbox : (w172.alloc (.cells #[.bool tg, .slice Ag ng cg, .slice Dg kg zg, .bool th, .slice Ah nh ch, .slice Dh kh zh] 30 (0, 0))).heap[w172.heap.size]? = some (.cells #[.bool tg, .slice Ag ng cg, .slice Dg kg zg, .bool th, .slice Ah nh ch, .slice Dh kh zh] 30 (0, 0)) := blk_new w172 _
     obtain ⟨w173, hw_⟩ : ∃ x, x = w172.alloc (.cells #[.bool tg, .slice Ag ng cg, .slice Dg kg zg, .bool th, .slice Ah nh ch, .slice Dh kh zh] 30 (0, 0)) := ⟨_, rfl⟩
     rw [← hw_] at hb hbox hHeld ⊢
     clear hw_
     obtain ⟨g_l, hg⟩ : ∃ x, x = w172.heap.size := ⟨_, rfl⟩
     rw [← hg] at hbox ⊢
     clear hg
     replace HB := kb_b HB hb
     replace B_u := kb_b B_u hb
     replace B_n := kb_b B_n hb
     replace B_s := kb_b B_s hb
     replace B_g := kb_b B_g hb
     replace B_i := kb_b B_i hb
     replace B_p5 := kb_b B_p5 hb
     replace B_p6 := kb_b B_p6 hb
     replace B_h := kb_b B_h hb
     replace B_p7 := kb_b B_p7 hb
     replace B_z0 := kb_b B_z0 hb
     clear hb
     have V_l := a0_ hbox
     have B_l := kf_ w173
     have N_l := nf_ g_l
     clear hbox
     refine on_ 39 (some 122) 8796093022207 HT_ (fun K hK => ?_)
     refine gs_ Try.func13 #[.int .i64 (1), .int .i64 2] ?_
     refine (part_calls (1) 2 (by omega) (by omega) (by omega) (by omega) (by decide +kernel) _).mono ?_
     rintro e w174 ⟨⟨v122, rfl, hv⟩, hb⟩
     obtain ⟨tj, Aj, nj, cj, Dj, kj, zj, rfl⟩ := hv.agg
     refine ⟨_, rfl, ?_⟩
     refine hK.out _ _ (by exact ⟨blk_below hHeld.1 hb, blk_below hHeld.2.1 hb, blk_below hHeld.2.2.1 hb, blk_below hHeld.2.2.2 hb⟩) (fun hHeld => ?_)
     clear hK K
     refine nm_ (some 122) ?_
     have hle := Kb.size HB.out
     have hv_ := IsR.mono' (ok' := fun k => True) hv (fun k hk _ => by trivial)
     clear hv hle
     replace HB := kb_b HB hb
     replace B_u := kb_b B_u hb
     replace B_n := kb_b B_n hb
     replace B_s := kb_b B_s hb
     replace B_g := kb_b B_g hb
     replace B_i := kb_b B_i hb
     replace B_p5 := kb_b B_p5 hb
     replace B_p6 := kb_b B_p6 hb
     replace B_h := kb_b B_h hb
     replace B_p7 := kb_b B_p7 hb
     replace B_z0 := kb_b B_z0 hb
     replace B_l := kb_b B_l hb
     clear hb
     have V_j := a0_ hv_
     clear hv_
     have B_j := kf_ w174
     exact HC (.agg #[.bool tj, .slice Aj nj cj, .slice Dj kj zj], .slice (some ⟨g_l, 0, none⟩) 2 2) _ ⟨⟨g_l, _, _, _, _, _, _, _, ⟨rfl, rfl⟩, (bk_ V_l B_l N_l), (IsR.kb (S := fun k => False) V_j.out B_j.out (fun _ _ h => h))⟩, B_z0.out, hHeld⟩
 rintro ⟨v122, v125⟩ w193 ⟨⟨g_l, tj, Aj, nj, cj, Dj, kj, zj, ⟨rfl, rfl⟩, hbox, hres⟩, hk, hHeld⟩
 refine norm_ (a' := ?_) ?_ ?_
 rotate_left
 · simp only [putAll, PU]
   rfl
 clear B_z0
 replace HB := kb_t HB hk (fun i hi => Or.inl hi)
 replace B_u := kb_t B_u hk (fun i hi => Or.inl hi)
 replace B_n := kb_t B_n hk (fun i hi => Or.inl hi)
 replace B_s := kb_t B_s hk (fun i hi => Or.inl hi)
 replace B_g := kb_t B_g hk (fun i hi => Or.inl hi)
 replace B_i := kb_t B_i hk (fun i hi => Or.inl hi)
 replace B_p5 := kb_t B_p5 hk (fun i hi => Or.inl hi)
 replace B_p6 := kb_t B_p6 hk (fun i hi => Or.inl hi)
 replace B_h := kb_t B_h hk (fun i hi => Or.inl hi)
 replace B_p7 := kb_t B_p7 hk (fun i hi => Or.inl hi)
 clear hk
 have V_l := a0_ hbox
 have B_l := kf_ w193
 have N_l := nf_ g_l
 clear hbox
 have V_j := a0_ hres
 clear hres
 have B_j := kf_ w193
 have hlq : RowQ (fun _ => True) w193 (.slice (some ⟨g_l, 0, none⟩) 2 2) [((bigN : Nat) : Rat), (-((bigN : Nat) : Rat))] := RowQ.mono (row_of kdR (xs := [((bigN : Nat) : Rat), (-((bigN : Nat) : Rat))]) (inner := [.bool tg, .slice Ag ng cg, .slice Dg kg zg, .bool th, .slice Ah nh ch, .slice Dh kh zh]) (ok := fun _ => True) (bk_ V_l B_l N_l) (by show 2 ≤ 9223372036854775807; decide) (reps2 (IsR.mk' (IsR.kb (S := fun k => False) V_g.out B_g.out (fun _ _ h => h))) (IsR.mk' (IsR.kb (S := fun k => False) V_h.out B_h.out (fun _ _ h => h))))) (fun _ _ => trivial)
 clear V_l B_l
 clear N_l
 have V_l := a0_ hlq
 clear hlq
 have B_l := kf_ w193
 refine on_ 43 (some 126) 17592186044415 HT_ (fun K hK => ?_)
 refine gs_ Try.func21 #[.slice (some ⟨g_l, 0, none⟩) 2 2] ?_
 refine (of_calls [((bigN : Nat) : Rat), (-((bigN : Nat) : Rat))] (by show 2 ≤ 100000; decide) _ _ (RowQ.kb V_l.out B_l.out (fun _ _ h => h))).mono ?_
 rintro e w194 ⟨⟨v126, rfl, hv⟩, hb⟩
 obtain ⟨A_e, c_e, rfl⟩ := RowS.slice hv
 have hv := RowS.mono hv (ok' := fun _ => True) (fun _ _ => trivial)
 obtain ⟨se, hss⟩ : ∃ s, s = smpsOf [((bigN : Nat) : Rat), (-((bigN : Nat) : Rat))] := ⟨_, rfl⟩
 rw [← hss] at hv ⊢
 have HE := a0_ (show se.length = 2 ∧ ByS se ∧ ValS se [((bigN : Nat) : Rat), (-((bigN : Nat) : Rat))] from by rw [hss]; exact ⟨by rw [smpsOf_len]; rfl, smpsOf_by _ (by show 2 ≤ 1000000; decide), smpsOf_val _⟩)
 clear hss
 have hs0 : 0 < se.length := by rw [HE.out.1]; decide
 have hs1 : se.length ≤ 1000000 := by rw [HE.out.1]; decide
 have hs2 : se.length ≤ 20 := by rw [HE.out.1]; decide
 have HG := a0_ (And.intro hs0 (And.intro hs1 hs2))
 clear hs0 hs1 hs2
 refine ⟨_, rfl, ?_⟩
 refine hK.out _ _ (by exact ⟨blk_below hHeld.1 hb, blk_below hHeld.2.1 hb, blk_below hHeld.2.2.1 hb, blk_below hHeld.2.2.2 hb⟩) (fun hHeld => ?_)
 clear hK K
 refine nm_ (some 126) ?_
 replace HB := kb_b HB hb
 replace B_u := kb_b B_u hb
 replace B_n := kb_b B_n hb
 replace B_s := kb_b B_s hb
 replace B_g := kb_b B_g hb
 replace B_i := kb_b B_i hb
 replace B_p5 := kb_b B_p5 hb
 replace B_p6 := kb_b B_p6 hb
 replace B_h := kb_b B_h hb
 replace B_p7 := kb_b B_p7 hb
 replace B_j := kb_b B_j hb
 replace B_l := kb_b B_l hb
 clear hb
 clear V_l B_l
 have V_e := a0_ hv
 clear hv
 have B_e := kf_ w194
 refine on_ 44 (some 127) 35184372088831 HT_ (fun K hK => ?_)
 refine gs_ Try.func22 #[.int .i64 12, .int .i64 1, .agg #[.bool tj, .slice Aj nj cj, .slice Dj kj zj], .slice A_e se.length c_e, .int .i64 20] ?_
 refine (odd_true 12 1 20 _ _ _ _ _ _ _ _ _ _ _ (fun W hW => run_none (wrun12 1 (by omega) (by omega) se HE.out.2.1 [((bigN : Nat) : Rat), (-((bigN : Nat) : Rat))] HE.out.2.2 (((1 : Int) : Rat) / ((2 : Int) : Rat)) (by decide +kernel) (by decide +kernel) HG.out.2.2 HG.out.1 HG.out.2.1 W _ _ _ _ _ _ _ _ _ (RowS.kb (RowS.kb V_e.out B_e.out (fun _ _ h => h)) hW (fun _ _ h => h)) (IsR.kb (IsR.kb (S := fun k => False) V_j.out B_j.out (fun _ _ h => h)) hW (fun _ _ h => h))) (fun a ha => by obtain ⟨qs', hp, hw, rfl⟩ := ha; rw [sorted2 hp hw _ _ rfl (by decide +kernel)]; decide +kernel))).mono ?_
 rintro e w195 ⟨rfl, hb⟩
 refine ⟨_, rfl, ?_⟩
 refine hK.out _ _ (by exact ⟨blk_below hHeld.1 hb, blk_below hHeld.2.1 hb, blk_below hHeld.2.2.1 hb, blk_below hHeld.2.2.2 hb⟩) (fun hHeld => ?_)
 clear hK K
 refine nm_ (some 127) ?_
 replace HB := kb_b HB hb
 replace B_u := kb_b B_u hb
 replace B_n := kb_b B_n hb
 replace B_s := kb_b B_s hb
 replace B_g := kb_b B_g hb
 replace B_i := kb_b B_i hb
 replace B_p5 := kb_b B_p5 hb
 replace B_p6 := kb_b B_p6 hb
 replace B_h := kb_b B_h hb
 replace B_p7 := kb_b B_p7 hb
 replace B_j := kb_b B_j hb
 replace B_e := kb_b B_e hb
 clear hb
 clear V_e B_e
 clear HE HG
 clear V_j B_j
 refine pu_ 45 (some 128) 70368744177663 HT_ ?_
 refine pu_ 46 (some 129) 140737488355327 HT_ ?_
 refine tk_ 47 (some 130) 281474976710655 HT_ HW_ hHeld ?_ ?_ ?_ ?_ ?_
 rotate_left
 · intro w' hs
   have hb_ := hs.1
   obtain ⟨c0_, c1_, c2_⟩ := b3_ hb_
   clear hb_ hs
   go_simp
   with_reducible rfl
 rotate_left
 · simp only [PU]
   rfl
 refine tk_ 48 (some 131) 562949953421311 HT_ HW_ hHeld ?_ ?_ ?_ ?_ ?_
 rotate_left
 · intro w' hs
   have hb_ := hs.2.2.1
   obtain ⟨c0_, c1_, c2_⟩ := b3_ hb_
   clear hb_ hs
   go_simp
   with_reducible rfl
 rotate_left
 · simp only [PU]
   rfl
 refine tk_ 49 (some 132) 1125899906842623 HT_ HW_ hHeld ?_ ?_ ?_ ?_ ?_
 rotate_left
 · intro w' hs
   have hb_ := hs.2.1
   obtain ⟨c0_, c1_, c2_⟩ := b3_ hb_
   clear hb_ hs
   go_simp
   with_reducible rfl
 rotate_left
 · simp only [PU]
   rfl
 refine tk_ 52 (some 135) 5629499534213119 HT_ HW_ hHeld ?_ ?_ ?_ ?_ ?_
 rotate_left
 · intro w' hs
   have hb_ := hs.2.1
   obtain ⟨c0_, c1_, c2_⟩ := b3_ hb_
   clear hb_ hs
   go_simp
   with_reducible rfl
 rotate_left
 · simp only [PU]
   rfl
 refine on_ 50 (some 133) 6755399441055743 HT_ (fun K hK => ?_)
 refine vl_ ?_
 refine hK.out _ _ (by exact ⟨blk_below hHeld.1 (below_alloc (Below.refl _ _) _), blk_below hHeld.2.1 (below_alloc (Below.refl _ _) _), blk_below hHeld.2.2.1 (below_alloc (Below.refl _ _) _), blk_below hHeld.2.2.2 (below_alloc (Below.refl _ _) _)⟩) (fun hHeld => ?_)
 clear hK K
 refine nm_ (some 133) ?_
 have hb : Below w195.heap.size w195 (w195.alloc (.cells #[.bool ti, .slice Ai ni ci, .slice Di ki zi, .bool tg, .slice Ag ng cg, .slice Dg kg zg] 30 (0, 0))) := below_alloc (Below.refl _ _) _
 have hbox : (w195.alloc (.cells #[.bool ti, .slice Ai ni ci, .slice Di ki zi, .bool tg, .slice Ag ng cg, .slice Dg kg zg] 30 (0, 0))).heap[w195.heap.size]? = some (.cells #[.bool ti, .slice Ai ni ci, .slice Di ki zi, .bool tg, .slice Ag ng cg, .slice Dg kg zg] 30 (0, 0)) := blk_new w195 _
 obtain ⟨w196, hw_⟩ : ∃ x, x = w195.alloc (.cells #[.bool ti, .slice Ai ni ci, .slice Di ki zi, .bool tg, .slice Ag ng cg, .slice Dg kg zg] 30 (0, 0)) := ⟨_, rfl⟩
 rw [← hw_] at hb hbox hHeld ⊢
 clear hw_
 obtain ⟨g_l, hg⟩ : ∃ x, x = w195.heap.size := ⟨_, rfl⟩
 rw [← hg] at hbox ⊢
 clear hg
 replace HB := kb_b HB hb
 replace B_u := kb_b B_u hb
 replace B_n := kb_b B_n hb
 replace B_s := kb_b B_s hb
 replace B_g := kb_b B_g hb
 replace B_i := kb_b B_i hb
 replace B_p5 := kb_b B_p5 hb
 replace B_p6 := kb_b B_p6 hb
 replace B_h := kb_b B_h hb
 replace B_p7 := kb_b B_p7 hb
 clear hb
 have V_l := a0_ hbox
 have B_l := kf_ w196
 have N_l := nf_ g_l
 clear hbox
 have hlq : RowQ (fun _ => True) w196 (.slice (some ⟨g_l, 0, none⟩) 2 2) [((1 : Int) : Rat), ((bigN : Nat) : Rat)] := RowQ.mono (row_of kdR (xs := [((1 : Int) : Rat), ((bigN : Nat) : Rat)]) (inner := [.bool ti, .slice Ai ni ci, .slice Di ki zi, .bool tg, .slice Ag ng cg, .slice Dg kg zg]) (ok := fun _ => True) (bk_ V_l B_l N_l) (by show 2 ≤ 9223372036854775807; decide) (reps2 (IsR.mk' (IsR.kb (S := fun k => False) V_i.out B_i.out (fun _ _ h => h))) (IsR.mk' (IsR.kb (S := fun k => False) V_g.out B_g.out (fun _ _ h => h))))) (fun _ _ => trivial)
 clear V_l B_l
 clear N_l
 have V_l := a0_ hlq
 clear hlq
 have B_l := kf_ w196
 refine on_ 51 (some 134) 9007199254740991 HT_ (fun K hK => ?_)
 refine gs_ Try.func21 #[.slice (some ⟨g_l, 0, none⟩) 2 2] ?_
 refine (of_calls [((1 : Int) : Rat), ((bigN : Nat) : Rat)] (by show 2 ≤ 100000; decide) _ _ (RowQ.kb V_l.out B_l.out (fun _ _ h => h))).mono ?_
 rintro e w197 ⟨⟨v134, rfl, hv⟩, hb⟩
 obtain ⟨A_e, c_e, rfl⟩ := RowS.slice hv
 have hv := RowS.mono hv (ok' := fun _ => True) (fun _ _ => trivial)
 obtain ⟨se, hss⟩ : ∃ s, s = smpsOf [((1 : Int) : Rat), ((bigN : Nat) : Rat)] := ⟨_, rfl⟩
 rw [← hss] at hv ⊢
 have HE := a0_ (show se.length = 2 ∧ ByS se ∧ ValS se [((1 : Int) : Rat), ((bigN : Nat) : Rat)] from by rw [hss]; exact ⟨by rw [smpsOf_len]; rfl, smpsOf_by _ (by show 2 ≤ 1000000; decide), smpsOf_val _⟩)
 clear hss
 have hs0 : 0 < se.length := by rw [HE.out.1]; decide
 have hs1 : se.length ≤ 1000000 := by rw [HE.out.1]; decide
 have hs2 : se.length ≤ 20 := by rw [HE.out.1]; decide
 have HG := a0_ (And.intro hs0 (And.intro hs1 hs2))
 clear hs0 hs1 hs2
 refine ⟨_, rfl, ?_⟩
 refine hK.out _ _ (by exact ⟨blk_below hHeld.1 hb, blk_below hHeld.2.1 hb, blk_below hHeld.2.2.1 hb, blk_below hHeld.2.2.2 hb⟩) (fun hHeld => ?_)
 clear hK K
 refine nm_ (some 134) ?_
 replace HB := kb_b HB hb
 replace B_u := kb_b B_u hb
 replace B_n := kb_b B_n hb
 replace B_s := kb_b B_s hb
 replace B_g := kb_b B_g hb
 replace B_i := kb_b B_i hb
 replace B_p5 := kb_b B_p5 hb
 replace B_p6 := kb_b B_p6 hb
 replace B_h := kb_b B_h hb
 replace B_p7 := kb_b B_p7 hb
 replace B_l := kb_b B_l hb
 clear hb
 clear V_l B_l
 have V_e := a0_ hv
 clear hv
 have B_e := kf_ w197
 refine on_ 53 (some 136) 18014398509481983 HT_ (fun K hK => ?_)
 refine gs_ Try.func14 #[.int .i64 11, .int .i64 1, .agg #[.bool tu, .slice Au nu cu, .slice Du ku zu], .slice A_e se.length c_e, .agg #[.bool tg, .slice Ag ng cg, .slice Dg kg zg]] ?_
 refine (makes_true 11 1 ((bigN : Nat) : Rat) _ _ _ _ _ _ _ _ _ _ _ _ (IsR.kb (S := fun k => False) V_g.out B_g.out (fun _ _ h => h)) (fun W hW => run_some (wrun11 1 (by omega) (by omega) se HE.out.2.1 [((1 : Int) : Rat), ((bigN : Nat) : Rat)] HE.out.2.2 HG.out.1 HG.out.2.1 W _ _ _ _ _ _ _ _ _ (RowS.kb (RowS.kb V_e.out B_e.out (fun _ _ h => h)) hW (fun _ _ h => h))) (fun a ha => by rw [ha, HE.out.1]; decide +kernel))).mono ?_
 rintro e w198 ⟨rfl, hb⟩
 refine ⟨_, rfl, ?_⟩
 refine hK.out _ _ (by exact ⟨blk_below hHeld.1 hb, blk_below hHeld.2.1 hb, blk_below hHeld.2.2.1 hb, blk_below hHeld.2.2.2 hb⟩) (fun hHeld => ?_)
 clear hK K
 refine nm_ (some 136) ?_
 replace HB := kb_b HB hb
 replace B_u := kb_b B_u hb
 replace B_n := kb_b B_n hb
 replace B_s := kb_b B_s hb
 replace B_g := kb_b B_g hb
 replace B_i := kb_b B_i hb
 replace B_p5 := kb_b B_p5 hb
 replace B_p6 := kb_b B_p6 hb
 replace B_h := kb_b B_h hb
 replace B_p7 := kb_b B_p7 hb
 replace B_e := kb_b B_e hb
 clear hb
 clear V_e B_e
 clear HE HG
 refine pu_ 54 (some 137) 36028797018963967 HT_ ?_
 refine pu_ 55 (some 9) 72057594037927935 HT_ ?_
 refine do_ HT_ ?_
 clear HT_ HW_ hHeld
 clear V_p5 B_p5
 clear V_p7 B_p7
 clear V_g B_g
 clear V_h B_h
 go_wp2_with fail
 have hb : Below w198.heap.size w198 w198.drew := below_drew1 (Below.refl _ _)
 replace HB := kb_b HB hb
 replace B_u := kb_b B_u hb
 replace B_n := kb_b B_n hb
 replace B_s := kb_b B_s hb
 replace B_i := kb_b B_i hb
 replace B_p6 := kb_b B_p6 hb
 clear hb
 refine start_ (n := 31) (S := fun w' => w'.heap[g_n]? = some (.cells #[.bool tu, .slice Au nu cu, .slice Du ku zu] 30 (0, 0)) ∧ w'.heap[g_p6]? = some (.cells #[.bool ti, .slice Ai ni ci, .slice Di ki zi] 30 (0, 0))) (ds := []) (tB_ 31 0) (by kernel_rfl) rfl (by kernel_rfl) ⟨bk_ V_n B_n N_n, bk_ V_p6 B_p6 N_p6⟩ (fun hHeld => ?_)
 refine with_tabW Known7.tab7 Known7.bits7 (fun HT_ HW_ => ?_)
 generalize w198.drew = w199 at HB B_u B_n B_s B_i B_p6 hHeld ⊢
 refine tk_ 0 (some 138) 1 HT_ HW_ hHeld ?_ ?_ ?_ ?_ ?_
 rotate_left
 · intro w' hs
   have hb_ := hs.1
   obtain ⟨c0_, c1_, c2_⟩ := b3_ hb_
   clear hb_ hs
   go_simp
   with_reducible rfl
 rotate_left
 · simp only [PU]
   rfl
 refine pu_ 1 (some 139) 3 HT_ ?_
 refine on_ 2 (some 140) 7 HT_ (fun K hK => ?_)
 refine gs_ Try.func22 #[.int .i64 5, .int .i64 1, .agg #[.bool tu, .slice Au nu cu, .slice Du ku zu], .slice As ss.length cs, .int .i64 0] ?_
 refine (odd_true 5 1 0 _ _ _ _ _ _ _ _ _ _ _ (fun W hW => odd_of (wabs_calls 1 ss.length HF.out.1 W _ _ _ _ _ _ _ _ _ (fun W2 hW2 => may5_calls 1 (by decide) (by decide) ss HS.out.2.1 HF.out.2.1 W2 _ _ _ _ _ _ _ _ (RowS.kb (RowS.kb (RowS.kb V_s.out B_s.out (fun _ _ h => h)) hW (fun _ _ h => h)) hW2 (fun _ _ h => h)))))).mono ?_
 rintro e w200 ⟨rfl, hb⟩
 refine ⟨_, rfl, ?_⟩
 refine hK.out _ _ (by exact ⟨blk_below hHeld.1 hb, blk_below hHeld.2 hb⟩) (fun hHeld => ?_)
 clear hK K
 refine nm_ (some 140) ?_
 replace HB := kb_b HB hb
 replace B_u := kb_b B_u hb
 replace B_n := kb_b B_n hb
 replace B_s := kb_b B_s hb
 replace B_i := kb_b B_i hb
 replace B_p6 := kb_b B_p6 hb
 clear hb
 refine pu_ 3 (some 141) 15 HT_ ?_
 refine tk_ 4 (some 142) 31 HT_ HW_ hHeld ?_ ?_ ?_ ?_ ?_
 rotate_left
 · intro w' hs
   have hb_ := hs.2
   obtain ⟨c0_, c1_, c2_⟩ := b3_ hb_
   clear hb_ hs
   go_simp
   with_reducible rfl
 rotate_left
 · simp only [PU]
   rfl
 refine on_ 5 (some 143) 63 HT_ (fun K hK => ?_)
 refine gs_ Try.func22 #[.int .i64 12, .int .i64 1, .agg #[.bool ti, .slice Ai ni ci, .slice Di ki zi], .slice none 0 0, .int .i64 0] ?_
 refine (odd_true 12 1 0 _ _ _ _ _ _ _ _ _ _ _ (fun W hW => odd_of (wrun12_nil 1 (by decide) (by decide) W _ _ _ _ _ _ _ ((1 : Int) : Rat) (by decide +kernel) (by decide +kernel) (IsR.kb (IsR.kb (S := fun k => False) V_i.out B_i.out (fun _ _ h => h)) hW (fun _ _ h => h))))).mono ?_
 rintro e w201 ⟨rfl, hb⟩
 refine ⟨_, rfl, ?_⟩
 refine hK.out _ _ (by exact ⟨blk_below hHeld.1 hb, blk_below hHeld.2 hb⟩) (fun hHeld => ?_)
 clear hK K
 refine nm_ (some 143) ?_
 replace HB := kb_b HB hb
 replace B_u := kb_b B_u hb
 replace B_n := kb_b B_n hb
 replace B_s := kb_b B_s hb
 replace B_i := kb_b B_i hb
 replace B_p6 := kb_b B_p6 hb
 clear hb
 refine pu_ 6 (some 144) 127 HT_ ?_
 refine pu_ 7 (some 145) 255 HT_ ?_
 refine tk_ 8 (some 146) 511 HT_ HW_ hHeld ?_ ?_ ?_ ?_ ?_
 rotate_left
 · intro w' hs
   have hb_ := hs.1
   obtain ⟨c0_, c1_, c2_⟩ := b3_ hb_
   clear hb_ hs
   go_simp
   with_reducible rfl
 rotate_left
 · simp only [PU]
   rfl
 refine tk_ 9 (some 147) 1023 HT_ HW_ hHeld ?_ ?_ ?_ ?_ ?_
 rotate_left
 · intro w' hs
   have hb_ := hs.2
   obtain ⟨c0_, c1_, c2_⟩ := b3_ hb_
   clear hb_ hs
   go_simp
   with_reducible rfl
 rotate_left
 · simp only [PU]
   rfl
 refine on_ 10 (some 148) 2047 HT_ (fun K hK => ?_)
 refine gs_ Try.func14 #[.int .i64 5, .int .i64 9, .agg #[.bool tu, .slice Au nu cu, .slice Du ku zu], .slice none 0 0, .agg #[.bool ti, .slice Ai ni ci, .slice Di ki zi]] ?_
 refine (makes_true 5 9 ((1 : Int) : Rat) _ _ _ _ _ _ _ _ _ _ _ _ (IsR.kb (S := fun k => False) V_i.out B_i.out (fun _ _ h => h)) (fun W hW => wrun5_nil 9 (by omega) (by omega) W _ _ _ _ _ _ _)).mono ?_
 rintro e w202 ⟨rfl, hb⟩
 refine ⟨_, rfl, ?_⟩
 refine hK.out _ _ (by exact ⟨blk_below hHeld.1 hb, blk_below hHeld.2 hb⟩) (fun hHeld => ?_)
 clear hK K
 refine nm_ (some 148) ?_
 replace HB := kb_b HB hb
 replace B_u := kb_b B_u hb
 replace B_n := kb_b B_n hb
 replace B_s := kb_b B_s hb
 replace B_i := kb_b B_i hb
 replace B_p6 := kb_b B_p6 hb
 clear hb
 refine pu_ 11 (some 149) 4095 HT_ ?_
 refine pu_ 12 (some 150) 8191 HT_ ?_
 refine tk_ 13 (some 151) 16383 HT_ HW_ hHeld ?_ ?_ ?_ ?_ ?_
 rotate_left
 · intro w' hs
   have hb_ := hs.1
   obtain ⟨c0_, c1_, c2_⟩ := b3_ hb_
   clear hb_ hs
   go_simp
   with_reducible rfl
 rotate_left
 · simp only [PU]
   rfl
 refine pu_ 14 (some 152) 32767 HT_ ?_
 refine on_ 15 (some 153) 65535 HT_ (fun K hK => ?_)
 refine gs_ Try.func12 #[.int .i64 (3)] ?_
 refine (qof_calls (3) (by omega) (by omega) _).mono ?_
 rintro e w203 ⟨⟨v153, rfl, hv⟩, hb⟩
 obtain ⟨ta, Aa, na, ca, Da, ka, za, rfl⟩ := hv.agg
 refine ⟨_, rfl, ?_⟩
 refine hK.out _ _ (by exact ⟨blk_below hHeld.1 hb, blk_below hHeld.2 hb⟩) (fun hHeld => ?_)
 clear hK K
 refine nm_ (some 153) ?_
 have hle := Kb.size HB.out
 have hv_ := IsR.mono' (ok' := fun k => True) hv (fun k hk _ => by trivial)
 clear hv hle
 replace HB := kb_b HB hb
 replace B_u := kb_b B_u hb
 replace B_n := kb_b B_n hb
 replace B_s := kb_b B_s hb
 replace B_i := kb_b B_i hb
 replace B_p6 := kb_b B_p6 hb
 clear hb
 have V_a := a0_ hv_
 clear hv_
 have B_a := kf_ w203
 refine on_ 16 (some 154) 131071 HT_ (fun K hK => ?_)
 refine gs_ Try.func14 #[.int .i64 10, .int .i64 1, .agg #[.bool tu, .slice Au nu cu, .slice Du ku zu], .slice As ss.length cs, .agg #[.bool ta, .slice Aa na ca, .slice Da ka za]] ?_
 refine (makes_true 10 1 ((3 : Int) : Rat) _ _ _ _ _ _ _ _ _ _ _ _ (IsR.kb (S := fun k => False) V_a.out B_a.out (fun _ _ h => h)) (fun W hW => run_some (wrun10 1 (by omega) (by omega) ss HS.out.2.1 l3 HS.out.2.2.1 HF.out.1 HF.out.2.1 W _ _ _ _ _ _ _ _ _ (RowS.kb (RowS.kb V_s.out B_s.out (fun _ _ h => h)) hW (fun _ _ h => h))) (fun a ha => by rw [ha]; decide +kernel))).mono ?_
 rintro e w204 ⟨rfl, hb⟩
 refine ⟨_, rfl, ?_⟩
 refine hK.out _ _ (by exact ⟨blk_below hHeld.1 hb, blk_below hHeld.2 hb⟩) (fun hHeld => ?_)
 clear hK K
 refine nm_ (some 154) ?_
 replace HB := kb_b HB hb
 replace B_u := kb_b B_u hb
 replace B_n := kb_b B_n hb
 replace B_s := kb_b B_s hb
 replace B_i := kb_b B_i hb
 replace B_p6 := kb_b B_p6 hb
 replace B_a := kb_b B_a hb
 clear hb
 clear V_a B_a
 refine pu_ 17 (some 155) 262143 HT_ ?_
 refine pu_ 18 (some 156) 524287 HT_ ?_
 refine tk_ 19 (some 157) 1048575 HT_ HW_ hHeld ?_ ?_ ?_ ?_ ?_
 rotate_left
 · intro w' hs
   have hb_ := hs.1
   obtain ⟨c0_, c1_, c2_⟩ := b3_ hb_
   clear hb_ hs
   go_simp
   with_reducible rfl
 rotate_left
 · simp only [PU]
   rfl
 refine pu_ 20 (some 158) 2097151 HT_ ?_
 refine on_ 21 (some 159) 4194303 HT_ (fun K hK => ?_)
 refine gs_ Try.func13 #[.int .i64 (1), .int .i64 2] ?_
 refine (part_calls (1) 2 (by omega) (by omega) (by omega) (by omega) (by decide +kernel) _).mono ?_
 rintro e w205 ⟨⟨v159, rfl, hv⟩, hb⟩
 obtain ⟨ta, Aa, na, ca, Da, ka, za, rfl⟩ := hv.agg
 refine ⟨_, rfl, ?_⟩
 refine hK.out _ _ (by exact ⟨blk_below hHeld.1 hb, blk_below hHeld.2 hb⟩) (fun hHeld => ?_)
 clear hK K
 refine nm_ (some 159) ?_
 have hle := Kb.size HB.out
 have hv_ := IsR.mono' (ok' := fun k => True) hv (fun k hk _ => by trivial)
 clear hv hle
 replace HB := kb_b HB hb
 replace B_u := kb_b B_u hb
 replace B_n := kb_b B_n hb
 replace B_s := kb_b B_s hb
 replace B_i := kb_b B_i hb
 replace B_p6 := kb_b B_p6 hb
 clear hb
 have V_a := a0_ hv_
 clear hv_
 have B_a := kf_ w205
 refine on_ 22 (some 160) 8388607 HT_ (fun K hK => ?_)
 refine gs_ Try.func14 #[.int .i64 8, .int .i64 1, .agg #[.bool tu, .slice Au nu cu, .slice Du ku zu], .slice As ss.length cs, .agg #[.bool ta, .slice Aa na ca, .slice Da ka za]] ?_
 refine (makes_true 8 1 (((1 : Int) : Rat) / ((2 : Int) : Rat)) _ _ _ _ _ _ _ _ _ _ _ _ (IsR.kb (S := fun k => False) V_a.out B_a.out (fun _ _ h => h)) (fun W hW => run_some (wrun8 1 (by omega) (by omega) ss HS.out.2.1 l3 HS.out.2.2.1 HF.out.1 HF.out.2.1 W _ _ _ _ _ _ _ _ _ (RowS.kb (RowS.kb V_s.out B_s.out (fun _ _ h => h)) hW (fun _ _ h => h))) (fun a ha => by rw [ha]; decide +kernel))).mono ?_
 rintro e w206 ⟨rfl, hb⟩
 refine ⟨_, rfl, ?_⟩
 refine hK.out _ _ (by exact ⟨blk_below hHeld.1 hb, blk_below hHeld.2 hb⟩) (fun hHeld => ?_)
 clear hK K
 refine nm_ (some 160) ?_
 replace HB := kb_b HB hb
 replace B_u := kb_b B_u hb
 replace B_n := kb_b B_n hb
 replace B_s := kb_b B_s hb
 replace B_i := kb_b B_i hb
 replace B_p6 := kb_b B_p6 hb
 replace B_a := kb_b B_a hb
 clear hb
 clear V_a B_a
 refine pu_ 23 (some 161) 16777215 HT_ ?_
 refine pu_ 24 (some 162) 33554431 HT_ ?_
 refine tk_ 25 (some 163) 67108863 HT_ HW_ hHeld ?_ ?_ ?_ ?_ ?_
 rotate_left
 · intro w' hs
   have hb_ := hs.1
   obtain ⟨c0_, c1_, c2_⟩ := b3_ hb_
   clear hb_ hs
   go_simp
   with_reducible rfl
 rotate_left
 · simp only [PU]
   rfl
 refine pu_ 26 (some 164) 134217727 HT_ ?_
 refine on_ 27 (some 165) 268435455 HT_ (fun K hK => ?_)
 refine gs_ Try.func12 #[.int .i64 (3)] ?_
 refine (qof_calls (3) (by omega) (by omega) _).mono ?_
 rintro e w207 ⟨⟨v165, rfl, hv⟩, hb⟩
 obtain ⟨ta, Aa, na, ca, Da, ka, za, rfl⟩ := hv.agg
 refine ⟨_, rfl, ?_⟩
 refine hK.out _ _ (by exact ⟨blk_below hHeld.1 hb, blk_below hHeld.2 hb⟩) (fun hHeld => ?_)
 clear hK K
 refine nm_ (some 165) ?_
 have hle := Kb.size HB.out
 have hv_ := IsR.mono' (ok' := fun k => True) hv (fun k hk _ => by trivial)
 clear hv hle
 replace HB := kb_b HB hb
 replace B_u := kb_b B_u hb
 replace B_n := kb_b B_n hb
 replace B_s := kb_b B_s hb
 replace B_i := kb_b B_i hb
 replace B_p6 := kb_b B_p6 hb
 clear hb
 have V_a := a0_ hv_
 clear hv_
 have B_a := kf_ w207
 refine on_ 28 (some 166) 536870911 HT_ (fun K hK => ?_)
 refine gs_ Try.func14 #[.int .i64 3, .int .i64 1, .agg #[.bool tu, .slice Au nu cu, .slice Du ku zu], .slice As ss.length cs, .agg #[.bool ta, .slice Aa na ca, .slice Da ka za]] ?_
 refine (makes_true 3 1 ((3 : Int) : Rat) _ _ _ _ _ _ _ _ _ _ _ _ (IsR.kb (S := fun k => False) V_a.out B_a.out (fun _ _ h => h)) (fun W hW => run_some (wrun3 1 (by omega) (by omega) ss HS.out.2.1 HF.out.1 HF.out.2.1 W _ _ _ _ _ _ _ _ _ (RowS.kb (RowS.kb V_s.out B_s.out (fun _ _ h => h)) hW (fun _ _ h => h))) (fun a ha => by rw [ha, HS.out.2.2.2]; decide +kernel))).mono ?_
 rintro e w208 ⟨rfl, hb⟩
 refine ⟨_, rfl, ?_⟩
 refine hK.out _ _ (by exact ⟨blk_below hHeld.1 hb, blk_below hHeld.2 hb⟩) (fun hHeld => ?_)
 clear hK K
 refine nm_ (some 166) ?_
 replace HB := kb_b HB hb
 replace B_u := kb_b B_u hb
 replace B_n := kb_b B_n hb
 replace B_s := kb_b B_s hb
 replace B_i := kb_b B_i hb
 replace B_p6 := kb_b B_p6 hb
 replace B_a := kb_b B_a hb
 clear hb
 clear V_a B_a
 refine pu_ 29 (some 167) 1073741823 HT_ ?_
 refine pu_ 30 (some 10) 2147483647 HT_ ?_
 refine do_ HT_ ?_
 clear HT_ HW_ hHeld
 go_wp2_with fail
 with_reducible refine (works_calls _).mono ?_
 rintro e w209 ⟨rfl, hb⟩
 replace HB := kb_b HB hb
 replace B_u := kb_b B_u hb
 replace B_n := kb_b B_n hb
 replace B_s := kb_b B_s hb
 replace B_i := kb_b B_i hb
 replace B_p6 := kb_b B_p6 hb
 clear hb
 go_wp2_with fail
 go_ret
 exact ⟨rfl, (Kb.to_below HB.out (fun _ h => h.elim))⟩
end Go.Proofs.Ytgdkgahbmfhgcaa.PN
