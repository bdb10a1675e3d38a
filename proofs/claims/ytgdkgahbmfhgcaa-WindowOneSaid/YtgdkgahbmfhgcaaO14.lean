/- What the statement rests on, part 14: YF. -/
import Derived.Test.YtgdkgahbmfhgcaaO13
set_option linter.unusedVariables false
set_option linter.unusedSimpArgs false
set_option maxHeartbeats 4000000
set_option maxRecDepth 100000
namespace Go.Proofs.Ytgdkgahbmfhgcaa.PN
open Go.RowKit Go.Proofs.Ytgdkgahbmfhgcaa.NS Go.Proofs.Ytgdkgahbmfhgcaa.Limbs Go.Proofs.YtgdkgahbmfhgcaaW.PrintWords Go.Proofs.YtgdkgahbmfhgcaaW.PrintLast Go.Proofs.YtgdkgahbmfhgcaaW.PrintMore
theorem reps1 {ok : Nat → Prop} {w : World} {x : Smp} {a b c d e : Value} (h : Kd.FK kdS w ok x [a, b, c, d, e]) : Reps (Kd.FK kdS w ok) kdS.sz [x] [a, b, c, d, e] := ⟨rfl, fun j p hp => by
 match j, hp with
 | 0, hp => obtain rfl := Option.some.inj hp; exact h
 | j + 1, hp => simp at hp⟩
theorem q100 : ∀ n : Fin 101, FitR (((n.val : Int) : Rat) / ((100 : Int) : Rat)) ∧ 0 ≤ ((n.val : Int) : Rat) / ((100 : Int) : Rat) ∧ ((n.val : Int) : Rat) / ((100 : Int) : Rat) ≤ 1 := by decide +kernel
theorem q01 (r : Int) (h0 : 0 ≤ r) (h1 : r ≤ 100) : FitR ((r : Rat) / ((100 : Int) : Rat)) ∧ 0 ≤ (r : Rat) / ((100 : Int) : Rat) ∧ (r : Rat) / ((100 : Int) : Rat) ≤ 1 := by
 obtain ⟨n, rfl⟩ := Int.eq_ofNat_of_zero_le h0
 exact q100 ⟨n, by omega⟩
section
variable {P : Program} {ops : Array Oper} {Q : Exit → Act → World → Prop} {rest : List Oper} {o : Oper} {a : Act} {W : World}
theorem lit_event (hgd : o.guard = none) {N : Tmp} (_hd : o.dst = some N) {cs : Array Value} {t : TypeId}
 (hrun : (execOp a.eval o).run P W = .ok (.value (.slice (some ⟨W.heap.size, 0, none⟩) 1 1)) (W.alloc (.cells cs t (0, 0))))
 (h : ∀ g, g = W.heap.size → ∀ w1, w1.heap[g]? = some (.cells cs t (0, 0)) → Below W.heap.size W w1 → wpList P ops Q rest (a.put o.dst (.slice (some ⟨g, 0, none⟩) 1 1)) w1) : wpList P ops Q (o :: rest) a W :=
 Kd.event_run hgd hrun (h _ rfl _ (blk_new W _) (below_alloc (Below.refl _ _) _))
end
theorem one_good {okv : Nat → Prop} (x : Rat) (qi : Int) (w : World) (vv : Value) (hv : IsR okv w vv x) :
 Calls Try.prog 4 #[vv, .int .i64 qi] w fun e w' => e = .returned (.bool true) ∧ Below w.heap.size w w' := by
 have hu30 := Try.underlying30
 have hu39 := Try.underlying39
 have hu25 := Try.underlying25
 have HF := Aside0.mk hv.1
 obtain ⟨tv, Av, nv, cv, Dv, kv, zv, rfl⟩ := hv.agg
 have HB := Aside0.mk (Kb.refl (fun k => False) w)
 have V_x := Aside0.mk hv
 clear hv
 have B_x := Aside0.mk (Kb.refl (fun k => False) w)
 go_enter Try.func4, Try.ntmps4
 go_wp2_with (first | ((with_reducible refine gate_dst (N := 2) rfl ?_); refine bx_ (N := 2) #[.bool tv, .slice Av nv cv, .slice Dv kv zv] 30 ?_; intro g_v hg w101 hbox hb; have G_v := kb_g HB hg; have O_v_x := kb_g B_x hg; replace HB := kb_b HB hb; replace B_x := kb_b B_x hb; clear hb; have V_v := Aside0.mk hbox; have B_v := Aside0.mk (Kb.refl (fun k => False) w101); have N_v : Aside0 (¬ (fun k => False) g_v) := ⟨by have := G_v; exact fun h => h⟩; clear hbox hg))
 with_reducible refine (works_calls _).mono ?_
 rintro e w102 ⟨rfl, hb⟩
 replace HB := kb_b HB hb
 replace B_x := kb_b B_x hb
 replace B_v := kb_b B_v hb
 clear hb
 go_wp2_with (first | ((with_reducible refine gate_dst (N := 12) rfl ?_); refine load_ev rfl rfl (g := g_v) rfl (Kb.blk V_v.out B_v.out N_v.out) ?_) | ((with_reducible refine gate_dst (N := 14) rfl ?_); refine Kd.N_lit kdS (w0 := w102) w102.heap.size 39 ?hg (N' := 14) ?hd (xs := [⟨0, 0, some x⟩]) (inner := [.int .i64 0, .int .i64 0, .bool tv, .slice Av nv cv, .slice Dv kv zv]) (ok := fun _ => True) (okp := fun _ => True) ?hr ?hp (fun _ h => h) trivial (Below.refl _ _) (Nat.le_refl _) (by show 1 ≤ 9223372036854775807; decide) ?_; (case hd => rfl); (case hg => rfl); (case hr => first | (go_simp; done) | (go_simp; rfl)); (case hp => exact reps1 (IsR.mkS (IsR.mono (IsR.kb (S := fun k => False) V_x.out B_x.out (fun _ _ h => h)) (fun _ _ => trivial)))); intro v_ w103 hn hb hg_ hnew_; have hlb : RowS (fun _ => True) w103 v_ [⟨0, 0, some x⟩] := Kd.N_V hn; have HLB := Aside0.mk hlb; clear hn hg_ hnew_ hlb; replace HB := kb_b HB hb; replace B_x := kb_b B_x hb; replace B_v := kb_b B_v hb; clear hb))
 have hlb := HLB.out
 clear HLB
 obtain ⟨As, cs, rfl⟩ := RowS.slice hlb
 have hlb : RowS (fun _ => True) _ (.slice As 1 cs) [⟨0, 0, some x⟩] := hlb
 have V_s := Aside0.mk hlb
 clear hlb
 have B_s := Aside0.mk (Kb.refl (fun k => False) w103)
 go_loopg [6] 7 (fun kg v6 wr => ∃ fn : Int, v6 = .int .i64 fn ∧ Aside0 (6 ≤ fn ∧ fn + kg = 13) ∧ Aside0 (Kb (fun k => False) w wr) ∧ Aside0 (Kb (fun k => False) w101 wr) ∧ Aside0 (Kb (fun k => False) w103 wr) ∧ Aside0 (Kb (fun k => False) w wr))
 case atStart => exact ⟨6, rfl, ⟨by decide⟩, B_x, B_v, B_s, HB⟩
 case round =>
  obtain ⟨fn, rfl, HK, Q_x, Q_v, Q_s, HB2⟩ := hrel
  clear HB B_x B_v B_s
  have HB := HB2
  clear HB2
  have B_x := Q_x
  clear Q_x
  have B_v := Q_v
  clear Q_v
  have B_s := Q_s
  clear Q_s
  by_cases hlt : fn ≤ 12
  · have e1 : IntKind.i64.wrap (fn + 1) = fn + 1 := (i64_w _).trans (w64 (by have := HK.out; omega) (by have := HK.out; omega))
    go_wp2_with fail
    with_reducible refine (bring_calls qi 101 (by decide) (by decide) _).mono ?_
    rintro e w105 ⟨rfl, hb⟩
    obtain ⟨r, hr⟩ : ∃ r, r = qi % 101 := ⟨_, rfl⟩
    rw [← hr]
    have HR := Aside0.mk (show 0 ≤ r ∧ r ≤ 100 from by omega)
    clear hr
    replace HB := kb_b HB hb
    replace B_x := kb_b B_x hb
    replace B_v := kb_b B_v hb
    replace B_s := kb_b B_s hb
    clear hb
    go_wp2_with fail
    with_reducible refine (part_calls r 100 (by have := HR.out; omega) (by have := HR.out; omega) (by omega) (by omega) (q01 r HR.out.1 HR.out.2).1 _).mono ?_
    rintro e w106 ⟨⟨v, rfl, hv⟩, hb⟩
    obtain ⟨tq, Aq, nq, cq, Dq, kq, zq, rfl⟩ := hv.agg
    have hle := Kb.size HB.out
    have hv_ := IsR.mono' (ok' := fun k => True) hv (fun k hk _ => by trivial)
    clear hv hle
    replace HB := kb_b HB hb
    replace B_x := kb_b B_x hb
    replace B_v := kb_b B_v hb
    replace B_s := kb_b B_s hb
    clear hb
    have V_q := Aside0.mk hv_
    clear hv_
    have B_q := Aside0.mk (Kb.refl (fun k => False) w106)
    go_wp2_with fail
    with_reducible refine (runone fn HK.out.1 hlt x _ HF.out (q01 r HR.out.1 HR.out.2).2.1 (q01 r HR.out.1 HR.out.2).2.2 _ _ _ _ _ _ _ _ (IsR.kb (S := fun k => False) V_q.out B_q.out (fun _ _ h => h)) _ _ (RowS.kb V_s.out B_s.out (fun _ _ h => h))).mono ?_
    rintro e w107 ⟨⟨v, rfl, hv⟩, hb⟩
    obtain ⟨tw, Aw, nw, cw, Dw, kw, zw, rfl⟩ := hv.agg
    have hle := Kb.size HB.out
    have hv_ := IsR.mono' (ok' := fun k => True) hv (fun k hk _ => by trivial)
    clear hv hle
    replace HB := kb_b HB hb
    replace B_x := kb_b B_x hb
    replace B_v := kb_b B_v hb
    replace B_s := kb_b B_s hb
    replace B_q := kb_b B_q hb
    clear hb
    have V_w := Aside0.mk hv_
    clear hv_
    have B_w := Aside0.mk (Kb.refl (fun k => False) w107)
    go_wp2_with (first | ((with_reducible refine gate_dst (N := 7) rfl ?_); refine bx_ (N := 7) #[.bool false, .slice none 0 0, .slice none 0 0] 30 ?_; intro g_w2 hg w108 hbox hb; have G_w2 := kb_g HB hg; have O_w2_x := kb_g B_x hg; have O_w2_v := kb_g B_v hg; have O_w2_s := kb_g B_s hg; have O_w2_q := kb_g B_q hg; have O_w2_w := kb_g B_w hg; replace HB := kb_b HB hb; replace B_x := kb_b B_x hb; replace B_v := kb_b B_v hb; replace B_s := kb_b B_s hb; replace B_q := kb_b B_q hb; replace B_w := kb_b B_w hb; clear hb; have V_w2 := Aside0.mk hbox; have B_w2 := Aside0.mk (Kb.refl (fun k => False) w108); have N_w2 : Aside0 (¬ (fun k => False) g_w2) := ⟨by have := G_w2; exact fun h => h⟩; clear hbox hg) | ((with_reducible refine gate_store (t := 30) (p := 7) (v := .tmp 26) rfl ?_); refine store_ev (p := .tmp 7) (v := .tmp 26) rfl rfl rfl (g := g_w2) rfl rfl (Kb.blk V_w2.out B_w2.out N_w2.out) ?_; intro w109 hbox hk; replace HB := kb_t HB hk (fun i hi => by exact hi ▸ Or.inr G_w2.out); replace B_x := kb_t B_x hk (fun i hi => by exact hi ▸ Or.inr O_w2_x.out); replace B_v := kb_t B_v hk (fun i hi => by exact hi ▸ Or.inr O_w2_v.out); replace B_s := kb_t B_s hk (fun i hi => by exact hi ▸ Or.inr O_w2_s.out); replace B_q := kb_t B_q hk (fun i hi => by exact hi ▸ Or.inr O_w2_q.out); replace B_w := kb_t B_w hk (fun i hi => by exact hi ▸ Or.inr O_w2_w.out); clear V_w2 B_w2; have V_w2 := Aside0.mk hbox; have B_w2 := Aside0.mk (Kb.refl (fun k => False) w109); clear hbox hk) | ((with_reducible refine gate_dst (N := 29) rfl ?_); refine load_ev rfl rfl (g := g_v) rfl (Kb.blk V_v.out B_v.out N_v.out) ?_))
    with_reducible refine (qcheck_calls x _ _ (IsR.kb (S := fun k => False) V_x.out B_x.out (fun _ _ h => h))).mono ?_
    rintro e w110 ⟨rfl, hb⟩
    replace HB := kb_b HB hb
    replace B_x := kb_b B_x hb
    replace B_v := kb_b B_v hb
    replace B_s := kb_b B_s hb
    replace B_q := kb_b B_q hb
    replace B_w := kb_b B_w hb
    replace B_w2 := kb_b B_w2 hb
    clear hb
    go_wp2_with (first | ((with_reducible refine gate_dst (N := 44) rfl ?_); refine gate_guard (by rfl) ?_; dsimp only; refine load_ev rfl rfl (g := g_w2) rfl (Kb.blk V_w2.out B_w2.out N_w2.out) ?_) | ((with_reducible refine gate_dst (N := 45) rfl ?_); refine gate_guard (by rfl) ?_; dsimp only; refine load_ev rfl rfl (g := g_v) rfl (Kb.blk V_v.out B_v.out N_v.out) ?_))
    with_reducible refine (qsame_calls x x _ _ _ (IsR.kb (S := fun k => False) V_w.out B_w.out (fun _ _ h => h)) (IsR.kb (S := fun k => False) V_x.out B_x.out (fun _ _ h => h))).mono ?_
    rintro e w111 ⟨rfl, hb⟩
    have hxx : decide (x = x) = true := decide_eq_true rfl
    rw [hxx]
    replace HB := kb_b HB hb
    replace B_x := kb_b B_x hb
    replace B_v := kb_b B_v hb
    replace B_s := kb_b B_s hb
    replace B_q := kb_b B_q hb
    replace B_w := kb_b B_w hb
    replace B_w2 := kb_b B_w2 hb
    clear hb
    go_wp2_with fail
    go_roundg (12 - fn).toNat
    case measure => have := HK.out; omega
    case rel => exact ⟨fn + 1, by first | rfl | rw [e1], ⟨by have := HK.out; omega⟩, B_x, B_v, B_s, HB⟩
  · have hz : ¬ fn ≤ 12 := hlt
    go_wp2_with fail
    go_ret
    exact ⟨rfl, (Kb.to_below HB.out (fun _ h => h.elim))⟩
theorem one_bad (sg : Bool) (ls ds : List Int) (hbad : Bad sg ls ds) (qi : Int) (w : World) (A0 : Option Addr) (c0 : Nat) (A1 : Option Addr) (c1 : Nat) (hra : Kd.C (Kd.int .u32) w A0 ls.length ls) (hca : ls.length ≤ c0) (hrb : Kd.C (Kd.int .u32) w A1 ds.length ds) (hcb : ds.length ≤ c1) :
 Calls Try.prog 4 #[.agg #[.bool sg, .slice A0 ls.length c0, .slice A1 ds.length c1], .int .i64 qi] w fun e w' => e = .returned (.bool true) ∧ Below w.heap.size w w' := by
 have hu30 := Try.underlying30
 have hu39 := Try.underlying39
 have hu25 := Try.underlying25
 have HCK : Aside0 (∀ W, Kb (fun k => False) w W → Calls Try.prog 17 #[.agg #[.bool sg, .slice A0 ls.length c0, .slice A1 ds.length c1]] W fun e w' => (∃ c : Int, c ≠ 0 ∧ e = .returned (.int .i64 c)) ∧ Below W.heap.size W w') := ⟨fun W hW => chk_bad sg ls ds hbad A0 c0 A1 c1 W (Kd.C_below hra (Kb.to_below hW (fun _ h => h.elim))) hca (Kd.C_below hrb (Kb.to_below hW (fun _ h => h.elim))) hcb⟩
 clear hbad hra hca hrb hcb
 obtain ⟨nv, hnv⟩ : ∃ n, n = ls.length := ⟨_, rfl⟩
 obtain ⟨kv, hkv⟩ : ∃ n, n = ds.length := ⟨_, rfl⟩
 rw [← hnv, ← hkv] at HCK ⊢
 clear hnv hkv
 have HB := Aside0.mk (Kb.refl (fun k => False) w)
 go_enter Try.func4, Try.ntmps4
 go_wp2_with (first | ((with_reducible refine gate_dst (N := 2) rfl ?_); refine bx_ (N := 2) #[.bool sg, .slice A0 nv c0, .slice A1 kv c1] 30 ?_; intro g_v hg w101 hbox hb; have G_v := kb_g HB hg; replace HB := kb_b HB hb; clear hb; have V_v := Aside0.mk hbox; have B_v := Aside0.mk (Kb.refl (fun k => False) w101); have N_v : Aside0 (¬ (fun k => False) g_v) := ⟨by have := G_v; exact fun h => h⟩; clear hbox hg))
 with_reducible refine (works_calls _).mono ?_
 rintro e w102 ⟨rfl, hb⟩
 replace HB := kb_b HB hb
 replace B_v := kb_b B_v hb
 clear hb
 go_wp2_with (first | ((with_reducible refine gate_dst (N := 12) rfl ?_); refine load_ev rfl rfl (g := g_v) rfl (Kb.blk V_v.out B_v.out N_v.out) ?_) | ((with_reducible refine gate_dst (N := 14) rfl ?_); refine lit_event ?hg (N := 14) ?hd (cs := #[.int .i64 0, .int .i64 0, .bool sg, .slice A0 nv c0, .slice A1 kv c1]) (t := 39) ?hr ?_; (case hd => rfl); (case hg => rfl); (case hr => first | (go_simp; done) | (go_simp; rfl)); intro g_s hg w103 hbox hb; have G_s := kb_g HB hg; replace HB := kb_b HB hb; replace B_v := kb_b B_v hb; clear hb; have V_s := Aside0.mk hbox; have B_s := Aside0.mk (Kb.refl (fun k => False) w103); have N_s : Aside0 (¬ (fun k => False) g_s) := ⟨by have := G_s; exact fun h => h⟩; clear hbox hg))
 go_loopg [6] 7 (fun kg v6 wr => ∃ fn : Int, v6 = .int .i64 fn ∧ Aside0 (6 ≤ fn ∧ fn + kg = 13) ∧ Aside0 (Kb (fun k => False) w101 wr) ∧ Aside0 (Kb (fun k => False) w103 wr) ∧ Aside0 (Kb (fun k => False) w wr))
 case atStart => exact ⟨6, rfl, ⟨by decide⟩, B_v, B_s, HB⟩
 case round =>
  obtain ⟨fn, rfl, HK, Q_v, Q_s, HB2⟩ := hrel
  clear HB B_v B_s
  have HB := HB2
  clear HB2
  have B_v := Q_v
  clear Q_v
  have B_s := Q_s
  clear Q_s
  by_cases hlt : fn ≤ 12
  · have e1 : IntKind.i64.wrap (fn + 1) = fn + 1 := (i64_w _).trans (w64 (by have := HK.out; omega) (by have := HK.out; omega))
    go_wp2_with fail
    with_reducible refine (bring_calls qi 101 (by decide) (by decide) _).mono ?_
    rintro e w105 ⟨rfl, hb⟩
    obtain ⟨r, hr⟩ : ∃ r, r = qi % 101 := ⟨_, rfl⟩
    rw [← hr]
    have HR := Aside0.mk (show 0 ≤ r ∧ r ≤ 100 from by omega)
    clear hr
    replace HB := kb_b HB hb
    replace B_v := kb_b B_v hb
    replace B_s := kb_b B_s hb
    clear hb
    go_wp2_with fail
    with_reducible refine (part_calls r 100 (by have := HR.out; omega) (by have := HR.out; omega) (by omega) (by omega) (q01 r HR.out.1 HR.out.2).1 _).mono ?_
    rintro e w106 ⟨⟨v, rfl, hv⟩, hb⟩
    obtain ⟨tq, Aq, nq, cq, Dq, kq, zq, rfl⟩ := hv.agg
    have hle := Kb.size HB.out
    have hv_ := IsR.mono' (ok' := fun k => True) hv (fun k hk _ => by trivial)
    clear hv hle
    replace HB := kb_b HB hb
    replace B_v := kb_b B_v hb
    replace B_s := kb_b B_s hb
    clear hb
    have V_q := Aside0.mk hv_
    clear hv_
    have B_q := Aside0.mk (Kb.refl (fun k => False) w106)
    go_wp2_with fail
    with_reducible refine (wbad_calls fn 1 1 _ _ _ _ _ _ _ _ _ _ (fun W hW => maybad_calls fn 1 HK.out.1 hlt (by omega) (by omega) W _ _ _ _ _ _ _ g_s 0 _ 0 0 (by omega) (by omega) _ _ _ _ _ _ _ ((blk_cell (Kb.blk V_s.out (B_s.out.trans hW) N_s.out) 0).trans rfl) ((blk_cell (Kb.blk V_s.out (B_s.out.trans hW) N_s.out) 1).trans rfl) ((blk_cell (Kb.blk V_s.out (B_s.out.trans hW) N_s.out) 2).trans rfl) ((blk_cell (Kb.blk V_s.out (B_s.out.trans hW) N_s.out) 3).trans rfl) ((blk_cell (Kb.blk V_s.out (B_s.out.trans hW) N_s.out) 4).trans rfl) (fun W2 hW2 => HCK.out W2 ((HB.out.trans hW).trans hW2)))).mono ?_
    rintro e w107 ⟨rfl, hb⟩
    replace HB := kb_b HB hb
    replace B_v := kb_b B_v hb
    replace B_s := kb_b B_s hb
    replace B_q := kb_b B_q hb
    clear hb
    go_wp2_with (first | ((with_reducible refine gate_dst (N := 7) rfl ?_); refine bx_ (N := 7) #[.bool false, .slice none 0 0, .slice none 0 0] 30 ?_; intro g_w2 hg w108 hbox hb; have G_w2 := kb_g HB hg; have O_w2_v := kb_g B_v hg; have O_w2_s := kb_g B_s hg; have O_w2_q := kb_g B_q hg; replace HB := kb_b HB hb; replace B_v := kb_b B_v hb; replace B_s := kb_b B_s hb; replace B_q := kb_b B_q hb; clear hb; have V_w2 := Aside0.mk hbox; have B_w2 := Aside0.mk (Kb.refl (fun k => False) w108); have N_w2 : Aside0 (¬ (fun k => False) g_w2) := ⟨by have := G_w2; exact fun h => h⟩; clear hbox hg) | ((with_reducible refine gate_store (t := 30) (p := 7) (v := .tmp 26) rfl ?_); refine store_ev (p := .tmp 7) (v := .tmp 26) rfl rfl rfl (g := g_w2) rfl rfl (Kb.blk V_w2.out B_w2.out N_w2.out) ?_; intro w109 hbox hk; replace HB := kb_t HB hk (fun i hi => by exact hi ▸ Or.inr G_w2.out); replace B_v := kb_t B_v hk (fun i hi => by exact hi ▸ Or.inr O_w2_v.out); replace B_s := kb_t B_s hk (fun i hi => by exact hi ▸ Or.inr O_w2_s.out); replace B_q := kb_t B_q hk (fun i hi => by exact hi ▸ Or.inr O_w2_q.out); clear V_w2 B_w2; have V_w2 := Aside0.mk hbox; have B_w2 := Aside0.mk (Kb.refl (fun k => False) w109); clear hbox hk) | ((with_reducible refine gate_dst (N := 29) rfl ?_); refine load_ev rfl rfl (g := g_v) rfl (Kb.blk V_v.out B_v.out N_v.out) ?_))
    with_reducible refine (HCK.out _ HB.out).mono ?_
    rintro e w110 ⟨⟨cc, hcc, rfl⟩, hb⟩
    replace HB := kb_b HB hb
    replace B_v := kb_b B_v hb
    replace B_s := kb_b B_s hb
    replace B_q := kb_b B_q hb
    replace B_w2 := kb_b B_w2 hb
    clear hb
    have hcb : (cc != 0) = true := bne_iff_ne.2 hcc
    have hcd : decide (cc = 0) = false := decide_eq_false hcc
    go_wp2_with fail
    go_roundg (12 - fn).toNat
    case measure => have := HK.out; omega
    case rel => exact ⟨fn + 1, by first | rfl | rw [e1], ⟨by have := HK.out; omega⟩, B_v, B_s, HB⟩
  · have hz : ¬ fn ≤ 12 := hlt
    go_wp2_with fail
    go_ret
    exact ⟨rfl, (Kb.to_below HB.out (fun _ h => h.elim))⟩
end Go.Proofs.Ytgdkgahbmfhgcaa.PN
