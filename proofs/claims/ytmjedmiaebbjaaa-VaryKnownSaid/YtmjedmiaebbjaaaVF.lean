/- The walk of VaryReads: what the program's reader takes off, call by call, is what the document's reader takes off. -/
import Derived.Test.YtmjedmiaebbjaaaVD
import Derived.Test.YtmjedmiaebbjaaaHR
import Derived.Test.YtmjedmiaebbjaaaVS
import Derived.Test.YtmjedmiaebbjaaaPCx1
import Derived.RegionTactic
import Derived.Deep.RegionHeld3
import Derived.Deep.QuietTactic
import Derived.BigQuiet
namespace Go.Proofs.Ytmjedmiaebbjaaa.VF
open Go.RowKit Go.Proofs.Ytmjedmiaebbjaaa.PV Go.Proofs.Ytmjedmiaebbjaaa.VA Go.Proofs.Ytmjedmiaebbjaaa.VC Go.Proofs.Ytmjedmiaebbjaaa.VD Go.Proofs.Ytmjedmiaebbjaaa.H Go.Proofs.YtmjedmiaebbjaaaW.PrintWords Go.Proofs.YtmjedmiaebbjaaaW.PrintLast Go.Proofs.YtmjedmiaebbjaaaW.PrintMore
set_option linter.unusedVariables false
set_option linter.unusedSimpArgs false

theorem copy_calls (A0 : Option Addr) (c0 : Nat) (l : List Int) (w : World) (hr : Kd.C (Kd.int .u8) w A0 l.length l) (hc : l.length ≤ c0) (hl : l.length < 140737488355328) :
    Calls Try.prog 21 #[.slice A0 l.length c0] w fun e w' => ∃ v0_ : Value, e = .returned v0_ ∧ Kd.R (Kd.int .u8) 5 w' w.heap.size (fun _ => True) v0_ l ∧ Below w.heap.size w w' := by
  refine PC.driftnetref00_CopyBytes.calls A0 c0 l l w hr hc ?_
  unfold PC.driftnetref00_CopyBytes.f
  rw [if_pos (by simpa using hl)]
  simp
theorem bring_calls (a : Int) : ∃ b, (b = 0 ∨ b = 1 ∨ b = 2) ∧ ∀ w, Calls Try.prog 24 #[.int .i64 a, .int .i64 3] w fun e w' => e = .returned (.int .i64 b) ∧ Drawn0 w w' := by
  have h1 := Int.tmod_lt_of_pos a (show (0 : Int) < 3 by decide)
  have h2 := Int.lt_tmod_of_pos a (show (0 : Int) < 3 by decide)
  by_cases h : Int.tmod a 3 < 0
  · refine ⟨Int.tmod a 3 + 3, by omega, fun w => PC.driftnetref00_Bring.calls a 3 _ w ?_⟩
    unfold PC.driftnetref00_Bring.f
    rw [if_neg (by decide), if_neg (by decide), if_pos h, show wrap64 (Int.tmod a 3 + 3) = Int.tmod a 3 + 3 from by unfold wrap64; omega]
  · refine ⟨Int.tmod a 3, by omega, fun w => PC.driftnetref00_Bring.calls a 3 _ w ?_⟩
    unfold PC.driftnetref00_Bring.f
    rw [if_neg (by decide), if_neg (by decide), if_neg h]
/-- Both readers, at the same bytes and error; wb: the world behind the copy; g1, g2: their blocks. -/
structure Both (w wr : World) (g1 g2 : Nat) (S1 S2 : Nat → Prop) (x : List Int) (e : Int) : Prop where
  r : Rd wr g1 S1 x e
  m : Rr wr g2 S2 x e
  wf : ∀ y ∈ x, 0 ≤ y ∧ y < 256
  b : Below w.heap.size w wr
/-- How the two stand to each other and to what was there. -/
structure Apart (w : World) (g1 g2 : Nat) (S1 S2 : Nat → Prop) : Prop where
  h1 : w.heap.size ≤ g1
  h2 : w.heap.size ≤ g2
  ne : g1 ≠ g2
  s11 : ∀ k, S1 k → k ≠ g1
  s12 : ∀ k, S1 k → k ≠ g2
  s21 : ∀ k, S2 k → k ≠ g1
  s22 : ∀ k, S2 k → k ≠ g2
theorem uRes_wf {l : List Int} (h : ∀ y ∈ l, 0 ≤ y ∧ y < 256) : ∀ y ∈ (uRes l).2.1, 0 ≤ y ∧ y < 256 := by
  unfold uRes
  split
  · exact h
  · split
    · exact h
    · split
      · exact h
      · exact fun y hy => h y (List.mem_of_mem_drop hy)
theorem tRes_wf {most : Int} {l : List Int} (h : ∀ y ∈ l, 0 ≤ y ∧ y < 256) : ∀ y ∈ (tRes most l).2.1, 0 ≤ y ∧ y < 256 := by
  unfold tRes
  split
  · exact uRes_wf h
  · split
    · exact uRes_wf h
    · split
      · exact uRes_wf h
      · exact fun y hy => uRes_wf h y (List.mem_of_mem_drop hy)
theorem Both.step1 {w wr w1 : World} {g1 g2 : Nat} {S1 S2 : Nat → Prop} {x x' : List Int} {e e' : Int} (h : Both w wr g1 g2 S1 S2 x e) (ha : Apart w g1 g2 S1 S2) (hr : Rd w1 g1 S1 x' e') (ho : Only wr w1 g1) : Rr w1 g2 S2 x e ∧ Below w.heap.size w w1 :=
  ⟨h.m.other ho ha.ne.symm ha.s21, h.b.trans (ho.below ha.h1)⟩
theorem Both.step2 {w w1 w2 : World} {g1 g2 : Nat} {S1 S2 : Nat → Prop} {x' : List Int} {e' : Int} (ha : Apart w g1 g2 S1 S2) (hr : Rd w1 g1 S1 x' e') (hB : Below w.heap.size w w1) (hm : Rr w2 g2 S2 x' e') (ho : Only w1 w2 g2) (hw : ∀ y ∈ x', 0 ≤ y ∧ y < 256) : Both w w2 g1 g2 S1 S2 x' e' :=
  ⟨hr.other ho ha.ne ha.s12, hm, hw, hB.trans (ho.below ha.h2)⟩
/-- One call of both readers that answers a number. -/
def PairN (f1 f2 : Nat) (x : List Int) (e n : Int) (x' : List Int) (e' : Int) : Prop :=
  (∀ y ∈ x', 0 ≤ y ∧ y < 256) ∧
  (∀ (w : World) (g : Nat) (S : Nat → Prop), Rd w g S x e → (∀ k, S k → k ≠ g) → Calls Try.prog f1 #[.pointer (some ⟨g, 0, none⟩)] w fun y w' => y = .returned (.int .i64 n) ∧ Rd w' g S x' e' ∧ Only w w' g) ∧
  (∀ (w : World) (g : Nat) (S : Nat → Prop), Rr w g S x e → (∀ k, S k → k ≠ g) → Calls Try.prog f2 #[.pointer (some ⟨g, 0, none⟩)] w fun y w' => y = .returned (.int .i64 n) ∧ Rr w' g S x' e' ∧ Only w w' g)
/-- One call of both readers that answers text. -/
def PairT (most : Int) (x : List Int) (e : Int) (s : Value) (x' : List Int) (e' : Int) : Prop :=
  (∀ y ∈ x', 0 ≤ y ∧ y < 256) ∧
  (∀ (w : World) (g : Nat) (S : Nat → Prop), Rd w g S x e → (∀ k, S k → k ≠ g) → Calls Try.prog 29 #[.pointer (some ⟨g, 0, none⟩), .int .i64 most] w fun y w' => y = .returned s ∧ Rd w' g S x' e' ∧ Only w w' g) ∧
  (∀ (w : World) (g : Nat) (S : Nat → Prop), Rr w g S x e → (∀ k, S k → k ≠ g) → Calls Try.prog 30 #[.pointer (some ⟨g, 0, none⟩), .int .i64 most] w fun y w' => y = .returned s ∧ Rr w' g S x' e' ∧ Only w w' g)
theorem pairU (x : List Int) (e : Int) (hwf : ∀ y ∈ x, 0 ≤ y ∧ y < 256) : ∃ n x' e', PairN 25 26 x e n x' e' := by
  by_cases he : e = 0
  · subst he
    exact ⟨_, _, _, uRes_wf hwf, fun w g S h hS => vary_U.calls w g S x h hS hwf, fun w g S h hS => ref_U.calls w g S x h hS hwf⟩
  · refine ⟨0, x, e, hwf, fun w g S h hS => (vary_U_err w g S x e h he).mono ?_, fun w g S h hS => (ref_U_err w g S x e h he).mono ?_⟩
    all_goals (rintro y w' ⟨rfl, rfl⟩; exact ⟨rfl, h, Only.refl _ _⟩)
theorem pairS (x : List Int) (e : Int) (hwf : ∀ y ∈ x, 0 ≤ y ∧ y < 256) : ∃ n x' e', PairN 27 28 x e n x' e' := by
  by_cases he : e = 0
  · subst he
    exact ⟨_, _, _, uRes_wf hwf, fun w g S h hS => vary_S.calls w g S x h hS hwf, fun w g S h hS => ref_S.calls w g S x h hS hwf⟩
  · refine ⟨0, x, e, hwf, fun w g S h hS => (vary_S_err w g S x e h he).mono ?_, fun w g S h hS => (ref_S_err w g S x e h he).mono ?_⟩
    all_goals (rintro y w' ⟨rfl, rfl⟩; exact ⟨rfl, h, Only.refl _ _⟩)
theorem pairT (most : Int) (x : List Int) (e : Int) (hwf : ∀ y ∈ x, 0 ≤ y ∧ y < 256) : ∃ s x' e', PairT most x e (.string s) x' e' := by
  by_cases he : e = 0
  · subst he
    exact ⟨_, _, _, tRes_wf hwf, fun w g S h hS => vary_Text.calls w g S most x h hS hwf, fun w g S h hS => ref_Text.calls w g S most x h hS hwf⟩
  · refine ⟨⟨#[]⟩, x, e, hwf, fun w g S h hS => (vary_Text_err w g S most x e h he).mono ?_, fun w g S h hS => (ref_Text_err w g S most x e h he).mono ?_⟩
    all_goals (rintro y w' ⟨rfl, rfl⟩; exact ⟨rfl, h, Only.refl _ _⟩)
theorem drew_in {a b : World} {g : Nat} (h : Only a.drew b g) : Only a b g := ⟨h.os, h.tape, h.output, h.size, h.block⟩
theorem Both.draw {w wr w1 : World} {g1 g2 : Nat} {S1 S2 : Nat → Prop} {x : List Int} {e : Int} (h : Both w wr g1 g2 S1 S2 x e) (hd : Drawn0 wr w1) : Both w w1 g1 g2 S1 S2 x e := by
  obtain ⟨nd, rfl⟩ := hd
  exact ⟨h.r, h.m, h.wf, pw_below_drewN h.b nd⟩
theorem Both.poke {w wr : World} {g1 g2 bi : Nat} {S1 S2 : Nat → Prop} {x : List Int} {e : Int} (h : Both w wr g1 g2 S1 S2 x e) (hf : bi ≠ g1 ∧ bi ≠ g2 ∧ (∀ k, S1 k → k ≠ bi) ∧ (∀ k, S2 k → k ≠ bi) ∧ w.heap.size ≤ bi) (k : Nat) (u : Value) : Both w (wr.setCell ⟨bi, k, none⟩ u) g1 g2 S1 S2 x e :=
  have ho := (Only.refl wr bi).setCell k u
  ⟨h.r.other ho hf.1.symm hf.2.2.1, h.m.other ho hf.2.1.symm hf.2.2.2.1, h.wf, h.b.trans (ho.below hf.2.2.2.2)⟩
theorem cells_poke {n : Nat} {cur : Array Value} (hcur : ∀ j, j < n → ∃ v, cur[j]? = some (Value.int .u8 v)) (k : Nat) (v' : Int) : ∀ j, j < n → ∃ v, (cur.setIfInBounds k (.int .u8 v'))[j]? = some (Value.int .u8 v) := by
  intro j hj
  obtain ⟨v, hv⟩ := hcur j hj
  rw [Array.getElem?_setIfInBounds]
  by_cases e : k = j
  · subst e
    have : k < cur.size := by
      rcases Nat.lt_or_ge k cur.size with h | h
      · exact h
      · rw [Array.getElem?_eq_none h] at hv; cases hv
    rw [if_pos rfl, if_pos this]
    exact ⟨v', rfl⟩
  · rw [if_neg e]; exact ⟨v, hv⟩


set_option maxHeartbeats 6400000 in
set_option maxRecDepth 100000 in
theorem walk (A0 : Option Addr) (c0 : Nat) (l : List Int) (A1 : Option Addr) (c1 : Nat) (q : List Int) (w : World) (hr : Kd.C (Kd.int .u8) w A0 l.length l) (hc : l.length ≤ c0) (hl : l.length ≤ 140737488351232) (hwf : ∀ x ∈ l, 0 ≤ x ∧ x < 256)
    (hq : Kd.C (Kd.int .i64) w A1 q.length q) (hqc : q.length ≤ c1) (hql : q.length ≤ 140737488351232) :
    Calls Try.prog 5 #[.slice A0 l.length c0, .slice A1 q.length c1] w fun e w' => e = .returned (.bool true) ∧ Below w.heap.size w w' := by
  have HR := Aside0.mk hr
  have HC := Aside0.mk hc
  have HL := Aside0.mk (show l.length < 140737488355328 by omega)
  have HWF := Aside0.mk hwf
  have HQ := Aside0.mk hq
  have HQC := Aside0.mk hqc
  clear hr hc hwf hq hqc
  go_enter Try.func5, Try.ntmps5
  go_wp2_with fail
  refine (copy_calls A0 c0 l _ HR.out HC.out HL.out).mono ?_
  rintro x w1 ⟨vi, rfl, hi, hb⟩
  have HT := Aside0.mk (Kd.R_typed hi)
  have HLT := Aside0.mk (Kd.R_lt hi)
  have HFO := Aside0.mk (fun hp : 0 < l.length => (Kd.R_own hi).choose_spec.form hp)
  have HBS := Aside0.mk (Kd.R_base hi)
  obtain ⟨Ai, ci, rfl, hli, hCi⟩ := Kd.R_reads hi
  have HLI := Aside0.mk hli
  have HCI := Aside0.mk hCi
  have HB1 := Aside0.mk hb
  clear hi hli hCi hb
  go_wp2_with fail
  refine (vary_New.calls Ai ci l _ HCI.out HLI.out HL.out).mono ?_
  rintro x w2 ⟨g1, rfl, hg1, hI1, hb⟩
  have HG1 := Aside0.mk hg1
  have HI1 := Aside0.mk hI1
  have HB2 := Aside0.mk hb
  clear hg1 hI1 hb
  go_wp2_with fail
  refine (ref_New.calls A0 c0 l _ (Kd.C_below HR.out (below_step HB1.out HB2.out)) HC.out HL.out).mono ?_
  rintro x w3 ⟨g2, rfl, hg2, hI2, hb⟩
  have HG2 := Aside0.mk hg2
  have HI2 := Aside0.mk hI2
  have HB3 := Aside0.mk hb
  clear hg2 hI2 hb
  obtain ⟨S1, hS1⟩ : ∃ S : Nat → Prop, S = fun k => w1.heap.size ≤ k ∧ k < g1 := ⟨_, rfl⟩
  obtain ⟨S2, hS2⟩ : ∃ S : Nat → Prop, S = fun k => w2.heap.size ≤ k ∧ k < g2 := ⟨_, rfl⟩
  rw [← hS1] at HI1
  rw [← hS2] at HI2
  have HLT1 := Aside0.mk HI1.out.lt
  have HAP : Aside0 (Apart w g1 g2 S1 S2) := ⟨by
    have h1 := HG1.out
    have h2 := HG2.out
    have h3 := HLT1.out
    have h4 := HB1.out.size
    have h5 := HB2.out.size
    subst hS1 hS2
    exact ⟨by omega, by omega, by omega, fun k h e => by omega, fun k h e => by omega, fun k h e => by omega, fun k h e => by omega⟩⟩
  have HBO : Aside0 (Both w w3 g1 g2 S1 S2 l 0) := ⟨⟨HI1.out.below HB3.out, HI2.out, HWF.out, below_step (below_step HB1.out HB2.out) HB3.out⟩⟩
  have HFAR : Aside0 (∀ bi, (Value.slice Ai l.length ci).ownBlock = some bi → bi ≠ g1 ∧ bi ≠ g2 ∧ (∀ k, S1 k → k ≠ bi) ∧ (∀ k, S2 k → k ≠ bi) ∧ w.heap.size ≤ bi) := ⟨fun bi hbi => by
    have h0 := HLT.out bi hbi
    have h1 := HG1.out
    have h2 := HG2.out
    have h3 := HLT1.out
    have h5 := HB2.out.size
    have h6 := HBS.out bi hbi
    subst hS1 hS2
    exact ⟨by omega, by omega, fun k h e => by omega, fun k h e => by omega, h6⟩⟩
  have HBLK : Aside0 (0 < l.length → ∃ bi cur, Ai = some ⟨bi, 0, none⟩ ∧ w3.heap[bi]? = some (.cells cur 5 (0, 0)) ∧ ∀ j, j < l.length → ∃ v, cur[j]? = some (Value.int .u8 v)) := ⟨fun hp => by
    obtain ⟨bi, cap, e, _⟩ := HFO.out hp
    injection e with e1 _ e2
    subst e1
    obtain ⟨cur, hcur⟩ := HT.out bi (by simp [Value.ownBlock])
    have hb : w3.heap[bi]? = some (.cells cur 5 (0, 0)) := ((below_then HB2.out (by exact HB2.out.size) HB3.out).block bi (blk_lt hcur)).trans hcur
    refine ⟨bi, cur, rfl, hb, fun j hj => ?_⟩
    obtain ⟨ad, ea, hx⟩ := Kd.at_int HCI.out (j : Int) (by omega) (by omega)
    obtain rfl := Option.some.inj ea
    rw [show ((j : Int)).toNat = j from rfl, add_plain, blk_cell hcur] at hx
    exact ⟨_, hx⟩⟩
  clear hS1 hS2 HI1 HI2 HG1 HG2 HLT HBS HCI HFO HT
  go_wp2_with fail
  go_loopw [8] (fun i wr => ∃ k : Nat, k ≤ l.length ∧ i = .int .i64 k ∧ Aside0 (Both w wr g1 g2 S1 S2 l 0) ∧ Aside0 (0 < l.length → ∃ bi cur, Ai = some ⟨bi, 0, none⟩ ∧ wr.heap[bi]? = some (.cells cur 5 (0, 0)) ∧ ∀ j, j < l.length → ∃ v, cur[j]? = some (Value.int .u8 v))) (fun i _ => l.length - (intOf i).toNat)
  case atStart => exact ⟨0, Nat.zero_le _, rfl, HBO, HBLK⟩
  case round =>
    clear HBO HBLK
    obtain ⟨k, hk, rfl, HBO, HBLK⟩ := hrel
    by_cases hlt : k < l.length
    · obtain ⟨bi, cur, rfl, hblk, hcur⟩ := HBLK.out (by omega)
      obtain ⟨v, hv⟩ := hcur k hlt
      have hx : wr.cell? ⟨bi, k, none⟩ = some (.int .u8 v) := by rw [blk_cell hblk]; exact hv
      have hf : wr.frozen? ⟨bi, k, none⟩ = false := blk_frozen hblk k
      have hki : (k : Int) < (l.length : Int) := by omega
      have HBLK2 := Aside0.mk hblk
      have HCUR := Aside0.mk hcur
      have HF := Aside0.mk (HFAR.out bi (by simp [Value.ownBlock]))
      clear hv hblk hcur HBLK
      go_wp2_with fail
      go_roundw
      case rel => exact ⟨k + 1, by omega, by go_num, ⟨HBO.out.poke HF.out k _⟩, ⟨fun _ => ⟨bi, _, rfl, by simpa using blk_set HBLK2.out k _, cells_poke HCUR.out k _⟩⟩⟩
      case measure => simp [intOf]; omega
    · go_wp2_with fail
      clear HBLK
      go_loopw [9, 10] (fun i _ wr => ∃ (k : Nat) (x : List Int) (e : Int), k ≤ q.length ∧ i = .int .i64 k ∧ Aside0 (Both w wr g1 g2 S1 S2 x e)) (fun i _ _ => q.length - (intOf i).toNat)
      case atStart => exact ⟨0, l, 0, Nat.zero_le _, rfl, HBO⟩
      case round =>
        clear HBO
        obtain ⟨k', x, e, hk', rfl, HBO⟩ := hrel
        by_cases hk2 : k' < q.length ∧ k' < 50
        · obtain ⟨hkq, hk50⟩ := hk2
          have hkqi : (k' : Int) < (q.length : Int) := by omega
          have hk0 : (0 : Int) ≤ (k' : Int) := by omega
          have hk5 : (k' : Int) < 50 := by omega
          obtain ⟨aq, rfl, hxw⟩ := Kd.at_int HQ.out (k' : Int) hk0 hkqi
          rw [show ((k' : Int)).toNat = k' from rfl] at hxw
          obtain ⟨cq, hcq⟩ : ∃ cq, cq = rd q (k' : Int) := ⟨_, rfl⟩
          rw [← hcq] at hxw
          have HXW := Aside0.mk hxw
          have hxr := pw_cell_below HBO.out.b hxw
          clear hcq hxw
          obtain ⟨bq, hbq, hbring⟩ := bring_calls cq
          have HBR := Aside0.mk hbring
          clear hbring
          rcases hbq with rfl | rfl | rfl
          · go_wp2_with fail
            refine (HBR.out _).mono ?_
            rintro y w4 ⟨rfl, hd⟩
            have HBO' := Aside0.mk (HBO.out.draw hd)
            obtain ⟨n', x', e', hp⟩ := pairU x e HBO.out.wf
            have HP := Aside0.mk hp
            clear hd HBO hxr hp
            go_wp2_with fail
            refine (HP.out.2.1 _ g1 S1 HBO'.out.r HAP.out.s11).mono ?_
            rintro y w5 ⟨rfl, h1, h3⟩
            obtain ⟨hm, hbel⟩ := HBO'.out.step1 HAP.out h1 h3
            have H1 := Aside0.mk h1
            have HM := Aside0.mk hm
            have HBEL := Aside0.mk hbel
            clear h1 h3 hm hbel
            go_wp2_with fail
            refine (HP.out.2.2 _ g2 S2 HM.out HAP.out.s22).mono ?_
            rintro y w6 ⟨rfl, h1, h3⟩
            have HBO := Aside0.mk (Both.step2 HAP.out H1.out HBEL.out h1 h3 HP.out.1)
            clear h1 h3 H1 HM HBEL HBO' HP
            have c2 := ref_Err HBO.out.m
            go_wp2_with fail
            go_quiet ((first | (go_at_call 31; exact Calls.quiet_of_same (vary_Err.calls _ g1 S1 x' e' (by with_unfolding_all exact HBO.out.r))) | (go_at_call 32; exact Calls.quiet_of_same (vary_Left.calls _ g1 S1 x' e' (by with_unfolding_all exact HBO.out.r))) | (go_at_call 33; exact Calls.quiet_of_same (ref_Left.calls _ g2 S2 x' e' (by with_unfolding_all exact HBO.out.m)))))
            go_wp2
            go_roundw
            case rel => exact ⟨k' + 1, x', e', by omega, by go_num, ⟨HBO.out.draw ⟨_, rfl⟩⟩⟩
            case measure => simp [intOf]; omega
          · go_wp2_with fail
            refine (HBR.out _).mono ?_
            rintro y w4 ⟨rfl, hd⟩
            have HBO' := Aside0.mk (HBO.out.draw hd)
            obtain ⟨n', x', e', hp⟩ := pairS x e HBO.out.wf
            have HP := Aside0.mk hp
            clear hd HBO hxr hp
            go_wp2_with fail
            refine (HP.out.2.1 _ g1 S1 HBO'.out.r HAP.out.s11).mono ?_
            rintro y w5 ⟨rfl, h1, h3⟩
            obtain ⟨hm, hbel⟩ := HBO'.out.step1 HAP.out h1 h3
            have H1 := Aside0.mk h1
            have HM := Aside0.mk hm
            have HBEL := Aside0.mk hbel
            clear h1 h3 hm hbel
            go_wp2_with fail
            refine (HP.out.2.2 _ g2 S2 HM.out HAP.out.s22).mono ?_
            rintro y w6 ⟨rfl, h1, h3⟩
            have HBO := Aside0.mk (Both.step2 HAP.out H1.out HBEL.out h1 h3 HP.out.1)
            clear h1 h3 H1 HM HBEL HBO' HP
            have c2 := ref_Err HBO.out.m
            go_wp2_with fail
            go_quiet ((first | (go_at_call 31; exact Calls.quiet_of_same (vary_Err.calls _ g1 S1 x' e' (by with_unfolding_all exact HBO.out.r))) | (go_at_call 32; exact Calls.quiet_of_same (vary_Left.calls _ g1 S1 x' e' (by with_unfolding_all exact HBO.out.r))) | (go_at_call 33; exact Calls.quiet_of_same (ref_Left.calls _ g2 S2 x' e' (by with_unfolding_all exact HBO.out.m)))))
            go_wp2
            go_roundw
            case rel => exact ⟨k' + 1, x', e', by omega, by go_num, ⟨HBO.out.draw ⟨_, rfl⟩⟩⟩
            case measure => simp [intOf]; omega
          · go_wp2_with fail
            refine (HBR.out _).mono ?_
            rintro y w4 ⟨rfl, hd⟩
            have HBO' := Aside0.mk (HBO.out.draw hd)
            have hxr := pw_cell_below HBO'.out.b HXW.out
            obtain ⟨s', x', e', hp⟩ := pairT (IntKind.i64.wrap (cq.tdiv 3)) x e HBO.out.wf
            obtain ⟨hp1, hp2, hp3⟩ := hp
            have HP1 := Aside0.mk hp1
            have HP2 := Aside0.mk hp2
            have HP3 := Aside0.mk hp3
            clear hd HBO hp1 hp2 hp3
            go_wp2_with fail
            go_region_held3 (fun w' => w'.cell? (aq.add k') = some (.int .i64 cq)) (first | assumption | simp [*]) ((first | (go_at_call 29; (with_reducible refine (HP2.out _ g1 S1 (by with_unfolding_all exact HBO'.out.r) HAP.out.s11).mono ?_); rintro y w5 ⟨rfl, h1, h3⟩; have h3' : Only w4 w5 g1 := (by repeat (first | exact h3 | apply drew_in)); obtain ⟨hm, hbel⟩ := HBO'.out.step1 HAP.out h1 h3'; have hx5 := pw_cell_below hbel HXW.out; have H1 := Aside0.mk h1; have HM := Aside0.mk hm; have HBEL := Aside0.mk hbel; clear h1 h3 h3' hm hbel) | (go_at_call 30; (with_reducible refine (HP3.out _ g2 S2 (by with_unfolding_all exact HM.out) HAP.out.s22).mono ?_); rintro y w6 ⟨rfl, h1, h3⟩; have h3' : Only w5 w6 g2 := (by repeat (first | exact h3 | apply drew_in)); have HBO := Aside0.mk (Both.step2 HAP.out H1.out HBEL.out h1 h3' HP1.out); have hx6 := pw_cell_below HBO.out.b HXW.out; have c2 := ref_Err HBO.out.m; clear h1 h3 h3' H1 HM HBEL)))
            go_wp2_with fail
            go_quiet ((first | (go_at_call 31; exact Calls.quiet_of_same (vary_Err.calls _ g1 S1 x' e' (by with_unfolding_all exact HBO.out.r))) | (go_at_call 32; exact Calls.quiet_of_same (vary_Left.calls _ g1 S1 x' e' (by with_unfolding_all exact HBO.out.r))) | (go_at_call 33; exact Calls.quiet_of_same (ref_Left.calls _ g2 S2 x' e' (by with_unfolding_all exact HBO.out.m)))))
            go_wp2
            go_roundw
            case rel => exact ⟨k' + 1, x', e', by omega, by go_num, ⟨HBO.out.draw ⟨_, rfl⟩⟩⟩
            case measure => simp [intOf]; omega
        · have c2 := ref_Err HBO.out.m
          have HCD : Aside0 (¬ (k' < q.length ∧ k' < 50)) := ⟨hk2⟩
          clear hk2
          by_cases hkq : k' < q.length
          · have hkqi : (k' : Int) < (q.length : Int) := by omega
            have hk5 : ¬ ((k' : Int) < 50) := by have := HCD.out; omega
            have hd5 : decide ((k' : Int) < 50) = false := by simpa using hk5
            clear hkq
            go_wp2_with fail
            go_region_held3 (fun w' => w'.cell? ⟨g2, 1, none⟩ = some (.int .i64 e)) (first | assumption | simp [*]) ((first | (go_at_call 31; (with_reducible refine (vary_Err.calls _ g1 S1 x e (by with_unfolding_all exact HBO.out.r)).mono ?_); rintro y w' ⟨rfl, rfl⟩) | (go_at_call 32; (with_reducible refine (vary_Left.calls _ g1 S1 x e (by with_unfolding_all exact HBO.out.r)).mono ?_); rintro y w' ⟨rfl, rfl⟩) | (go_at_call 33; (with_reducible refine (ref_Left.calls _ g2 S2 x e (by with_unfolding_all exact HBO.out.m)).mono ?_); rintro y w' ⟨rfl, rfl⟩) | (go_at_call 10; (with_reducible refine (VS.awake_calls _).mono ?_); rintro y w' ⟨rfl, hb⟩; have HB9 := Aside0.mk (below_step (by repeat (first | exact HBO.out.b | apply pw_below_drewN | apply below_drew1)) hb); have hz := pw_cell_below hb c2; clear hb)))
            go_wp2
            go_ret
            exact ⟨rfl, by repeat (first | exact HB9.out | apply pw_below_drewN | apply below_drew1)⟩
          · have hkqi : ¬ ((k' : Int) < (q.length : Int)) := by omega
            have hdq : decide ((k' : Int) < (q.length : Int)) = false := by simpa using hkqi
            clear hkq
            go_wp2_with fail
            go_region_held3 (fun w' => w'.cell? ⟨g2, 1, none⟩ = some (.int .i64 e)) (first | assumption | simp [*]) ((first | (go_at_call 31; (with_reducible refine (vary_Err.calls _ g1 S1 x e (by with_unfolding_all exact HBO.out.r)).mono ?_); rintro y w' ⟨rfl, rfl⟩) | (go_at_call 32; (with_reducible refine (vary_Left.calls _ g1 S1 x e (by with_unfolding_all exact HBO.out.r)).mono ?_); rintro y w' ⟨rfl, rfl⟩) | (go_at_call 33; (with_reducible refine (ref_Left.calls _ g2 S2 x e (by with_unfolding_all exact HBO.out.m)).mono ?_); rintro y w' ⟨rfl, rfl⟩) | (go_at_call 10; (with_reducible refine (VS.awake_calls _).mono ?_); rintro y w' ⟨rfl, hb⟩; have HB9 := Aside0.mk (below_step (by repeat (first | exact HBO.out.b | apply pw_below_drewN | apply below_drew1)) hb); have hz := pw_cell_below hb c2; clear hb)))
            go_wp2
            go_ret
            exact ⟨rfl, by repeat (first | exact HB9.out | apply pw_below_drewN | apply below_drew1)⟩
#print axioms walk
end Go.Proofs.Ytmjedmiaebbjaaa.VF
