/- runes.Of, walked: what it hands back is 'norm' of the ranges. -/
import Derived.Test.YtoihjhpabccigaaSR
import Derived.Test.YtoihjhpabccigaaPN
import Derived.Deep.QuietTactic
import Derived.BigQuiet
import Derived.MapKept
import Derived.StillTailTactics
import Derived.Deep.RegionHeld3
namespace Go.Proofs.Ytoihjhpabccigaa.OF
open Go.RowKit Go.Proofs.Ytoihjhpabccigaa.PR Go.Proofs.YtoihjhpabccigaaW.PrintWords Go.Proofs.YtoihjhpabccigaaW.PrintLast Go.Proofs.YtoihjhpabccigaaW.PrintMore
attribute [local go_sem] max2_int min2_int max_two min_two max_three min_three max_four min_four
set_option linter.unusedVariables false
set_option linter.unusedSimpArgs false
theorem sort_R (w wr : World) (v : Value) (xs : List S38) (HO : Kd.R k38 38 wr w.heap.size (fun _ => True) v xs) (hb : Below w.heap.size w wr) (hl : xs.length ≤ 1000000) :
    Calls Try.prog 32 #[v, .func (.func 33) #[] #[]] wr fun e ws => e = .returned (.tuple #[]) ∧ ∃ ds : List S38, ds.Perm xs ∧ ds.Pairwise (fun x y => x.f0 ≤ y.f0) ∧ Kd.R k38 38 ws w.heap.size (fun _ => True) v ds ∧ Below w.heap.size w ws := by
  rcases row_of HO with ⟨rfl, rfl⟩ | ⟨g, cap, cur, rfl, hr⟩
  · refine (sort_none 0 none wr).mono ?_
    rintro e ws ⟨rfl, rfl⟩
    exact ⟨rfl, [], List.Perm.refl _, List.Pairwise.nil, HO, hb⟩
  · have hs : xs.toArray.size = xs.length := by simp
    have hc := sort_call g cap xs.toArray wr (row_holds hr) (blk_lt hr.hblk) (by omega)
    rw [hs] at hc
    refine hc.mono ?_
    rintro e ws ⟨rfl, d, n, os, ⟨hp1, _, hp2⟩, hso, rfl⟩
    rw [hs] at hp1
    have hd : d.toList.length = xs.length := by simpa using hp1
    have hR := of_row (row_sorted (n := n) (os := os) hr d hp1)
    rw [hd] at hR
    refine ⟨rfl, d.toList, ?_, ?_, hR, below_sorted hb hr.hbase⟩
    · rw [Array.toList_extract, Array.toList_extract] at hp2
      have e1 : d.toList.take xs.length = d.toList := List.take_of_length_le (Nat.le_of_eq hd)
      have e2 : xs.take xs.length = xs := List.take_of_length_le (Nat.le_refl _)
      simp only [List.extract_eq_take_drop, List.drop_zero, Nat.sub_zero, e1, e2] at hp2
      exact hp2
    · rw [List.pairwise_iff_getElem]
      intro i j hi hj hij
      have h := hso i j (Nat.zero_le _) hij (by rw [← hd]; exact hj)
      rw [ltR, getElem!_pos d i (by simpa using hi), getElem!_pos d j (by simpa using hj)] at h
      have h := of_decide_eq_false h
      simp only [Array.getElem_toList]
      omega
theorem row_put {w : World} {base g cap : Nat} {xs : List S38} {cur : Array Value} (h : Row w base g cap xs cur) (i : Nat) (hi : i < xs.length) (v : Int) :
    Row (w.setCell ⟨g, i * 2 + 1, none⟩ (.int .i64 v)) base g cap (xs.set i ⟨(xs.getD i z38).f0, v⟩) (cur.setIfInBounds (i * 2 + 1) (.int .i64 v)) := by
  have s1 := h.hsize
  have s2 := h.hle
  refine ⟨h.hbase, by simpa using blk_set h.hblk (i * 2 + 1) (.int .i64 v), by simpa using h.hle, h.hcap, by simpa using h.hsize, fun j hj => ?_⟩
  have hj' : j < xs.length := by simpa using hj
  obtain ⟨a0, a1⟩ := h.hat j hj'
  by_cases e : i = j
  · subst e
    have e1 : (xs.set i ⟨(xs.getD i z38).f0, v⟩).getD i z38 = ⟨(xs.getD i z38).f0, v⟩ := by
      rw [List.getD_eq_getElem?_getD, List.getElem?_set_self (by simpa using hi)]
      rfl
    rw [e1]
    refine ⟨?_, ?_⟩
    · rw [Array.getElem?_setIfInBounds_ne (by omega)]
      exact a0
    · rw [Array.getElem?_setIfInBounds_self_of_lt (by omega)]
  · have e1 : (xs.set i ⟨(xs.getD i z38).f0, v⟩).getD j z38 = xs.getD j z38 := by
      rw [List.getD_eq_getElem?_getD, List.getElem?_set_ne e, ← List.getD_eq_getElem?_getD]
    rw [e1, Array.getElem?_setIfInBounds_ne (by omega), Array.getElem?_setIfInBounds_ne (by omega)]
    exact ⟨a0, a1⟩
theorem Row.later {w w1 : World} {base g cap : Nat} {xs : List S38} {cur : Array Value} (h : Row w base g cap xs cur) (hb : Below w.heap.size w w1) : Row w1 base g cap xs cur :=
  ⟨h.hbase, (hb.block g (blk_lt h.hblk)).trans h.hblk, h.hle, h.hcap, h.hsize, h.hat⟩
set_option maxHeartbeats 3200000 in
set_option maxRecDepth 100000 in
theorem walk (A : Option Addr) (c : Nat) (l : List S38) (w : World) (hr : Kd.C k38 w A l.length l) (hc : l.length ≤ c) (hl : l.length ≤ 1000000) :
    Calls Try.prog 20 #[.slice A l.length c] w fun e w' => ∃ v, e = .returned v ∧ ∃ ds : List S38, (ds.Perm (own l) ∧ ds.Pairwise (fun x y => x.f0 ≤ y.f0)) ∧ Kd.R k38 38 w' w.heap.size (fun _ => True) v (mergeL ds) ∧ Below w.heap.size w w' := by
  have HR := Aside0.mk hr
  have HC := Aside0.mk hc
  have HL := Aside0.mk hl
  clear hr hc hl
  go_enter Try.func20, Try.ntmps20
  go_wp2_with fail
  go_loopw [3, 12] (fun v i wr => ∃ k : Nat, k ≤ l.length ∧ i = .int .i64 k ∧ Aside0 (Kd.R k38 38 wr w.heap.size (fun _ => True) v (own (l.take k))) ∧ Aside0 (Below w.heap.size w wr)) (fun _ i _ => l.length - (intOf i).toNat)
  case atStart => exact ⟨0, Nat.zero_le _, rfl, ⟨Kd.R_nil _ _ _ _ _⟩, ⟨Below.refl _ _⟩⟩
  case round =>
    obtain ⟨k, hk, rfl, HO, HB⟩ := hrel
    have hkb : (k : Int) ≤ 1000000 := by have := HL.out; omega
    by_cases hlt : k < l.length
    · have hki : (k : Int) < (l.length : Int) := by omega
      have hk0 : (0 : Int) ≤ (k : Int) := by omega
      obtain ⟨ad, rfl, hx0, hx1⟩ := at_T38 HR.out (k : Int) hk0 hki
      replace hx0 := pw_cell_below HB.out hx0
      replace hx1 := pw_cell_below HB.out hx1
      rw [show ((k : Int)).toNat = k from rfl] at hx0 hx1
      obtain ⟨x, hx⟩ : ∃ x, x = rd_T38 l (k : Int) := ⟨_, rfl⟩
      rw [← hx] at hx0 hx1
      have HX := Aside0.mk hx
      clear hx
      have hlo : (own (l.take k)).length < 1000001 := by
        have h1 : (own (l.take k)).length ≤ (l.take k).length := by unfold own; exact Nat.le_trans (List.length_filter_le _ _) (by simp)
        have h2 : (l.take k).length ≤ k := by rw [List.length_take]; exact Nat.min_le_left _ _
        have := HL.out
        omega
      have HLO := Aside0.mk hlo
      clear hlo
      obtain ⟨a, ha⟩ : ∃ a, (if x.f0 < 0 then 0 else x.f0) = a := ⟨_, rfl⟩
      obtain ⟨b, hb⟩ : ∃ b, (if 1114111 < x.f1 then 1114111 else x.f1) = b := ⟨_, rfl⟩
      have HCL : Aside0 (clip1 x = ⟨a, b⟩) := ⟨by rw [← ha, ← hb]; rfl⟩
      by_cases hok : a ≤ b
      · go_wp2_with (first | ((with_reducible refine gate_builtin (b := .append) (xs := #[.tmp 28, .tmp 30]) rfl ?_); at_builtin; refine Kd.R_append k38 (w0 := w) w.heap.size rfl (.tmp 28) (.tmp 30) 24 38 (.agg #[.int .i64 0, .int .i64 0]) 16 rfl Try.underlying24 info38 rfl (by decide) (by omega) u3 (own (l.take k)) ⟨a, b⟩ [.int .i64 a, .int .i64 b] (fun _ => True) (fun _ => False) rfl (by first | (go_simp; done) | (go_simp; rfl)) ?aP (fun _ hk => hk.elim) ?aF ?aO ?aB ?aS ?aL ?_; (case aP => exact k38_mkM _ _ _ _); (case aF => exact fun _ _ => trivial); (case aO => exact Kd.R_alloc HO.out _); (case aB => exact below_alloc HB.out _); (case aS => exact below_size (below_alloc HB.out _)); (case aL => have := HLO.out; omega); intro v1 w1 ho hb hg hat; have HO1 := Aside0.mk ho; have HB1 := Aside0.mk hb; clear ho hb hg hat))
        have HE : Aside0 (own (l.take (k + 1)) = own (l.take k) ++ [⟨a, b⟩]) := ⟨by rw [own_step l k hlt, ← HX.out, HCL.out, if_pos (by unfold ok1; simpa using hok)]⟩
        go_roundw
        case rel => exact ⟨k + 1, by omega, by go_num, ⟨by rw [HE.out]; exact HO1.out⟩, HB1⟩
        case measure => simp [intOf]; omega
      · have HE : Aside0 (own (l.take (k + 1)) = own (l.take k)) := ⟨by rw [own_step l k hlt, ← HX.out, HCL.out, if_neg (by unfold ok1; simpa using hok), List.append_nil]⟩
        go_wp2_with fail
        go_roundw
        case rel => exact ⟨k + 1, by omega, by go_num, ⟨by rw [HE.out]; exact Kd.R_alloc HO.out _⟩, ⟨below_alloc HB.out _⟩⟩
        case measure => simp [intOf]; omega
    · have hki : ¬ ((k : Int) < (l.length : Int)) := by omega
      obtain rfl : k = l.length := by omega
      rw [List.take_length] at HO
      go_wp2_with fail
      have hlo : (own l).length ≤ 1000000 := by
        have h1 : (own l).length ≤ l.length := by unfold own; exact Nat.le_trans (List.length_filter_le _ _) (by simp)
        have := HL.out
        omega
      refine (sort_R w wr _ _ HO.out HB.out hlo).mono ?_
      rintro e ws ⟨rfl, ds, hp, hso, HO1, hb1⟩
      have hdl : ds.length = (own l).length := hp.length_eq
      have hIn : ∀ x ∈ ds, InB x := fun x hx => own_InB l x (hp.mem_iff.1 hx)
      have HDS := Aside0.mk (And.intro hp hso)
      have HBW := Aside0.mk hb1
      have HIN := Aside0.mk hIn
      have HDL : Aside0 (ds.length ≤ 1000000) := ⟨by omega⟩
      obtain ⟨Ao, co, rfl, hlo2, hC⟩ := Kd.R_reads HO1
      have HCC := Aside0.mk hC
      have HLO2 := Aside0.mk hlo2
      clear hp hso hb1 hIn hdl hC hlo2 HO1 hlo HO HB
      go_wp2_with fail
      go_loopw [6, 37] (fun v i w2 => ∃ k : Nat, k ≤ ds.length ∧ i = .int .i64 k ∧ Aside0 (Kd.R k38 38 w2 ws.heap.size (fun _ => True) v (mergeL (ds.take k))) ∧ Aside0 (Below ws.heap.size ws w2)) (fun _ i _ => ds.length - (intOf i).toNat)
      case atStart => exact ⟨0, Nat.zero_le _, rfl, ⟨Kd.R_nil _ _ _ _ _⟩, ⟨Below.refl _ _⟩⟩
      case round =>
        obtain ⟨k, hk, rfl, HO, HB⟩ := hrel
        have hkb : (k : Int) ≤ 1000000 := by have := HDL.out; omega
        by_cases hlt : k < ds.length
        · have hki : (k : Int) < (ds.length : Int) := by omega
          have hk0 : (0 : Int) ≤ (k : Int) := by omega
          obtain ⟨ad, rfl, hx0, hx1⟩ := at_T38 HCC.out (k : Int) hk0 hki
          replace hx0 := pw_cell_below HB.out hx0
          replace hx1 := pw_cell_below HB.out hx1
          rw [show ((k : Int)).toNat = k from rfl] at hx0 hx1
          have HM := Aside0.mk (merge_take ds k hlt)
          obtain ⟨x, hx⟩ : ∃ x, x = rd_T38 ds (k : Int) := ⟨_, rfl⟩
          rw [← hx] at hx0 hx1 HM
          have hxin : InB x := HIN.out x (by rw [hx]; unfold rd_T38; rw [List.getD_eq_getElem?_getD, Int.toNat_natCast, List.getElem?_eq_getElem hlt]; exact List.getElem_mem _)
          have hmin := merge_InB (ds.take k) (fun x hx => HIN.out x (List.mem_of_mem_take hx))
          obtain ⟨out, ho⟩ : ∃ out, out = mergeL (ds.take k) := ⟨_, rfl⟩
          rw [← ho] at HO HM hmin
          have HX := Aside0.mk hxin
          have hol : out.length ≤ 1000000 := by have h1 := hmin.2; have h2 := HDL.out; rw [List.length_take] at h1; omega
          have HMIN := Aside0.mk hmin.1
          clear hx ho hxin hmin
          rcases row_of HO.out with ⟨rfl, rfl⟩ | ⟨g, cap, cur, rfl, hr⟩
          · have HOL : Aside0 (([] : List S38).length ≤ 1000000) := ⟨hol⟩
            clear hol
            go_wp2_with fail
            go_quiet (fail)
            go_wp2_with (first | ((with_reducible refine gate_builtin (b := .append) (xs := #[.tmp 69, .tmp 71]) rfl ?_); at_builtin; refine Kd.R_append k38 (w0 := ws) ws.heap.size rfl (.tmp 69) (.tmp 71) 24 38 (.agg #[.int .i64 0, .int .i64 0]) 16 rfl Try.underlying24 info38 rfl (by decide) (by omega) (.slice none 0 0) [] x [.int .i64 x.f0, .int .i64 x.f1] (fun _ => True) (fun _ => False) rfl (by first | (go_simp; done) | (go_simp; rfl)) ?aP (fun _ hk => hk.elim) ?aF ?aO ?aB ?aS ?aL ?_; (case aP => exact k38_mkM _ _ _ _); (case aF => exact fun _ _ => trivial); (case aO => repeat (first | exact HO.out | apply Kd.R_drewN | apply Kd.R_alloc | apply Kd.R_drew)); (case aB => repeat (first | exact HB.out | apply below_alloc | apply pw_below_drewN | apply below_drew1)); (case aS => refine below_size ?_; repeat (first | exact HB.out | apply below_alloc | apply pw_below_drewN | apply below_drew1)); (case aL => have := HOL.out; omega); intro v1 w1 ho hb hg hat; have HO1 := Aside0.mk ho; have HB1 := Aside0.mk hb; clear ho hb hg hat))
            have HE : Aside0 (mstep [] x = [] ++ [x]) := ⟨by unfold mstep; rw [if_neg (by simp)]⟩
            go_roundw
            case rel => exact ⟨k + 1, by omega, by go_num, ⟨by rw [HM.out, HE.out]; exact HO1.out⟩, HB1⟩
            case measure => simp [intOf]; omega
          · have HOL := Aside0.mk hol
            have HR2 := Aside0.mk hr
            by_cases hpos : 0 < out.length
            · obtain ⟨n, hn⟩ : ∃ n, n + 1 = out.length := ⟨out.length - 1, by omega⟩
              have hat := hr.hat n (by omega)
              obtain ⟨y, hy⟩ : ∃ y, y = out.getD n z38 := ⟨_, rfl⟩
              rw [← hy] at hat
              have hy0 : wr.cell? ⟨g, n * 2, none⟩ = some (.int .i64 y.f0) := by rw [blk_cell hr.hblk]; exact hat.1
              have hy1 : wr.cell? ⟨g, n * 2 + 1, none⟩ = some (.int .i64 y.f1) := by rw [blk_cell hr.hblk]; exact hat.2
              have hyin := HMIN.out y (by rw [hy, List.getD_eq_getElem?_getD, List.getElem?_eq_getElem (by omega)]; exact List.getElem_mem _)
              have hyf : 0 ≤ y.f1 ∧ y.f1 ≤ 1114111 := ⟨by obtain ⟨a, b, c⟩ := hyin; omega, hyin.2.2⟩
              obtain ⟨hyf0, hyf1⟩ := hyf
              have HY := Aside0.mk hy
              have hfz : wr.frozen? ⟨g, n * 2 + 1, none⟩ = false := blk_frozen hr.hblk _
              have hol2 : ((out.length : Int) - 1) = (n : Int) := by omega
              have hn64 : wrap64 (n : Int) = (n : Int) := by unfold wrap64; omega
              have hn0 : (0 : Int) ≤ (n : Int) := by omega
              have hn1 : (n : Int) < (out.length : Int) := by omega
              have hy64 : wrap64 (y.f1 + 1) = y.f1 + 1 := by unfold wrap64; omega
              have hy64' : IntKind.i64.wrap (y.f1 + 1) = y.f1 + 1 := by rw [i64_w]; exact hy64
              have hy1' := pw_cell_below (below_alloc (Below.refl _ wr) (.cells #[.int .i64 x.f0, .int .i64 x.f1] 38)) hy1
              clear hat hr hyin hy hol hpos
              by_cases hle : x.f0 ≤ y.f1 + 1
              · go_wp2_with fail
                go_quiet (fail)
                go_wp2_with fail
                obtain ⟨w5, hw5⟩ : ∃ w5, w5 = (wr.alloc (.cells #[.int .i64 x.f0, .int .i64 x.f1] 38)).drewN nq := ⟨_, rfl⟩
                rw [← hw5]
                have hbl : Below wr.heap.size wr w5 := by rw [hw5]; exact pw_below_drewN (below_alloc (Below.refl _ _) _) _
                have hz1 : w5.cell? ⟨wr.heap.size, 1, none⟩ = some (.int .i64 x.f1) := by rw [hw5]; exact blk_cell (MapKept.heap_alloc wr (.cells #[.int .i64 x.f0, .int .i64 x.f1] 38)).1 1
                have hu1 : w5.cell? ⟨g, n * 2 + 1, none⟩ = some (.int .i64 y.f1) := pw_cell_below hbl hy1
                have hfu : w5.frozen? ⟨g, n * 2 + 1, none⟩ = false := blk_frozen (HR2.out.later hbl).hblk _
                have HR3 := Aside0.mk (HR2.out.later hbl)
                have HB3 := Aside0.mk (below_step HB.out hbl)
                have HLE := Aside0.mk hle
                obtain ⟨m, hm⟩ : ∃ m, (if y.f1 < x.f1 then x.f1 else y.f1) = m := ⟨_, rfl⟩
                have HE : Aside0 (mstep out x = out.set n ⟨(out.getD n z38).f0, m⟩) := ⟨by
                  have e : out.length - 1 = n := by omega
                  unfold mstep
                  rw [e, ← HY.out, if_pos ⟨by omega, hle⟩, hm]⟩
                clear hy1' hy0 hy1 hfz hx0 hx1 hw5 hbl HR2 HB HO hle hyf0 hyf1 hn
                go_still_tail 12, (by kernel_rfl)
                change wpList _ _ _ _ _ w5.drew
                obtain ⟨w6, hw6⟩ : ∃ w6, w6 = w5.drew := ⟨_, rfl⟩
                rw [← hw6]
                have hz1 : w6.cell? ⟨wr.heap.size, 1, none⟩ = some (.int .i64 x.f1) := by rw [hw6]; exact hz1
                have hu1 : w6.cell? ⟨g, n * 2 + 1, none⟩ = some (.int .i64 y.f1) := by rw [hw6]; exact hu1
                have hfu : w6.frozen? ⟨g, n * 2 + 1, none⟩ = false := by rw [hw6]; exact hfu
                have HR4 : Aside0 (Row w6 ws.heap.size g cap out cur) := ⟨by rw [hw6]; exact HR3.out.later (below_drew1 (Below.refl _ _))⟩
                have HB4 : Aside0 (Below ws.heap.size ws w6) := ⟨by rw [hw6]; exact below_drew1 HB3.out⟩
                clear hw6 HR3 HB3
                go_wp2
                have hrr := of_row (row_put HR4.out n (by omega) m)
                rw [List.length_set] at hrr
                exact ⟨⟨k + 1, by omega, by go_num, ⟨by rw [HM.out, HE.out]; exact hrr⟩, ⟨HB4.out.setCell HR4.out.hbase _⟩⟩, by simp [intOf]; omega⟩
              · have HE : Aside0 (mstep out x = out ++ [x]) := ⟨by
                  have e : out.length - 1 = n := by omega
                  unfold mstep
                  rw [e, ← HY.out, if_neg (fun h => hle h.2)]⟩
                have hle2 : decide (x.f0 ≤ y.f1 + 1) = false := by simpa using hle
                clear hn hyf0 hyf1
                go_wp2_with fail
                go_quiet (fail)
                go_wp2_with (first | ((with_reducible refine gate_builtin (b := .append) (xs := #[.tmp 69, .tmp 71]) rfl ?_); at_builtin; refine Kd.R_append k38 (w0 := ws) ws.heap.size rfl (.tmp 69) (.tmp 71) 24 38 (.agg #[.int .i64 0, .int .i64 0]) 16 rfl Try.underlying24 info38 rfl (by decide) (by omega) (.slice (some ⟨g, 0, none⟩) out.length cap) out x [.int .i64 x.f0, .int .i64 x.f1] (fun _ => True) (fun _ => False) rfl (by first | (go_simp; done) | (go_simp; rfl)) ?aP (fun _ hk => hk.elim) ?aF ?aO ?aB ?aS ?aL ?_; (case aP => exact k38_mkM _ _ _ _); (case aF => exact fun _ _ => trivial); (case aO => repeat (first | exact HO.out | apply Kd.R_drewN | apply Kd.R_alloc | apply Kd.R_drew)); (case aB => repeat (first | exact HB.out | apply below_alloc | apply pw_below_drewN | apply below_drew1)); (case aS => refine below_size ?_; repeat (first | exact HB.out | apply below_alloc | apply pw_below_drewN | apply below_drew1)); (case aL => have := HOL.out; omega); intro v1 w1 ho hb hg hat; have HO1 := Aside0.mk ho; have HB1 := Aside0.mk hb; clear ho hb hg hat))
                go_roundw
                case rel => exact ⟨k + 1, by omega, by go_num, ⟨by rw [HM.out, HE.out]; exact HO1.out⟩, HB1⟩
                case measure => simp [intOf]; omega
            · obtain rfl : out = [] := List.eq_nil_of_length_eq_zero (by omega)
              have HE : Aside0 (mstep [] x = [] ++ [x]) := ⟨by unfold mstep; rw [if_neg (by simp)]⟩
              clear hol hpos hr HR2 HMIN
              go_wp2_with fail
              go_quiet (fail)
              go_wp2_with (first | ((with_reducible refine gate_builtin (b := .append) (xs := #[.tmp 69, .tmp 71]) rfl ?_); at_builtin; refine Kd.R_append k38 (w0 := ws) ws.heap.size rfl (.tmp 69) (.tmp 71) 24 38 (.agg #[.int .i64 0, .int .i64 0]) 16 rfl Try.underlying24 info38 rfl (by decide) (by omega) (.slice (some ⟨g, 0, none⟩) ([] : List S38).length cap) [] x [.int .i64 x.f0, .int .i64 x.f1] (fun _ => True) (fun _ => False) rfl (by first | (go_simp; done) | (go_simp; rfl)) ?aP (fun _ hk => hk.elim) ?aF ?aO ?aB ?aS ?aL ?_; (case aP => exact k38_mkM _ _ _ _); (case aF => exact fun _ _ => trivial); (case aO => repeat (first | exact HO.out | apply Kd.R_drewN | apply Kd.R_alloc | apply Kd.R_drew)); (case aB => repeat (first | exact HB.out | apply below_alloc | apply pw_below_drewN | apply below_drew1)); (case aS => refine below_size ?_; repeat (first | exact HB.out | apply below_alloc | apply pw_below_drewN | apply below_drew1)); (case aL => have := HOL.out; omega); intro v1 w1 ho hb hg hat; have HO1 := Aside0.mk ho; have HB1 := Aside0.mk hb; clear ho hb hg hat))
              go_roundw
              case rel => exact ⟨k + 1, by omega, by go_num, ⟨by rw [HM.out, HE.out]; exact HO1.out⟩, HB1⟩
              case measure => simp [intOf]; omega
        · have hki : ¬ ((k : Int) < (ds.length : Int)) := by omega
          obtain rfl : k = ds.length := by omega
          rw [List.take_length] at HO
          go_wp2_with fail
          go_ret
          exact ⟨_, rfl, ds, HDS.out, Kd.R_lower HO.out HBW.out.size, below_step HBW.out HB.out⟩
#print axioms walk
end Go.Proofs.Ytoihjhpabccigaa.OF
