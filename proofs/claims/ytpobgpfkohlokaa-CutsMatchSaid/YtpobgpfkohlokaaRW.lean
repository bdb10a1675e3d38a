/- The document's answer: New, walked. -/
import Derived.Test.YtpobgpfkohlokaaRN
namespace Go.Proofs.Ytpobgpfkohlokaa.PC
open Go.RowKit Go.Lib Go.Shelf Go.Maps Go.Proofs.YtpobgpfkohlokaaW.PrintWords Go.Proofs.YtpobgpfkohlokaaW.PrintLast Go.Proofs.YtpobgpfkohlokaaW.PrintMore
set_option linter.unusedVariables false
set_option linter.unusedSimpArgs false
theorem rrun_step {f : Nat} {s : BL} {st : BL × List (BL × BL)} (hs : s ≠ []) : rrun (f + 1) s st = (rstep s st).bind (fun r => rrun f r.1 r.2) := by
  show (if s = [] then some st else _) = _
  rw [if_neg hs]
theorem lastBeh_get {L : List PB} {m : Nat} {p : PB} (hm : L.length = m + 1) (hp : L[m]? = some p) : lastBeh (L.map plB) = p.2.data.toList := by
  obtain ⟨L0, q, rfl⟩ : ∃ L0 q, L = L0 ++ [q] := by
    rcases List.eq_nil_or_concat L with h | ⟨L0, q, h⟩
    · rw [h] at hm; cases hm
    · exact ⟨L0, q, by rw [h, List.concat_eq_append]⟩
  have : L0.length = m := by simpa using hm
  rw [← this, List.getElem?_append_right (Nat.le_refl _), Nat.sub_self] at hp
  cases hp
  rw [List.map_append]
  exact lastBeh_snoc _ _ _
def dupB (L : List PB) (n : BL) : Bool := decide (¬ n = [95]) && L.any (fun p => decide (p.1.data.toList = n))
theorem dup_iff {L : List PB} {n : BL} : (¬ n = [95] ∧ n ∈ (L.map plB).map (·.1)) ↔ dupB L n = true := by
  unfold dupB
  rw [Bool.and_eq_true, decide_eq_true_eq, List.any_eq_true]
  refine and_congr_right (fun _ => ?_)
  rw [List.map_map, List.mem_map]
  constructor
  · rintro ⟨p, hp, he⟩; exact ⟨p, hp, decide_eq_true he⟩
  · rintro ⟨p, hp, he⟩; exact ⟨p, hp, of_decide_eq_true he⟩
theorem setBeh_mem {L : List PB} {b : ByteArray} {q : PB} (h : q ∈ setBeh L b) : (∃ q' ∈ L, q.2 = q'.2) ∨ q.2 = b := by
  induction L with
  | nil => cases h
  | cons p L ih =>
    cases L with
    | nil =>
      have : q = (p.1, b) := by simpa [setBeh] using h
      exact .inr (by rw [this])
    | cons r t =>
      rcases List.mem_cons.1 (show q ∈ p :: setBeh (r :: t) b from h) with h | h
      · exact .inl ⟨p, List.mem_cons_self, by rw [h]⟩
      · rcases ih h with ⟨q', h1, h2⟩ | h1
        · exact .inl ⟨q', List.mem_cons_of_mem _ h1, h2⟩
        · exact .inr h1
def FailE (e : Ending) : Prop := e = .returned (.tuple #[.pointer none, .int .i64 180])
set_option maxHeartbeats 32000000 in
set_option maxRecDepth 100000 in
theorem rnew_calls (s0 : ByteArray) (w : World) : Calls Try.prog 9 #[.string s0] w fun e w' => ((rnewP s0.data.toList = none ∧ e = .returned (.tuple #[.pointer none, .int .i64 180])) ∨ (∃ a l v, rnewP s0.data.toList = some (a.data.toList, l.map plB) ∧ (l.length ≤ 300 ∧ a.size ≤ 256 ∧ ∀ p ∈ l, p.2.size ≤ 256) ∧ e = .returned (.tuple #[v, .int .i64 0]) ∧ RefAt w.heap.size w' v a l)) ∧ Below w.heap.size w w' := by
  have hu66 := Try.underlying66
  have hu70 := Try.underlying70
  have mixed : Try.prog.follows .mixedOrders = true := by kernel_rfl
  by_cases h256 : s0.size ≤ 256
  · have hz0 : ¬ (256 : Int) < (s0.size : Int) := by omega
    have HRN := Aside0.mk (show rnewP s0.data.toList = (rrun (s0.size + 1) s0.data.toList ([], [])).bind (fun st => if namesP st.2 = [] then none else some st) by
      unfold rnewP
      rw [if_pos (by rw [data_length]; exact h256), data_length])
    have hb0 := World.alloc_heap_new w (.cells #[.string ⟨#[]⟩, .slice none 0 0] 66)
    have HB0 := Aside0.mk (below_alloc (Below.refl w.heap.size w) (.cells #[.string ⟨#[]⟩, .slice none 0 0] 66))
    have HI0 := Aside0.mk (show RI w.heap.size (w.alloc (.cells #[.string ⟨#[]⟩, .slice none 0 0] 66)) ⟨#[]⟩ [] (.slice none 0 0) from ⟨hb0, rfl, .inl ⟨rfl, rfl⟩⟩)
    clear hb0
    go_enter Try.func9, Try.ntmps9
    go_wp2_with fail
    obtain ⟨n0, hn0⟩ : ∃ n0, n0 = s0.size := ⟨_, rfl⟩
    have HN0 := Aside0.mk hn0
    have hn256 : n0 ≤ 256 := by omega
    go_loopg [5] n0 (fun g1 v5 wr => ∃ (sB a : ByteArray) (L : List PB) (A : Option Addr) (c : Nat), v5 = .string sB ∧ sB.size ≤ g1 ∧ g1 ≤ n0 ∧ L.length + g1 ≤ n0 ∧ a.size + g1 ≤ n0 ∧ Aside0 (∀ p ∈ L, p.2.size + g1 ≤ n0) ∧ Aside0 (rrun (n0 + 1) s0.data.toList ([], []) = rrun (g1 + 1) sB.data.toList (a.data.toList, L.map plB)) ∧ Aside0 (RI w.heap.size wr a L (.slice A L.length c)) ∧ Aside0 (Below w.heap.size w wr))
    case atStart => exact ⟨s0, ⟨#[]⟩, [], none, 0, rfl, by omega, Nat.le_refl _, by simp, by (show 0 + n0 ≤ n0; omega), ⟨by intro p hp; cases hp⟩, ⟨rfl⟩, HI0, HB0⟩
    case round =>
      obtain ⟨sB, a, L, A, c, rfl, hs1, hg1, hL1, ha1, HP, HRR, HI, HB⟩ := hrel
      have d0 := (blk_cell HI.out.st 0).trans rfl
      have d1 := (blk_cell HI.out.st 1).trans rfl
      have f0 := blk_frozen HI.out.st 0
      have f1 := blk_frozen HI.out.st 1
      by_cases hse : sB.toList = []
      · have hst : (sB.toList == []) = true := by simpa using hse
        have hrn := rnames_calls wr w.heap.size (.pointer (some ⟨w.heap.size, 0, none⟩)) a L ⟨w.heap.size, _, rfl, Nat.le_refl _, HI.out.st, own_base HI.out.row (Nat.le_succ _)⟩ (by omega)
        have HNP := Aside0.mk (show rnewP s0.data.toList = if namesB L = [] then none else some (a.data.toList, L.map plB) by
          rw [HRN.out, ← HN0.out, HRR.out]
          have he : sB.data.toList = [] := by rw [← ByteArray.toList_eq]; exact hse
          rw [he]
          show (if namesP (L.map plB) = [] then none else some _) = _
          rw [namesP_map]
          by_cases hn : namesB L = []
          · rw [if_pos hn, if_pos (by rw [hn]; rfl)]
          · rw [if_neg hn, if_neg (by intro h; exact hn (List.map_eq_nil_iff.1 h))])
        clear hse
        go_wp2_with fail
        refine hrn.mono ?_
        rintro e w1 ⟨⟨un, rfl, hun⟩, hb1⟩
        obtain ⟨An, cn, rfl, -⟩ := own_slice hun
        have HB1 := Aside0.mk (below_then HB.out hb1)
        have HI1 := Aside0.mk (HI.out.kb (Kb.of_below (S := fun _ => False) hb1) (fun _ _ h => h))
        clear hb1 hun hrn
        by_cases hn : namesB L = []
        · have hz : (namesB L).length = 0 := by rw [hn]; rfl
          rw [hz]
          rw [if_pos hn] at HNP
          clear hz hn
          go_wp2_with fail
          go_ret2
          exact ⟨.inl ⟨HNP.out, rfl⟩, HB1.out⟩
        · have hz : ¬ ((namesB L).length : Int) = 0 := by
            intro h
            exact hn (List.eq_nil_of_length_eq_zero (by omega))
          rw [if_neg hn] at HNP
          clear hn
          go_wp2_with fail
          go_ret2
          exact ⟨.inr ⟨a, L, _, HNP.out, ⟨by omega, by omega, fun p hp => by have := HP.out p hp; omega⟩, rfl, ⟨w.heap.size, _, rfl, Nat.le_refl _, HI1.out.st, own_base HI1.out.row (Nat.le_succ _)⟩⟩, HB1.out⟩
      · have hst : (sB.toList == []) = false := by simpa using hse
        have hsd : sB.data.toList ≠ [] := by rw [← ByteArray.toList_eq]; exact hse
        have hpos : 0 < sB.size := by rw [← data_length]; exact List.length_pos_iff.2 hsd
        obtain ⟨gk', rfl⟩ : ∃ k, gk = k + 1 := ⟨gk - 1, by omega⟩
        have hrs := rrun_step (f := gk' + 1) (st := (a.data.toList, L.map plB)) hsd
        have hpc := rpart_calls sB (by omega) wr
        clear hse
        cases hp : partAt sB.data.toList with
        | none =>
          rw [partR_none hp] at hpc
          have hstep : rstep sB.data.toList (a.data.toList, L.map plB) = some (sB.data.toList.drop 1, if L.map plB = [] then a.data.toList ++ sB.data.toList.take 1 else a.data.toList, setBeh (L.map plB) (lastBeh (L.map plB) ++ sB.data.toList.take 1)) := by
            unfold rstep
            rw [hp]
          rw [hstep] at hrs
          clear hp hstep hsd
          go_wp2_with fail
          refine hpc.mono ?_
          rintro e w1 ⟨rfl, hd1⟩
          have HB1 := Aside0.mk (below_then HB.out hd1.below)
          have HI1 := Aside0.mk (HI.out.kb (Kb.of_below (S := fun _ => False) hd1.below) (fun _ _ h => h))
          clear hd1 hpc d0 d1 f0 f1 HB HI
          have d0 := (blk_cell HI1.out.st 0).trans rfl
          have d1 := (blk_cell HI1.out.st 1).trans rfl
          have f0 := blk_frozen HI1.out.st 0
          have f1 := blk_frozen HI1.out.st 1
          have hex : (sB.extract 1 sB.size).data.toList = sB.data.toList.drop 1 := ext_drop sB 1
          have hex1 : (sB.extract 0 1).data.toList = sB.data.toList.take 1 := ext_take sB 1
          have hx1z : (sB.extract 0 1).size = 1 := by rw [← data_length, hex1, List.length_take, data_length]; omega
          have hxz : (sB.extract 1 sB.size).size = sB.size - 1 := size_drop_ sB 1
          have h1le : 1 ≤ sB.size := hpos
          have h1li : (1 : Int) ≤ (sB.size : Int) := by omega
          have hsm1 : ¬ 9223372036854775807 < a.size + 1 := by omega
          by_cases hL0 : L = []
          · subst hL0
            go_wp2_with fail
            refine wp_region_last_drew (S := fun w' => w'.cell? ⟨w.heap.size, 0, none⟩ = some (.string a)) (ds := [10]) (by assumption) d0 (fun hHeld => ?_)
            refine wpAnyLast_take (i := 0) (v := ?vQ0) rfl (by kernel_rfl) (by kernel_rfl) (by kernel_rfl) (by kernel_rfl) (by kernel_rfl) (fun _ _ _ h => h) (Or.inl ⟨by rfl, ?hyQ0⟩) hHeld ?_
            case hyQ0 => rintro w' d0'; go_simp; (first | done | (with_reducible rfl))
            refine wpAnyLast_take (i := 1) (v := ?vQ1) rfl (by kernel_rfl) (by kernel_rfl) (by kernel_rfl) (by kernel_rfl) (by kernel_rfl) (fun _ _ _ h => h) (Or.inl ⟨by rfl, ?hyQ1⟩) hHeld ?_
            case hyQ1 => rintro w' d0'; go_simp; (first | done | (with_reducible rfl))
            refine wpAnyLast_take (i := 2) (v := ?vQ2) rfl (by kernel_rfl) (by kernel_rfl) (by kernel_rfl) (by kernel_rfl) (by kernel_rfl) (fun _ _ _ h => h) (Or.inl ⟨by rfl, ?hyQ2⟩) hHeld ?_
            case hyQ2 => rintro w' d0'; go_simp; (first | done | (with_reducible rfl))
            refine wpAnyLast_take (i := 3) (v := ?vQ3) rfl (by kernel_rfl) (by kernel_rfl) (by kernel_rfl) (by kernel_rfl) (by kernel_rfl) (fun _ _ _ h => h) (Or.inl ⟨by rfl, ?hyQ3⟩) hHeld ?_
            case hyQ3 => rintro w' d0'; go_simp; (first | done | (with_reducible rfl))
            refine wpAnyLast_take (i := 4) (v := ?vQ4) rfl (by kernel_rfl) (by kernel_rfl) (by kernel_rfl) (by kernel_rfl) (by kernel_rfl) (fun _ _ _ h => h) (Or.inl ⟨by rfl, ?hyQ4⟩) hHeld ?_
            case hyQ4 => rintro w' d0'; go_simp; (first | done | (with_reducible rfl))
            refine wpAnyLast_take (i := 5) (v := ?vQ5) rfl (by kernel_rfl) (by kernel_rfl) (by kernel_rfl) (by kernel_rfl) (by kernel_rfl) (fun _ _ _ h => h) (Or.inl ⟨by rfl, ?hyQ5⟩) hHeld ?_
            case hyQ5 => rintro w' d0'; go_simp; (first | done | (with_reducible rfl))
            refine wpAnyLast_take (i := 6) (v := ?vQ6) rfl (by kernel_rfl) (by kernel_rfl) (by kernel_rfl) (by kernel_rfl) (by kernel_rfl) (fun _ _ _ h => h) (Or.inl ⟨by rfl, ?hyQ6⟩) hHeld ?_
            case hyQ6 => rintro w' d0'; go_simp; (first | done | (with_reducible rfl))
            refine wpAnyLast_take (i := 7) (v := ?vQ7) rfl (by kernel_rfl) (by kernel_rfl) (by kernel_rfl) (by kernel_rfl) (by kernel_rfl) (fun _ _ _ h => h) (Or.inl ⟨by rfl, ?hyQ7⟩) hHeld ?_
            case hyQ7 => rintro w' d0'; go_simp; (first | done | (with_reducible rfl))
            refine wpAnyLast_take (i := 8) (v := ?vQ8) rfl (by kernel_rfl) (by kernel_rfl) (by kernel_rfl) (by kernel_rfl) (by kernel_rfl) (fun _ _ _ h => h) (Or.inl ⟨by rfl, ?hyQ8⟩) hHeld ?_
            case hyQ8 => rintro w' d0'; go_simp; (first | done | (with_reducible rfl))
            refine wpAnyLast_take (i := 9) (v := ?vQ9) rfl (by kernel_rfl) (by kernel_rfl) (by kernel_rfl) (by kernel_rfl) (by kernel_rfl) (fun _ _ _ h => h) (Or.inl ⟨by rfl, ?hyQ9⟩) hHeld ?_
            case hyQ9 => rintro w' d0'; go_simp; (first | done | (with_reducible rfl))
            have hsm : ¬ 9223372036854775807 < a.size + (sB.extract 0 1).size := by omega
            have f0' : w1.drew.frozen? ⟨w.heap.size, 0, none⟩ = false := f0
            have d0'' : w1.drew.cell? ⟨w.heap.size, 0, none⟩ = some (.string a) := hHeld
            refine wpAnyLast_ready (rs := [10]) (by kernel_rfl) (by simp) (AllReadyL.cons_last rfl (by simp) (fun K hK => ?_) AllReadyL.nil)
            go_simp
            refine hK.out _ _ ?_
            clear hK K
            refine wpAnyLast_done (by kernel_rfl) ?_ _
            have HI2 := Aside0.mk ((HI1.out.kb ((Kb.refl (fun _ => False) w1).drew) (fun _ _ h => h)).ahead (a ++ sB.extract 0 1))
            have HB2 := Aside0.mk (below_kb (below_drew1 HB1.out) ((Kb.refl (fun j => w.heap.size ≤ j) w1.drew).setCell (p := ⟨w.heap.size, 0, none⟩) (.inl (Nat.le_refl _)) (.string (a ++ sB.extract 0 1))))
            have HR2 := Aside0.mk (show rrun (n0 + 1) s0.data.toList ([], []) = rrun (gk' + 1) (sB.extract 1 sB.size).data.toList ((a ++ sB.extract 0 1).data.toList, []) by
              rw [HRR.out, hrs, hex, lk_app, hex1]
              rfl)
            clear hrs
            go_wp2_with fail
            go_roundg gk'
            case measure => omega
            case rel => exact ⟨sB.extract 1 sB.size, a ++ sB.extract 0 1, [], _, _, rfl, by omega, by omega, by (show 0 + gk' ≤ n0; omega), by (rw [ByteArray.size_append, hx1z]; omega), ⟨by intro p hp; cases hp⟩, HR2, HI2, HB2⟩
          · skip
            obtain ⟨m, hm⟩ : ∃ m, L.length = m + 1 := ⟨L.length - 1, by have := List.length_pos_iff.2 hL0; omega⟩
            obtain ⟨p, hpm⟩ : ∃ p, L[m]? = some p := ⟨L[m]'(by omega), List.getElem?_eq_getElem _⟩
            obtain ⟨r, rfl, hBr, hr, hr0, hr1⟩ := rowP_get HI1.out.row hpm
            have hlb := lastBeh_get hm hpm
            have em : IntKind.i64.wrap ((L.length : Int) - 1) = (m : Int) := (i64_w _).trans ((w64 (by omega) (by omega)).trans (by omega))
            have em2 : m < L.length := by omega
            have em3 : (m : Int) < (L.length : Int) := by omega
            have em4 : ¬ L.length = 0 := by omega
            have em5 : 0 < L.length := by omega
            have em6 : (0 : Int) < (L.length : Int) := by omega
            have hpz := HP.out p (List.mem_of_getElem? hpm)
            have HMM := Aside0.mk hm
            clear hm
            have hrf : w1.frozen? ⟨r, m * 2 + 1, none⟩ = false := by
              obtain ⟨h1, cs, h2⟩ := own_block HI1.out.row rfl
              exact blk_frozen h2 _
            have hLm : ¬ L.map plB = [] := fun h => hL0 (List.map_eq_nil_iff.1 h)
            rw [if_neg hLm, hlb] at hrs
            have hsm2 : ¬ 9223372036854775807 < p.2.size + 1 := by omega
            go_wp2_with fail
            refine wp_region_last_drew (S := fun w' => w'.cell? ⟨w.heap.size, 1, none⟩ = some (.slice (some ⟨r, 0, none⟩) L.length c) ∧ w'.cell? ⟨r, m * 2 + 1, none⟩ = some (.string p.2)) (ds := [28]) (by assumption) ⟨d1, hr1⟩ (fun hHeld => ?_)
            refine wpAnyLast_take (i := 0) (v := ?vR0) rfl (by kernel_rfl) (by kernel_rfl) (by kernel_rfl) (by kernel_rfl) (by kernel_rfl) (fun _ _ _ h => h) (Or.inl ⟨by rfl, ?hyR0⟩) hHeld ?_
            case hyR0 => rintro w' ⟨d1', d2'⟩; go_simp; (first | done | (with_reducible rfl))
            refine wpAnyLast_take (i := 1) (v := ?vR1) rfl (by kernel_rfl) (by kernel_rfl) (by kernel_rfl) (by kernel_rfl) (by kernel_rfl) (fun _ _ _ h => h) (Or.inl ⟨by rfl, ?hyR1⟩) hHeld ?_
            case hyR1 => rintro w' ⟨d1', d2'⟩; go_simp; (first | done | (with_reducible rfl))
            refine wpAnyLast_take (i := 2) (v := ?vR2) rfl (by kernel_rfl) (by kernel_rfl) (by kernel_rfl) (by kernel_rfl) (by kernel_rfl) (fun _ _ _ h => h) (Or.inl ⟨by rfl, ?hyR2⟩) hHeld ?_
            case hyR2 => rintro w' ⟨d1', d2'⟩; go_simp; (first | done | (with_reducible rfl))
            refine wpAnyLast_take (i := 3) (v := ?vR3) rfl (by kernel_rfl) (by kernel_rfl) (by kernel_rfl) (by kernel_rfl) (by kernel_rfl) (fun _ _ _ h => h) (Or.inl ⟨by rfl, ?hyR3⟩) hHeld ?_
            case hyR3 => rintro w' ⟨d1', d2'⟩; go_simp; (first | done | (with_reducible rfl))
            refine wpAnyLast_take (i := 4) (v := ?vR4) rfl (by kernel_rfl) (by kernel_rfl) (by kernel_rfl) (by kernel_rfl) (by kernel_rfl) (fun _ _ _ h => h) (Or.inl ⟨by rfl, ?hyR4⟩) hHeld ?_
            case hyR4 => rintro w' ⟨d1', d2'⟩; go_simp; (first | done | (with_reducible rfl))
            refine wpAnyLast_take (i := 5) (v := ?vR5) rfl (by kernel_rfl) (by kernel_rfl) (by kernel_rfl) (by kernel_rfl) (by kernel_rfl) (fun _ _ _ h => h) (Or.inl ⟨by rfl, ?hyR5⟩) hHeld ?_
            case hyR5 => rintro w' ⟨d1', d2'⟩; go_simp; (first | done | (with_reducible rfl))
            refine wpAnyLast_take (i := 6) (v := ?vR6) rfl (by kernel_rfl) (by kernel_rfl) (by kernel_rfl) (by kernel_rfl) (by kernel_rfl) (fun _ _ _ h => h) (Or.inl ⟨by rfl, ?hyR6⟩) hHeld ?_
            case hyR6 => rintro w' ⟨d1', d2'⟩; go_simp; (first | done | (with_reducible rfl))
            refine wpAnyLast_take (i := 7) (v := ?vR7) rfl (by kernel_rfl) (by kernel_rfl) (by kernel_rfl) (by kernel_rfl) (by kernel_rfl) (fun _ _ _ h => h) (Or.inl ⟨by rfl, ?hyR7⟩) hHeld ?_
            case hyR7 => rintro w' ⟨d1', d2'⟩; go_simp; (first | done | (with_reducible rfl))
            refine wpAnyLast_take (i := 8) (v := ?vR8) rfl (by kernel_rfl) (by kernel_rfl) (by kernel_rfl) (by kernel_rfl) (by kernel_rfl) (fun _ _ _ h => h) (Or.inl ⟨by rfl, ?hyR8⟩) hHeld ?_
            case hyR8 => rintro w' ⟨d1', d2'⟩; go_simp; (first | done | (with_reducible rfl))
            refine wpAnyLast_take (i := 9) (v := ?vR9) rfl (by kernel_rfl) (by kernel_rfl) (by kernel_rfl) (by kernel_rfl) (by kernel_rfl) (fun _ _ _ h => h) (Or.inl ⟨by rfl, ?hyR9⟩) hHeld ?_
            case hyR9 => rintro w' ⟨d1', d2'⟩; go_simp; (first | done | (with_reducible rfl))
            refine wpAnyLast_take (i := 10) (v := ?vR10) rfl (by kernel_rfl) (by kernel_rfl) (by kernel_rfl) (by kernel_rfl) (by kernel_rfl) (fun _ _ _ h => h) (Or.inl ⟨by rfl, ?hyR10⟩) hHeld ?_
            case hyR10 => rintro w' ⟨d1', d2'⟩; go_simp; (first | done | (with_reducible rfl))
            refine wpAnyLast_take (i := 11) (v := ?vR11) rfl (by kernel_rfl) (by kernel_rfl) (by kernel_rfl) (by kernel_rfl) (by kernel_rfl) (fun _ _ _ h => h) (Or.inl ⟨by rfl, ?hyR11⟩) hHeld ?_
            case hyR11 => rintro w' ⟨d1', d2'⟩; go_simp; (first | done | (with_reducible rfl))
            refine wpAnyLast_take (i := 12) (v := ?vR12) rfl (by kernel_rfl) (by kernel_rfl) (by kernel_rfl) (by kernel_rfl) (by kernel_rfl) (fun _ _ _ h => h) (Or.inl ⟨by rfl, ?hyR12⟩) hHeld ?_
            case hyR12 => rintro w' ⟨d1', d2'⟩; go_simp; (first | done | (with_reducible rfl))
            refine wpAnyLast_take (i := 13) (v := ?vR13) rfl (by kernel_rfl) (by kernel_rfl) (by kernel_rfl) (by kernel_rfl) (by kernel_rfl) (fun _ _ _ h => h) (Or.inl ⟨by rfl, ?hyR13⟩) hHeld ?_
            case hyR13 => rintro w' ⟨d1', d2'⟩; go_simp; (first | done | (with_reducible rfl))
            refine wpAnyLast_take (i := 14) (v := ?vR14) rfl (by kernel_rfl) (by kernel_rfl) (by kernel_rfl) (by kernel_rfl) (by kernel_rfl) (fun _ _ _ h => h) (Or.inl ⟨by rfl, ?hyR14⟩) hHeld ?_
            case hyR14 => rintro w' ⟨d1', d2'⟩; go_simp; (first | done | (with_reducible rfl))
            refine wpAnyLast_take (i := 15) (v := ?vR15) rfl (by kernel_rfl) (by kernel_rfl) (by kernel_rfl) (by kernel_rfl) (by kernel_rfl) (fun _ _ _ h => h) (Or.inl ⟨by rfl, ?hyR15⟩) hHeld ?_
            case hyR15 => rintro w' ⟨d1', d2'⟩; go_simp; (first | done | (with_reducible rfl))
            refine wpAnyLast_take (i := 16) (v := ?vR16) rfl (by kernel_rfl) (by kernel_rfl) (by kernel_rfl) (by kernel_rfl) (by kernel_rfl) (fun _ _ _ h => h) (Or.inl ⟨by rfl, ?hyR16⟩) hHeld ?_
            case hyR16 => rintro w' ⟨d1', d2'⟩; go_simp; (first | done | (with_reducible rfl))
            refine wpAnyLast_take (i := 17) (v := ?vR17) rfl (by kernel_rfl) (by kernel_rfl) (by kernel_rfl) (by kernel_rfl) (by kernel_rfl) (fun _ _ _ h => h) (Or.inl ⟨by rfl, ?hyR17⟩) hHeld ?_
            case hyR17 => rintro w' ⟨d1', d2'⟩; go_simp; (first | done | (with_reducible rfl))
            refine wpAnyLast_take (i := 18) (v := ?vR18) rfl (by kernel_rfl) (by kernel_rfl) (by kernel_rfl) (by kernel_rfl) (by kernel_rfl) (fun _ _ _ h => h) (Or.inl ⟨by rfl, ?hyR18⟩) hHeld ?_
            case hyR18 => rintro w' ⟨d1', d2'⟩; go_simp; (first | done | (with_reducible rfl))
            refine wpAnyLast_take (i := 19) (v := ?vR19) rfl (by kernel_rfl) (by kernel_rfl) (by kernel_rfl) (by kernel_rfl) (by kernel_rfl) (fun _ _ _ h => h) (Or.inl ⟨by rfl, ?hyR19⟩) hHeld ?_
            case hyR19 => rintro w' ⟨d1', d2'⟩; go_simp; (first | done | (with_reducible rfl))
            refine wpAnyLast_take (i := 20) (v := ?vR20) rfl (by kernel_rfl) (by kernel_rfl) (by kernel_rfl) (by kernel_rfl) (by kernel_rfl) (fun _ _ _ h => h) (Or.inl ⟨by rfl, ?hyR20⟩) hHeld ?_
            case hyR20 => rintro w' ⟨d1', d2'⟩; go_simp; (first | done | (with_reducible rfl))
            refine wpAnyLast_take (i := 21) (v := ?vR21) rfl (by kernel_rfl) (by kernel_rfl) (by kernel_rfl) (by kernel_rfl) (by kernel_rfl) (fun _ _ _ h => h) (Or.inl ⟨by rfl, ?hyR21⟩) hHeld ?_
            case hyR21 => rintro w' ⟨d1', d2'⟩; go_simp; (first | done | (with_reducible rfl))
            refine wpAnyLast_take (i := 22) (v := ?vR22) rfl (by kernel_rfl) (by kernel_rfl) (by kernel_rfl) (by kernel_rfl) (by kernel_rfl) (fun _ _ _ h => h) (Or.inl ⟨by rfl, ?hyR22⟩) hHeld ?_
            case hyR22 => rintro w' ⟨d1', d2'⟩; go_simp; (first | done | (with_reducible rfl))
            refine wpAnyLast_take (i := 23) (v := ?vR23) rfl (by kernel_rfl) (by kernel_rfl) (by kernel_rfl) (by kernel_rfl) (by kernel_rfl) (fun _ _ _ h => h) (Or.inl ⟨by rfl, ?hyR23⟩) hHeld ?_
            case hyR23 => rintro w' ⟨d1', d2'⟩; go_simp; (first | done | (with_reducible rfl))
            refine wpAnyLast_take (i := 24) (v := ?vR24) rfl (by kernel_rfl) (by kernel_rfl) (by kernel_rfl) (by kernel_rfl) (by kernel_rfl) (fun _ _ _ h => h) (Or.inl ⟨by rfl, ?hyR24⟩) hHeld ?_
            case hyR24 => rintro w' ⟨d1', d2'⟩; go_simp; (first | done | (with_reducible rfl))
            refine wpAnyLast_take (i := 25) (v := ?vR25) rfl (by kernel_rfl) (by kernel_rfl) (by kernel_rfl) (by kernel_rfl) (by kernel_rfl) (fun _ _ _ h => h) (Or.inl ⟨by rfl, ?hyR25⟩) hHeld ?_
            case hyR25 => rintro w' ⟨d1', d2'⟩; go_simp; (first | done | (with_reducible rfl))
            refine wpAnyLast_take (i := 26) (v := ?vR26) rfl (by kernel_rfl) (by kernel_rfl) (by kernel_rfl) (by kernel_rfl) (by kernel_rfl) (fun _ _ _ h => h) (Or.inl ⟨by rfl, ?hyR26⟩) hHeld ?_
            case hyR26 => rintro w' ⟨d1', d2'⟩; go_simp; (first | done | (with_reducible rfl))
            refine wpAnyLast_take (i := 27) (v := ?vR27) rfl (by kernel_rfl) (by kernel_rfl) (by kernel_rfl) (by kernel_rfl) (by kernel_rfl) (fun _ _ _ h => h) (Or.inl ⟨by rfl, ?hyR27⟩) hHeld ?_
            case hyR27 => rintro w' ⟨d1', d2'⟩; go_simp; (first | done | (with_reducible rfl))
            have fr' : w1.drew.frozen? ⟨r, m * 2 + 1, none⟩ = false := hrf
            have dr' : w1.drew.cell? ⟨r, m * 2 + 1, none⟩ = some (.string p.2) := hHeld.2
            refine wpAnyLast_ready (rs := [28]) (by kernel_rfl) (by simp) (AllReadyL.cons_last rfl (by simp) (fun K hK => ?_) AllReadyL.nil)
            go_simp
            refine hK.out _ _ ?_
            clear hK K
            refine wpAnyLast_done (by kernel_rfl) ?_ _
            have HI2 := Aside0.mk (show RI w.heap.size (w1.drew.setCell ⟨r, m * 2 + 1, none⟩ (.string (p.2 ++ sB.extract 0 1))) a (setBeh L (p.2 ++ sB.extract 0 1)) (.slice (some ⟨r, 0, none⟩) L.length c) by
              have h := (HI1.out.kb ((Kb.refl (fun _ => False) w1).drew) (fun _ _ h => h)).behind hL0 (p.2 ++ sB.extract 0 1) hBr
              rw [show L.length - 1 = m by have := HMM.out; omega] at h
              exact h)
            have HB2 := Aside0.mk (below_kb (below_drew1 HB1.out) ((Kb.refl (fun j => w.heap.size ≤ j) w1.drew).setCell (p := ⟨r, m * 2 + 1, none⟩) (.inl (show w.heap.size ≤ r by omega)) (.string (p.2 ++ sB.extract 0 1))))
            have HR2 := Aside0.mk (show rrun (n0 + 1) s0.data.toList ([], []) = rrun (gk' + 1) (sB.extract 1 sB.size).data.toList (a.data.toList, (setBeh L (p.2 ++ sB.extract 0 1)).map plB) by
              rw [HRR.out, hrs, hex]
              show rrun (gk' + 1) _ (_, setBeh (L.map plB) _) = _
              congr 2
              have := setBeh_map (fun b : ByteArray => b.data.toList) L (p.2 ++ sB.extract 0 1)
              rw [lk_app, hex1] at this
              exact this.symm)
            have HP2 := Aside0.mk (show ∀ q ∈ setBeh L (p.2 ++ sB.extract 0 1), q.2.size + gk' ≤ n0 by
              intro q hq
              rcases setBeh_mem hq with ⟨q', hq', e'⟩ | h
              · rw [e']; have := HP.out q' hq'; omega
              · rw [h, ByteArray.size_append, hx1z]; omega)
            clear hrs
            go_wp2_with fail
            go_roundg gk'
            case measure => omega
            case rel => exact ⟨sB.extract 1 sB.size, a, setBeh L (p.2 ++ sB.extract 0 1), _, c, rfl, by omega, by omega, by (rw [setBeh_len]; omega), by omega, HP2, HR2, ⟨by rw [setBeh_len]; exact HI2.out⟩, HB2⟩
        | some n =>
          have hnn := partAt_ne hp
          have hfl := firstP_len (show firstP sB.data.toList = some (0, n) by
            cases hsl : sB.data.toList with
            | nil => exact absurd hsl hsd
            | cons c t =>
              rw [hsl] at hp
              unfold firstP
              rw [hp])
          simp only [] at hfl
          rw [data_length] at hfl
          rw [partR_some hp] at hpc
          obtain ⟨nm, hnm⟩ : ∃ nm : ByteArray, nm = ⟨n.toArray⟩ := ⟨_, rfl⟩
          rw [← hnm] at hpc
          have hnmd : nm.data.toList = n := by rw [hnm]
          obtain ⟨nz, hnz⟩ : ∃ nz, nz = n.length + 2 := ⟨_, rfl⟩
          have hnzi : (n.length : Int) + 2 = (nz : Int) := by omega
          simp only [hnzi] at hpc
          have hnz1 : (0 : Int) < (nz : Int) := by omega
          have hnz2 : 0 < nz := by omega
          have hnz3 : nz ≤ sB.size := by omega
          have hnz4 : (nz : Int) ≤ (sB.size : Int) := by omega
          have hrstep : rstep sB.data.toList (a.data.toList, L.map plB) = if ¬ L.map plB = [] ∧ lastBeh (L.map plB) = [] then none else if ¬ n = [95] ∧ n ∈ (L.map plB).map (·.1) then none else some (sB.data.toList.drop nz, a.data.toList, L.map plB ++ [(n, [])]) := by
            unfold rstep
            rw [hp, hnz]
          have HRS := Aside0.mk (And.intro hrs hrstep)
          have HNM := Aside0.mk hnmd
          have HNE := Aside0.mk hnn
          have hex : (sB.extract nz sB.size).data.toList = sB.data.toList.drop nz := ext_drop sB nz
          have hxz : (sB.extract nz sB.size).size = sB.size - nz := size_drop_ sB nz
          have HNZ := Aside0.mk hnz
          clear hp hnn hrs hrstep hnzi hnm hnmd hsd hfl hnz
          go_wp2_with fail
          refine hpc.mono ?_
          rintro e w1 ⟨rfl, hd1⟩
          have HB1 := Aside0.mk (below_then HB.out hd1.below)
          have HI1 := Aside0.mk (HI.out.kb (Kb.of_below (S := fun _ => False) hd1.below) (fun _ _ h => h))
          clear hd1 hpc d0 d1 f0 f1 HB HI
          have d0 := (blk_cell HI1.out.st 0).trans rfl
          have d1 := (blk_cell HI1.out.st 1).trans rfl
          have f0 := blk_frozen HI1.out.st 0
          have f1 := blk_frozen HI1.out.st 1
          by_cases hL0 : L = []
          · have HL0 := Aside0.mk (show L.length = 0 by rw [hL0]; rfl)
            have hl0 := HL0.out
            have hl0i : ¬ (0 : Int) < (L.length : Int) := by omega
            have hl0n : ¬ 0 < L.length := by omega
            go_wp2_with fail
            go_quiet (fail)
            have HB2 := Aside0.mk (pw_below_drewN HB1.out nq)
            have HI2 := Aside0.mk (HI1.out.kb ((Kb.refl (fun _ => False) w1).drewN nq) (fun _ _ h => h))
            clear HB1 HI1 d0 d1 f0 f1
            generalize w1.drewN nq = w2 at HB2 HI2 ⊢
            go_wp2_with fail
            rw [HL0.out] at HI2
            clear hl0 hl0i hl0n
            have HNO := Aside0.mk (show ¬ (¬ L.map plB = [] ∧ lastBeh (L.map plB) = []) from (fun h => h.1 (by rw [List.eq_nil_of_length_eq_zero HL0.out]; rfl)))
            go_loopg [8] L.length (fun g1 v8 wi => ∃ k : Nat, v8 = .int .i64 k ∧ Aside0 (k + g1 = L.length) ∧ Aside0 (dupB (L.take k) n = false) ∧ wi = w2)
            case atStart => exact ⟨0, rfl, ⟨by omega⟩, ⟨by unfold dupB; simp⟩, rfl⟩
            case round =>
              obtain ⟨k, rfl, HK, HD, hw⟩ := hrel
              subst wr
              have d1w := (blk_cell HI2.out.st 1).trans rfl
              have f1w := blk_frozen HI2.out.st 1
              by_cases hlt : k < L.length
              · exfalso; rw [HL0.out] at hlt; exact Nat.not_lt_zero _ hlt
              · have hz1 : ¬ (k : Int) < (L.length : Int) := by omega
                have HDF := Aside0.mk (show ¬ (¬ n = [95] ∧ n ∈ (L.map plB).map (·.1)) by
                  rw [dup_iff]
                  have := HD.out
                  rw [List.take_of_length_le (by omega)] at this
                  rw [this]
                  decide)
                have HLE := Aside0.mk (show L.length ≤ 1000000 by omega)
                have hbq := World.alloc_heap_new w2 (.cells #[.string nm, .string ⟨#[]⟩] 70)
                have HRQ := Aside0.mk (HI2.out.row.kb ((Kb.refl (fun _ => False) w2).alloc (.cells #[.string nm, .string ⟨#[]⟩] 70)) (fun _ _ h => h))
                have HU0 := Aside0.mk ((blk_cell hbq 0).trans rfl)
                have HU1 := Aside0.mk ((blk_cell hbq 1).trans rfl)
                have HGB := Aside0.mk (blk_lt HI2.out.st)
                clear hbq
                go_wp2_with (first | ((with_reducible refine gate_builtin (b := .append) (xs := #[.tmp 73, .tmp 76]) rfl ?_); at_builtin; refine append_Q (u := nm) (u' := ⟨#[]⟩) rfl (.tmp 73) (.tmp 76) rfl rfl HRQ.out rfl HU0.out HU1.out HLE.out (by have := HGB.out; simp only [World.size_alloc]; omega) ?_; intro g3 c3 w3 hr3 hk3; have HR3 := Aside0.mk hr3; have HK3 := Aside0.mk (((Kb.refl (fun j => w.heap.size + 1 ≤ j) w2).alloc (.cells #[.string nm, .string ⟨#[]⟩] 70)).then_ hk3 (fun j h => .inl (own_block HRQ.out h).1)); have st3 := Kb.blk HI2.out.st HK3.out (by omega); have d1w3 := (blk_cell st3 1).trans rfl; have f1w3 := blk_frozen st3 1; clear hr3 hk3 st3))
                have HI4 := Aside0.mk (HI2.out.append HK3.out HR3.out)
                have HB4 := Aside0.mk (below_kb (below_kb HB2.out (HK3.out.mono (fun j h => by omega))) ((Kb.refl (fun j => w.heap.size ≤ j) w3).setCell (p := ⟨w.heap.size, 1, none⟩) (.inl (Nat.le_refl _)) (.slice (some ⟨g3, 0, none⟩) (L.length + 1) c3)))
                have HR4 := Aside0.mk (show rrun (n0 + 1) s0.data.toList ([], []) = rrun (gk' + 1) (sB.extract nz sB.size).data.toList (a.data.toList, (L ++ [(nm, (⟨#[]⟩ : ByteArray))]).map plB) by
                  rw [HRR.out, HRS.out.1, HRS.out.2, if_neg HNO.out, if_neg HDF.out, hex, List.map_append]
                  show rrun (gk' + 1) _ (_, L.map plB ++ [(n, [])]) = rrun (gk' + 1) _ (_, L.map plB ++ [(nm.data.toList, [])])
                  rw [HNM.out])
                rw [HL0.out] at HI4 HB4
                go_roundg gk'
                case measure => omega
                case rel => exact ⟨sB.extract nz sB.size, a, L ++ [(nm, ⟨#[]⟩)], some ⟨g3, 0, none⟩, c3, rfl, by omega, by omega, by (rw [List.length_append]; show L.length + 1 + gk' ≤ n0; omega), by omega, ⟨by
                  intro q hq
                  rcases List.mem_append.1 hq with hq | hq
                  · have := HP.out q hq; omega
                  · rw [List.mem_singleton] at hq
                    subst hq
                    show 0 + gk' ≤ n0
                    omega⟩, HR4, ⟨by rw [List.length_append, HL0.out]; exact HI4.out⟩, HB4⟩
          · skip
            obtain ⟨m, hm⟩ : ∃ m, L.length = m + 1 := ⟨L.length - 1, by have := List.length_pos_iff.2 hL0; omega⟩
            obtain ⟨p, hpm⟩ : ∃ p, L[m]? = some p := ⟨L[m]'(by omega), List.getElem?_eq_getElem _⟩
            obtain ⟨r, rfl, hBr, hr, hr0, hr1⟩ := rowP_get HI1.out.row hpm
            have hlb := lastBeh_get hm hpm
            have em : IntKind.i64.wrap ((L.length : Int) - 1) = (m : Int) := (i64_w _).trans ((w64 (by omega) (by omega)).trans (by omega))
            have em2 : m < L.length := by omega
            have em3 : (m : Int) < (L.length : Int) := by omega
            have em4 : ¬ L.length = 0 := by omega
            have em5 : 0 < L.length := by omega
            have em6 : (0 : Int) < (L.length : Int) := by omega
            have hpz := HP.out p (List.mem_of_getElem? hpm)
            have HMM := Aside0.mk hm
            clear hm
            by_cases hpe : p.2.toList = []
            · have hpt : (p.2.toList == []) = true := by simpa using hpe
              have HFA := Aside0.mk (show ¬ L.map plB = [] ∧ lastBeh (L.map plB) = [] from ⟨fun h => hL0 (List.map_eq_nil_iff.1 h), by rw [hlb, ← ByteArray.toList_eq]; exact hpe⟩)
              clear hpe hlb hpm
              go_wp2_with fail
              go_quiet (fail)
              go_wp2_with fail
              go_ret2
              refine ⟨.inl ⟨?_, rfl⟩, pw_below_drewN HB1.out nq⟩
              rw [HRN.out, ← HN0.out, HRR.out, HRS.out.1, HRS.out.2, if_pos HFA.out]
              rfl
            · have hpt : (p.2.toList == []) = false := by simpa using hpe
              have HFN := Aside0.mk (show ¬ (¬ L.map plB = [] ∧ lastBeh (L.map plB) = []) from fun h => hpe (by rw [ByteArray.toList_eq, ← hlb]; exact h.2))
              clear hpe hlb hpm
              go_wp2_with fail
              go_quiet (fail)
              have HB2 := Aside0.mk (pw_below_drewN HB1.out nq)
              have HI2 := Aside0.mk (HI1.out.kb ((Kb.refl (fun _ => False) w1).drewN nq) (fun _ _ h => h))
              clear HB1 HI1 d0 d1 f0 f1
              generalize w1.drewN nq = w2 at HB2 HI2 ⊢
              go_wp2_with fail
              have HNO := Aside0.mk (show ¬ (¬ L.map plB = [] ∧ lastBeh (L.map plB) = []) from HFN.out)
              go_loopg [8] L.length (fun g1 v8 wi => ∃ k : Nat, v8 = .int .i64 k ∧ Aside0 (k + g1 = L.length) ∧ Aside0 (dupB (L.take k) n = false) ∧ wi = w2)
              case atStart => exact ⟨0, rfl, ⟨by omega⟩, ⟨by unfold dupB; simp⟩, rfl⟩
              case round =>
                obtain ⟨k, rfl, HK, HD, hw⟩ := hrel
                subst wr
                have d1w := (blk_cell HI2.out.st 1).trans rfl
                have f1w := blk_frozen HI2.out.st 1
                by_cases hlt : k < L.length
                · have hz1 : (k : Int) < (L.length : Int) := by omega
                  have e1 : IntKind.i64.wrap ((k : Int) + 1) = ((k + 1 : Nat) : Int) := (i64_w _).trans ((w64 (by omega) (by omega)).trans (by omega))
                  obtain ⟨q, hq⟩ : ∃ q, L[k]? = some q := ⟨L[k]'hlt, List.getElem?_eq_getElem _⟩
                  obtain ⟨rq, hrq, -, -, hq0, -⟩ := rowP_get HI2.out.row hq
                  try subst hrq
                  try cases hrq
                  have HSN := Aside0.mk (show dupB (L.take (k + 1)) n = (dupB (L.take k) n || (decide (¬ n = [95]) && decide (q.1.data.toList = n))) by
                    unfold dupB
                    rw [List.take_add_one, hq, List.any_append]
                    cases decide (¬ n = [95]) <;> simp)
                  have hmem := List.mem_of_getElem? hq
                  by_cases h95 : n = [95]
                  · have hn95 : (nm.toList == [95]) = true := by rw [ByteArray.toList_eq, HNM.out]; exact beq_iff_eq.2 h95
                    have HD2 := Aside0.mk (show dupB (L.take (k + 1)) n = false by rw [HSN.out, HD.out, decide_eq_false (fun h => h h95)]; rfl)
                    clear h95 hq
                    go_wp2_with fail
                    go_roundg (L.length - (k + 1))
                    case measure => have := HK.out; omega
                    case rel => exact ⟨k + 1, by first | rfl | rw [e1], ⟨by have := HK.out; omega⟩, HD2, rfl⟩
                  · have hn95 : (nm.toList == [95]) = false := by rw [ByteArray.toList_eq, HNM.out]; exact beq_eq_false_iff_ne.2 h95
                    by_cases hqn : q.1.data.toList = n
                    · have hqe : (q.1.toList == nm.toList) = true := by rw [ByteArray.toList_eq, ByteArray.toList_eq, HNM.out]; exact beq_iff_eq.2 hqn
                      have HDU := Aside0.mk (show ¬ n = [95] ∧ n ∈ (L.map plB).map (·.1) from ⟨h95, by rw [List.map_map]; exact List.mem_map.2 ⟨q, hmem, hqn⟩⟩)
                      clear h95 hqn hq hmem
                      go_wp2_with fail
                      go_ret2
                      refine ⟨.inl ⟨?_, rfl⟩, HB2.out⟩
                      rw [HRN.out, ← HN0.out, HRR.out, HRS.out.1, HRS.out.2, if_neg HNO.out, if_pos HDU.out]
                      rfl
                    · have hqe : (q.1.toList == nm.toList) = false := by rw [ByteArray.toList_eq, ByteArray.toList_eq, HNM.out]; exact beq_eq_false_iff_ne.2 hqn
                      have HD2 := Aside0.mk (show dupB (L.take (k + 1)) n = false by rw [HSN.out, HD.out, decide_eq_false hqn]; simp)
                      clear h95 hqn hq hmem
                      go_wp2_with fail
                      go_roundg (L.length - (k + 1))
                      case measure => have := HK.out; omega
                      case rel => exact ⟨k + 1, by first | rfl | rw [e1], ⟨by have := HK.out; omega⟩, HD2, rfl⟩
                · have hz1 : ¬ (k : Int) < (L.length : Int) := by omega
                  have HDF := Aside0.mk (show ¬ (¬ n = [95] ∧ n ∈ (L.map plB).map (·.1)) by
                    rw [dup_iff]
                    have := HD.out
                    rw [List.take_of_length_le (by omega)] at this
                    rw [this]
                    decide)
                  have HLE := Aside0.mk (show L.length ≤ 1000000 by omega)
                  have hbq := World.alloc_heap_new w2 (.cells #[.string nm, .string ⟨#[]⟩] 70)
                  have HRQ := Aside0.mk (HI2.out.row.kb ((Kb.refl (fun _ => False) w2).alloc (.cells #[.string nm, .string ⟨#[]⟩] 70)) (fun _ _ h => h))
                  have HU0 := Aside0.mk ((blk_cell hbq 0).trans rfl)
                  have HU1 := Aside0.mk ((blk_cell hbq 1).trans rfl)
                  have HGB := Aside0.mk (blk_lt HI2.out.st)
                  clear hbq
                  go_wp2_with (first | ((with_reducible refine gate_builtin (b := .append) (xs := #[.tmp 73, .tmp 76]) rfl ?_); at_builtin; refine append_Q (u := nm) (u' := ⟨#[]⟩) rfl (.tmp 73) (.tmp 76) rfl rfl HRQ.out rfl HU0.out HU1.out HLE.out (by have := HGB.out; simp only [World.size_alloc]; omega) ?_; intro g3 c3 w3 hr3 hk3; have HR3 := Aside0.mk hr3; have HK3 := Aside0.mk (((Kb.refl (fun j => w.heap.size + 1 ≤ j) w2).alloc (.cells #[.string nm, .string ⟨#[]⟩] 70)).then_ hk3 (fun j h => .inl (own_block HRQ.out h).1)); have st3 := Kb.blk HI2.out.st HK3.out (by omega); have d1w3 := (blk_cell st3 1).trans rfl; have f1w3 := blk_frozen st3 1; clear hr3 hk3 st3))
                  have HI4 := Aside0.mk (HI2.out.append HK3.out HR3.out)
                  have HB4 := Aside0.mk (below_kb (below_kb HB2.out (HK3.out.mono (fun j h => by omega))) ((Kb.refl (fun j => w.heap.size ≤ j) w3).setCell (p := ⟨w.heap.size, 1, none⟩) (.inl (Nat.le_refl _)) (.slice (some ⟨g3, 0, none⟩) (L.length + 1) c3)))
                  have HR4 := Aside0.mk (show rrun (n0 + 1) s0.data.toList ([], []) = rrun (gk' + 1) (sB.extract nz sB.size).data.toList (a.data.toList, (L ++ [(nm, (⟨#[]⟩ : ByteArray))]).map plB) by
                    rw [HRR.out, HRS.out.1, HRS.out.2, if_neg HNO.out, if_neg HDF.out, hex, List.map_append]
                    show rrun (gk' + 1) _ (_, L.map plB ++ [(n, [])]) = rrun (gk' + 1) _ (_, L.map plB ++ [(nm.data.toList, [])])
                    rw [HNM.out])
                  go_roundg gk'
                  case measure => omega
                  case rel => exact ⟨sB.extract nz sB.size, a, L ++ [(nm, ⟨#[]⟩)], some ⟨g3, 0, none⟩, c3, rfl, by omega, by omega, by (rw [List.length_append]; show L.length + 1 + gk' ≤ n0; omega), by omega, ⟨by
                    intro q hq
                    rcases List.mem_append.1 hq with hq | hq
                    · have := HP.out q hq; omega
                    · rw [List.mem_singleton] at hq
                      subst hq
                      show 0 + gk' ≤ n0
                      omega⟩, HR4, ⟨by rw [List.length_append]; exact HI4.out⟩, HB4⟩
  · have hz0 : (256 : Int) < (s0.size : Int) := by omega
    go_enter Try.func9, Try.ntmps9
    go_wp2_with fail
    go_ret2
    refine ⟨.inl ⟨?_, rfl⟩, below_alloc (Below.refl _ _) _⟩
    unfold rnewP
    rw [if_neg (by rw [data_length]; exact h256)]
end Go.Proofs.Ytpobgpfkohlokaa.PC
