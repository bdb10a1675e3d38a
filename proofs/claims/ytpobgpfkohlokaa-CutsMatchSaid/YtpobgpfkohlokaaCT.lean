/- tells. -/
import Derived.Test.YtpobgpfkohlokaaCP
import Derived.Deep.QuietTactic
namespace Go.Proofs.Ytpobgpfkohlokaa.PC
open Go.RowKit Go.Lib Go.Shelf Go.Maps Go.Proofs.YtpobgpfkohlokaaW.PrintWords Go.Proofs.YtpobgpfkohlokaaW.PrintLast Go.Proofs.YtpobgpfkohlokaaW.PrintMore
set_option linter.unusedVariables false
set_option linter.unusedSimpArgs false
theorem cut_none (p s : ByteArray) (w : World) (hp : p.size < 1099511627776) (hs : s.size < 4294967281) (m : Int) (hm : w.cell? ⟨0, 0, none⟩ = some (.int .i64 m)) (h : cutP p.data.toList s.data.toList = none) :
    Calls Try.prog 18 #[.string p, .string s] w fun e w' => e = .returned (.tuple #[.slice none 0 0, .bool false]) ∧ Below w.heap.size w w' :=
  (cut_calls p s w hp hs m hm).mono (by
    rintro e w' ⟨⟨-, h1⟩ | ⟨u, ds, h1, -⟩, hb⟩
    · exact ⟨h1, hb⟩
    · rw [h] at h1; cases h1)
theorem cut_some (p s : ByteArray) (w : World) (hp : p.size < 1099511627776) (hs : s.size < 4294967281) (m : Int) (hm : w.cell? ⟨0, 0, none⟩ = some (.int .i64 m)) (o : List (BL × BL)) (h : cutP p.data.toList s.data.toList = some o) :
    Calls Try.prog 18 #[.string p, .string s] w fun e w' => ∃ u ds, o = ds.map plB ∧ e = .returned (.tuple #[u, .bool true]) ∧ RowP w.heap.size w' 74 u ds ∧ Below w.heap.size w w' :=
  (cut_calls p s w hp hs m hm).mono (by
    rintro e w' ⟨⟨h1, -⟩ | ⟨u, ds, h1, h2, h3⟩, hb⟩
    · rw [h] at h1; cases h1
    · rw [h] at h1
      cases h1
      exact ⟨u, ds, rfl, h2, h3, hb⟩)
theorem own_len {w : World} {B : Nat} {e : TypeId} {sz : Nat} {v : Value} {n : Nat} {xs : List Value} (h : w.ownsRow B e sz v n xs) : n ≤ maxLen := by
  rcases h.2 with ⟨h1, h2⟩ | ⟨g, cap, cur, h1, h2, h3, h4, h5, -⟩
  · rw [h2]; exact Nat.zero_le _
  · exact Nat.le_trans h4 h5
theorem rowT_get {w : World} {B : Nat} {A : Option Addr} {m c : Nat} {l : List ByteArray} (h : RowT B w (.slice A m c) l) {i : Nat} {p : ByteArray} (hi : l[i]? = some p) : ∃ g, A = some ⟨g, 0, none⟩ ∧ g < w.heap.size ∧ w.cell? ⟨g, i, none⟩ = some (.string p) := by
  have hlt : i < l.length := by
    rcases Nat.lt_or_ge i l.length with h | h
    · exact h
    · rw [List.getElem?_eq_none h] at hi; cases hi
  obtain ⟨g, hA, hB, hg, hc⟩ := own_cell h (by omega)
  exact ⟨g, hA, hg, hc _ _ (by rw [List.getElem?_map, hi]; rfl)⟩
theorem foldM_len : ∀ (l : List (BL × BL)) (st t : BL × List (BL × BL)), foldM l st = some t → t.2.length ≤ st.2.length + l.length
  | [], st, t, h => by cases h; exact Nat.le_refl _
  | p :: l, st, t, h => by
    have h : (stepM st p).bind (foldM l) = some t := h
    unfold stepM at h
    split at h
    · cases h
    · have := foldM_len l _ t h
      simp only [List.length_cons] at this ⊢
      split at this
      · simp only [List.length_append, List.length_singleton] at this; omega
      · omega
theorem matchP_len {a s : BL} {l o : List (BL × BL)} (h : matchP a l s = some o) : o.length ≤ l.length := by
  unfold matchP at h
  split at h
  · cases h
  · split at h
    · cases hf : foldM l (trimPrefix s a, []) with
      | none => rw [hf] at h; cases h
      | some st =>
        rw [hf] at h
        cases h
        rw [(sortM_perm st.2).length_eq]
        have := foldM_len l _ st hf
        simpa using this
    · cases h
theorem foldN_len : ∀ (l : List (BL × BL)) (st t : NSt), foldN l st = some t → t.2.2.length ≤ st.2.2.length + l.length
  | [], st, t, h => by cases h; exact Nat.le_refl _
  | p :: l, st, t, h => by
    have h : (stepN st p).bind (foldN l) = some t := h
    unfold stepN at h
    split at h
    · cases h
    · split at h
      · cases h
      · have := foldN_len l _ t h
        simp only [List.length_cons, List.length_append, setBeh_len] at this ⊢
        split at this
        · simp only [List.length_nil] at this; omega
        · simp only [List.length_singleton] at this; omega
theorem newP_len {s : BL} {c : BL × List (BL × BL)} (h : newP s = some c) : c.2.length ≤ 257 := by
  unfold newP at h
  split at h
  · rename_i hs
    cases hf : foldN (partsA s) ([], [], []) with
    | none => rw [hf] at h; cases h
    | some st =>
      rw [hf] at h
      have h : (if namesP st.2.2 = [] then none else some st.2) = some c := h
      split at h
      · cases h
      · cases h
        have h1 := foldN_len _ _ _ hf
        have h2 := partsA_len _ s (Nat.le_refl _)
        simp only [List.length_nil] at h1
        omega
  · cases h
theorem cutP_len {p s : BL} {o : List (BL × BL)} (h : cutP p s = some o) : o.length ≤ 257 := by
  unfold cutP at h
  cases hc : newP p with
  | none => rw [hc] at h; cases h
  | some c =>
    rw [hc] at h
    exact Nat.le_trans (matchP_len h) (newP_len hc)
/-- Names and values, one behind the other. -/
def flatP (l : List (BL × BL)) : List BL := l.flatMap (fun p => [p.1, p.2])
theorem flatP_len : ∀ l, (flatP l).length = 2 * l.length
  | [] => rfl
  | p :: l => by
    show ([p.1, p.2] ++ flatP l).length = _
    rw [List.length_append, flatP_len l]
    show 2 + 2 * l.length = 2 * (l.length + 1)
    omega
theorem flatP_get : ∀ (l : List (BL × BL)) (k : Nat) (p : BL × BL), l[k]? = some p → (flatP l)[2 * k]? = some p.1 ∧ (flatP l)[2 * k + 1]? = some p.2
  | [], k, p, h => by cases h
  | q :: l, 0, p, h => by cases h; exact ⟨rfl, rfl⟩
  | q :: l, k + 1, p, h => by
    have := flatP_get l k p h
    rw [show 2 * (k + 1) = 2 * k + 1 + 1 by omega]
    exact this
def tellsP (p s : BL) (want : List BL) : Bool := decide ((cutP p s).map flatP = some want)
def bl (b : ByteArray) : BL := b.data.toList
/-- The first k are these. -/
def SameTo (ds : List PB) (want : List ByteArray) (k : Nat) : Prop := ∀ j, j < k → (flatP (ds.map plB))[2 * j]? = (want.map bl)[2 * j]? ∧ (flatP (ds.map plB))[2 * j + 1]? = (want.map bl)[2 * j + 1]?
theorem sameTo_all {ds : List PB} {want : List ByteArray} (hl : 2 * ds.length = want.length) (h : SameTo ds want ds.length) : flatP (ds.map plB) = want.map bl := by
  have hf : (flatP (ds.map plB)).length = 2 * ds.length := by rw [flatP_len, List.length_map]
  apply List.ext_getElem?
  intro i
  rcases Nat.lt_or_ge i (2 * ds.length) with hi | hi
  · have := h (i / 2) (by omega)
    rcases Nat.mod_two_eq_zero_or_one i with hm | hm
    · rw [show i = 2 * (i / 2) by omega]; exact this.1
    · rw [show i = 2 * (i / 2) + 1 by omega]; exact this.2
  · rw [List.getElem?_eq_none (by omega), List.getElem?_eq_none (by rw [List.length_map]; omega)]
theorem sameTo_no {ds : List PB} {want : List ByteArray} {k : Nat} {p : PB} {q0 q1 : ByteArray} (h1 : ds[k]? = some p) (h2 : want[2 * k]? = some q0) (h3 : want[2 * k + 1]? = some q1) (h : ¬ p.1.toList = q0.toList ∨ ¬ p.2.toList = q1.toList) : ¬ flatP (ds.map plB) = want.map bl := by
  intro he
  obtain ⟨a0, a1⟩ := flatP_get (ds.map plB) k (plB p) (by rw [List.getElem?_map, h1]; rfl)
  rw [he, List.getElem?_map] at a0 a1
  rw [h2] at a0
  rw [h3] at a1
  have b0 : bl q0 = p.1.data.toList := Option.some.inj a0
  have b1 : bl q1 = p.2.data.toList := Option.some.inj a1
  rcases h with h | h
  · exact h (by rw [ByteArray.toList_eq, ByteArray.toList_eq]; exact b0.symm)
  · exact h (by rw [ByteArray.toList_eq, ByteArray.toList_eq]; exact b1.symm)
theorem sameTo_on {ds : List PB} {want : List ByteArray} {k : Nat} {p : PB} {q0 q1 : ByteArray} (h1 : ds[k]? = some p) (h2 : want[2 * k]? = some q0) (h3 : want[2 * k + 1]? = some q1) (e0 : p.1.toList = q0.toList) (e1 : p.2.toList = q1.toList) (h : SameTo ds want k) : SameTo ds want (k + 1) := by
  intro j hj
  rcases Nat.lt_or_ge j k with hk | hk
  · exact h j hk
  · obtain rfl : j = k := by omega
    obtain ⟨a0, a1⟩ := flatP_get (ds.map plB) j (plB p) (by rw [List.getElem?_map, h1]; rfl)
    rw [ByteArray.toList_eq, ByteArray.toList_eq] at e0 e1
    rw [a0, a1, List.getElem?_map, List.getElem?_map, h2, h3]
    exact ⟨congrArg some e0, congrArg some e1⟩
set_option maxHeartbeats 8000000 in
set_option maxRecDepth 100000 in
theorem tells_calls (p s : ByteArray) (want : List ByteArray) (B : Nat) (vw : Value) (w : World) (hp : p.size < 1099511627776) (hs : s.size < 4294967281) (m : Int) (hm : w.cell? ⟨0, 0, none⟩ = some (.int .i64 m)) (hw : RowT B w vw want) :
    Calls Try.prog 22 #[.string p, .string s, vw] w fun e w' => e = .returned (.bool (tellsP p.data.toList s.data.toList (want.map bl))) ∧ Below w.heap.size w w' := by
  obtain ⟨Aw, cw, rfl, hcw⟩ := own_slice hw
  have hwl := own_len hw
  obtain ⟨nw, hnw⟩ : ∃ nw, nw = want.length := ⟨_, rfl⟩
  rw [← hnw] at hcw hwl hw ⊢
  have HW := Aside0.mk (show RowT B w (.slice Aw nw cw) want from by rw [hnw] at hw ⊢; exact hw)
  have HN := Aside0.mk hnw
  simp only [maxLen] at hwl
  clear hw hnw
  cases h1 : cutP p.data.toList s.data.toList with
  | none =>
    have HX := Aside0.mk (show tellsP p.data.toList s.data.toList (want.map bl) = false by unfold tellsP; rw [h1]; exact decide_eq_false (by intro h; cases h))
    go_enter Try.func22, Try.ntmps22
    go_wp2_with fail
    with_reducible refine (cut_none p s w hp hs m hm h1).mono ?_
    rintro e w1 ⟨rfl, hb⟩
    have HB := Aside0.mk hb
    clear hb h1
    go_wp2_with fail
    go_ret
    exact ⟨by rw [HX.out]; rfl, HB.out⟩
  | some o =>
    go_enter Try.func22, Try.ntmps22
    go_wp2_with fail
    with_reducible refine (cut_some p s w hp hs m hm o h1).mono ?_
    rintro e w1 ⟨u, ds, rfl, rfl, hr, hb⟩
    obtain ⟨Al, cl, rfl, hcl⟩ := own_slice hr
    have hrl := cutP_len h1
    rw [List.length_map] at hrl
    obtain ⟨nd, hnd⟩ : ∃ nd, nd = ds.length := ⟨_, rfl⟩
    rw [← hnd] at hcl hrl hr ⊢
    have HR := Aside0.mk (show RowP w.heap.size w1 74 (.slice Al nd cl) ds from by rw [hnd] at hr ⊢; exact hr)
    have HD := Aside0.mk hnd
    have HB := Aside0.mk hb
    have HX := Aside0.mk (show tellsP p.data.toList s.data.toList (want.map bl) = decide (flatP (ds.map plB) = want.map bl) by unfold tellsP; rw [h1]; simp)
    clear hb h1 hr hnd
    have e0 : IntKind.i64.wrap (2 * (nd : Int)) = ((2 * nd : Nat) : Int) := (i64_w _).trans ((w64 (by omega) (by omega)).trans (by omega))
    by_cases hl : 2 * nd = nw
    · have HL := Aside0.mk hl
      have hz : ((2 * nd : Nat) : Int) = (nw : Int) := by omega
      go_wp2_with fail
      go_loopg [9] nd (fun g1 v9 wr => ∃ k : Nat, v9 = .int .i64 k ∧ Aside0 (k + g1 = nd) ∧ Aside0 (SameTo ds want k) ∧ Aside0 (Below w1.heap.size w1 wr))
      case atStart => exact ⟨0, rfl, ⟨by omega⟩, ⟨fun j hj => absurd hj (Nat.not_lt_zero _)⟩, ⟨Below.refl _ _⟩⟩
      case round =>
        obtain ⟨k, rfl, HK, HS, HB1⟩ := hrel
        by_cases hlt : k < nd
        · have hz1 : (k : Int) < (nd : Int) := by omega
          have e1 : IntKind.i64.wrap ((k : Int) + 1) = ((k + 1 : Nat) : Int) := (i64_w _).trans ((w64 (by omega) (by omega)).trans (by omega))
          have e2 : IntKind.i64.wrap (2 * (k : Int)) = ((2 * k : Nat) : Int) := (i64_w _).trans ((w64 (by omega) (by omega)).trans (by omega))
          have e3 : IntKind.i64.wrap (((2 * k : Nat) : Int) + 1) = ((2 * k + 1 : Nat) : Int) := (i64_w _).trans ((w64 (by omega) (by omega)).trans (by omega))
          obtain ⟨d, hd⟩ : ∃ d, ds[k]? = some d := ⟨ds[k]'(by rw [← HD.out]; exact hlt), List.getElem?_eq_getElem _⟩
          obtain ⟨q0, hq0⟩ : ∃ q, want[2 * k]? = some q := ⟨want[2 * k]'(by rw [← HN.out]; omega), List.getElem?_eq_getElem _⟩
          obtain ⟨q1, hq1⟩ : ∃ q, want[2 * k + 1]? = some q := ⟨want[2 * k + 1]'(by rw [← HN.out]; omega), List.getElem?_eq_getElem _⟩
          obtain ⟨r, rfl, -, hr, hr0, hr1⟩ := rowP_get HR.out hd
          obtain ⟨r2, rfl, hr2, hq⟩ := rowT_get HW.out hq0
          obtain ⟨r3, hr3, -, hq'⟩ := rowT_get HW.out hq1
          cases hr3
          have c0 := cell_bl HB1.out hr0
          have c1 := cell_bl HB1.out hr1
          have c2 := cell_bl HB1.out (cell_bl HB.out hq)
          have c3 := cell_bl HB1.out (cell_bl HB.out hq')
          have HQ := Aside0.mk (And.intro hd (And.intro hq0 hq1))
          have k0 : 2 * k < nw := by omega
          have k1 : 2 * k + 1 < nw := by omega
          clear hd hq0 hq1 hr0 hr1 hq hq' hr hr2
          by_cases t0 : d.1.toList = q0.toList
          · have b0 : (d.1.toList == q0.toList) = true := beq_iff_eq.2 t0
            by_cases t1 : d.2.toList = q1.toList
            · have b1 : (d.2.toList == q1.toList) = true := beq_iff_eq.2 t1
              have HS2 := Aside0.mk (sameTo_on HQ.out.1 HQ.out.2.1 HQ.out.2.2 t0 t1 HS.out)
              clear t0 t1
              go_wp2_with fail
              go_quiet (fail)
              go_wp2_with fail
              go_roundg (nd - (k + 1))
              case measure => have := HK.out; omega
              case rel => exact ⟨k + 1, by first | rfl | rw [e1], ⟨by have := HK.out; omega⟩, HS2, ⟨pw_below_drewN HB1.out _⟩⟩
            · have b1 : (d.2.toList == q1.toList) = false := by simpa using t1
              have HNO := Aside0.mk (sameTo_no HQ.out.1 HQ.out.2.1 HQ.out.2.2 (.inr t1))
              clear t0 t1
              go_wp2_with fail
              go_quiet (fail)
              go_wp2_with fail
              go_ret
              exact ⟨by rw [HX.out, decide_eq_false HNO.out]; rfl, below_then HB.out (pw_below_drewN HB1.out _)⟩
          · have b0 : (d.1.toList == q0.toList) = false := by simpa using t0
            have HNO := Aside0.mk (sameTo_no HQ.out.1 HQ.out.2.1 HQ.out.2.2 (.inl t0))
            clear t0
            go_wp2_with fail
            go_quiet (fail)
            go_wp2_with fail
            go_ret
            exact ⟨by rw [HX.out, decide_eq_false HNO.out]; rfl, below_then HB.out (pw_below_drewN HB1.out _)⟩
        · have hz1 : ¬ (k : Int) < (nd : Int) := by omega
          have HE := Aside0.mk (show flatP (ds.map plB) = want.map bl from sameTo_all (by rw [← HD.out, ← HN.out]; exact HL.out) (by rw [← HD.out, show nd = k by have := HK.out; omega]; exact HS.out))
          go_wp2_with fail
          go_ret
          exact ⟨by rw [HX.out, decide_eq_true HE.out]; rfl, below_then HB.out HB1.out⟩
    · have hz : ¬ ((2 * nd : Nat) : Int) = (nw : Int) := by omega
      have HE := Aside0.mk (show ¬ flatP (ds.map plB) = want.map bl from by
        intro h
        have := congrArg List.length h
        rw [flatP_len, List.length_map, List.length_map] at this
        exact hl (by rw [HD.out, HN.out]; exact this))
      go_wp2_with fail
      go_ret
      exact ⟨by rw [HX.out, decide_eq_false HE.out]; rfl, HB.out⟩
end Go.Proofs.Ytpobgpfkohlokaa.PC
