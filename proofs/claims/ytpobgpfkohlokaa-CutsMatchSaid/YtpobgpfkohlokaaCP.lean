/- The statements' own helpers: cut, fails, none. -/
import Derived.Test.YtpobgpfkohlokaaCO
namespace Go.Proofs.Ytpobgpfkohlokaa.PC
open Go.RowKit Go.Lib Go.Shelf Go.Maps Go.Proofs.YtpobgpfkohlokaaW.PrintWords Go.Proofs.YtpobgpfkohlokaaW.PrintLast Go.Proofs.YtpobgpfkohlokaaW.PrintMore
set_option linter.unusedVariables false
set_option linter.unusedSimpArgs false
theorem setBeh_names : ∀ (l : List (BL × BL)) (b : BL), (setBeh l b).map (·.1) = l.map (·.1)
  | [], _ => rfl
  | [q], b => rfl
  | q :: r :: t, b => by
    show _ :: (setBeh (r :: t) b).map _ = _ :: _
    rw [setBeh_names (r :: t) b]
theorem namesP_setBeh (l : List (BL × BL)) (b : BL) : namesP (setBeh l b) = namesP l := by
  unfold namesP
  rw [setBeh_names]
theorem namesP_append (l m : List (BL × BL)) : namesP (l ++ m) = namesP l ++ namesP m := by
  unfold namesP
  rw [List.map_append, List.filter_append]
def InvN (st : NSt) : Prop := (namesP st.2.2).Nodup ∧ ∀ n ∈ namesP st.2.2, n ∈ st.1
theorem stepN_inv {st t : NSt} {p : BL × BL} (h : stepN st p = some t) (hi : InvN st) : InvN t := by
  unfold stepN at h
  split at h
  · cases h
  · split at h
    · cases h
    · rename_i h2
      cases h
      obtain ⟨h3, h4⟩ := hi
      unfold InvN
      simp only [namesP_append, namesP_setBeh]
      by_cases hp : p.2 = []
      · rw [if_pos hp]
        refine ⟨by simpa [namesP] using h3, fun n hn => List.mem_cons_of_mem _ (h4 n (by simpa [namesP] using hn))⟩
      · rw [if_neg hp]
        by_cases hu : p.2 = [95]
        · have e : namesP [(p.2, ([] : BL))] = [] := by rw [hu]; rfl
          rw [e, List.append_nil]
          exact ⟨h3, fun n hn => List.mem_cons_of_mem _ (h4 n hn)⟩
        · have e : namesP [(p.2, ([] : BL))] = [p.2] := by
            unfold namesP
            simp [hu]
          rw [e]
          refine ⟨List.nodup_append.2 ⟨h3, by simp, ?_⟩, ?_⟩
          · intro a ha b hb
            rw [List.mem_singleton] at hb
            subst hb
            intro e2
            subst e2
            exact h2 ⟨h4 _ ha, hu⟩
          · intro n hn
            rcases List.mem_append.1 hn with hn | hn
            · exact List.mem_cons_of_mem _ (h4 n hn)
            · rw [List.mem_singleton] at hn
              subst hn
              exact List.mem_cons_self
theorem foldN_inv : ∀ (ps : List (BL × BL)) (st t : NSt), foldN ps st = some t → InvN st → InvN t
  | [], st, t, h, hi => by cases h; exact hi
  | p :: ps, st, t, h, hi => by
    have h : (stepN st p).bind (foldN ps) = some t := h
    cases hs : stepN st p with
    | none => rw [hs] at h; cases h
    | some s => rw [hs] at h; exact foldN_inv ps s t h (stepN_inv hs hi)
theorem newP_nodup {s : BL} {c : BL × List (BL × BL)} (h : newP s = some c) : (namesP c.2).Nodup := by
  unfold newP at h
  split at h
  · cases hf : foldN (partsA s) ([], [], []) with
    | none => rw [hf] at h; cases h
    | some st =>
      rw [hf] at h
      have h : (if namesP st.2.2 = [] then none else some st.2) = some c := h
      split at h
      · cases h
      · cases h
        exact (foldN_inv _ _ _ hf ⟨by simp [namesP], by simp [namesP]⟩).1
  · cases h
theorem new_none (s : ByteArray) (w : World) (hsz : s.size < 1099511627776) (h : newP s.data.toList = none) : Calls Try.prog 8 #[.string s] w fun e w' => e = .returned (.tuple #[.pointer none, .int .i64 180]) ∧ Below w.heap.size w w' :=
  (new_calls s w hsz).mono (by
    rintro e w' ⟨⟨-, h1⟩ | ⟨a, l, v, h1, -⟩, hb⟩
    · exact ⟨h1, hb⟩
    · rw [h] at h1; cases h1)
theorem new_some (s : ByteArray) (w : World) (hsz : s.size < 1099511627776) (c : BL × List (BL × BL)) (h : newP s.data.toList = some c) : Calls Try.prog 8 #[.string s] w fun e w' => ∃ a l v, c = (a.data.toList, l.map plB) ∧ (namesP (l.map plB)).Nodup ∧ l.length ≤ 300 ∧ e = .returned (.tuple #[v, .int .i64 0]) ∧ CutsAt w.heap.size w' v a l ∧ Below w.heap.size w w' :=
  (new_calls s w hsz).mono (by
    rintro e w' ⟨⟨h1, -⟩ | ⟨a, l, v, h1, h2, h3, h4⟩, hb⟩
    · rw [h] at h1; cases h1
    · rw [h] at h1
      cases h1
      exact ⟨a, l, v, rfl, newP_nodup h, h2, h3, h4, hb⟩)
theorem match_none (w : World) (B : Nat) (v : Value) (a : ByteArray) (l : List PB) (hc : CutsAt B w v a l) (hl : l.length ≤ 300) (hnd : (namesP (l.map plB)).Nodup) (s : ByteArray) (hs : s.size < 4294967281) (m : Int) (hm : w.cell? ⟨0, 0, none⟩ = some (.int .i64 m)) (h : matchP a.data.toList (l.map plB) s.data.toList = none) :
    Calls Try.prog 11 #[v, .string s] w fun e w' => e = .returned (.tuple #[.slice none 0 0, .bool false]) ∧ Below w.heap.size w w' :=
  (match_calls w B v a l hc hl hnd s hs m hm).mono (by
    rintro e w' ⟨⟨-, h1⟩ | ⟨u, ds, h1, -⟩, hb⟩
    · exact ⟨h1, hb⟩
    · rw [h] at h1; cases h1)
theorem match_some (w : World) (B : Nat) (v : Value) (a : ByteArray) (l : List PB) (hc : CutsAt B w v a l) (hl : l.length ≤ 300) (hnd : (namesP (l.map plB)).Nodup) (s : ByteArray) (hs : s.size < 4294967281) (m : Int) (hm : w.cell? ⟨0, 0, none⟩ = some (.int .i64 m)) (o : List (BL × BL)) (h : matchP a.data.toList (l.map plB) s.data.toList = some o) :
    Calls Try.prog 11 #[v, .string s] w fun e w' => ∃ u ds, o = ds.map plB ∧ e = .returned (.tuple #[u, .bool true]) ∧ RowP w.heap.size w' 74 u ds ∧ Below w.heap.size w w' :=
  (match_calls w B v a l hc hl hnd s hs m hm).mono (by
    rintro e w' ⟨⟨h1, -⟩ | ⟨u, ds, h1, h2, h3⟩, hb⟩
    · rw [h] at h1; cases h1
    · rw [h] at h1
      cases h1
      exact ⟨u, ds, rfl, h2, h3, hb⟩)
/-- A line's parts by a pattern, plainly. -/
def cutP (p s : BL) : Option (List (BL × BL)) := (newP p).bind (fun c => matchP c.1 c.2 s)
theorem below_then {w w1 w2 : World} (h : Below w.heap.size w w1) (k : Below w1.heap.size w1 w2) : Below w.heap.size w w2 := below_kb h (Kb.of_below k)
set_option maxHeartbeats 8000000 in
set_option maxRecDepth 100000 in
theorem cut_calls (p s : ByteArray) (w : World) (hp : p.size < 1099511627776) (hs : s.size < 4294967281) (m : Int) (hm : w.cell? ⟨0, 0, none⟩ = some (.int .i64 m)) :
    Calls Try.prog 18 #[.string p, .string s] w fun e w' => ((cutP p.data.toList s.data.toList = none ∧ e = .returned (.tuple #[.slice none 0 0, .bool false])) ∨ (∃ u ds, cutP p.data.toList s.data.toList = some (ds.map plB) ∧ e = .returned (.tuple #[u, .bool true]) ∧ RowP w.heap.size w' 74 u ds)) ∧ Below w.heap.size w w' := by
  cases h1 : newP p.data.toList with
  | none =>
    have HX := Aside0.mk (show cutP p.data.toList s.data.toList = none by unfold cutP; rw [h1]; rfl)
    go_enter Try.func18, Try.ntmps18
    go_wp2_with fail
    with_reducible refine (new_none p _ hp h1).mono ?_
    rintro e w1 ⟨rfl, hb⟩
    have HB := Aside0.mk hb
    clear hb h1
    go_wp2_with fail
    go_ret2
    exact ⟨.inl ⟨HX.out, rfl⟩, HB.out⟩
  | some c =>
    have HX := Aside0.mk (show cutP p.data.toList s.data.toList = matchP c.1 c.2 s.data.toList by unfold cutP; rw [h1]; rfl)
    go_enter Try.func18, Try.ntmps18
    go_wp2_with fail
    with_reducible refine (new_some p _ hp c h1).mono ?_
    rintro e w1 ⟨a, l, v, rfl, hnd, hl, rfl, hca, hb⟩
    have HB := Aside0.mk hb
    have HC := Aside0.mk (And.intro hca (And.intro hl hnd))
    have HM := Aside0.mk (cell_bl hb hm)
    clear hb h1 hca hl hnd hm
    cases h2 : matchP a.data.toList (l.map plB) s.data.toList with
    | none =>
      go_wp2_with fail
      with_reducible refine (match_none _ _ _ _ _ HC.out.1 HC.out.2.1 HC.out.2.2 s hs m HM.out h2).mono ?_
      rintro e w2 ⟨rfl, hb2⟩
      have HB2 := Aside0.mk hb2
      have H2 := Aside0.mk h2
      clear hb2 h2
      go_wp2_with fail
      go_ret2
      exact ⟨.inl ⟨by rw [HX.out]; exact H2.out, rfl⟩, below_then HB.out HB2.out⟩
    | some o =>
      go_wp2_with fail
      with_reducible refine (match_some _ _ _ _ _ HC.out.1 HC.out.2.1 HC.out.2.2 s hs m HM.out o h2).mono ?_
      rintro e w2 ⟨u, ds, rfl, rfl, hr, hb2⟩
      have HB2 := Aside0.mk hb2
      have HR := Aside0.mk hr
      have H2 := Aside0.mk h2
      clear hb2 h2 hr
      go_wp2_with fail
      go_ret2
      exact ⟨.inr ⟨u, ds, by rw [HX.out]; exact H2.out, rfl, own_base HR.out HB.out.size⟩, below_then HB.out HB2.out⟩
/-- Is that no pattern? -/
def failsP (p : BL) : Bool := (newP p).isNone
set_option maxHeartbeats 8000000 in
set_option maxRecDepth 100000 in
theorem fails_calls (p : ByteArray) (w : World) (hp : p.size < 1099511627776) : Calls Try.prog 23 #[.string p] w fun e w' => e = .returned (.bool (failsP p.data.toList)) ∧ Below w.heap.size w w' := by
  cases h1 : newP p.data.toList with
  | none =>
    have HX := Aside0.mk (show failsP p.data.toList = true by unfold failsP; rw [h1]; rfl)
    go_enter Try.func23, Try.ntmps23
    go_wp2_with fail
    with_reducible refine (new_none p _ hp h1).mono ?_
    rintro e w1 ⟨rfl, hb⟩
    have HB := Aside0.mk hb
    clear hb h1
    go_wp2_with fail
    go_ret
    exact ⟨by rw [HX.out]; rfl, HB.out⟩
  | some c =>
    have HX := Aside0.mk (show failsP p.data.toList = false by unfold failsP; rw [h1]; rfl)
    go_enter Try.func23, Try.ntmps23
    go_wp2_with fail
    with_reducible refine (new_some p _ hp c h1).mono ?_
    rintro e w1 ⟨a, l, v, rfl, hnd, hl, rfl, hca, hb⟩
    have HB := Aside0.mk hb
    clear hb h1 hca hl hnd
    go_wp2_with fail
    go_ret
    exact ⟨by rw [HX.out]; rfl, HB.out⟩
/-- Is that a pattern that the line does not have? -/
def noneP (p s : BL) : Bool := (newP p).isSome && (cutP p s).isNone
set_option maxHeartbeats 8000000 in
set_option maxRecDepth 100000 in
theorem none_calls (p s : ByteArray) (w : World) (hp : p.size < 1099511627776) (hs : s.size < 4294967281) (m : Int) (hm : w.cell? ⟨0, 0, none⟩ = some (.int .i64 m)) :
    Calls Try.prog 24 #[.string p, .string s] w fun e w' => e = .returned (.bool (noneP p.data.toList s.data.toList)) ∧ Below w.heap.size w w' := by
  cases h1 : newP p.data.toList with
  | none =>
    have HX := Aside0.mk (show noneP p.data.toList s.data.toList = false by unfold noneP; rw [h1]; rfl)
    go_enter Try.func24, Try.ntmps24
    go_wp2_with fail
    with_reducible refine (new_none p _ hp h1).mono ?_
    rintro e w1 ⟨rfl, hb⟩
    have HB := Aside0.mk hb
    clear hb h1
    go_wp2_with fail
    go_ret
    exact ⟨by rw [HX.out]; rfl, HB.out⟩
  | some c =>
    have HX := Aside0.mk (show noneP p.data.toList s.data.toList = (matchP c.1 c.2 s.data.toList).isNone by unfold noneP cutP; rw [h1]; rfl)
    go_enter Try.func24, Try.ntmps24
    go_wp2_with fail
    with_reducible refine (new_some p _ hp c h1).mono ?_
    rintro e w1 ⟨a, l, v, rfl, hnd, hl, rfl, hca, hb⟩
    have HB := Aside0.mk hb
    have HC := Aside0.mk (And.intro hca (And.intro hl hnd))
    have HM := Aside0.mk (cell_bl hb hm)
    clear hb h1 hca hl hnd hm
    cases h2 : matchP a.data.toList (l.map plB) s.data.toList with
    | none =>
      go_wp2_with fail
      with_reducible refine (match_none _ _ _ _ _ HC.out.1 HC.out.2.1 HC.out.2.2 s hs m HM.out h2).mono ?_
      rintro e w2 ⟨rfl, hb2⟩
      have HB2 := Aside0.mk hb2
      have H2 := Aside0.mk (show noneP p.data.toList s.data.toList = true by rw [HX.out]; show (matchP a.data.toList (l.map plB) s.data.toList).isNone = true; rw [h2]; rfl)
      clear hb2 h2
      go_wp2_with fail
      go_ret
      exact ⟨by rw [H2.out]; rfl, below_then HB.out HB2.out⟩
    | some o =>
      go_wp2_with fail
      with_reducible refine (match_some _ _ _ _ _ HC.out.1 HC.out.2.1 HC.out.2.2 s hs m HM.out o h2).mono ?_
      rintro e w2 ⟨u, ds, rfl, rfl, hr, hb2⟩
      have HB2 := Aside0.mk hb2
      have H2 := Aside0.mk (show noneP p.data.toList s.data.toList = false by rw [HX.out]; show (matchP a.data.toList (l.map plB) s.data.toList).isNone = false; rw [h2]; rfl)
      clear hb2 h2 hr
      go_wp2_with fail
      go_ret
      exact ⟨by rw [H2.out]; rfl, below_then HB.out HB2.out⟩
end Go.Proofs.Ytpobgpfkohlokaa.PC
