/- cuts.New. -/
import Derived.Test.YtpobgpfkohlokaaCF
namespace Go.Proofs.Ytpobgpfkohlokaa.PC
open Go.RowKit Go.Lib Go.Shelf Go.Maps Go.Proofs.YtpobgpfkohlokaaW.PrintWords Go.Proofs.YtpobgpfkohlokaaW.PrintLast Go.Proofs.YtpobgpfkohlokaaW.PrintMore
set_option linter.unusedVariables false
set_option linter.unusedSimpArgs false
attribute [local go_sem] Oper.semAt_some
theorem parts_calls (s : ByteArray) (w : World) : Calls Try.prog 28 #[.string s] w fun e w' => e = .returned (.func (.func 53) #[] #[.pointer (some ⟨w.heap.size, 0, none⟩)]) ∧ w' = w.alloc (.cells #[.string s] 9) := by
  go_enter Try.func28, Try.ntmps28
  go_wp2
  go_ret
  exact ⟨rfl, rfl⟩
def plB (p : ByteArray × ByteArray) : BL × BL := (p.1.data.toList, p.2.data.toList)
/-- What the loop of New keeps between two rounds. -/
def INew (w : World) (pre : List Y2) (W : World) : Prop :=
  ∃ (sn : List BL) (a : ByteArray) (l : List (ByteArray × ByteArray)) (u : Value), foldN (pre.map plY) ([], [], []) = some (sn, a.data.toList, l.map plB) ∧ NI w.heap.size W a l u (seenD pre.reverse) pre.length ∧ l.length ≤ pre.length ∧ Below w.heap.size w W
def XNew (w : World) (c : Code) (pre : List Y2) (W : World) : Prop :=
  c = .ret ∧ foldN (pre.map plY) ([], [], []) = none ∧ Boxed W w.heap.size 23 (.pointer none) ∧ Boxed W (w.heap.size + 1) 24 (.int .i64 180) ∧ Below w.heap.size w W
theorem namesP_map (l : List (ByteArray × ByteArray)) : namesP (l.map plB) = (namesB l).map (fun n => n.data.toList) := by
  unfold namesP namesB
  rw [List.map_map]
  induction l with
  | nil => rfl
  | cons p l ih =>
    have hp : (plB p).1 = p.1.data.toList := rfl
    have ho : odd1 p.1 = (p.1.data.toList == [95]) := by unfold odd1; rw [ByteArray.toList_eq]
    rw [List.map_cons, List.map_cons, List.filter_cons, List.filter_cons]
    rw [show ((fun x : BL × BL => x.1) ∘ plB) p = p.1.data.toList from rfl, ho]
    cases p.1.data.toList == [95] with
    | true => exact ih
    | false =>
      show _ :: _ = _ :: _
      rw [← ih]
theorem boxes2 {W : World} {B : Nat} {x y : Value} (h2 : Boxed W B 23 x) (h3 : Boxed W (B + 1) 24 y) (x' y' : Value) : Boxed ((W.setCell ⟨B, 0, none⟩ x').setCell ⟨B + 1, 0, none⟩ y') B 23 x' ∧ Boxed ((W.setCell ⟨B, 0, none⟩ x').setCell ⟨B + 1, 0, none⟩ y') (B + 1) 24 y' ∧ Kb (fun j => j = B ∨ j = B + 1) W ((W.setCell ⟨B, 0, none⟩ x').setCell ⟨B + 1, 0, none⟩ y') := by
  have k1 := (Kb.refl (fun j => j = B ∨ j = B + 1) W).setCell (p := ⟨B, 0, none⟩) (.inl (.inl rfl)) x'
  have k1' := (Kb.refl (fun j => j = B) W).setCell (p := ⟨B, 0, none⟩) (.inl rfl) x'
  have k2 := k1.setCell (p := ⟨B + 1, 0, none⟩) (.inl (.inr rfl)) y'
  have k2' := (Kb.refl (fun j => j = B + 1) (W.setCell ⟨B, 0, none⟩ x')).setCell (p := ⟨B + 1, 0, none⟩) (.inl rfl) y'
  exact ⟨bx_kb (h2.set x') k2' (by omega), (bx_kb h3 k1' (by omega)).set y', k2⟩
theorem results_cc {fn : Func} (h : fn.results = #[.cell 2 23, .cell 3 24]) (tmps : Array Value) (w : World) {g g' : Nat} {v v' : Value}
    (hp : tmps.getD 2 undef = .pointer (some ⟨g, 0, none⟩)) (hq : tmps.getD 3 undef = .pointer (some ⟨g', 0, none⟩)) (hv : Boxed w g 23 v) (hv' : Boxed w g' 24 v') :
    (results fn tmps).run Try.prog w = .ok (.tuple #[v, v']) w := by
  have hp' : tmps[2]?.getD undef = .pointer (some ⟨g, 0, none⟩) := by simpa using hp
  have hq' : tmps[3]?.getD undef = .pointer (some ⟨g', 0, none⟩) := by simpa using hq
  have hc := hv.cell
  have hc' := hv'.cell
  have u1 := Try.underlying23
  have u2 := Try.underlying24
  simp [results, h, hp', hq', asAddr, loadVar, go_sem, hc, hc', u1, u2]
theorem ni_start {w W0 : World} (h2 : Boxed W0 w.heap.size 23 (.pointer none)) (h3 : Boxed W0 (w.heap.size + 1) 24 (.int .i64 0)) (hs : W0.heap[w.heap.size + 2]? = some (.cells #[.string ⟨#[]⟩, .slice none 0 0] 49 (0, 0))) (h4 : Boxed W0 (w.heap.size + 3) 23 (.pointer (some ⟨w.heap.size + 2, 0, none⟩)))
    (hm : W0.ownsMap Try.prog 9 (plainElem Try.prog 3) (w.heap.size + 4) 0 (.map [] : DataW Unit)) (h5 : Boxed W0 (w.heap.size + 5) 58 (.map (some (w.heap.size + 4)))) (hb : Below w.heap.size w W0) (hsz : W0.heap.size = w.heap.size + 7) (o1 o2 : Obj) : INew w [] ((W0.alloc o1).alloc o2) := by
  have hk : Kb (fun _ => False) W0 ((W0.alloc o1).alloc o2) := ((Kb.refl _ _).alloc _).alloc _
  refine ⟨[], ⟨#[]⟩, [], .slice none 0 0, rfl, ⟨bx_kb h2 hk (fun h => h), bx_kb h3 hk (fun h => h), Kb.blk hs hk (fun h => h), bx_kb h4 hk (fun h => h), ownsMap_kb hm hk (fun h => h), bx_kb h5 hk (fun h => h), ⟨rfl, .inl ⟨rfl, rfl⟩⟩, by simp only [World.size_alloc]; omega⟩, Nat.le_refl _, below_alloc (below_alloc hb _) _⟩
theorem inew_kb {S : Nat → Prop} {w W W' : World} {pre : List Y2} (h : INew w pre W) (hk : Kb S W W') (hs : ∀ j, S j → w.heap.size + 6 ≤ j ∧ j < w.heap.size + 9) : INew w pre W' := by
  obtain ⟨sn, a, l, u, h1, h2, h3, h4⟩ := h
  exact ⟨sn, a, l, u, h1, h2.kb hk hs, h3, below_kb h4 (hk.mono (fun k h => by have := hs k h; omega))⟩
theorem kb_putObj (W : World) (l : Nat) (o : Obj) : Kb (fun j => j = l) W (W.putObj l o) :=
  (Kb.refl _ W).grown (grownBy_putObj' W l o) (fun k e => by cases e; exact .inl rfl)
theorem xnew_kb {S : Nat → Prop} {c : Code} {w W W' : World} {pre : List Y2} (h : XNew w c pre W) (hk : Kb S W W') (hs : ∀ j, S j → w.heap.size + 6 ≤ j ∧ j < w.heap.size + 9) : XNew w c pre W' := by
  obtain ⟨h1, h2, h3, h4, h5⟩ := h
  exact ⟨h1, h2, bx_kb h3 hk (fun h => by have := hs _ h; omega), bx_kb h4 hk (fun h => by have := hs _ h; omega), below_kb h5 (hk.mono (fun k h => by have := hs k h; omega))⟩
set_option maxHeartbeats 8000000 in
set_option maxRecDepth 100000 in
theorem new_calls (s : ByteArray) (w : World) (hsz : s.size < 1099511627776) : Calls Try.prog 8 #[.string s] w fun e w' => ((newP s.data.toList = none ∧ e = .returned (.tuple #[.pointer none, .int .i64 180])) ∨ (∃ a l v, newP s.data.toList = some (a.data.toList, l.map plB) ∧ l.length ≤ 300 ∧ e = .returned (.tuple #[v, .int .i64 0]) ∧ CutsAt w.heap.size w' v a l)) ∧ Below w.heap.size w w' := by
  by_cases h256 : s.size ≤ 256
  · have hz : ¬ (256 : Int) < (s.size : Int) := by omega
    have hmm := @run_makeMap Try.prog
    have hu49 := Try.underlying49
    have hu58 := Try.underlying58
    refine (callsIn_wide (n := 3)).1 ?_
    refine callsIn_of_wp_marks Try.func8 rfl trivial ?_ rfl
    simp only [Try.ntmps8, List.size_toArray, List.length_cons, List.length_nil, Nat.reduceAdd, Nat.reduceSub, Array.replicate_succ, Array.replicate_zero, List.push_toArray, List.append_toArray, List.nil_append, List.cons_append]
    gi_wp2_with (refine ⟨trivial, ?_⟩; gi_at_call 28; refine (callsIn_wide.2 (parts_calls s _)).mono ?_; rintro e w' ⟨rfl, rfl⟩)
    simp only [World.size_alloc, Nat.add_assoc, Nat.reduceAdd]
    obtain ⟨W0, hW0⟩ : ∃ W0, (((((((w.alloc (.cells #[.pointer none] 23)).alloc (.cells #[.int .i64 0] 24)).alloc (.cells #[.string ⟨#[]⟩, .slice none 0 0] 49)).alloc (.cells #[.pointer (some ⟨w.heap.size + 2, 0, none⟩)] 23)).alloc (.map #[] 0)).alloc (.cells #[.map (some (w.heap.size + 4))] 58)).alloc (.cells #[.string s] 9)) = W0 := ⟨_, rfl⟩
    have hsz0 : W0.heap.size = w.heap.size + 7 := by rw [← hW0]; simp
    have h2 : Boxed W0 w.heap.size 23 (.pointer none) := by rw [← hW0]; exact ((((((Boxed.new _ _ _).alloc _).alloc _).alloc _).alloc _).alloc _).alloc _
    have h3 : Boxed W0 (w.heap.size + 1) 24 (.int .i64 0) := by rw [← hW0]; have := (((((Boxed.new (w.alloc (.cells #[.pointer none] 23)) 24 (.int .i64 0)).alloc (.cells #[.string ⟨#[]⟩, .slice none 0 0] 49)).alloc (.cells #[.pointer (some ⟨w.heap.size + 2, 0, none⟩)] 23)).alloc (.map #[] 0)).alloc (.cells #[.map (some (w.heap.size + 4))] 58)).alloc (.cells #[.string s] 9); simpa only [World.size_alloc, Nat.add_assoc, Nat.reduceAdd] using this
    have hs2 : W0.heap[w.heap.size + 2]? = some (.cells #[.string ⟨#[]⟩, .slice none 0 0] 49 (0, 0)) := by rw [← hW0]; have := Kb.blk (World.alloc_heap_new ((w.alloc (.cells #[.pointer none] 23)).alloc (.cells #[.int .i64 0] 24)) (.cells #[.string ⟨#[]⟩, .slice none 0 0] 49)) (((((Kb.refl (fun _ => False) _).alloc (.cells #[.pointer (some ⟨w.heap.size + 2, 0, none⟩)] 23)).alloc (.map #[] 0)).alloc (.cells #[.map (some (w.heap.size + 4))] 58)).alloc (.cells #[.string s] 9)) (fun h => h); simpa only [World.size_alloc, Nat.add_assoc, Nat.reduceAdd] using this
    have h4 : Boxed W0 (w.heap.size + 3) 23 (.pointer (some ⟨w.heap.size + 2, 0, none⟩)) := by rw [← hW0]; have := (((Boxed.new (((w.alloc (.cells #[.pointer none] 23)).alloc (.cells #[.int .i64 0] 24)).alloc (.cells #[.string ⟨#[]⟩, .slice none 0 0] 49)) 23 (.pointer (some ⟨w.heap.size + 2, 0, none⟩))).alloc (.map #[] 0)).alloc (.cells #[.map (some (w.heap.size + 4))] 58)).alloc (.cells #[.string s] 9); simpa only [World.size_alloc, Nat.add_assoc, Nat.reduceAdd] using this
    have hm4 : W0.ownsMap Try.prog 9 (plainElem Try.prog 3) (w.heap.size + 4) 0 (.map [] : DataW Unit) := by rw [← hW0]; have := ((World.ownsMap_made (H := Unit) ((((w.alloc (.cells #[.pointer none] 23)).alloc (.cells #[.int .i64 0] 24)).alloc (.cells #[.string ⟨#[]⟩, .slice none 0 0] 49)).alloc (.cells #[.pointer (some ⟨w.heap.size + 2, 0, none⟩)] 23)) Try.prog 9 (plainElem Try.prog 3)).alloc (.cells #[.map (some (w.heap.size + 4))] 58)).alloc (.cells #[.string s] 9); simpa only [World.size_alloc, Nat.add_assoc, Nat.reduceAdd] using this
    have h5 : Boxed W0 (w.heap.size + 5) 58 (.map (some (w.heap.size + 4))) := by rw [← hW0]; have := (Boxed.new (((((w.alloc (.cells #[.pointer none] 23)).alloc (.cells #[.int .i64 0] 24)).alloc (.cells #[.string ⟨#[]⟩, .slice none 0 0] 49)).alloc (.cells #[.pointer (some ⟨w.heap.size + 2, 0, none⟩)] 23)).alloc (.map #[] 0)) 58 (.map (some (w.heap.size + 4)))).alloc (.cells #[.string s] 9); simpa only [World.size_alloc, Nat.add_assoc, Nat.reduceAdd] using this
    have h6 : Boxed W0 (w.heap.size + 6) 9 (.string s) := by rw [← hW0]; have := Boxed.new ((((((w.alloc (.cells #[.pointer none] 23)).alloc (.cells #[.int .i64 0] 24)).alloc (.cells #[.string ⟨#[]⟩, .slice none 0 0] 49)).alloc (.cells #[.pointer (some ⟨w.heap.size + 2, 0, none⟩)] 23)).alloc (.map #[] 0)).alloc (.cells #[.map (some (w.heap.size + 4))] 58)) 9 (.string s); simpa only [World.size_alloc, Nat.add_assoc, Nat.reduceAdd] using this
    have hb0 : Below w.heap.size w W0 := by rw [← hW0]; exact below_alloc (below_alloc (below_alloc (below_alloc (below_alloc (below_alloc (below_alloc (Below.refl _ _) _) _) _) _) _) _) _
    rw [hW0]
    clear hW0
    refine range_law (gf := 53) (lb := #[.pointer (some ⟨w.heap.size + 6, 0, none⟩)]) rfl (enters_of Try.func53 (by kernel_rfl) rfl) (encs := encY) (fun _ => rfl) (b0 := w.heap.size + 6) (by omega) (parts_feeds s h256 _ _) ?hK (INew w) (XNew w) ?hIK ?h0 ?hB0 ?hIp ?hXp
      (fun x => { tmps := #[.string s, undef, .pointer (some ⟨w.heap.size, 0, none⟩), .pointer (some ⟨w.heap.size + 1, 0, none⟩), .pointer (some ⟨w.heap.size + 3, 0, none⟩), .pointer (some ⟨w.heap.size + 5, 0, none⟩), .string x.1.1, .string x.1.2, undef, .string s, .int .i64 (s.size : Int), .bool false, .agg #[.string ⟨#[]⟩, .slice none 0 0], .pointer (some ⟨w.heap.size + 2, 0, none⟩), .map (some (w.heap.size + 4)), .string s, .func (.func 53) #[] #[.pointer (some ⟨w.heap.size + 6, 0, none⟩)], .string x.1.1, .string x.1.2, undef, undef, undef, undef, undef, undef, undef, undef, undef, undef, undef, undef, undef, undef, undef, undef, undef, undef, undef, undef, undef, undef, undef, undef, undef, undef, undef, undef, undef, undef, undef, undef, undef, undef, undef, undef, undef, undef, undef, undef, undef, undef, undef, undef, undef, undef, undef, undef, undef, undef, undef, undef, undef, undef, undef, undef], defers := [] }) ?assign ?body ?done ?stop
    case hK =>
      intro W W' k o hk hle ho _
      exact Kb.blk ho hk (by omega)
    case hIK =>
      intro pre W W' h hk
      exact inew_kb h hk (fun j e => by omega)
    case h0 =>
      intro o1 o2
      exact ni_start h2 h3 hs2 h4 hm4 h5 hb0 hsz0 o1 o2
    case hB0 =>
      intro o1 o2
      exact (h6.alloc _).alloc _
    case hIp =>
      intro pre W o h
      exact inew_kb h (kb_putObj W _ o) (fun j e => by omega)
    case hXp =>
      intro c pre W o h
      exact xnew_kb h (kb_putObj W _ o) (fun j e => by omega)
    case assign =>
      intro l x W K hK
      simp only [encY]
      gi_wp2
      exact hK
    case body =>
      rintro l' pre x W ⟨sn, a, l, u, hf, hni, hll, hbw⟩ hN
      have hx1 : x.1.1.size ≤ 256 := x.2.1
      have hx2 : x.1.2.size ≤ 256 := x.2.2
      obtain ⟨Al, cl, rfl, hcl⟩ := own_slice hni.row
      have HNI := Aside0.mk hni
      have HF := Aside0.mk (And.intro hf (And.intro hll hcl))
      have HBW := Aside0.mk hbw
      have hsn : ∀ n : BL, (seenD pre.reverse).atKey (.string n) (.lit (.int .i64 0)) = .lit (.int .i64 (if n ∈ sn then 1 else 0)) := by
        intro n
        have h0 : sn = _ := foldN_seen _ _ _ hf
        rw [seenD_at, h0]
        congr 3
        simp [List.map_map, Function.comp_def]
      have HSN := Aside0.mk hsn
      have hl257 : l.length ≤ 257 := by omega
      have c4 := hni.t4.cell
      have s0 : W.cell? ⟨w.heap.size + 2, 0, none⟩ = some (.string a) := (blk_cell hni.st 0).trans rfl
      have s1 : W.cell? ⟨w.heap.size + 2, 1, none⟩ = some (.slice Al l.length cl) := (blk_cell hni.st 1).trans rfl
      have f0 : W.frozen? ⟨w.heap.size + 2, 0, none⟩ = false := blk_frozen hni.st 0
      have c2 := hni.t2.cell
      have f2 := hni.t2.frozen
      have c3 := hni.t3.cell
      have f3 := hni.t3.frozen
      have hkey : keyOf Try.prog 9 (.string x.1.2) = some (.string x.1.2.data.toList) := WideMaps.keyOf_string_mk Try.underlying9 (by simp only [maxLen]; omega)
      have mixed : Try.prog.follows .mixedOrders = true := by kernel_rfl
      have HS9 := Aside0.mk hni.sz
      clear hf hni hll hbw hsn hcl
      have HE1 := Aside0.mk (ByteArray.toList_eq x.1.1)
      have HE2 := Aside0.mk (ByteArray.toList_eq x.1.2)
      have HNL := Aside0.mk hN
      obtain ⟨v8, hv8⟩ : ∃ v, v = IntKind.i64.wrap ((l.length : Int) - 1) := ⟨_, rfl⟩
      gi_step
      gi_step
      rename_i K8 h8
      have H8 := Aside0.mk h8
      clear h8
      gi_wp2
      refine H8.out _ _ ?_
      clear H8
      gi_step
      gi_cut [8, 22, 23, 24] from 75 (fun _ _ _ _ wc => ∃ (a1 : ByteArray) (l1 : List (ByteArray × ByteArray)) (A1 : Option Addr) (c1 : Nat), Aside0 (NI w.heap.size wc a1 l1 (.slice A1 l1.length c1) (seenD pre.reverse) pre.length) ∧ Aside0 (Kb (SW w.heap.size W) W wc) ∧ Aside0 (¬ (¬ l.map plB = [] ∧ (plY x).1 = [] ∧ ¬ (plY x).2 = [])) ∧ Aside0 ((if l.map plB = [] then (plY x).1 else a.data.toList) = a1.data.toList ∧ setBeh (l.map plB) (plY x).1 = l1.map plB ∧ l1.length = l.length) ∧ Aside0 (∀ k, (Value.slice A1 l1.length c1).ownBlock = some k → SW w.heap.size W k))
      case first =>
        by_cases hl0 : l = []
        · subst hl0
          have ew : IntKind.i64.wrap (-1) = -1 := by decide
          gi_wp2_with (first | ((with_reducible refine gi_store_gate (t := 9) (p := 39) (v := .tmp 37) rfl ?_); refine store_S rfl rfl rfl rfl rfl s0 f0 ?_; intro w1 hw1; have HW1 := Aside0.mk hw1; clear hw1))
          gi_meet
          case rel =>
            refine ⟨x.1.1, [], Al, cl, ⟨?_⟩, ⟨?_⟩, ⟨fun h => h.1 rfl⟩, ⟨rfl, rfl, rfl⟩, ⟨fun k hk => sw_own HNI.out.row hk⟩⟩
            · rw [HW1.out]; exact HNI.out.ahead _
            · rw [HW1.out]; exact (Kb.refl _ _).setCell (p := ⟨w.heap.size + 2, 0, none⟩) (.inl (.inl ⟨Nat.le_add_right _ _, Nat.add_lt_add_left (by decide) _⟩)) _
        · obtain ⟨m, hm⟩ : ∃ m, l.length = m + 1 := ⟨l.length - 1, by have := List.length_pos_iff.2 hl0; omega⟩
          obtain ⟨g, rfl, hgB, hgl, hgc⟩ := own_cell HNI.out.row (by omega)
          obtain ⟨y, hy⟩ : ∃ y, l[m]? = some y := ⟨l[m]'(by omega), List.getElem?_eq_getElem _⟩
          have r0 := hgc _ _ (cellsB_get l m y hy).2
          have hrf : W.frozen? ⟨g, m * 2 + 1, none⟩ = false := by
            obtain ⟨h1, cs, h2⟩ := own_block HNI.out.row rfl
            exact blk_frozen h2 _
          have HM := Aside0.mk (And.intro hm hl0)
          have HLP := Aside0.mk (show ¬ l.map plB = [] from fun h => hl0 (List.map_eq_nil_iff.1 h))
          have ew : IntKind.i64.wrap (m : Int) = (m : Int) := (i64_w _).trans (w64 (by omega) (by omega))
          have ez : ¬ (m : Int) < 0 := by omega
          have em : (m : Int) < (m : Int) + 1 := by omega
          have em2 : m < m + 1 := by omega
          rw [hm] at s1 ⊢
          clear hm hl0 hgc hy
          by_cases ha : x.1.1.toList = []
          · have qa : (x.1.1.toList == []) = true := by simpa using ha
            have HA := Aside0.mk (show (plY x).1 = [] from by rw [← ha, HE1.out]; rfl)
            by_cases hn : x.1.2.toList = []
            · have qn : (x.1.2.toList == []) = true := by simpa using hn
              have HST := Aside0.mk (show ¬ (¬ l.map plB = [] ∧ (plY x).1 = [] ∧ ¬ (plY x).2 = []) from fun h => h.2.2 (by show x.1.2.data.toList = []; rw [← HE2.out]; exact hn))
              gi_wp2_with (first | ((with_reducible refine gi_store_gate (t := 9) (p := 32) (v := .tmp 30) rfl ?_); refine store_S rfl rfl rfl rfl rfl r0 hrf ?_; intro w1 hw1; have HW1 := Aside0.mk hw1; clear hw1))
              gi_meet
              case rel =>
                refine ⟨a, setBeh l x.1.1, some ⟨g, 0, none⟩, cl, ⟨?_⟩, ⟨?_⟩, HST, ⟨if_neg HLP.out, ?_, setBeh_len _ _⟩, ⟨fun k hk => sw_own HNI.out.row hk⟩⟩
                · have := HNI.out.behind HM.out.2 x.1.1 hgB
                  rw [HW1.out, setBeh_len]
                  rw [HM.out.1] at this ⊢
                  exact this
                · rw [HW1.out]
                  exact (Kb.refl _ _).setCell (p := ⟨g, m * 2 + 1, none⟩) (.inl (sw_own HNI.out.row rfl)) _
                · exact (setBeh_map (fun b : ByteArray => b.data.toList) l x.1.1).symm
            · have qn : (x.1.2.toList == []) = false := by simpa using hn
              have HNN := Aside0.mk (show ¬ (plY x).2 = [] from fun h => hn (by rw [HE2.out]; exact h))
              gi_wp2
              obtain ⟨x2, x3, hk⟩ := boxes2 HNI.out.t2 HNI.out.t3 (.pointer none) (.int .i64 180)
              have hk2 : Kb (SW w.heap.size W) W _ := Kb.then_ (Kb.refl _ _) hk (fun j h => .inl (.inl (by omega)))
              exact ⟨by first | exact sw_keeps hk2 | (rw [hsz0]; exact sw_keeps hk2), rfl, by rw [List.map_append, List.map_cons, List.map_nil, foldN_snoc _ _ _ _ HF.out.1]; exact stepN_no1 ⟨HLP.out, HA.out, HNN.out⟩, x2, x3, below_kb HBW.out (hk2.mono (fun j h => sw_low h))⟩
          · have qa : (x.1.1.toList == []) = false := by simpa using ha
            have HST := Aside0.mk (show ¬ (¬ l.map plB = [] ∧ (plY x).1 = [] ∧ ¬ (plY x).2 = []) from fun h => ha (by rw [HE1.out]; exact h.2.1))
            gi_wp2_with (first | ((with_reducible refine gi_store_gate (t := 9) (p := 32) (v := .tmp 30) rfl ?_); refine store_S rfl rfl rfl rfl rfl r0 hrf ?_; intro w1 hw1; have HW1 := Aside0.mk hw1; clear hw1))
            gi_meet
            case rel =>
              refine ⟨a, setBeh l x.1.1, some ⟨g, 0, none⟩, cl, ⟨?_⟩, ⟨?_⟩, HST, ⟨if_neg HLP.out, ?_, setBeh_len _ _⟩, ⟨fun k hk => sw_own HNI.out.row hk⟩⟩
              · have := HNI.out.behind HM.out.2 x.1.1 hgB
                rw [HW1.out, setBeh_len]
                rw [HM.out.1] at this ⊢
                exact this
              · rw [HW1.out]
                exact (Kb.refl _ _).setCell (p := ⟨g, m * 2 + 1, none⟩) (.inl (sw_own HNI.out.row rfl)) _
              · exact (setBeh_map (fun b : ByteArray => b.data.toList) l x.1.1).symm
      case rest =>
        obtain ⟨a1, l1, A1, cl1, N1, K1, HST, HLL, HSWO⟩ := hcut
        have c4_1 := N1.out.t4.cell
        have c5_1 := N1.out.t5.cell
        have c2_1 := N1.out.t2.cell
        have f2_1 := N1.out.t2.frozen
        have c3_1 := N1.out.t3.cell
        have f3_1 := N1.out.t3.frozen
        clear c4 s0 s1 f0 c2 f2 c3 f3
        gi_step
        gi_step
        gi_cut [] from 75 (fun w2 => w2 = wc ∧ Aside0 (¬ ((plY x).2 ∈ sn ∧ ¬ (plY x).2 = [95])))
        case first =>
          by_cases hm : x.1.2.data.toList ∈ sn
          · have HM := Aside0.mk hm
            clear hm
            by_cases h95 : x.1.2.toList = [95]
            · have q95 : (x.1.2.toList == [95]) = true := by simpa using h95
              have H95 := Aside0.mk (show (plY x).2 = [95] from by rw [← h95, HE2.out]; rfl)
              gi_wp2_with (first | ((with_reducible refine gi_dst_gate (N := 49) rfl ?_); gi_at_lookup; refine wpListIn_lookup_own_int _ rfl _ _ 58 rfl 9 3 .i64 (string_keyed Try.underlying9) Try.underlying58 Try.underlying3 (Try.zeroValue3 _) (w.heap.size + 4) pre.length _ rfl N1.out.mp _ _ rfl hkey ?_; intro c hat hwc; rw [HSN.out, if_pos HM.out] at hat; cases hat))
              gi_meet
              case rel => exact ⟨rfl, ⟨fun h => h.2 H95.out⟩⟩
            · have q95 : (x.1.2.toList == [95]) = false := by simpa using h95
              have H95 := Aside0.mk (show ¬ (plY x).2 = [95] from fun h => h95 (by rw [HE2.out]; exact h))
              gi_wp2_with (first | ((with_reducible refine gi_dst_gate (N := 49) rfl ?_); gi_at_lookup; refine wpListIn_lookup_own_int _ rfl _ _ 58 rfl 9 3 .i64 (string_keyed Try.underlying9) Try.underlying58 Try.underlying3 (Try.zeroValue3 _) (w.heap.size + 4) pre.length _ rfl N1.out.mp _ _ rfl hkey ?_; intro c hat hwc; rw [HSN.out, if_pos HM.out] at hat; cases hat))
              obtain ⟨x2, x3, hk⟩ := boxes2 N1.out.t2 N1.out.t3 (.pointer none) (.int .i64 180)
              have hk2 : Kb (SW w.heap.size W) W _ := Kb.then_ K1.out hk (fun j h => .inl (.inl (by omega)))
              exact ⟨by first | exact sw_keeps hk2 | (rw [hsz0]; exact sw_keeps hk2), rfl, by rw [List.map_append, List.map_cons, List.map_nil, foldN_snoc _ _ _ _ HF.out.1]; exact stepN_no2 HST.out ⟨HM.out, H95.out⟩, x2, x3, below_kb HBW.out (hk2.mono (fun j h => sw_low h))⟩
          · have HM := Aside0.mk hm
            clear hm
            gi_wp2_with (first | ((with_reducible refine gi_dst_gate (N := 49) rfl ?_); gi_at_lookup; refine wpListIn_lookup_own_int _ rfl _ _ 58 rfl 9 3 .i64 (string_keyed Try.underlying9) Try.underlying58 Try.underlying3 (Try.zeroValue3 _) (w.heap.size + 4) pre.length _ rfl N1.out.mp _ _ rfl hkey ?_; intro c hat hwc; rw [HSN.out, if_neg HM.out] at hat; cases hat))
            gi_meet
            case rel => exact ⟨rfl, ⟨fun h => HM.out h.1⟩⟩
        case rest =>
          obtain ⟨rfl, HGO⟩ := hcut
          clear c2_1 f2_1 c3_1 f3_1
          by_cases hn : x.1.2.toList = []
          · have qn : (x.1.2.toList == []) = true := by simpa using hn
            have HNM := Aside0.mk (show (plY x).2 = [] from by rw [← hn, HE2.out]; rfl)
            gi_wp2_with (first | (gi_at_mapUpdate; refine wpListIn_mapUpdate_own _ rfl _ _ _ 58 rfl 9 3 (string_keyed Try.underlying9) Try.underlying58 _ (w.heap.size + 4) pre.length _ rfl N1.out.mp (by simp only [maxLen]; omega) _ _ _ rfl rfl hkey _ [] (plainElem_int Try.underlying3 (by decide)) ?_; intro w2 hown2 hgrow2; have N2 := Aside0.mk (N1.out.update hgrow2 hown2); have K2 := Aside0.mk ((K1.out).then_ ((Kb.refl (fun j => j = w.heap.size + 4) wc).grown hgrow2 (fun j e => by cases e; exact .inl rfl)) (fun j e => .inl (.inl (by omega)))); clear hown2 hgrow2; have c4_2 := N2.out.t4.cell; have s1_2 := (blk_cell N2.out.st 1).trans rfl; have f1_2 := blk_frozen N2.out.st 1))
            refine ⟨by first | exact sw_keeps K2.out | (rw [hsz0]; exact sw_keeps K2.out), sw_b0 K2.out HS9.out, ⟨(plY x).2 :: sn, a1, l1, .slice A1 l1.length cl1, ?_, ?_, ?_, below_kb HBW.out (K2.out.mono (fun j h => sw_low h))⟩⟩
            · rw [List.map_append, List.map_cons, List.map_nil, foldN_snoc _ _ _ _ HF.out.1, stepN_end HST.out HGO.out HNM.out, HLL.out.1, HLL.out.2.1]
            · rw [List.reverse_append, List.length_append]
              exact N2.out
            · rw [List.length_append, HLL.out.2.2]; have := HF.out.2.1; omega
          · have qn : (x.1.2.toList == []) = false := by simpa using hn
            have HNM := Aside0.mk (show ¬ (plY x).2 = [] from fun h => hn (by rw [HE2.out]; exact h))
            gi_wp2_with (first | (gi_at_mapUpdate; refine wpListIn_mapUpdate_own _ rfl _ _ _ 58 rfl 9 3 (string_keyed Try.underlying9) Try.underlying58 _ (w.heap.size + 4) pre.length _ rfl N1.out.mp (by simp only [maxLen]; omega) _ _ _ rfl rfl hkey _ [] (plainElem_int Try.underlying3 (by decide)) ?_; intro w2 hown2 hgrow2; have N2 := Aside0.mk (N1.out.update hgrow2 hown2); have K2 := Aside0.mk ((K1.out).then_ ((Kb.refl (fun j => j = w.heap.size + 4) wc).grown hgrow2 (fun j e => by cases e; exact .inl rfl)) (fun j e => .inl (.inl (by omega)))); clear hown2 hgrow2; have c4_2 := N2.out.t4.cell; have s1_2 := (blk_cell N2.out.st 1).trans rfl; have f1_2 := blk_frozen N2.out.st 1))
            refine wpIn_region_any (by assumption) (wpAnyIn_inRound (by
              intro i o ho c
              match i, ho with
              | 0, ho | 1, ho | 2, ho | 3, ho | 4, ho | 5, ho | 6, ho | 7, ho | 8, ho | 9, ho | 10, ho | 11, ho => cases ho; intro h; cases h
              | i + 12, ho => cases ho) _ _ _ _ ?_)
            try (change wpAnyIn _ _ _ _ _ _ _ _ _ (World.drew _))
            have N2' := Aside0.mk (N2.out.kb ((Kb.refl (fun _ => False) w2).drew) (fun j h => h.elim))
            have K2' := Aside0.mk (K2.out.drew)
            clear N2 K2 c4_2 s1_2 f1_2
            generalize w2.drew = wa at N2' K2' ⊢
            have N2 := N2'
            clear N2'
            have K2 := K2'
            clear K2'
            have c4_2 := N2.out.t4.cell
            have s1_2 := (blk_cell N2.out.st 1).trans rfl
            have f1_2 := blk_frozen N2.out.st 1
            refine wpAnyIn_take (i := 5) (v := ?v1) rfl rfl (by kernel_rfl) (by kernel_rfl) (by kernel_rfl) (fun _ _ _ h => h) ⟨Or.inl ⟨by rfl, ?hy1⟩, fun _ => rfl⟩ ?_
            case hy1 => intro w; go_simp; (first | done | (with_reducible rfl))
            refine wpAnyIn_take (i := 6) (v := ?v2) rfl rfl (by kernel_rfl) (by kernel_rfl) (by kernel_rfl) (fun _ _ _ h => h) ⟨Or.inl ⟨by rfl, ?hy2⟩, fun _ => rfl⟩ ?_
            case hy2 => intro w; go_simp; (first | done | (with_reducible rfl))
            refine wpAnyIn_ready (rs := [0, 1, 7]) (by kernel_rfl) (by simp) ?_
            refine AllReadyIn.cons rfl (fun K hK => ?_) ?_
            · go_simp
              refine hK _ _ ?_
              clear hK K
              skip
              refine wpAnyIn_ready (rs := [1, 7]) (by kernel_rfl) (by simp) ?_
              refine AllReadyIn.cons rfl (fun K hK => ?_) ?_
              · go_simp
                refine hK _ _ ?_
                clear hK K
                skip
                refine wpAnyIn_take (i := 2) (v := ?v3) rfl rfl (by kernel_rfl) (by kernel_rfl) (by kernel_rfl) (fun _ _ _ h => h) ⟨Or.inl ⟨by rfl, ?hy3⟩, fun _ => rfl⟩ ?_
                case hy3 => intro w; go_simp; (first | done | (with_reducible rfl))
                refine wpAnyIn_take (i := 3) (v := ?v4) rfl rfl (by kernel_rfl) (by kernel_rfl) (by kernel_rfl) (fun _ _ _ h => h) ⟨Or.inl ⟨by rfl, ?hy4⟩, fun _ => rfl⟩ ?_
                case hy4 => intro w; go_simp; (first | done | (with_reducible rfl))
                refine wpAnyIn_ready (rs := [4, 7]) (by kernel_rfl) (by simp) ?_
                refine AllReadyIn.cons rfl (fun K hK => ?_) ?_
                · go_simp
                  refine hK _ _ ?_
                  clear hK K
                  skip
                  refine wpAnyIn_ready (rs := [7]) (by kernel_rfl) (by simp) ?_
                  refine AllReadyIn.cons rfl (fun K hK => ?_) ?_
                  · go_simp
                    refine hK _ _ ?_
                    clear hK K
                    have k7 := (Kb.refl (fun _ => False) wa).alloc (.cells #[.string x.1.2, .string ⟨#[]⟩] 63)
                    have hnew := World.alloc_heap_new wa (.cells #[.string x.1.2, .string ⟨#[]⟩] 63)
                    have N3 := Aside0.mk (N2.out.kb k7 (fun j h => h.elim))
                    have K3 := Aside0.mk (K2.out.trans (k7.mono (fun _ h => h.elim)))
                    clear k7 N2 K2 c4_2 s1_2 f1_2
                    generalize wa.alloc _ = wb at hnew N3 K3 ⊢
                    have N2 := N3
                    clear N3
                    have K2 := K3
                    clear K3
                    have HU0 := Aside0.mk ((blk_cell hnew 0).trans rfl)
                    have HU1 := Aside0.mk ((blk_cell hnew 1).trans rfl)
                    clear hnew
                    have c4_2 := N2.out.t4.cell
                    have s1_2 := (blk_cell N2.out.st 1).trans rfl
                    have f1_2 := blk_frozen N2.out.st 1
                    refine wpAnyIn_ready (rs := [8]) (by kernel_rfl) (by simp) ?_
                    refine AllReadyIn.cons rfl (fun K hK => ?_) ?_
                    · refine append_E (N := 67) rfl (by rfl) (.tmp 63) (.tmp 66) rfl rfl N2.out.row rfl (u := x.1.2) (u' := ⟨#[]⟩) HU0.out HU1.out (by have := HLL.out.2.2; omega) N2.out.sz ?_
                      intro g3 c3 w3 hr3 hk3
                      refine hK _ _ ?_
                      clear hK K
                      have HK3 := Aside0.mk hk3
                      have HR3 := Aside0.mk hr3
                      have hx3 : ∀ j, (Value.slice A1 l1.length cl1).ownBlock = some j → w.heap.size + 9 ≤ j := fun j h => (own_block N2.out.row h).1
                      have s1_3 := (blk_cell (Kb.blk N2.out.st HK3.out (fun h => by have := hx3 _ h; omega)) 1).trans rfl
                      have f1_3 := blk_frozen (Kb.blk N2.out.st HK3.out (fun h => by have := hx3 _ h; omega)) 1
                      have c4_3 := (bx_kb N2.out.t4 HK3.out (fun h => by have := hx3 _ h; omega)).cell
                      clear hk3 hr3 hx3 c4_2 s1_2 f1_2
                      refine wpAnyIn_take (i := 9) (v := ?v5) rfl rfl (by kernel_rfl) (by kernel_rfl) (by kernel_rfl) (fun _ _ _ h => h) ⟨Or.inl ⟨by rfl, ?hy5⟩, fun _ => rfl⟩ ?_
                      case hy5 => intro w; go_simp; (first | done | (with_reducible rfl))
                      refine wpAnyIn_take (i := 10) (v := ?v6) rfl rfl (by kernel_rfl) (by kernel_rfl) (by kernel_rfl) (fun _ _ _ h => h) ⟨Or.inl ⟨by rfl, ?hy6⟩, fun _ => rfl⟩ ?_
                      case hy6 => intro w; go_simp; (first | done | (with_reducible rfl))
                      refine wpAnyIn_ready (rs := [11]) (by kernel_rfl) (by simp) ?_
                      refine AllReadyIn.cons rfl (fun K hK => ?_) ?_
                      · refine store_E (p := 69) (v := .tmp 67) rfl rfl (by rfl) rfl rfl s1_3 f1_3 ?_
                        intro w4 hw4
                        have HW4 := Aside0.mk hw4
                        clear hw4
                        refine hK _ _ ?_
                        clear hK K
                        skip
                        refine wpAnyIn_done (by kernel_rfl) ?_ _
                        gi_wp2
                        have N4 := Aside0.mk (N2.out.append (HK3.out.mono (fun j h => (own_block N2.out.row h).1)) HR3.out)
                        rw [← HW4.out] at N4
                        have K4 := Aside0.mk ((K2.out.then_ HK3.out (fun j h => .inl (HSWO.out j h))).then_ ((Kb.refl (fun j => j = w.heap.size + 2) w3).setCell (p := ⟨w.heap.size + 2, 1, none⟩) (.inl rfl) (.slice (some ⟨g3, 0, none⟩) (l1.length + 1) c3)) (fun j e => .inl (.inl (by omega))))
                        rw [← HW4.out] at K4
                        refine ⟨by first | exact sw_keeps K4.out | (rw [hsz0]; exact sw_keeps K4.out), sw_b0 K4.out HS9.out, ⟨(plY x).2 :: sn, a1, l1 ++ [(x.1.2, ⟨#[]⟩)], .slice (some ⟨g3, 0, none⟩) (l1.length + 1) c3, ?_, ?_, ?_, below_kb HBW.out (K4.out.mono (fun j h => sw_low h))⟩⟩
                        · rw [List.map_append, List.map_cons, List.map_nil, foldN_snoc _ _ _ _ HF.out.1, stepN_on HST.out HGO.out HNM.out, HLL.out.1, HLL.out.2.1, List.map_append]
                          rfl
                        · rw [List.reverse_append, List.length_append]
                          exact N4.out
                        · rw [List.length_append, List.length_append, HLL.out.2.2]; have := HF.out.2.1; simp; omega
                      exact AllReadyIn.nil
                    exact AllReadyIn.nil
                  exact AllReadyIn.nil
                refine AllReadyIn.cons rfl (fun K hK => ?_) ?_
                · go_simp
                  refine hK _ _ ?_
                  clear hK K
                  have k7 := (Kb.refl (fun _ => False) wa).alloc (.cells #[.string x.1.2, .string ⟨#[]⟩] 63)
                  have hnew := World.alloc_heap_new wa (.cells #[.string x.1.2, .string ⟨#[]⟩] 63)
                  have N3 := Aside0.mk (N2.out.kb k7 (fun j h => h.elim))
                  have K3 := Aside0.mk (K2.out.trans (k7.mono (fun _ h => h.elim)))
                  clear k7 N2 K2 c4_2 s1_2 f1_2
                  generalize wa.alloc _ = wb at hnew N3 K3 ⊢
                  have N2 := N3
                  clear N3
                  have K2 := K3
                  clear K3
                  have HU0 := Aside0.mk ((blk_cell hnew 0).trans rfl)
                  have HU1 := Aside0.mk ((blk_cell hnew 1).trans rfl)
                  clear hnew
                  have c4_2 := N2.out.t4.cell
                  have s1_2 := (blk_cell N2.out.st 1).trans rfl
                  have f1_2 := blk_frozen N2.out.st 1
                  refine wpAnyIn_ready (rs := [4]) (by kernel_rfl) (by simp) ?_
                  refine AllReadyIn.cons rfl (fun K hK => ?_) ?_
                  · go_simp
                    refine hK _ _ ?_
                    clear hK K
                    skip
                    refine wpAnyIn_ready (rs := [8]) (by kernel_rfl) (by simp) ?_
                    refine AllReadyIn.cons rfl (fun K hK => ?_) ?_
                    · refine append_E (N := 67) rfl (by rfl) (.tmp 63) (.tmp 66) rfl rfl N2.out.row rfl (u := x.1.2) (u' := ⟨#[]⟩) HU0.out HU1.out (by have := HLL.out.2.2; omega) N2.out.sz ?_
                      intro g3 c3 w3 hr3 hk3
                      refine hK _ _ ?_
                      clear hK K
                      have HK3 := Aside0.mk hk3
                      have HR3 := Aside0.mk hr3
                      have hx3 : ∀ j, (Value.slice A1 l1.length cl1).ownBlock = some j → w.heap.size + 9 ≤ j := fun j h => (own_block N2.out.row h).1
                      have s1_3 := (blk_cell (Kb.blk N2.out.st HK3.out (fun h => by have := hx3 _ h; omega)) 1).trans rfl
                      have f1_3 := blk_frozen (Kb.blk N2.out.st HK3.out (fun h => by have := hx3 _ h; omega)) 1
                      have c4_3 := (bx_kb N2.out.t4 HK3.out (fun h => by have := hx3 _ h; omega)).cell
                      clear hk3 hr3 hx3 c4_2 s1_2 f1_2
                      refine wpAnyIn_take (i := 9) (v := ?v7) rfl rfl (by kernel_rfl) (by kernel_rfl) (by kernel_rfl) (fun _ _ _ h => h) ⟨Or.inl ⟨by rfl, ?hy7⟩, fun _ => rfl⟩ ?_
                      case hy7 => intro w; go_simp; (first | done | (with_reducible rfl))
                      refine wpAnyIn_take (i := 10) (v := ?v8) rfl rfl (by kernel_rfl) (by kernel_rfl) (by kernel_rfl) (fun _ _ _ h => h) ⟨Or.inl ⟨by rfl, ?hy8⟩, fun _ => rfl⟩ ?_
                      case hy8 => intro w; go_simp; (first | done | (with_reducible rfl))
                      refine wpAnyIn_ready (rs := [11]) (by kernel_rfl) (by simp) ?_
                      refine AllReadyIn.cons rfl (fun K hK => ?_) ?_
                      · refine store_E (p := 69) (v := .tmp 67) rfl rfl (by rfl) rfl rfl s1_3 f1_3 ?_
                        intro w4 hw4
                        have HW4 := Aside0.mk hw4
                        clear hw4
                        refine hK _ _ ?_
                        clear hK K
                        skip
                        refine wpAnyIn_done (by kernel_rfl) ?_ _
                        gi_wp2
                        have N4 := Aside0.mk (N2.out.append (HK3.out.mono (fun j h => (own_block N2.out.row h).1)) HR3.out)
                        rw [← HW4.out] at N4
                        have K4 := Aside0.mk ((K2.out.then_ HK3.out (fun j h => .inl (HSWO.out j h))).then_ ((Kb.refl (fun j => j = w.heap.size + 2) w3).setCell (p := ⟨w.heap.size + 2, 1, none⟩) (.inl rfl) (.slice (some ⟨g3, 0, none⟩) (l1.length + 1) c3)) (fun j e => .inl (.inl (by omega))))
                        rw [← HW4.out] at K4
                        refine ⟨by first | exact sw_keeps K4.out | (rw [hsz0]; exact sw_keeps K4.out), sw_b0 K4.out HS9.out, ⟨(plY x).2 :: sn, a1, l1 ++ [(x.1.2, ⟨#[]⟩)], .slice (some ⟨g3, 0, none⟩) (l1.length + 1) c3, ?_, ?_, ?_, below_kb HBW.out (K4.out.mono (fun j h => sw_low h))⟩⟩
                        · rw [List.map_append, List.map_cons, List.map_nil, foldN_snoc _ _ _ _ HF.out.1, stepN_on HST.out HGO.out HNM.out, HLL.out.1, HLL.out.2.1, List.map_append]
                          rfl
                        · rw [List.reverse_append, List.length_append]
                          exact N4.out
                        · rw [List.length_append, List.length_append, HLL.out.2.2]; have := HF.out.2.1; simp; omega
                      exact AllReadyIn.nil
                    exact AllReadyIn.nil
                  exact AllReadyIn.nil
                exact AllReadyIn.nil
              refine AllReadyIn.cons rfl (fun K hK => ?_) ?_
              · go_simp
                refine hK _ _ ?_
                clear hK K
                have k7 := (Kb.refl (fun _ => False) wa).alloc (.cells #[.string x.1.2, .string ⟨#[]⟩] 63)
                have hnew := World.alloc_heap_new wa (.cells #[.string x.1.2, .string ⟨#[]⟩] 63)
                have N3 := Aside0.mk (N2.out.kb k7 (fun j h => h.elim))
                have K3 := Aside0.mk (K2.out.trans (k7.mono (fun _ h => h.elim)))
                clear k7 N2 K2 c4_2 s1_2 f1_2
                generalize wa.alloc _ = wb at hnew N3 K3 ⊢
                have N2 := N3
                clear N3
                have K2 := K3
                clear K3
                have HU0 := Aside0.mk ((blk_cell hnew 0).trans rfl)
                have HU1 := Aside0.mk ((blk_cell hnew 1).trans rfl)
                clear hnew
                have c4_2 := N2.out.t4.cell
                have s1_2 := (blk_cell N2.out.st 1).trans rfl
                have f1_2 := blk_frozen N2.out.st 1
                refine wpAnyIn_ready (rs := [1]) (by kernel_rfl) (by simp) ?_
                refine AllReadyIn.cons rfl (fun K hK => ?_) ?_
                · go_simp
                  refine hK _ _ ?_
                  clear hK K
                  skip
                  refine wpAnyIn_take (i := 2) (v := ?v9) rfl rfl (by kernel_rfl) (by kernel_rfl) (by kernel_rfl) (fun _ _ _ h => h) ⟨Or.inl ⟨by rfl, ?hy9⟩, fun _ => rfl⟩ ?_
                  case hy9 => intro w; go_simp; (first | done | (with_reducible rfl))
                  refine wpAnyIn_take (i := 3) (v := ?v10) rfl rfl (by kernel_rfl) (by kernel_rfl) (by kernel_rfl) (fun _ _ _ h => h) ⟨Or.inl ⟨by rfl, ?hy10⟩, fun _ => rfl⟩ ?_
                  case hy10 => intro w; go_simp; (first | done | (with_reducible rfl))
                  refine wpAnyIn_ready (rs := [4]) (by kernel_rfl) (by simp) ?_
                  refine AllReadyIn.cons rfl (fun K hK => ?_) ?_
                  · go_simp
                    refine hK _ _ ?_
                    clear hK K
                    skip
                    refine wpAnyIn_ready (rs := [8]) (by kernel_rfl) (by simp) ?_
                    refine AllReadyIn.cons rfl (fun K hK => ?_) ?_
                    · refine append_E (N := 67) rfl (by rfl) (.tmp 63) (.tmp 66) rfl rfl N2.out.row rfl (u := x.1.2) (u' := ⟨#[]⟩) HU0.out HU1.out (by have := HLL.out.2.2; omega) N2.out.sz ?_
                      intro g3 c3 w3 hr3 hk3
                      refine hK _ _ ?_
                      clear hK K
                      have HK3 := Aside0.mk hk3
                      have HR3 := Aside0.mk hr3
                      have hx3 : ∀ j, (Value.slice A1 l1.length cl1).ownBlock = some j → w.heap.size + 9 ≤ j := fun j h => (own_block N2.out.row h).1
                      have s1_3 := (blk_cell (Kb.blk N2.out.st HK3.out (fun h => by have := hx3 _ h; omega)) 1).trans rfl
                      have f1_3 := blk_frozen (Kb.blk N2.out.st HK3.out (fun h => by have := hx3 _ h; omega)) 1
                      have c4_3 := (bx_kb N2.out.t4 HK3.out (fun h => by have := hx3 _ h; omega)).cell
                      clear hk3 hr3 hx3 c4_2 s1_2 f1_2
                      refine wpAnyIn_take (i := 9) (v := ?v11) rfl rfl (by kernel_rfl) (by kernel_rfl) (by kernel_rfl) (fun _ _ _ h => h) ⟨Or.inl ⟨by rfl, ?hy11⟩, fun _ => rfl⟩ ?_
                      case hy11 => intro w; go_simp; (first | done | (with_reducible rfl))
                      refine wpAnyIn_take (i := 10) (v := ?v12) rfl rfl (by kernel_rfl) (by kernel_rfl) (by kernel_rfl) (fun _ _ _ h => h) ⟨Or.inl ⟨by rfl, ?hy12⟩, fun _ => rfl⟩ ?_
                      case hy12 => intro w; go_simp; (first | done | (with_reducible rfl))
                      refine wpAnyIn_ready (rs := [11]) (by kernel_rfl) (by simp) ?_
                      refine AllReadyIn.cons rfl (fun K hK => ?_) ?_
                      · refine store_E (p := 69) (v := .tmp 67) rfl rfl (by rfl) rfl rfl s1_3 f1_3 ?_
                        intro w4 hw4
                        have HW4 := Aside0.mk hw4
                        clear hw4
                        refine hK _ _ ?_
                        clear hK K
                        skip
                        refine wpAnyIn_done (by kernel_rfl) ?_ _
                        gi_wp2
                        have N4 := Aside0.mk (N2.out.append (HK3.out.mono (fun j h => (own_block N2.out.row h).1)) HR3.out)
                        rw [← HW4.out] at N4
                        have K4 := Aside0.mk ((K2.out.then_ HK3.out (fun j h => .inl (HSWO.out j h))).then_ ((Kb.refl (fun j => j = w.heap.size + 2) w3).setCell (p := ⟨w.heap.size + 2, 1, none⟩) (.inl rfl) (.slice (some ⟨g3, 0, none⟩) (l1.length + 1) c3)) (fun j e => .inl (.inl (by omega))))
                        rw [← HW4.out] at K4
                        refine ⟨by first | exact sw_keeps K4.out | (rw [hsz0]; exact sw_keeps K4.out), sw_b0 K4.out HS9.out, ⟨(plY x).2 :: sn, a1, l1 ++ [(x.1.2, ⟨#[]⟩)], .slice (some ⟨g3, 0, none⟩) (l1.length + 1) c3, ?_, ?_, ?_, below_kb HBW.out (K4.out.mono (fun j h => sw_low h))⟩⟩
                        · rw [List.map_append, List.map_cons, List.map_nil, foldN_snoc _ _ _ _ HF.out.1, stepN_on HST.out HGO.out HNM.out, HLL.out.1, HLL.out.2.1, List.map_append]
                          rfl
                        · rw [List.reverse_append, List.length_append]
                          exact N4.out
                        · rw [List.length_append, List.length_append, HLL.out.2.2]; have := HF.out.2.1; simp; omega
                      exact AllReadyIn.nil
                    exact AllReadyIn.nil
                  exact AllReadyIn.nil
                exact AllReadyIn.nil
              exact AllReadyIn.nil
            refine AllReadyIn.cons rfl (fun K hK => ?_) ?_
            · go_simp
              refine hK _ _ ?_
              clear hK K
              skip
              refine wpAnyIn_take (i := 2) (v := ?v13) rfl rfl (by kernel_rfl) (by kernel_rfl) (by kernel_rfl) (fun _ _ _ h => h) ⟨Or.inl ⟨by rfl, ?hy13⟩, fun _ => rfl⟩ ?_
              case hy13 => intro w; go_simp; (first | done | (with_reducible rfl))
              refine wpAnyIn_take (i := 3) (v := ?v14) rfl rfl (by kernel_rfl) (by kernel_rfl) (by kernel_rfl) (fun _ _ _ h => h) ⟨Or.inl ⟨by rfl, ?hy14⟩, fun _ => rfl⟩ ?_
              case hy14 => intro w; go_simp; (first | done | (with_reducible rfl))
              refine wpAnyIn_ready (rs := [0, 4, 7]) (by kernel_rfl) (by simp) ?_
              refine AllReadyIn.cons rfl (fun K hK => ?_) ?_
              · go_simp
                refine hK _ _ ?_
                clear hK K
                skip
                refine wpAnyIn_ready (rs := [4, 7]) (by kernel_rfl) (by simp) ?_
                refine AllReadyIn.cons rfl (fun K hK => ?_) ?_
                · go_simp
                  refine hK _ _ ?_
                  clear hK K
                  skip
                  refine wpAnyIn_ready (rs := [7]) (by kernel_rfl) (by simp) ?_
                  refine AllReadyIn.cons rfl (fun K hK => ?_) ?_
                  · go_simp
                    refine hK _ _ ?_
                    clear hK K
                    have k7 := (Kb.refl (fun _ => False) wa).alloc (.cells #[.string x.1.2, .string ⟨#[]⟩] 63)
                    have hnew := World.alloc_heap_new wa (.cells #[.string x.1.2, .string ⟨#[]⟩] 63)
                    have N3 := Aside0.mk (N2.out.kb k7 (fun j h => h.elim))
                    have K3 := Aside0.mk (K2.out.trans (k7.mono (fun _ h => h.elim)))
                    clear k7 N2 K2 c4_2 s1_2 f1_2
                    generalize wa.alloc _ = wb at hnew N3 K3 ⊢
                    have N2 := N3
                    clear N3
                    have K2 := K3
                    clear K3
                    have HU0 := Aside0.mk ((blk_cell hnew 0).trans rfl)
                    have HU1 := Aside0.mk ((blk_cell hnew 1).trans rfl)
                    clear hnew
                    have c4_2 := N2.out.t4.cell
                    have s1_2 := (blk_cell N2.out.st 1).trans rfl
                    have f1_2 := blk_frozen N2.out.st 1
                    refine wpAnyIn_ready (rs := [8]) (by kernel_rfl) (by simp) ?_
                    refine AllReadyIn.cons rfl (fun K hK => ?_) ?_
                    · refine append_E (N := 67) rfl (by rfl) (.tmp 63) (.tmp 66) rfl rfl N2.out.row rfl (u := x.1.2) (u' := ⟨#[]⟩) HU0.out HU1.out (by have := HLL.out.2.2; omega) N2.out.sz ?_
                      intro g3 c3 w3 hr3 hk3
                      refine hK _ _ ?_
                      clear hK K
                      have HK3 := Aside0.mk hk3
                      have HR3 := Aside0.mk hr3
                      have hx3 : ∀ j, (Value.slice A1 l1.length cl1).ownBlock = some j → w.heap.size + 9 ≤ j := fun j h => (own_block N2.out.row h).1
                      have s1_3 := (blk_cell (Kb.blk N2.out.st HK3.out (fun h => by have := hx3 _ h; omega)) 1).trans rfl
                      have f1_3 := blk_frozen (Kb.blk N2.out.st HK3.out (fun h => by have := hx3 _ h; omega)) 1
                      have c4_3 := (bx_kb N2.out.t4 HK3.out (fun h => by have := hx3 _ h; omega)).cell
                      clear hk3 hr3 hx3 c4_2 s1_2 f1_2
                      refine wpAnyIn_take (i := 9) (v := ?v15) rfl rfl (by kernel_rfl) (by kernel_rfl) (by kernel_rfl) (fun _ _ _ h => h) ⟨Or.inl ⟨by rfl, ?hy15⟩, fun _ => rfl⟩ ?_
                      case hy15 => intro w; go_simp; (first | done | (with_reducible rfl))
                      refine wpAnyIn_take (i := 10) (v := ?v16) rfl rfl (by kernel_rfl) (by kernel_rfl) (by kernel_rfl) (fun _ _ _ h => h) ⟨Or.inl ⟨by rfl, ?hy16⟩, fun _ => rfl⟩ ?_
                      case hy16 => intro w; go_simp; (first | done | (with_reducible rfl))
                      refine wpAnyIn_ready (rs := [11]) (by kernel_rfl) (by simp) ?_
                      refine AllReadyIn.cons rfl (fun K hK => ?_) ?_
                      · refine store_E (p := 69) (v := .tmp 67) rfl rfl (by rfl) rfl rfl s1_3 f1_3 ?_
                        intro w4 hw4
                        have HW4 := Aside0.mk hw4
                        clear hw4
                        refine hK _ _ ?_
                        clear hK K
                        skip
                        refine wpAnyIn_done (by kernel_rfl) ?_ _
                        gi_wp2
                        have N4 := Aside0.mk (N2.out.append (HK3.out.mono (fun j h => (own_block N2.out.row h).1)) HR3.out)
                        rw [← HW4.out] at N4
                        have K4 := Aside0.mk ((K2.out.then_ HK3.out (fun j h => .inl (HSWO.out j h))).then_ ((Kb.refl (fun j => j = w.heap.size + 2) w3).setCell (p := ⟨w.heap.size + 2, 1, none⟩) (.inl rfl) (.slice (some ⟨g3, 0, none⟩) (l1.length + 1) c3)) (fun j e => .inl (.inl (by omega))))
                        rw [← HW4.out] at K4
                        refine ⟨by first | exact sw_keeps K4.out | (rw [hsz0]; exact sw_keeps K4.out), sw_b0 K4.out HS9.out, ⟨(plY x).2 :: sn, a1, l1 ++ [(x.1.2, ⟨#[]⟩)], .slice (some ⟨g3, 0, none⟩) (l1.length + 1) c3, ?_, ?_, ?_, below_kb HBW.out (K4.out.mono (fun j h => sw_low h))⟩⟩
                        · rw [List.map_append, List.map_cons, List.map_nil, foldN_snoc _ _ _ _ HF.out.1, stepN_on HST.out HGO.out HNM.out, HLL.out.1, HLL.out.2.1, List.map_append]
                          rfl
                        · rw [List.reverse_append, List.length_append]
                          exact N4.out
                        · rw [List.length_append, List.length_append, HLL.out.2.2]; have := HF.out.2.1; simp; omega
                      exact AllReadyIn.nil
                    exact AllReadyIn.nil
                  exact AllReadyIn.nil
                refine AllReadyIn.cons rfl (fun K hK => ?_) ?_
                · go_simp
                  refine hK _ _ ?_
                  clear hK K
                  have k7 := (Kb.refl (fun _ => False) wa).alloc (.cells #[.string x.1.2, .string ⟨#[]⟩] 63)
                  have hnew := World.alloc_heap_new wa (.cells #[.string x.1.2, .string ⟨#[]⟩] 63)
                  have N3 := Aside0.mk (N2.out.kb k7 (fun j h => h.elim))
                  have K3 := Aside0.mk (K2.out.trans (k7.mono (fun _ h => h.elim)))
                  clear k7 N2 K2 c4_2 s1_2 f1_2
                  generalize wa.alloc _ = wb at hnew N3 K3 ⊢
                  have N2 := N3
                  clear N3
                  have K2 := K3
                  clear K3
                  have HU0 := Aside0.mk ((blk_cell hnew 0).trans rfl)
                  have HU1 := Aside0.mk ((blk_cell hnew 1).trans rfl)
                  clear hnew
                  have c4_2 := N2.out.t4.cell
                  have s1_2 := (blk_cell N2.out.st 1).trans rfl
                  have f1_2 := blk_frozen N2.out.st 1
                  refine wpAnyIn_ready (rs := [4]) (by kernel_rfl) (by simp) ?_
                  refine AllReadyIn.cons rfl (fun K hK => ?_) ?_
                  · go_simp
                    refine hK _ _ ?_
                    clear hK K
                    skip
                    refine wpAnyIn_ready (rs := [8]) (by kernel_rfl) (by simp) ?_
                    refine AllReadyIn.cons rfl (fun K hK => ?_) ?_
                    · refine append_E (N := 67) rfl (by rfl) (.tmp 63) (.tmp 66) rfl rfl N2.out.row rfl (u := x.1.2) (u' := ⟨#[]⟩) HU0.out HU1.out (by have := HLL.out.2.2; omega) N2.out.sz ?_
                      intro g3 c3 w3 hr3 hk3
                      refine hK _ _ ?_
                      clear hK K
                      have HK3 := Aside0.mk hk3
                      have HR3 := Aside0.mk hr3
                      have hx3 : ∀ j, (Value.slice A1 l1.length cl1).ownBlock = some j → w.heap.size + 9 ≤ j := fun j h => (own_block N2.out.row h).1
                      have s1_3 := (blk_cell (Kb.blk N2.out.st HK3.out (fun h => by have := hx3 _ h; omega)) 1).trans rfl
                      have f1_3 := blk_frozen (Kb.blk N2.out.st HK3.out (fun h => by have := hx3 _ h; omega)) 1
                      have c4_3 := (bx_kb N2.out.t4 HK3.out (fun h => by have := hx3 _ h; omega)).cell
                      clear hk3 hr3 hx3 c4_2 s1_2 f1_2
                      refine wpAnyIn_take (i := 9) (v := ?v17) rfl rfl (by kernel_rfl) (by kernel_rfl) (by kernel_rfl) (fun _ _ _ h => h) ⟨Or.inl ⟨by rfl, ?hy17⟩, fun _ => rfl⟩ ?_
                      case hy17 => intro w; go_simp; (first | done | (with_reducible rfl))
                      refine wpAnyIn_take (i := 10) (v := ?v18) rfl rfl (by kernel_rfl) (by kernel_rfl) (by kernel_rfl) (fun _ _ _ h => h) ⟨Or.inl ⟨by rfl, ?hy18⟩, fun _ => rfl⟩ ?_
                      case hy18 => intro w; go_simp; (first | done | (with_reducible rfl))
                      refine wpAnyIn_ready (rs := [11]) (by kernel_rfl) (by simp) ?_
                      refine AllReadyIn.cons rfl (fun K hK => ?_) ?_
                      · refine store_E (p := 69) (v := .tmp 67) rfl rfl (by rfl) rfl rfl s1_3 f1_3 ?_
                        intro w4 hw4
                        have HW4 := Aside0.mk hw4
                        clear hw4
                        refine hK _ _ ?_
                        clear hK K
                        skip
                        refine wpAnyIn_done (by kernel_rfl) ?_ _
                        gi_wp2
                        have N4 := Aside0.mk (N2.out.append (HK3.out.mono (fun j h => (own_block N2.out.row h).1)) HR3.out)
                        rw [← HW4.out] at N4
                        have K4 := Aside0.mk ((K2.out.then_ HK3.out (fun j h => .inl (HSWO.out j h))).then_ ((Kb.refl (fun j => j = w.heap.size + 2) w3).setCell (p := ⟨w.heap.size + 2, 1, none⟩) (.inl rfl) (.slice (some ⟨g3, 0, none⟩) (l1.length + 1) c3)) (fun j e => .inl (.inl (by omega))))
                        rw [← HW4.out] at K4
                        refine ⟨by first | exact sw_keeps K4.out | (rw [hsz0]; exact sw_keeps K4.out), sw_b0 K4.out HS9.out, ⟨(plY x).2 :: sn, a1, l1 ++ [(x.1.2, ⟨#[]⟩)], .slice (some ⟨g3, 0, none⟩) (l1.length + 1) c3, ?_, ?_, ?_, below_kb HBW.out (K4.out.mono (fun j h => sw_low h))⟩⟩
                        · rw [List.map_append, List.map_cons, List.map_nil, foldN_snoc _ _ _ _ HF.out.1, stepN_on HST.out HGO.out HNM.out, HLL.out.1, HLL.out.2.1, List.map_append]
                          rfl
                        · rw [List.reverse_append, List.length_append]
                          exact N4.out
                        · rw [List.length_append, List.length_append, HLL.out.2.2]; have := HF.out.2.1; simp; omega
                      exact AllReadyIn.nil
                    exact AllReadyIn.nil
                  exact AllReadyIn.nil
                exact AllReadyIn.nil
              refine AllReadyIn.cons rfl (fun K hK => ?_) ?_
              · go_simp
                refine hK _ _ ?_
                clear hK K
                skip
                refine wpAnyIn_ready (rs := [0, 7]) (by kernel_rfl) (by simp) ?_
                refine AllReadyIn.cons rfl (fun K hK => ?_) ?_
                · go_simp
                  refine hK _ _ ?_
                  clear hK K
                  skip
                  refine wpAnyIn_ready (rs := [7]) (by kernel_rfl) (by simp) ?_
                  refine AllReadyIn.cons rfl (fun K hK => ?_) ?_
                  · go_simp
                    refine hK _ _ ?_
                    clear hK K
                    have k7 := (Kb.refl (fun _ => False) wa).alloc (.cells #[.string x.1.2, .string ⟨#[]⟩] 63)
                    have hnew := World.alloc_heap_new wa (.cells #[.string x.1.2, .string ⟨#[]⟩] 63)
                    have N3 := Aside0.mk (N2.out.kb k7 (fun j h => h.elim))
                    have K3 := Aside0.mk (K2.out.trans (k7.mono (fun _ h => h.elim)))
                    clear k7 N2 K2 c4_2 s1_2 f1_2
                    generalize wa.alloc _ = wb at hnew N3 K3 ⊢
                    have N2 := N3
                    clear N3
                    have K2 := K3
                    clear K3
                    have HU0 := Aside0.mk ((blk_cell hnew 0).trans rfl)
                    have HU1 := Aside0.mk ((blk_cell hnew 1).trans rfl)
                    clear hnew
                    have c4_2 := N2.out.t4.cell
                    have s1_2 := (blk_cell N2.out.st 1).trans rfl
                    have f1_2 := blk_frozen N2.out.st 1
                    refine wpAnyIn_ready (rs := [8]) (by kernel_rfl) (by simp) ?_
                    refine AllReadyIn.cons rfl (fun K hK => ?_) ?_
                    · refine append_E (N := 67) rfl (by rfl) (.tmp 63) (.tmp 66) rfl rfl N2.out.row rfl (u := x.1.2) (u' := ⟨#[]⟩) HU0.out HU1.out (by have := HLL.out.2.2; omega) N2.out.sz ?_
                      intro g3 c3 w3 hr3 hk3
                      refine hK _ _ ?_
                      clear hK K
                      have HK3 := Aside0.mk hk3
                      have HR3 := Aside0.mk hr3
                      have hx3 : ∀ j, (Value.slice A1 l1.length cl1).ownBlock = some j → w.heap.size + 9 ≤ j := fun j h => (own_block N2.out.row h).1
                      have s1_3 := (blk_cell (Kb.blk N2.out.st HK3.out (fun h => by have := hx3 _ h; omega)) 1).trans rfl
                      have f1_3 := blk_frozen (Kb.blk N2.out.st HK3.out (fun h => by have := hx3 _ h; omega)) 1
                      have c4_3 := (bx_kb N2.out.t4 HK3.out (fun h => by have := hx3 _ h; omega)).cell
                      clear hk3 hr3 hx3 c4_2 s1_2 f1_2
                      refine wpAnyIn_take (i := 9) (v := ?v19) rfl rfl (by kernel_rfl) (by kernel_rfl) (by kernel_rfl) (fun _ _ _ h => h) ⟨Or.inl ⟨by rfl, ?hy19⟩, fun _ => rfl⟩ ?_
                      case hy19 => intro w; go_simp; (first | done | (with_reducible rfl))
                      refine wpAnyIn_take (i := 10) (v := ?v20) rfl rfl (by kernel_rfl) (by kernel_rfl) (by kernel_rfl) (fun _ _ _ h => h) ⟨Or.inl ⟨by rfl, ?hy20⟩, fun _ => rfl⟩ ?_
                      case hy20 => intro w; go_simp; (first | done | (with_reducible rfl))
                      refine wpAnyIn_ready (rs := [11]) (by kernel_rfl) (by simp) ?_
                      refine AllReadyIn.cons rfl (fun K hK => ?_) ?_
                      · refine store_E (p := 69) (v := .tmp 67) rfl rfl (by rfl) rfl rfl s1_3 f1_3 ?_
                        intro w4 hw4
                        have HW4 := Aside0.mk hw4
                        clear hw4
                        refine hK _ _ ?_
                        clear hK K
                        skip
                        refine wpAnyIn_done (by kernel_rfl) ?_ _
                        gi_wp2
                        have N4 := Aside0.mk (N2.out.append (HK3.out.mono (fun j h => (own_block N2.out.row h).1)) HR3.out)
                        rw [← HW4.out] at N4
                        have K4 := Aside0.mk ((K2.out.then_ HK3.out (fun j h => .inl (HSWO.out j h))).then_ ((Kb.refl (fun j => j = w.heap.size + 2) w3).setCell (p := ⟨w.heap.size + 2, 1, none⟩) (.inl rfl) (.slice (some ⟨g3, 0, none⟩) (l1.length + 1) c3)) (fun j e => .inl (.inl (by omega))))
                        rw [← HW4.out] at K4
                        refine ⟨by first | exact sw_keeps K4.out | (rw [hsz0]; exact sw_keeps K4.out), sw_b0 K4.out HS9.out, ⟨(plY x).2 :: sn, a1, l1 ++ [(x.1.2, ⟨#[]⟩)], .slice (some ⟨g3, 0, none⟩) (l1.length + 1) c3, ?_, ?_, ?_, below_kb HBW.out (K4.out.mono (fun j h => sw_low h))⟩⟩
                        · rw [List.map_append, List.map_cons, List.map_nil, foldN_snoc _ _ _ _ HF.out.1, stepN_on HST.out HGO.out HNM.out, HLL.out.1, HLL.out.2.1, List.map_append]
                          rfl
                        · rw [List.reverse_append, List.length_append]
                          exact N4.out
                        · rw [List.length_append, List.length_append, HLL.out.2.2]; have := HF.out.2.1; simp; omega
                      exact AllReadyIn.nil
                    exact AllReadyIn.nil
                  exact AllReadyIn.nil
                refine AllReadyIn.cons rfl (fun K hK => ?_) ?_
                · go_simp
                  refine hK _ _ ?_
                  clear hK K
                  have k7 := (Kb.refl (fun _ => False) wa).alloc (.cells #[.string x.1.2, .string ⟨#[]⟩] 63)
                  have hnew := World.alloc_heap_new wa (.cells #[.string x.1.2, .string ⟨#[]⟩] 63)
                  have N3 := Aside0.mk (N2.out.kb k7 (fun j h => h.elim))
                  have K3 := Aside0.mk (K2.out.trans (k7.mono (fun _ h => h.elim)))
                  clear k7 N2 K2 c4_2 s1_2 f1_2
                  generalize wa.alloc _ = wb at hnew N3 K3 ⊢
                  have N2 := N3
                  clear N3
                  have K2 := K3
                  clear K3
                  have HU0 := Aside0.mk ((blk_cell hnew 0).trans rfl)
                  have HU1 := Aside0.mk ((blk_cell hnew 1).trans rfl)
                  clear hnew
                  have c4_2 := N2.out.t4.cell
                  have s1_2 := (blk_cell N2.out.st 1).trans rfl
                  have f1_2 := blk_frozen N2.out.st 1
                  refine wpAnyIn_ready (rs := [0, 8]) (by kernel_rfl) (by simp) ?_
                  refine AllReadyIn.cons rfl (fun K hK => ?_) ?_
                  · go_simp
                    refine hK _ _ ?_
                    clear hK K
                    skip
                    refine wpAnyIn_ready (rs := [8]) (by kernel_rfl) (by simp) ?_
                    refine AllReadyIn.cons rfl (fun K hK => ?_) ?_
                    · refine append_E (N := 67) rfl (by rfl) (.tmp 63) (.tmp 66) rfl rfl N2.out.row rfl (u := x.1.2) (u' := ⟨#[]⟩) HU0.out HU1.out (by have := HLL.out.2.2; omega) N2.out.sz ?_
                      intro g3 c3 w3 hr3 hk3
                      refine hK _ _ ?_
                      clear hK K
                      have HK3 := Aside0.mk hk3
                      have HR3 := Aside0.mk hr3
                      have hx3 : ∀ j, (Value.slice A1 l1.length cl1).ownBlock = some j → w.heap.size + 9 ≤ j := fun j h => (own_block N2.out.row h).1
                      have s1_3 := (blk_cell (Kb.blk N2.out.st HK3.out (fun h => by have := hx3 _ h; omega)) 1).trans rfl
                      have f1_3 := blk_frozen (Kb.blk N2.out.st HK3.out (fun h => by have := hx3 _ h; omega)) 1
                      have c4_3 := (bx_kb N2.out.t4 HK3.out (fun h => by have := hx3 _ h; omega)).cell
                      clear hk3 hr3 hx3 c4_2 s1_2 f1_2
                      refine wpAnyIn_take (i := 9) (v := ?v21) rfl rfl (by kernel_rfl) (by kernel_rfl) (by kernel_rfl) (fun _ _ _ h => h) ⟨Or.inl ⟨by rfl, ?hy21⟩, fun _ => rfl⟩ ?_
                      case hy21 => intro w; go_simp; (first | done | (with_reducible rfl))
                      refine wpAnyIn_take (i := 10) (v := ?v22) rfl rfl (by kernel_rfl) (by kernel_rfl) (by kernel_rfl) (fun _ _ _ h => h) ⟨Or.inl ⟨by rfl, ?hy22⟩, fun _ => rfl⟩ ?_
                      case hy22 => intro w; go_simp; (first | done | (with_reducible rfl))
                      refine wpAnyIn_ready (rs := [11]) (by kernel_rfl) (by simp) ?_
                      refine AllReadyIn.cons rfl (fun K hK => ?_) ?_
                      · refine store_E (p := 69) (v := .tmp 67) rfl rfl (by rfl) rfl rfl s1_3 f1_3 ?_
                        intro w4 hw4
                        have HW4 := Aside0.mk hw4
                        clear hw4
                        refine hK _ _ ?_
                        clear hK K
                        skip
                        refine wpAnyIn_done (by kernel_rfl) ?_ _
                        gi_wp2
                        have N4 := Aside0.mk (N2.out.append (HK3.out.mono (fun j h => (own_block N2.out.row h).1)) HR3.out)
                        rw [← HW4.out] at N4
                        have K4 := Aside0.mk ((K2.out.then_ HK3.out (fun j h => .inl (HSWO.out j h))).then_ ((Kb.refl (fun j => j = w.heap.size + 2) w3).setCell (p := ⟨w.heap.size + 2, 1, none⟩) (.inl rfl) (.slice (some ⟨g3, 0, none⟩) (l1.length + 1) c3)) (fun j e => .inl (.inl (by omega))))
                        rw [← HW4.out] at K4
                        refine ⟨by first | exact sw_keeps K4.out | (rw [hsz0]; exact sw_keeps K4.out), sw_b0 K4.out HS9.out, ⟨(plY x).2 :: sn, a1, l1 ++ [(x.1.2, ⟨#[]⟩)], .slice (some ⟨g3, 0, none⟩) (l1.length + 1) c3, ?_, ?_, ?_, below_kb HBW.out (K4.out.mono (fun j h => sw_low h))⟩⟩
                        · rw [List.map_append, List.map_cons, List.map_nil, foldN_snoc _ _ _ _ HF.out.1, stepN_on HST.out HGO.out HNM.out, HLL.out.1, HLL.out.2.1, List.map_append]
                          rfl
                        · rw [List.reverse_append, List.length_append]
                          exact N4.out
                        · rw [List.length_append, List.length_append, HLL.out.2.2]; have := HF.out.2.1; simp; omega
                      exact AllReadyIn.nil
                    exact AllReadyIn.nil
                  refine AllReadyIn.cons rfl (fun K hK => ?_) ?_
                  · refine append_E (N := 67) rfl (by rfl) (.tmp 63) (.tmp 66) rfl rfl N2.out.row rfl (u := x.1.2) (u' := ⟨#[]⟩) HU0.out HU1.out (by have := HLL.out.2.2; omega) N2.out.sz ?_
                    intro g3 c3 w3 hr3 hk3
                    refine hK _ _ ?_
                    clear hK K
                    have HK3 := Aside0.mk hk3
                    have HR3 := Aside0.mk hr3
                    have hx3 : ∀ j, (Value.slice A1 l1.length cl1).ownBlock = some j → w.heap.size + 9 ≤ j := fun j h => (own_block N2.out.row h).1
                    have s1_3 := (blk_cell (Kb.blk N2.out.st HK3.out (fun h => by have := hx3 _ h; omega)) 1).trans rfl
                    have f1_3 := blk_frozen (Kb.blk N2.out.st HK3.out (fun h => by have := hx3 _ h; omega)) 1
                    have c4_3 := (bx_kb N2.out.t4 HK3.out (fun h => by have := hx3 _ h; omega)).cell
                    clear hk3 hr3 hx3 c4_2 s1_2 f1_2
                    refine wpAnyIn_ready (rs := [0]) (by kernel_rfl) (by simp) ?_
                    refine AllReadyIn.cons rfl (fun K hK => ?_) ?_
                    · go_simp
                      refine hK _ _ ?_
                      clear hK K
                      skip
                      refine wpAnyIn_take (i := 9) (v := ?v23) rfl rfl (by kernel_rfl) (by kernel_rfl) (by kernel_rfl) (fun _ _ _ h => h) ⟨Or.inl ⟨by rfl, ?hy23⟩, fun _ => rfl⟩ ?_
                      case hy23 => intro w; go_simp; (first | done | (with_reducible rfl))
                      refine wpAnyIn_take (i := 10) (v := ?v24) rfl rfl (by kernel_rfl) (by kernel_rfl) (by kernel_rfl) (fun _ _ _ h => h) ⟨Or.inl ⟨by rfl, ?hy24⟩, fun _ => rfl⟩ ?_
                      case hy24 => intro w; go_simp; (first | done | (with_reducible rfl))
                      refine wpAnyIn_ready (rs := [11]) (by kernel_rfl) (by simp) ?_
                      refine AllReadyIn.cons rfl (fun K hK => ?_) ?_
                      · refine store_E (p := 69) (v := .tmp 67) rfl rfl (by rfl) rfl rfl s1_3 f1_3 ?_
                        intro w4 hw4
                        have HW4 := Aside0.mk hw4
                        clear hw4
                        refine hK _ _ ?_
                        clear hK K
                        skip
                        refine wpAnyIn_done (by kernel_rfl) ?_ _
                        gi_wp2
                        have N4 := Aside0.mk (N2.out.append (HK3.out.mono (fun j h => (own_block N2.out.row h).1)) HR3.out)
                        rw [← HW4.out] at N4
                        have K4 := Aside0.mk ((K2.out.then_ HK3.out (fun j h => .inl (HSWO.out j h))).then_ ((Kb.refl (fun j => j = w.heap.size + 2) w3).setCell (p := ⟨w.heap.size + 2, 1, none⟩) (.inl rfl) (.slice (some ⟨g3, 0, none⟩) (l1.length + 1) c3)) (fun j e => .inl (.inl (by omega))))
                        rw [← HW4.out] at K4
                        refine ⟨by first | exact sw_keeps K4.out | (rw [hsz0]; exact sw_keeps K4.out), sw_b0 K4.out HS9.out, ⟨(plY x).2 :: sn, a1, l1 ++ [(x.1.2, ⟨#[]⟩)], .slice (some ⟨g3, 0, none⟩) (l1.length + 1) c3, ?_, ?_, ?_, below_kb HBW.out (K4.out.mono (fun j h => sw_low h))⟩⟩
                        · rw [List.map_append, List.map_cons, List.map_nil, foldN_snoc _ _ _ _ HF.out.1, stepN_on HST.out HGO.out HNM.out, HLL.out.1, HLL.out.2.1, List.map_append]
                          rfl
                        · rw [List.reverse_append, List.length_append]
                          exact N4.out
                        · rw [List.length_append, List.length_append, HLL.out.2.2]; have := HF.out.2.1; simp; omega
                      exact AllReadyIn.nil
                    exact AllReadyIn.nil
                  exact AllReadyIn.nil
                exact AllReadyIn.nil
              refine AllReadyIn.cons rfl (fun K hK => ?_) ?_
              · go_simp
                refine hK _ _ ?_
                clear hK K
                have k7 := (Kb.refl (fun _ => False) wa).alloc (.cells #[.string x.1.2, .string ⟨#[]⟩] 63)
                have hnew := World.alloc_heap_new wa (.cells #[.string x.1.2, .string ⟨#[]⟩] 63)
                have N3 := Aside0.mk (N2.out.kb k7 (fun j h => h.elim))
                have K3 := Aside0.mk (K2.out.trans (k7.mono (fun _ h => h.elim)))
                clear k7 N2 K2 c4_2 s1_2 f1_2
                generalize wa.alloc _ = wb at hnew N3 K3 ⊢
                have N2 := N3
                clear N3
                have K2 := K3
                clear K3
                have HU0 := Aside0.mk ((blk_cell hnew 0).trans rfl)
                have HU1 := Aside0.mk ((blk_cell hnew 1).trans rfl)
                clear hnew
                have c4_2 := N2.out.t4.cell
                have s1_2 := (blk_cell N2.out.st 1).trans rfl
                have f1_2 := blk_frozen N2.out.st 1
                refine wpAnyIn_ready (rs := [0, 4]) (by kernel_rfl) (by simp) ?_
                refine AllReadyIn.cons rfl (fun K hK => ?_) ?_
                · go_simp
                  refine hK _ _ ?_
                  clear hK K
                  skip
                  refine wpAnyIn_ready (rs := [4]) (by kernel_rfl) (by simp) ?_
                  refine AllReadyIn.cons rfl (fun K hK => ?_) ?_
                  · go_simp
                    refine hK _ _ ?_
                    clear hK K
                    skip
                    refine wpAnyIn_ready (rs := [8]) (by kernel_rfl) (by simp) ?_
                    refine AllReadyIn.cons rfl (fun K hK => ?_) ?_
                    · refine append_E (N := 67) rfl (by rfl) (.tmp 63) (.tmp 66) rfl rfl N2.out.row rfl (u := x.1.2) (u' := ⟨#[]⟩) HU0.out HU1.out (by have := HLL.out.2.2; omega) N2.out.sz ?_
                      intro g3 c3 w3 hr3 hk3
                      refine hK _ _ ?_
                      clear hK K
                      have HK3 := Aside0.mk hk3
                      have HR3 := Aside0.mk hr3
                      have hx3 : ∀ j, (Value.slice A1 l1.length cl1).ownBlock = some j → w.heap.size + 9 ≤ j := fun j h => (own_block N2.out.row h).1
                      have s1_3 := (blk_cell (Kb.blk N2.out.st HK3.out (fun h => by have := hx3 _ h; omega)) 1).trans rfl
                      have f1_3 := blk_frozen (Kb.blk N2.out.st HK3.out (fun h => by have := hx3 _ h; omega)) 1
                      have c4_3 := (bx_kb N2.out.t4 HK3.out (fun h => by have := hx3 _ h; omega)).cell
                      clear hk3 hr3 hx3 c4_2 s1_2 f1_2
                      refine wpAnyIn_take (i := 9) (v := ?v25) rfl rfl (by kernel_rfl) (by kernel_rfl) (by kernel_rfl) (fun _ _ _ h => h) ⟨Or.inl ⟨by rfl, ?hy25⟩, fun _ => rfl⟩ ?_
                      case hy25 => intro w; go_simp; (first | done | (with_reducible rfl))
                      refine wpAnyIn_take (i := 10) (v := ?v26) rfl rfl (by kernel_rfl) (by kernel_rfl) (by kernel_rfl) (fun _ _ _ h => h) ⟨Or.inl ⟨by rfl, ?hy26⟩, fun _ => rfl⟩ ?_
                      case hy26 => intro w; go_simp; (first | done | (with_reducible rfl))
                      refine wpAnyIn_ready (rs := [11]) (by kernel_rfl) (by simp) ?_
                      refine AllReadyIn.cons rfl (fun K hK => ?_) ?_
                      · refine store_E (p := 69) (v := .tmp 67) rfl rfl (by rfl) rfl rfl s1_3 f1_3 ?_
                        intro w4 hw4
                        have HW4 := Aside0.mk hw4
                        clear hw4
                        refine hK _ _ ?_
                        clear hK K
                        skip
                        refine wpAnyIn_done (by kernel_rfl) ?_ _
                        gi_wp2
                        have N4 := Aside0.mk (N2.out.append (HK3.out.mono (fun j h => (own_block N2.out.row h).1)) HR3.out)
                        rw [← HW4.out] at N4
                        have K4 := Aside0.mk ((K2.out.then_ HK3.out (fun j h => .inl (HSWO.out j h))).then_ ((Kb.refl (fun j => j = w.heap.size + 2) w3).setCell (p := ⟨w.heap.size + 2, 1, none⟩) (.inl rfl) (.slice (some ⟨g3, 0, none⟩) (l1.length + 1) c3)) (fun j e => .inl (.inl (by omega))))
                        rw [← HW4.out] at K4
                        refine ⟨by first | exact sw_keeps K4.out | (rw [hsz0]; exact sw_keeps K4.out), sw_b0 K4.out HS9.out, ⟨(plY x).2 :: sn, a1, l1 ++ [(x.1.2, ⟨#[]⟩)], .slice (some ⟨g3, 0, none⟩) (l1.length + 1) c3, ?_, ?_, ?_, below_kb HBW.out (K4.out.mono (fun j h => sw_low h))⟩⟩
                        · rw [List.map_append, List.map_cons, List.map_nil, foldN_snoc _ _ _ _ HF.out.1, stepN_on HST.out HGO.out HNM.out, HLL.out.1, HLL.out.2.1, List.map_append]
                          rfl
                        · rw [List.reverse_append, List.length_append]
                          exact N4.out
                        · rw [List.length_append, List.length_append, HLL.out.2.2]; have := HF.out.2.1; simp; omega
                      exact AllReadyIn.nil
                    exact AllReadyIn.nil
                  exact AllReadyIn.nil
                refine AllReadyIn.cons rfl (fun K hK => ?_) ?_
                · go_simp
                  refine hK _ _ ?_
                  clear hK K
                  skip
                  refine wpAnyIn_ready (rs := [0, 8]) (by kernel_rfl) (by simp) ?_
                  refine AllReadyIn.cons rfl (fun K hK => ?_) ?_
                  · go_simp
                    refine hK _ _ ?_
                    clear hK K
                    skip
                    refine wpAnyIn_ready (rs := [8]) (by kernel_rfl) (by simp) ?_
                    refine AllReadyIn.cons rfl (fun K hK => ?_) ?_
                    · refine append_E (N := 67) rfl (by rfl) (.tmp 63) (.tmp 66) rfl rfl N2.out.row rfl (u := x.1.2) (u' := ⟨#[]⟩) HU0.out HU1.out (by have := HLL.out.2.2; omega) N2.out.sz ?_
                      intro g3 c3 w3 hr3 hk3
                      refine hK _ _ ?_
                      clear hK K
                      have HK3 := Aside0.mk hk3
                      have HR3 := Aside0.mk hr3
                      have hx3 : ∀ j, (Value.slice A1 l1.length cl1).ownBlock = some j → w.heap.size + 9 ≤ j := fun j h => (own_block N2.out.row h).1
                      have s1_3 := (blk_cell (Kb.blk N2.out.st HK3.out (fun h => by have := hx3 _ h; omega)) 1).trans rfl
                      have f1_3 := blk_frozen (Kb.blk N2.out.st HK3.out (fun h => by have := hx3 _ h; omega)) 1
                      have c4_3 := (bx_kb N2.out.t4 HK3.out (fun h => by have := hx3 _ h; omega)).cell
                      clear hk3 hr3 hx3 c4_2 s1_2 f1_2
                      refine wpAnyIn_take (i := 9) (v := ?v27) rfl rfl (by kernel_rfl) (by kernel_rfl) (by kernel_rfl) (fun _ _ _ h => h) ⟨Or.inl ⟨by rfl, ?hy27⟩, fun _ => rfl⟩ ?_
                      case hy27 => intro w; go_simp; (first | done | (with_reducible rfl))
                      refine wpAnyIn_take (i := 10) (v := ?v28) rfl rfl (by kernel_rfl) (by kernel_rfl) (by kernel_rfl) (fun _ _ _ h => h) ⟨Or.inl ⟨by rfl, ?hy28⟩, fun _ => rfl⟩ ?_
                      case hy28 => intro w; go_simp; (first | done | (with_reducible rfl))
                      refine wpAnyIn_ready (rs := [11]) (by kernel_rfl) (by simp) ?_
                      refine AllReadyIn.cons rfl (fun K hK => ?_) ?_
                      · refine store_E (p := 69) (v := .tmp 67) rfl rfl (by rfl) rfl rfl s1_3 f1_3 ?_
                        intro w4 hw4
                        have HW4 := Aside0.mk hw4
                        clear hw4
                        refine hK _ _ ?_
                        clear hK K
                        skip
                        refine wpAnyIn_done (by kernel_rfl) ?_ _
                        gi_wp2
                        have N4 := Aside0.mk (N2.out.append (HK3.out.mono (fun j h => (own_block N2.out.row h).1)) HR3.out)
                        rw [← HW4.out] at N4
                        have K4 := Aside0.mk ((K2.out.then_ HK3.out (fun j h => .inl (HSWO.out j h))).then_ ((Kb.refl (fun j => j = w.heap.size + 2) w3).setCell (p := ⟨w.heap.size + 2, 1, none⟩) (.inl rfl) (.slice (some ⟨g3, 0, none⟩) (l1.length + 1) c3)) (fun j e => .inl (.inl (by omega))))
                        rw [← HW4.out] at K4
                        refine ⟨by first | exact sw_keeps K4.out | (rw [hsz0]; exact sw_keeps K4.out), sw_b0 K4.out HS9.out, ⟨(plY x).2 :: sn, a1, l1 ++ [(x.1.2, ⟨#[]⟩)], .slice (some ⟨g3, 0, none⟩) (l1.length + 1) c3, ?_, ?_, ?_, below_kb HBW.out (K4.out.mono (fun j h => sw_low h))⟩⟩
                        · rw [List.map_append, List.map_cons, List.map_nil, foldN_snoc _ _ _ _ HF.out.1, stepN_on HST.out HGO.out HNM.out, HLL.out.1, HLL.out.2.1, List.map_append]
                          rfl
                        · rw [List.reverse_append, List.length_append]
                          exact N4.out
                        · rw [List.length_append, List.length_append, HLL.out.2.2]; have := HF.out.2.1; simp; omega
                      exact AllReadyIn.nil
                    exact AllReadyIn.nil
                  refine AllReadyIn.cons rfl (fun K hK => ?_) ?_
                  · refine append_E (N := 67) rfl (by rfl) (.tmp 63) (.tmp 66) rfl rfl N2.out.row rfl (u := x.1.2) (u' := ⟨#[]⟩) HU0.out HU1.out (by have := HLL.out.2.2; omega) N2.out.sz ?_
                    intro g3 c3 w3 hr3 hk3
                    refine hK _ _ ?_
                    clear hK K
                    have HK3 := Aside0.mk hk3
                    have HR3 := Aside0.mk hr3
                    have hx3 : ∀ j, (Value.slice A1 l1.length cl1).ownBlock = some j → w.heap.size + 9 ≤ j := fun j h => (own_block N2.out.row h).1
                    have s1_3 := (blk_cell (Kb.blk N2.out.st HK3.out (fun h => by have := hx3 _ h; omega)) 1).trans rfl
                    have f1_3 := blk_frozen (Kb.blk N2.out.st HK3.out (fun h => by have := hx3 _ h; omega)) 1
                    have c4_3 := (bx_kb N2.out.t4 HK3.out (fun h => by have := hx3 _ h; omega)).cell
                    clear hk3 hr3 hx3 c4_2 s1_2 f1_2
                    refine wpAnyIn_ready (rs := [0]) (by kernel_rfl) (by simp) ?_
                    refine AllReadyIn.cons rfl (fun K hK => ?_) ?_
                    · go_simp
                      refine hK _ _ ?_
                      clear hK K
                      skip
                      refine wpAnyIn_take (i := 9) (v := ?v29) rfl rfl (by kernel_rfl) (by kernel_rfl) (by kernel_rfl) (fun _ _ _ h => h) ⟨Or.inl ⟨by rfl, ?hy29⟩, fun _ => rfl⟩ ?_
                      case hy29 => intro w; go_simp; (first | done | (with_reducible rfl))
                      refine wpAnyIn_take (i := 10) (v := ?v30) rfl rfl (by kernel_rfl) (by kernel_rfl) (by kernel_rfl) (fun _ _ _ h => h) ⟨Or.inl ⟨by rfl, ?hy30⟩, fun _ => rfl⟩ ?_
                      case hy30 => intro w; go_simp; (first | done | (with_reducible rfl))
                      refine wpAnyIn_ready (rs := [11]) (by kernel_rfl) (by simp) ?_
                      refine AllReadyIn.cons rfl (fun K hK => ?_) ?_
                      · refine store_E (p := 69) (v := .tmp 67) rfl rfl (by rfl) rfl rfl s1_3 f1_3 ?_
                        intro w4 hw4
                        have HW4 := Aside0.mk hw4
                        clear hw4
                        refine hK _ _ ?_
                        clear hK K
                        skip
                        refine wpAnyIn_done (by kernel_rfl) ?_ _
                        gi_wp2
                        have N4 := Aside0.mk (N2.out.append (HK3.out.mono (fun j h => (own_block N2.out.row h).1)) HR3.out)
                        rw [← HW4.out] at N4
                        have K4 := Aside0.mk ((K2.out.then_ HK3.out (fun j h => .inl (HSWO.out j h))).then_ ((Kb.refl (fun j => j = w.heap.size + 2) w3).setCell (p := ⟨w.heap.size + 2, 1, none⟩) (.inl rfl) (.slice (some ⟨g3, 0, none⟩) (l1.length + 1) c3)) (fun j e => .inl (.inl (by omega))))
                        rw [← HW4.out] at K4
                        refine ⟨by first | exact sw_keeps K4.out | (rw [hsz0]; exact sw_keeps K4.out), sw_b0 K4.out HS9.out, ⟨(plY x).2 :: sn, a1, l1 ++ [(x.1.2, ⟨#[]⟩)], .slice (some ⟨g3, 0, none⟩) (l1.length + 1) c3, ?_, ?_, ?_, below_kb HBW.out (K4.out.mono (fun j h => sw_low h))⟩⟩
                        · rw [List.map_append, List.map_cons, List.map_nil, foldN_snoc _ _ _ _ HF.out.1, stepN_on HST.out HGO.out HNM.out, HLL.out.1, HLL.out.2.1, List.map_append]
                          rfl
                        · rw [List.reverse_append, List.length_append]
                          exact N4.out
                        · rw [List.length_append, List.length_append, HLL.out.2.2]; have := HF.out.2.1; simp; omega
                      exact AllReadyIn.nil
                    exact AllReadyIn.nil
                  exact AllReadyIn.nil
                exact AllReadyIn.nil
              exact AllReadyIn.nil
            refine AllReadyIn.cons rfl (fun K hK => ?_) ?_
            · go_simp
              refine hK _ _ ?_
              clear hK K
              have k7 := (Kb.refl (fun _ => False) wa).alloc (.cells #[.string x.1.2, .string ⟨#[]⟩] 63)
              have hnew := World.alloc_heap_new wa (.cells #[.string x.1.2, .string ⟨#[]⟩] 63)
              have N3 := Aside0.mk (N2.out.kb k7 (fun j h => h.elim))
              have K3 := Aside0.mk (K2.out.trans (k7.mono (fun _ h => h.elim)))
              clear k7 N2 K2 c4_2 s1_2 f1_2
              generalize wa.alloc _ = wb at hnew N3 K3 ⊢
              have N2 := N3
              clear N3
              have K2 := K3
              clear K3
              have HU0 := Aside0.mk ((blk_cell hnew 0).trans rfl)
              have HU1 := Aside0.mk ((blk_cell hnew 1).trans rfl)
              clear hnew
              have c4_2 := N2.out.t4.cell
              have s1_2 := (blk_cell N2.out.st 1).trans rfl
              have f1_2 := blk_frozen N2.out.st 1
              refine wpAnyIn_ready (rs := [0, 1]) (by kernel_rfl) (by simp) ?_
              refine AllReadyIn.cons rfl (fun K hK => ?_) ?_
              · go_simp
                refine hK _ _ ?_
                clear hK K
                skip
                refine wpAnyIn_ready (rs := [1]) (by kernel_rfl) (by simp) ?_
                refine AllReadyIn.cons rfl (fun K hK => ?_) ?_
                · go_simp
                  refine hK _ _ ?_
                  clear hK K
                  skip
                  refine wpAnyIn_take (i := 2) (v := ?v31) rfl rfl (by kernel_rfl) (by kernel_rfl) (by kernel_rfl) (fun _ _ _ h => h) ⟨Or.inl ⟨by rfl, ?hy31⟩, fun _ => rfl⟩ ?_
                  case hy31 => intro w; go_simp; (first | done | (with_reducible rfl))
                  refine wpAnyIn_take (i := 3) (v := ?v32) rfl rfl (by kernel_rfl) (by kernel_rfl) (by kernel_rfl) (fun _ _ _ h => h) ⟨Or.inl ⟨by rfl, ?hy32⟩, fun _ => rfl⟩ ?_
                  case hy32 => intro w; go_simp; (first | done | (with_reducible rfl))
                  refine wpAnyIn_ready (rs := [4]) (by kernel_rfl) (by simp) ?_
                  refine AllReadyIn.cons rfl (fun K hK => ?_) ?_
                  · go_simp
                    refine hK _ _ ?_
                    clear hK K
                    skip
                    refine wpAnyIn_ready (rs := [8]) (by kernel_rfl) (by simp) ?_
                    refine AllReadyIn.cons rfl (fun K hK => ?_) ?_
                    · refine append_E (N := 67) rfl (by rfl) (.tmp 63) (.tmp 66) rfl rfl N2.out.row rfl (u := x.1.2) (u' := ⟨#[]⟩) HU0.out HU1.out (by have := HLL.out.2.2; omega) N2.out.sz ?_
                      intro g3 c3 w3 hr3 hk3
                      refine hK _ _ ?_
                      clear hK K
                      have HK3 := Aside0.mk hk3
                      have HR3 := Aside0.mk hr3
                      have hx3 : ∀ j, (Value.slice A1 l1.length cl1).ownBlock = some j → w.heap.size + 9 ≤ j := fun j h => (own_block N2.out.row h).1
                      have s1_3 := (blk_cell (Kb.blk N2.out.st HK3.out (fun h => by have := hx3 _ h; omega)) 1).trans rfl
                      have f1_3 := blk_frozen (Kb.blk N2.out.st HK3.out (fun h => by have := hx3 _ h; omega)) 1
                      have c4_3 := (bx_kb N2.out.t4 HK3.out (fun h => by have := hx3 _ h; omega)).cell
                      clear hk3 hr3 hx3 c4_2 s1_2 f1_2
                      refine wpAnyIn_take (i := 9) (v := ?v33) rfl rfl (by kernel_rfl) (by kernel_rfl) (by kernel_rfl) (fun _ _ _ h => h) ⟨Or.inl ⟨by rfl, ?hy33⟩, fun _ => rfl⟩ ?_
                      case hy33 => intro w; go_simp; (first | done | (with_reducible rfl))
                      refine wpAnyIn_take (i := 10) (v := ?v34) rfl rfl (by kernel_rfl) (by kernel_rfl) (by kernel_rfl) (fun _ _ _ h => h) ⟨Or.inl ⟨by rfl, ?hy34⟩, fun _ => rfl⟩ ?_
                      case hy34 => intro w; go_simp; (first | done | (with_reducible rfl))
                      refine wpAnyIn_ready (rs := [11]) (by kernel_rfl) (by simp) ?_
                      refine AllReadyIn.cons rfl (fun K hK => ?_) ?_
                      · refine store_E (p := 69) (v := .tmp 67) rfl rfl (by rfl) rfl rfl s1_3 f1_3 ?_
                        intro w4 hw4
                        have HW4 := Aside0.mk hw4
                        clear hw4
                        refine hK _ _ ?_
                        clear hK K
                        skip
                        refine wpAnyIn_done (by kernel_rfl) ?_ _
                        gi_wp2
                        have N4 := Aside0.mk (N2.out.append (HK3.out.mono (fun j h => (own_block N2.out.row h).1)) HR3.out)
                        rw [← HW4.out] at N4
                        have K4 := Aside0.mk ((K2.out.then_ HK3.out (fun j h => .inl (HSWO.out j h))).then_ ((Kb.refl (fun j => j = w.heap.size + 2) w3).setCell (p := ⟨w.heap.size + 2, 1, none⟩) (.inl rfl) (.slice (some ⟨g3, 0, none⟩) (l1.length + 1) c3)) (fun j e => .inl (.inl (by omega))))
                        rw [← HW4.out] at K4
                        refine ⟨by first | exact sw_keeps K4.out | (rw [hsz0]; exact sw_keeps K4.out), sw_b0 K4.out HS9.out, ⟨(plY x).2 :: sn, a1, l1 ++ [(x.1.2, ⟨#[]⟩)], .slice (some ⟨g3, 0, none⟩) (l1.length + 1) c3, ?_, ?_, ?_, below_kb HBW.out (K4.out.mono (fun j h => sw_low h))⟩⟩
                        · rw [List.map_append, List.map_cons, List.map_nil, foldN_snoc _ _ _ _ HF.out.1, stepN_on HST.out HGO.out HNM.out, HLL.out.1, HLL.out.2.1, List.map_append]
                          rfl
                        · rw [List.reverse_append, List.length_append]
                          exact N4.out
                        · rw [List.length_append, List.length_append, HLL.out.2.2]; have := HF.out.2.1; simp; omega
                      exact AllReadyIn.nil
                    exact AllReadyIn.nil
                  exact AllReadyIn.nil
                exact AllReadyIn.nil
              refine AllReadyIn.cons rfl (fun K hK => ?_) ?_
              · go_simp
                refine hK _ _ ?_
                clear hK K
                skip
                refine wpAnyIn_take (i := 2) (v := ?v35) rfl rfl (by kernel_rfl) (by kernel_rfl) (by kernel_rfl) (fun _ _ _ h => h) ⟨Or.inl ⟨by rfl, ?hy35⟩, fun _ => rfl⟩ ?_
                case hy35 => intro w; go_simp; (first | done | (with_reducible rfl))
                refine wpAnyIn_take (i := 3) (v := ?v36) rfl rfl (by kernel_rfl) (by kernel_rfl) (by kernel_rfl) (fun _ _ _ h => h) ⟨Or.inl ⟨by rfl, ?hy36⟩, fun _ => rfl⟩ ?_
                case hy36 => intro w; go_simp; (first | done | (with_reducible rfl))
                refine wpAnyIn_ready (rs := [0, 4]) (by kernel_rfl) (by simp) ?_
                refine AllReadyIn.cons rfl (fun K hK => ?_) ?_
                · go_simp
                  refine hK _ _ ?_
                  clear hK K
                  skip
                  refine wpAnyIn_ready (rs := [4]) (by kernel_rfl) (by simp) ?_
                  refine AllReadyIn.cons rfl (fun K hK => ?_) ?_
                  · go_simp
                    refine hK _ _ ?_
                    clear hK K
                    skip
                    refine wpAnyIn_ready (rs := [8]) (by kernel_rfl) (by simp) ?_
                    refine AllReadyIn.cons rfl (fun K hK => ?_) ?_
                    · refine append_E (N := 67) rfl (by rfl) (.tmp 63) (.tmp 66) rfl rfl N2.out.row rfl (u := x.1.2) (u' := ⟨#[]⟩) HU0.out HU1.out (by have := HLL.out.2.2; omega) N2.out.sz ?_
                      intro g3 c3 w3 hr3 hk3
                      refine hK _ _ ?_
                      clear hK K
                      have HK3 := Aside0.mk hk3
                      have HR3 := Aside0.mk hr3
                      have hx3 : ∀ j, (Value.slice A1 l1.length cl1).ownBlock = some j → w.heap.size + 9 ≤ j := fun j h => (own_block N2.out.row h).1
                      have s1_3 := (blk_cell (Kb.blk N2.out.st HK3.out (fun h => by have := hx3 _ h; omega)) 1).trans rfl
                      have f1_3 := blk_frozen (Kb.blk N2.out.st HK3.out (fun h => by have := hx3 _ h; omega)) 1
                      have c4_3 := (bx_kb N2.out.t4 HK3.out (fun h => by have := hx3 _ h; omega)).cell
                      clear hk3 hr3 hx3 c4_2 s1_2 f1_2
                      refine wpAnyIn_take (i := 9) (v := ?v37) rfl rfl (by kernel_rfl) (by kernel_rfl) (by kernel_rfl) (fun _ _ _ h => h) ⟨Or.inl ⟨by rfl, ?hy37⟩, fun _ => rfl⟩ ?_
                      case hy37 => intro w; go_simp; (first | done | (with_reducible rfl))
                      refine wpAnyIn_take (i := 10) (v := ?v38) rfl rfl (by kernel_rfl) (by kernel_rfl) (by kernel_rfl) (fun _ _ _ h => h) ⟨Or.inl ⟨by rfl, ?hy38⟩, fun _ => rfl⟩ ?_
                      case hy38 => intro w; go_simp; (first | done | (with_reducible rfl))
                      refine wpAnyIn_ready (rs := [11]) (by kernel_rfl) (by simp) ?_
                      refine AllReadyIn.cons rfl (fun K hK => ?_) ?_
                      · refine store_E (p := 69) (v := .tmp 67) rfl rfl (by rfl) rfl rfl s1_3 f1_3 ?_
                        intro w4 hw4
                        have HW4 := Aside0.mk hw4
                        clear hw4
                        refine hK _ _ ?_
                        clear hK K
                        skip
                        refine wpAnyIn_done (by kernel_rfl) ?_ _
                        gi_wp2
                        have N4 := Aside0.mk (N2.out.append (HK3.out.mono (fun j h => (own_block N2.out.row h).1)) HR3.out)
                        rw [← HW4.out] at N4
                        have K4 := Aside0.mk ((K2.out.then_ HK3.out (fun j h => .inl (HSWO.out j h))).then_ ((Kb.refl (fun j => j = w.heap.size + 2) w3).setCell (p := ⟨w.heap.size + 2, 1, none⟩) (.inl rfl) (.slice (some ⟨g3, 0, none⟩) (l1.length + 1) c3)) (fun j e => .inl (.inl (by omega))))
                        rw [← HW4.out] at K4
                        refine ⟨by first | exact sw_keeps K4.out | (rw [hsz0]; exact sw_keeps K4.out), sw_b0 K4.out HS9.out, ⟨(plY x).2 :: sn, a1, l1 ++ [(x.1.2, ⟨#[]⟩)], .slice (some ⟨g3, 0, none⟩) (l1.length + 1) c3, ?_, ?_, ?_, below_kb HBW.out (K4.out.mono (fun j h => sw_low h))⟩⟩
                        · rw [List.map_append, List.map_cons, List.map_nil, foldN_snoc _ _ _ _ HF.out.1, stepN_on HST.out HGO.out HNM.out, HLL.out.1, HLL.out.2.1, List.map_append]
                          rfl
                        · rw [List.reverse_append, List.length_append]
                          exact N4.out
                        · rw [List.length_append, List.length_append, HLL.out.2.2]; have := HF.out.2.1; simp; omega
                      exact AllReadyIn.nil
                    exact AllReadyIn.nil
                  exact AllReadyIn.nil
                refine AllReadyIn.cons rfl (fun K hK => ?_) ?_
                · go_simp
                  refine hK _ _ ?_
                  clear hK K
                  skip
                  refine wpAnyIn_ready (rs := [0, 8]) (by kernel_rfl) (by simp) ?_
                  refine AllReadyIn.cons rfl (fun K hK => ?_) ?_
                  · go_simp
                    refine hK _ _ ?_
                    clear hK K
                    skip
                    refine wpAnyIn_ready (rs := [8]) (by kernel_rfl) (by simp) ?_
                    refine AllReadyIn.cons rfl (fun K hK => ?_) ?_
                    · refine append_E (N := 67) rfl (by rfl) (.tmp 63) (.tmp 66) rfl rfl N2.out.row rfl (u := x.1.2) (u' := ⟨#[]⟩) HU0.out HU1.out (by have := HLL.out.2.2; omega) N2.out.sz ?_
                      intro g3 c3 w3 hr3 hk3
                      refine hK _ _ ?_
                      clear hK K
                      have HK3 := Aside0.mk hk3
                      have HR3 := Aside0.mk hr3
                      have hx3 : ∀ j, (Value.slice A1 l1.length cl1).ownBlock = some j → w.heap.size + 9 ≤ j := fun j h => (own_block N2.out.row h).1
                      have s1_3 := (blk_cell (Kb.blk N2.out.st HK3.out (fun h => by have := hx3 _ h; omega)) 1).trans rfl
                      have f1_3 := blk_frozen (Kb.blk N2.out.st HK3.out (fun h => by have := hx3 _ h; omega)) 1
                      have c4_3 := (bx_kb N2.out.t4 HK3.out (fun h => by have := hx3 _ h; omega)).cell
                      clear hk3 hr3 hx3 c4_2 s1_2 f1_2
                      refine wpAnyIn_take (i := 9) (v := ?v39) rfl rfl (by kernel_rfl) (by kernel_rfl) (by kernel_rfl) (fun _ _ _ h => h) ⟨Or.inl ⟨by rfl, ?hy39⟩, fun _ => rfl⟩ ?_
                      case hy39 => intro w; go_simp; (first | done | (with_reducible rfl))
                      refine wpAnyIn_take (i := 10) (v := ?v40) rfl rfl (by kernel_rfl) (by kernel_rfl) (by kernel_rfl) (fun _ _ _ h => h) ⟨Or.inl ⟨by rfl, ?hy40⟩, fun _ => rfl⟩ ?_
                      case hy40 => intro w; go_simp; (first | done | (with_reducible rfl))
                      refine wpAnyIn_ready (rs := [11]) (by kernel_rfl) (by simp) ?_
                      refine AllReadyIn.cons rfl (fun K hK => ?_) ?_
                      · refine store_E (p := 69) (v := .tmp 67) rfl rfl (by rfl) rfl rfl s1_3 f1_3 ?_
                        intro w4 hw4
                        have HW4 := Aside0.mk hw4
                        clear hw4
                        refine hK _ _ ?_
                        clear hK K
                        skip
                        refine wpAnyIn_done (by kernel_rfl) ?_ _
                        gi_wp2
                        have N4 := Aside0.mk (N2.out.append (HK3.out.mono (fun j h => (own_block N2.out.row h).1)) HR3.out)
                        rw [← HW4.out] at N4
                        have K4 := Aside0.mk ((K2.out.then_ HK3.out (fun j h => .inl (HSWO.out j h))).then_ ((Kb.refl (fun j => j = w.heap.size + 2) w3).setCell (p := ⟨w.heap.size + 2, 1, none⟩) (.inl rfl) (.slice (some ⟨g3, 0, none⟩) (l1.length + 1) c3)) (fun j e => .inl (.inl (by omega))))
                        rw [← HW4.out] at K4
                        refine ⟨by first | exact sw_keeps K4.out | (rw [hsz0]; exact sw_keeps K4.out), sw_b0 K4.out HS9.out, ⟨(plY x).2 :: sn, a1, l1 ++ [(x.1.2, ⟨#[]⟩)], .slice (some ⟨g3, 0, none⟩) (l1.length + 1) c3, ?_, ?_, ?_, below_kb HBW.out (K4.out.mono (fun j h => sw_low h))⟩⟩
                        · rw [List.map_append, List.map_cons, List.map_nil, foldN_snoc _ _ _ _ HF.out.1, stepN_on HST.out HGO.out HNM.out, HLL.out.1, HLL.out.2.1, List.map_append]
                          rfl
                        · rw [List.reverse_append, List.length_append]
                          exact N4.out
                        · rw [List.length_append, List.length_append, HLL.out.2.2]; have := HF.out.2.1; simp; omega
                      exact AllReadyIn.nil
                    exact AllReadyIn.nil
                  refine AllReadyIn.cons rfl (fun K hK => ?_) ?_
                  · refine append_E (N := 67) rfl (by rfl) (.tmp 63) (.tmp 66) rfl rfl N2.out.row rfl (u := x.1.2) (u' := ⟨#[]⟩) HU0.out HU1.out (by have := HLL.out.2.2; omega) N2.out.sz ?_
                    intro g3 c3 w3 hr3 hk3
                    refine hK _ _ ?_
                    clear hK K
                    have HK3 := Aside0.mk hk3
                    have HR3 := Aside0.mk hr3
                    have hx3 : ∀ j, (Value.slice A1 l1.length cl1).ownBlock = some j → w.heap.size + 9 ≤ j := fun j h => (own_block N2.out.row h).1
                    have s1_3 := (blk_cell (Kb.blk N2.out.st HK3.out (fun h => by have := hx3 _ h; omega)) 1).trans rfl
                    have f1_3 := blk_frozen (Kb.blk N2.out.st HK3.out (fun h => by have := hx3 _ h; omega)) 1
                    have c4_3 := (bx_kb N2.out.t4 HK3.out (fun h => by have := hx3 _ h; omega)).cell
                    clear hk3 hr3 hx3 c4_2 s1_2 f1_2
                    refine wpAnyIn_ready (rs := [0]) (by kernel_rfl) (by simp) ?_
                    refine AllReadyIn.cons rfl (fun K hK => ?_) ?_
                    · go_simp
                      refine hK _ _ ?_
                      clear hK K
                      skip
                      refine wpAnyIn_take (i := 9) (v := ?v41) rfl rfl (by kernel_rfl) (by kernel_rfl) (by kernel_rfl) (fun _ _ _ h => h) ⟨Or.inl ⟨by rfl, ?hy41⟩, fun _ => rfl⟩ ?_
                      case hy41 => intro w; go_simp; (first | done | (with_reducible rfl))
                      refine wpAnyIn_take (i := 10) (v := ?v42) rfl rfl (by kernel_rfl) (by kernel_rfl) (by kernel_rfl) (fun _ _ _ h => h) ⟨Or.inl ⟨by rfl, ?hy42⟩, fun _ => rfl⟩ ?_
                      case hy42 => intro w; go_simp; (first | done | (with_reducible rfl))
                      refine wpAnyIn_ready (rs := [11]) (by kernel_rfl) (by simp) ?_
                      refine AllReadyIn.cons rfl (fun K hK => ?_) ?_
                      · refine store_E (p := 69) (v := .tmp 67) rfl rfl (by rfl) rfl rfl s1_3 f1_3 ?_
                        intro w4 hw4
                        have HW4 := Aside0.mk hw4
                        clear hw4
                        refine hK _ _ ?_
                        clear hK K
                        skip
                        refine wpAnyIn_done (by kernel_rfl) ?_ _
                        gi_wp2
                        have N4 := Aside0.mk (N2.out.append (HK3.out.mono (fun j h => (own_block N2.out.row h).1)) HR3.out)
                        rw [← HW4.out] at N4
                        have K4 := Aside0.mk ((K2.out.then_ HK3.out (fun j h => .inl (HSWO.out j h))).then_ ((Kb.refl (fun j => j = w.heap.size + 2) w3).setCell (p := ⟨w.heap.size + 2, 1, none⟩) (.inl rfl) (.slice (some ⟨g3, 0, none⟩) (l1.length + 1) c3)) (fun j e => .inl (.inl (by omega))))
                        rw [← HW4.out] at K4
                        refine ⟨by first | exact sw_keeps K4.out | (rw [hsz0]; exact sw_keeps K4.out), sw_b0 K4.out HS9.out, ⟨(plY x).2 :: sn, a1, l1 ++ [(x.1.2, ⟨#[]⟩)], .slice (some ⟨g3, 0, none⟩) (l1.length + 1) c3, ?_, ?_, ?_, below_kb HBW.out (K4.out.mono (fun j h => sw_low h))⟩⟩
                        · rw [List.map_append, List.map_cons, List.map_nil, foldN_snoc _ _ _ _ HF.out.1, stepN_on HST.out HGO.out HNM.out, HLL.out.1, HLL.out.2.1, List.map_append]
                          rfl
                        · rw [List.reverse_append, List.length_append]
                          exact N4.out
                        · rw [List.length_append, List.length_append, HLL.out.2.2]; have := HF.out.2.1; simp; omega
                      exact AllReadyIn.nil
                    exact AllReadyIn.nil
                  exact AllReadyIn.nil
                exact AllReadyIn.nil
              exact AllReadyIn.nil
            exact AllReadyIn.nil
    case done =>
      rintro D xs W hD hS ⟨sn, a, l, u, hf, hni, hll, hbw⟩ hd
      have HNI := Aside0.mk hni
      have HFA := Aside0.mk (And.intro hf (And.intro hll hS))
      have HBW := Aside0.mk hbw
      have HD := Aside0.mk hd
      have c4 := hni.t4.cell
      have c2 := hni.t2.cell
      have f2 := hni.t2.frozen
      have c3 := hni.t3.cell
      have f3 := hni.t3.frozen
      clear hf hll hS hbw hd h2 h3 hs2 h4 hm4 h5 h6 hb0
      have hl257 : l.length ≤ 257 := by
        have h1 := congrArg List.length HFA.out.2.2
        have h2 := partsA_len _ s.data.toList (Nat.le_refl _)
        rw [data_length] at h2
        rw [List.length_map] at h1
        have := HFA.out.2.1
        omega
      gi_wp2_with fail
      refine ⟨trivial, (callsIn_wide.2 (names_calls W (w.heap.size) _ a l ⟨w.heap.size + 2, u, rfl, by omega, HNI.out.st, own_base HNI.out.row (by omega)⟩ (by omega))).mono ?_⟩
      rintro e w1 ⟨⟨v, rfl, hv⟩, hb⟩
      obtain ⟨Av, cv, rfl, hcv⟩ := own_slice hv
      have hb' := Kb.of_below (S := fun _ => False) hb
      have HN1 := Aside0.mk (HNI.out.kb hb' (fun j h => h.elim))
      have HB1 := Aside0.mk (below_kb HBW.out (Kb.of_below (S := fun k => w.heap.size ≤ k) hb))
      have HD1 := Aside0.mk (Kb.blk HD.out hb' (fun h => h))
      have c4 := HN1.out.t4.cell
      have c2 := HN1.out.t2.cell
      have f2 := HN1.out.t2.frozen
      have c3 := HN1.out.t3.cell
      have f3 := HN1.out.t3.frozen
      have HNP := Aside0.mk (show newP s.data.toList = if namesB l = [] then none else some (a.data.toList, l.map plB) by
        unfold newP
        rw [if_pos (by rw [data_length]; exact h256), ← HFA.out.2.2, HFA.out.1]
        show (if namesP (l.map plB) = [] then none else some _) = _
        rw [namesP_map]
        by_cases hn : namesB l = []
        · rw [if_pos hn, if_pos (by rw [hn]; rfl)]
        · rw [if_neg hn, if_neg (by intro h; exact hn (List.map_eq_nil_iff.1 h))])
      clear hv hb hb' hcv
      by_cases hn : namesB l = []
      · have hz : (namesB l).length = 0 := by rw [hn]; rfl
        rw [hz]
        rw [if_pos hn] at HNP
        clear hz hn
        gi_wp2
        obtain ⟨x2, x3, hk⟩ := boxes2 HN1.out.t2 HN1.out.t3 (.pointer none) (.int .i64 180)
        have hd3 := Kb.blk HD1.out hk (by omega)
        have hk3 := kb_putObj ((w1.setCell ⟨w.heap.size, 0, none⟩ (.pointer none)).setCell ⟨w.heap.size + 1, 0, none⟩ (.int .i64 180)) D (.deferred none)
        refine ⟨by simp, .inl ⟨_, _, rfl, run_takeDeferred hd3, ?_⟩⟩
        exact ⟨_, results_cc rfl _ _ rfl rfl (bx_kb x2 hk3 (by omega)) (bx_kb x3 hk3 (by omega)), .inl ⟨HNP.out, rfl⟩, below_kb (below_kb HB1.out (hk.mono (fun j h => by omega))) (hk3.mono (fun j h => by omega))⟩
      · have hz : ¬ ((namesB l).length : Int) = 0 := by
          intro h
          exact hn (List.eq_nil_of_length_eq_zero (by omega))
        rw [if_neg hn] at HNP
        clear hn
        gi_wp2
        obtain ⟨x2, x3, hk⟩ := boxes2 HN1.out.t2 HN1.out.t3 (.pointer (some ⟨w.heap.size + 2, 0, none⟩)) (.int .i64 0)
        have hd3 := Kb.blk HD1.out hk (by omega)
        have hk3 := kb_putObj ((w1.setCell ⟨w.heap.size, 0, none⟩ (.pointer (some ⟨w.heap.size + 2, 0, none⟩))).setCell ⟨w.heap.size + 1, 0, none⟩ (.int .i64 0)) D (.deferred none)
        refine ⟨by simp, .inl ⟨_, _, rfl, run_takeDeferred hd3, ?_⟩⟩
        exact ⟨_, results_cc rfl _ _ rfl rfl (bx_kb x2 hk3 (by omega)) (bx_kb x3 hk3 (by omega)), .inr ⟨a, l, _, HNP.out, by omega, rfl, ⟨w.heap.size + 2, u, rfl, by omega, Kb.blk (Kb.blk HN1.out.st hk (by omega)) hk3 (by omega), own_base ((HN1.out.row.kb hk (fun g h1 h2 => by omega)).kb hk3 (fun g h1 h2 => by omega)) (by omega)⟩⟩, below_kb (below_kb HB1.out (hk.mono (fun j h => by omega))) (hk3.mono (fun j h => by omega))⟩
    case stop =>
      rintro D c pre W hD ⟨rest, hrest⟩ ⟨rfl, hf, hx2, hx3, hxb⟩ hd
      gi_wp2
      refine ⟨by simp, .inl ⟨_, _, rfl, run_takeDeferred hd, ?_⟩⟩
      have hk := kb_putObj W D (.deferred none)
      refine ⟨_, results_cc rfl _ _ rfl rfl (bx_kb hx2 hk (by omega)) (bx_kb hx3 hk (by omega)), .inl ⟨?_, rfl⟩, below_kb hxb (hk.mono (fun j e => by omega))⟩
      unfold newP
      rw [if_pos (by rw [data_length]; exact h256), ← hrest, foldN_append, hf]
      rfl
  · have hz : (256 : Int) < (s.size : Int) := by omega
    go_enter Try.func8, Try.ntmps8
    go_wp2
    have hb : Below w.heap.size w ((w.alloc (.cells #[.pointer none] 23)).alloc (.cells #[.int .i64 180] 24)) := below_alloc (below_alloc (Below.refl _ _) _) _
    have h2 : Boxed ((w.alloc (.cells #[.pointer none] 23)).alloc (.cells #[.int .i64 180] 24)) w.heap.size 23 (.pointer none) := (Boxed.new _ _ _).alloc _
    have h3 : Boxed ((w.alloc (.cells #[.pointer none] 23)).alloc (.cells #[.int .i64 180] 24)) (w.heap.size + 1) 24 (.int .i64 180) := by have := Boxed.new (w.alloc (.cells #[.pointer none] 23)) 24 (.int .i64 180); simpa only [World.size_alloc] using this
    refine bodyPost_ret (results_cc rfl _ _ rfl rfl h2 h3) rfl ⟨.inl ⟨?_, rfl⟩, hb⟩
    unfold newP
    rw [if_neg (by rw [data_length]; exact h256)]
end Go.Proofs.Ytpobgpfkohlokaa.PC
