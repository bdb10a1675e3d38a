/- The document's answer: Names and New, walked. -/
import Derived.Test.YtpobgpfkohlokaaRB
import Derived.Deep.QuietTactic
namespace Go.Proofs.Ytpobgpfkohlokaa.PC
open Go.RowKit Go.Lib Go.Shelf Go.Maps Go.Proofs.YtpobgpfkohlokaaW.PrintWords Go.Proofs.YtpobgpfkohlokaaW.PrintLast Go.Proofs.YtpobgpfkohlokaaW.PrintMore
set_option linter.unusedVariables false
set_option linter.unusedSimpArgs false
theorem i70 : (Try.prog.info? 70).map (fun i => (i.zero, i.size, i.bytes)) = some (some (.agg #[.string ⟨#[]⟩, .string ⟨#[]⟩]), 2, 32) := by kernel_rfl
/-- The pattern, as the document's answer has it. -/
def RefAt (B : Nat) (w : World) (v : Value) (a : ByteArray) (l : List PB) : Prop :=
  ∃ g u, v = .pointer (some ⟨g, 0, none⟩) ∧ B ≤ g ∧ w.heap[g]? = some (.cells #[.string a, u] 66 (0, 0)) ∧ RowP B w 70 u l
theorem RefAt.kb {S : Nat → Prop} {w w' : World} {B : Nat} {v : Value} {a : ByteArray} {l : List PB} (h : RefAt B w v a l) (hk : Kb S w w') (hs : ∀ g, B ≤ g → ¬ S g) : RefAt B w' v a l := by
  obtain ⟨g, u, h1, h2, h3, h4⟩ := h
  exact ⟨g, u, h1, h2, Kb.blk h3 hk (hs g h2), own_kb h4 hk hs⟩
set_option maxHeartbeats 8000000 in
set_option maxRecDepth 100000 in
theorem rnames_calls (w : World) (B : Nat) (v : Value) (a : ByteArray) (l : List PB) (hc : RefAt B w v a l) (hl : l.length ≤ 300) : Calls Try.prog 16 #[v] w fun e w' => (∃ u, e = .returned u ∧ RowT w.heap.size w' u (namesB l)) ∧ Below w.heap.size w w' := by
  obtain ⟨g, u, rfl, hBg, hg, hu⟩ := hc
  obtain ⟨Al, cl, rfl, hcl⟩ := own_slice hu
  have hc0 : w.cell? ⟨g, 0, none⟩ = some (.string a) := (blk_cell hg 0).trans rfl
  have hc1 : w.cell? ⟨g, 1, none⟩ = some (.slice Al l.length cl) := (blk_cell hg 1).trans rfl
  obtain ⟨nl, hnl⟩ : ∃ nl, nl = l.length := ⟨_, rfl⟩
  rw [← hnl] at hc1 hcl
  have HU := Aside0.mk (show RowP B w 70 (.slice Al nl cl) l by rw [hnl]; exact hu)
  have HN := Aside0.mk hnl
  have hl2 : nl ≤ 300 := by omega
  have hu66 := Try.underlying66
  have hu70 := Try.underlying70
  have HC1 := Aside0.mk hc1
  clear hu hnl hg hl hc1
  go_enter Try.func16, Try.ntmps16
  go_wp2_with fail
  go_loopg [3, 4] nl (fun g1 v3 v4 wr => ∃ (k : Nat) (A3 : Option Addr) (c3 : Nat), v4 = .int .i64 k ∧ v3 = .slice A3 (namesB (l.take k)).length c3 ∧ Aside0 (k + g1 = nl) ∧ Aside0 (RowT w.heap.size wr (.slice A3 (namesB (l.take k)).length c3) (namesB (l.take k))) ∧ Aside0 (Below w.heap.size w wr))
  case atStart => exact ⟨0, none, 0, rfl, rfl, ⟨by omega⟩, ⟨⟨rfl, .inl ⟨rfl, rfl⟩⟩⟩, ⟨Below.refl _ _⟩⟩
  case round =>
    obtain ⟨k, A3, c3, rfl, rfl, HK, HR, HB⟩ := hrel
    obtain ⟨ou, hou⟩ : ∃ ou, ou = namesB (l.take k) := ⟨_, rfl⟩
    rw [← hou] at HR ⊢
    have HOU := Aside0.mk hou
    clear hou
    have d1 := cell_bl HB.out HC1.out
    by_cases hlt : k < nl
    · have hz : (k : Int) < (nl : Int) := by omega
      have e1 : IntKind.i64.wrap ((k : Int) + 1) = ((k + 1 : Nat) : Int) := (i64_w _).trans ((w64 (by omega) (by omega)).trans (by omega))
      obtain ⟨p, hp⟩ : ∃ p, l[k]? = some p := ⟨l[k]'(by rw [← HN.out]; exact hlt), List.getElem?_eq_getElem _⟩
      obtain ⟨r, rfl, hBr, hr, hr0, hr1⟩ := rowP_get HU.out hp
      have c0 := cell_bl HB.out hr0
      have HP := Aside0.mk hp
      clear hp hr0 hr1
      cases ho : odd1 p.1 with
      | true =>
        have ht : (p.1.toList == [95]) = true := ho
        have HNX := Aside0.mk (show namesB (l.take (k + 1)) = ou by rw [namesB_snoc l k p HP.out, ho, ← HOU.out]; simp)
        go_wp2_with fail
        go_roundg (nl - (k + 1))
        case measure => have := HK.out; omega
        case rel => exact ⟨k + 1, A3, c3, by first | rfl | rw [e1], by rw [HNX.out], ⟨by have := HK.out; omega⟩, ⟨by rw [HNX.out]; exact HR.out⟩, HB⟩
      | false =>
        have ht : (p.1.toList == [95]) = false := ho
        have HNX := Aside0.mk (show namesB (l.take (k + 1)) = ou ++ [p.1] by rw [namesB_snoc l k p HP.out, ho, ← HOU.out]; simp)
        have HLE := Aside0.mk (show ou.length ≤ 1000000 by
          rw [HOU.out]
          unfold namesB
          refine Nat.le_trans (List.length_filter_le _ _) ?_
          rw [List.length_map, List.length_take]
          have := HN.out
          omega)
        have HS := Aside0.mk HB.out.size
        go_wp2_with (first | ((with_reducible refine gate_builtin (b := .append) (xs := #[.tmp 23, .tmp 32]) rfl ?_); at_builtin; refine append_T (u := p.1) rfl (.tmp 23) (.tmp 32) rfl rfl HR.out.alloc rfl (by go_simp) HLE.out (by have := HS.out; simp only [World.size_alloc]; omega) ?_; intro g2 c2 w2 hr2 hk2; have HR2 := Aside0.mk hr2; have HB2 := Aside0.mk (below_kb (below_alloc HB.out _) hk2); clear hr2 hk2))
        go_roundg (nl - (k + 1))
        case measure => have := HK.out; omega
        case rel => exact ⟨k + 1, _, c2, by first | rfl | rw [e1], by rw [HNX.out, List.length_append]; rfl, ⟨by have := HK.out; omega⟩, ⟨by rw [HNX.out, List.length_append]; exact HR2.out⟩, HB2⟩
    · have hz : ¬ (k : Int) < (nl : Int) := by omega
      have HE := Aside0.mk (show namesB l = ou by rw [HOU.out, List.take_of_length_le (by rw [← HN.out]; omega)])
      go_wp2_with fail
      go_ret
      exact ⟨⟨_, rfl, by rw [HE.out]; exact HR.out⟩, HB.out⟩
section
variable {ops : Array Oper} {rest : List Oper} {o : Oper} {a : Act} {Q : Exit → Act → World → Prop} {w : World}
/-- c.L = append(c.L, part). -/
theorem append_Q (hgd : o.guard = none) (s x : Operand) (ho : o.op = .call { callee := .builtin .append, args := #[s, x], argTypes := #[64, 64] }) {B : Nat} {v : Value} {l : List PB} (hs : a.eval s = v) (hown : RowP B w 70 v l)
    {g c : Nat} (hx : a.eval x = .slice (some ⟨g, 0, none⟩) 1 c) {u u' : ByteArray} (hu : w.cell? ⟨g, 0, none⟩ = some (.string u)) (hu' : w.cell? ⟨g, 1, none⟩ = some (.string u')) (hl : l.length ≤ 1000000) (hB : B ≤ w.heap.size)
    (h : ∀ g' c' w', RowP B w' 70 (.slice (some ⟨g', 0, none⟩) (l.length + 1) c') (l ++ [(u, u')]) → Kb (fun k => v.ownBlock = some k) w w' → wpList Try.prog ops Q rest (a.put o.dst (.slice (some ⟨g', 0, none⟩) (l.length + 1) c')) w') : wpList Try.prog ops Q (o :: rest) a w := by
  obtain ⟨i, hi, hz, h4, h5⟩ := info_parts i70
  refine wpList_append_own w hgd s x 64 ho B 70 i _ 2 32 Try.underlying64 hi hz h4 h5 rfl (by omega) v l.length _ hs hown ⟨g, 0, none⟩ 1 c [.string u, .string u'] hx rfl (fun j q hj => ?_) (fun q hq => ?_) (by simp only [maxLen]; omega) (by omega) hB (fun v' w' h1 h2 h3 => ?_)
  · match j, hj with
    | 0, hj => cases hj; exact hu
    | 1, hj => cases hj; exact hu'
    | j + 2, hj => cases hj
  · cases hq with
    | head => rfl
    | tail _ hq =>
      cases hq with
      | head => rfl
      | tail _ hq => cases hq
  · have hk : Kb (fun k => v.ownBlock = some k) w w' := (Kb.refl _ w).grown h2 (fun k e => .inl e)
    rcases h1.2 with ⟨-, h0⟩ | ⟨g', c', cur, h6, -⟩
    · omega
    · subst h6
      exact h g' c' w' (by unfold RowP; rw [cellsB_append, List.length_append]; exact h1) hk
end
/-- What New keeps: block g, the row behind it. -/
structure RI (g : Nat) (W : World) (a : ByteArray) (L : List PB) (u : Value) : Prop where
  st : W.heap[g]? = some (.cells #[.string a, u] 66 (0, 0))
  row : RowP (g + 1) W 70 u L
theorem RI.kb {S : Nat → Prop} {g : Nat} {W W' : World} {a : ByteArray} {L : List PB} {u : Value} (h : RI g W a L u) (hk : Kb S W W') (hs : ∀ j, g ≤ j → ¬ S j) : RI g W' a L u :=
  ⟨Kb.blk h.st hk (hs g (Nat.le_refl _)), h.row.kb hk (fun j hj => hs j (by omega))⟩
theorem RI.ahead {g : Nat} {W : World} {a : ByteArray} {L : List PB} {u : Value} (h : RI g W a L u) (b : ByteArray) : RI g (W.setCell ⟨g, 0, none⟩ (.string b)) b L u := by
  have hk := (Kb.refl (fun j => j = g) W).setCell (p := ⟨g, 0, none⟩) (.inl rfl) (.string b)
  exact ⟨blk_put h.st 0 _ rfl, h.row.kb hk (fun j hj h2 => by omega)⟩
theorem row_putQ {B : Nat} {W : World} {l : List PB} {g n c : Nat} (h : RowP B W 70 (.slice (some ⟨g, 0, none⟩) n c) l) (hl : l ≠ []) (b : ByteArray) : RowP B (W.setCell ⟨g, (l.length - 1) * 2 + 1, none⟩ (.string b)) 70 (.slice (some ⟨g, 0, none⟩) n c) (setBeh l b) := by
  have h2 := h.2
  unfold RowP World.ownsRow
  rw [setBeh_len, setBeh_cells l b hl]
  refine ⟨by rw [List.length_set]; exact h.1, .inr ?_⟩
  rcases h2 with ⟨h1, -⟩ | ⟨g', cap, cur, h1, h2, h3, h4, h5, h6, h7⟩
  · cases h1
  · cases h1
    refine ⟨g, c, cur.setIfInBounds ((l.length - 1) * 2 + 1) (.string b), rfl, h2, blk_put h3 _ _ rfl, h4, h5, by rw [Array.size_setIfInBounds]; exact h6, ?_⟩
    rw [Array.toList_setIfInBounds, List.take_set, h7]
theorem RI.behind {g : Nat} {W : World} {a : ByteArray} {L : List PB} {r n c : Nat} (h : RI g W a L (.slice (some ⟨r, 0, none⟩) n c)) (hl : L ≠ []) (b : ByteArray) (hr : g + 1 ≤ r) : RI g (W.setCell ⟨r, (L.length - 1) * 2 + 1, none⟩ (.string b)) a (setBeh L b) (.slice (some ⟨r, 0, none⟩) n c) := by
  have hk := (Kb.refl (fun j => j = r) W).setCell (p := ⟨r, (L.length - 1) * 2 + 1, none⟩) (.inl rfl) (.string b)
  exact ⟨Kb.blk h.st hk (by omega), row_putQ h.row hl b⟩
theorem RI.append {g : Nat} {W W' : World} {a : ByteArray} {L L' : List PB} {u u' : Value} (h : RI g W a L u) (hk : Kb (fun j => g + 1 ≤ j) W W') (hr : RowP (g + 1) W' 70 u' L') : RI g (W'.setCell ⟨g, 1, none⟩ u') a L' u' := by
  have hk2 := (Kb.refl (fun j => j = g) W').setCell (p := ⟨g, 1, none⟩) (.inl rfl) u'
  exact ⟨blk_put (Kb.blk h.st hk (by omega)) 1 _ rfl, hr.kb hk2 (fun j hj h2 => by omega)⟩
theorem partR_some {s : ByteArray} {n : BL} (h : partAt s.data.toList = some n) : partR s = (⟨n.toArray⟩, (n.length : Int) + 2) := by
  unfold partR
  rw [h]
theorem partR_none {s : ByteArray} (h : partAt s.data.toList = none) : partR s = (⟨#[]⟩, 0) := by
  unfold partR
  rw [h]
theorem rpart_calls (s : ByteArray) (hs : s.size ≤ 100000) (w : World) : Calls Try.prog 29 #[.string s] w fun e w' => e = .returned (.tuple #[.string (partR s).1, .int .i64 (partR s).2]) ∧ Drawn0 w w' := by
  obtain ⟨k, hk⟩ := (part_ev s hs).ex
  exact driftnetref18_part.calls k s _ _ w hk
end Go.Proofs.Ytpobgpfkohlokaa.PC
