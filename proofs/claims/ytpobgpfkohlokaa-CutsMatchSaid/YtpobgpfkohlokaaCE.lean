/- The pattern in the heap; cuts.Names. -/
import Derived.Test.YtpobgpfkohlokaaCD
namespace Go.Proofs.Ytpobgpfkohlokaa.PC
open Go.RowKit Go.Lib Go.Proofs.YtpobgpfkohlokaaW.PrintWords Go.Proofs.YtpobgpfkohlokaaW.PrintLast Go.Proofs.YtpobgpfkohlokaaW.PrintMore
set_option linter.unusedVariables false
set_option linter.unusedSimpArgs false
/-- Two texts and two texts ..: cells. -/
def cellsB (l : List (ByteArray × ByteArray)) : List Value := l.flatMap (fun p => [.string p.1, .string p.2])
theorem cellsB_len : ∀ l, (cellsB l).length = l.length * 2
  | [] => rfl
  | p :: l => by
    show ([Value.string p.1, .string p.2] ++ cellsB l).length = _
    rw [List.length_append, cellsB_len l]
    show 2 + l.length * 2 = (l.length + 1) * 2
    omega
theorem cellsB_get : ∀ (l : List (ByteArray × ByteArray)) (i : Nat) (p : ByteArray × ByteArray), l[i]? = some p → (cellsB l)[i * 2]? = some (.string p.1) ∧ (cellsB l)[i * 2 + 1]? = some (.string p.2)
  | [], i, p, h => by cases h
  | q :: l, 0, p, h => by
    cases h
    exact ⟨rfl, rfl⟩
  | q :: l, i + 1, p, h => by
    have := cellsB_get l i p h
    rw [show (i + 1) * 2 = i * 2 + 1 + 1 by omega]
    exact this
theorem cellsB_append (l m : List (ByteArray × ByteArray)) : cellsB (l ++ m) = cellsB l ++ cellsB m := List.flatMap_append
/-- A row of two texts each: v is a slice of them, new since B. -/
def RowP (B : Nat) (w : World) (e : TypeId) (v : Value) (l : List (ByteArray × ByteArray)) : Prop := w.ownsRow B e 2 v l.length (cellsB l)
def RowT (B : Nat) (w : World) (v : Value) (l : List ByteArray) : Prop := w.ownsRow B 9 1 v l.length (l.map Value.string)
theorem own_kb {S : Nat → Prop} {w w' : World} {B : Nat} {e : TypeId} {sz : Nat} {v : Value} {n : Nat} {xs : List Value} (h : w.ownsRow B e sz v n xs) (hk : Kb S w w') (hs : ∀ g, B ≤ g → ¬ S g) : w'.ownsRow B e sz v n xs := by
  refine ⟨h.1, ?_⟩
  rcases h.2 with hn | ⟨g, cap, cur, h1, h2, h3, h4⟩
  · exact .inl hn
  · exact .inr ⟨g, cap, cur, h1, h2, Kb.blk h3 hk (hs g h2), h4⟩
theorem own_base {w : World} {B B' : Nat} {e : TypeId} {sz : Nat} {v : Value} {n : Nat} {xs : List Value} (h : w.ownsRow B e sz v n xs) (hB : B' ≤ B) : w.ownsRow B' e sz v n xs := by
  refine ⟨h.1, ?_⟩
  rcases h.2 with hn | ⟨g, cap, cur, h1, h2, h3, h4⟩
  · exact .inl hn
  · exact .inr ⟨g, cap, cur, h1, Nat.le_trans hB h2, h3, h4⟩
theorem own_slice {w : World} {B : Nat} {e : TypeId} {sz : Nat} {v : Value} {n : Nat} {xs : List Value} (h : w.ownsRow B e sz v n xs) : ∃ A c, v = .slice A n c ∧ n ≤ c := by
  rcases h.2 with ⟨h1, h2⟩ | ⟨g, cap, cur, h1, h2, h3, h4, h5⟩
  · exact ⟨none, 0, by rw [h1, h2], by omega⟩
  · exact ⟨_, cap, h1, h4⟩
theorem own_cell {w : World} {B : Nat} {e : TypeId} {sz : Nat} {A : Option Addr} {n m c : Nat} {xs : List Value} (h : w.ownsRow B e sz (.slice A m c) n xs) (hn : 0 < n) : ∃ g, A = some ⟨g, 0, none⟩ ∧ B ≤ g ∧ g < w.heap.size ∧ ∀ i u, xs[i]? = some u → w.cell? ⟨g, i, none⟩ = some u := by
  rcases h.2 with ⟨h1, h2⟩ | ⟨g, cap, cur, h1, h2, h3, h4, h5, h6, h7⟩
  · omega
  · cases h1
    refine ⟨g, rfl, h2, blk_lt h3, fun i u hu => ?_⟩
    rw [← h7, List.getElem?_take] at hu
    split at hu
    · simp [World.cell?, h3]
      simpa using hu
    · cases hu
theorem rowP_get {w : World} {B : Nat} {e : TypeId} {A : Option Addr} {m c : Nat} {l : List (ByteArray × ByteArray)} (h : RowP B w e (.slice A m c) l) {i : Nat} {p : ByteArray × ByteArray} (hi : l[i]? = some p) : ∃ g, A = some ⟨g, 0, none⟩ ∧ B ≤ g ∧ g < w.heap.size ∧ w.cell? ⟨g, i * 2, none⟩ = some (.string p.1) ∧ w.cell? ⟨g, i * 2 + 1, none⟩ = some (.string p.2) := by
  have hlt : i < l.length := by
    rcases Nat.lt_or_ge i l.length with h | h
    · exact h
    · rw [List.getElem?_eq_none h] at hi; cases hi
  obtain ⟨g, hA, hB, hg, hc⟩ := own_cell h (by omega)
  exact ⟨g, hA, hB, hg, hc _ _ (cellsB_get l i p hi).1, hc _ _ (cellsB_get l i p hi).2⟩
theorem RowP.kb {S : Nat → Prop} {w w' : World} {B : Nat} {e : TypeId} {v : Value} {l : List (ByteArray × ByteArray)} (h : RowP B w e v l) (hk : Kb S w w') (hs : ∀ g, B ≤ g → ¬ S g) : RowP B w' e v l := own_kb h hk hs
theorem RowT.kb {S : Nat → Prop} {w w' : World} {B : Nat} {v : Value} {l : List ByteArray} (h : RowT B w v l) (hk : Kb S w w') (hs : ∀ g, B ≤ g → ¬ S g) : RowT B w' v l := own_kb h hk hs
theorem RowP.alloc {w : World} {B : Nat} {e : TypeId} {v : Value} {l : List (ByteArray × ByteArray)} (h : RowP B w e v l) {o : Obj} : RowP B (w.alloc o) e v l := h.kb ((Kb.refl (fun _ => False) w).alloc o) (fun _ _ h => h)
theorem RowT.alloc {w : World} {B : Nat} {v : Value} {l : List ByteArray} (h : RowT B w v l) {o : Obj} : RowT B (w.alloc o) v l := h.kb ((Kb.refl (fun _ => False) w).alloc o) (fun _ _ h => h)
/-- The pattern: what stands ahead, and of each part its name and what stands behind it. -/
def CutsAt (B : Nat) (w : World) (v : Value) (a : ByteArray) (l : List (ByteArray × ByteArray)) : Prop :=
  ∃ g u, v = .pointer (some ⟨g, 0, none⟩) ∧ B ≤ g ∧ w.heap[g]? = some (.cells #[.string a, u] 49 (0, 0)) ∧ RowP B w 63 u l
theorem CutsAt.kb {S : Nat → Prop} {w w' : World} {B : Nat} {v : Value} {a : ByteArray} {l : List (ByteArray × ByteArray)} (h : CutsAt B w v a l) (hk : Kb S w w') (hs : ∀ g, B ≤ g → ¬ S g) : CutsAt B w' v a l := by
  obtain ⟨g, u, h1, h2, h3, h4⟩ := h
  exact ⟨g, u, h1, h2, Kb.blk h3 hk (hs g h2), own_kb h4 hk hs⟩
theorem kb_grown {w w' : World} {B : Nat} {e : TypeId} {sz : Nat} {v : Value} {n : Nat} {xs : List Value} (h : w.ownsRow B e sz v n xs) (hg : w.grownBy w' v.ownBlock) : Kb (fun k => B ≤ k) w w' :=
  (Kb.refl _ w).grown hg (fun k hk => by
    rcases h.2 with ⟨h1, -⟩ | ⟨g, cap, cur, h1, h2, -⟩
    · rw [h1] at hk; cases hk
    · rw [h1] at hk; cases hk; exact .inl h2)
theorem below_kb {w w1 w2 : World} (h : Below w.heap.size w w1) (hk : Kb (fun k => w.heap.size ≤ k) w1 w2) : Below w.heap.size w w2 :=
  ((Kb.of_below (S := fun k => w.heap.size ≤ k) h).then_ hk (fun _ h => .inl h)).to_below (fun _ h => h)
theorem i9 : (Try.prog.info? 9).map (fun i => (i.zero, i.size, i.bytes)) = some (some (.string ⟨#[]⟩), 1, 16) := by kernel_rfl
theorem i63 : (Try.prog.info? 63).map (fun i => (i.zero, i.size, i.bytes)) = some (some (.agg #[.string ⟨#[]⟩, .string ⟨#[]⟩]), 2, 32) := by kernel_rfl
theorem i74 : (Try.prog.info? 74).map (fun i => (i.zero, i.size, i.bytes)) = some (some (.agg #[.string ⟨#[]⟩, .string ⟨#[]⟩]), 2, 32) := by kernel_rfl
section
variable {ops : Array Oper} {rest : List Oper} {o : Oper} {a : Act} {Q : Exit → Act → World → Prop} {w : World}
/-- out = append(out, text). -/
theorem append_T (hgd : o.guard = none) (s x : Operand) (ho : o.op = .call { callee := .builtin .append, args := #[s, x], argTypes := #[22, 22] }) {B : Nat} {v : Value} {l : List ByteArray} (hs : a.eval s = v) (hown : RowT B w v l)
    {g c : Nat} (hx : a.eval x = .slice (some ⟨g, 0, none⟩) 1 c) {u : ByteArray} (hu : w.cell? ⟨g, 0, none⟩ = some (.string u)) (hl : l.length ≤ 1000000) (hB : B ≤ w.heap.size)
    (h : ∀ g' c' w', RowT B w' (.slice (some ⟨g', 0, none⟩) (l.length + 1) c') (l ++ [u]) → Kb (fun k => B ≤ k) w w' → wpList Try.prog ops Q rest (a.put o.dst (.slice (some ⟨g', 0, none⟩) (l.length + 1) c')) w') : wpList Try.prog ops Q (o :: rest) a w := by
  obtain ⟨i, hi, hz, h4, h5⟩ := info_parts i9
  refine wpList_append_own w hgd s x 22 ho B 9 i _ 1 16 Try.underlying22 hi hz h4 h5 rfl (by omega) v l.length _ hs hown ⟨g, 0, none⟩ 1 c [.string u] hx rfl (fun j q hj => ?_) (fun q hq => ?_) (by simp only [maxLen]; omega) (by omega) hB (fun v' w' h1 h2 h3 => ?_)
  · cases j with
    | zero => cases hj; exact hu
    | succ j => cases hj
  · cases hq with
    | head => rfl
    | tail _ hq => cases hq
  · have hk := kb_grown hown h2
    rcases h1.2 with ⟨-, h0⟩ | ⟨g', c', cur, h6, -⟩
    · omega
    · subst h6
      exact h g' c' w' (by unfold RowT; rw [List.map_append, List.length_append]; exact h1) hk
end
def odd1 (n : ByteArray) : Bool := n.toList == [95]
/-- The parts' names that are told. -/
def namesB (l : List (ByteArray × ByteArray)) : List ByteArray := (l.map (·.1)).filter (fun n => !odd1 n)
theorem namesB_snoc (l : List (ByteArray × ByteArray)) (k : Nat) (p : ByteArray × ByteArray) (h : l[k]? = some p) : namesB (l.take (k + 1)) = namesB (l.take k) ++ (if odd1 p.1 then [] else [p.1]) := by
  rw [List.take_add_one, h]
  unfold namesB
  rw [List.map_append, List.filter_append]
  congr 1
  show List.filter _ [p.1] = _
  cases hp : odd1 p.1 <;> simp [hp]
set_option maxHeartbeats 8000000 in
set_option maxRecDepth 100000 in
theorem names_calls (w : World) (B : Nat) (v : Value) (a : ByteArray) (l : List (ByteArray × ByteArray)) (hc : CutsAt B w v a l) (hl : l.length ≤ 300) : Calls Try.prog 15 #[v] w fun e w' => (∃ u, e = .returned u ∧ RowT w.heap.size w' u (namesB l)) ∧ Below w.heap.size w w' := by
  obtain ⟨g, u, rfl, hBg, hg, hu⟩ := hc
  obtain ⟨Al, cl, rfl, hcl⟩ := own_slice hu
  have hc0 : w.cell? ⟨g, 0, none⟩ = some (.string a) := (blk_cell hg 0).trans rfl
  have hc1 : w.cell? ⟨g, 1, none⟩ = some (.slice Al l.length cl) := (blk_cell hg 1).trans rfl
  obtain ⟨nl, hnl⟩ : ∃ nl, nl = l.length := ⟨_, rfl⟩
  rw [← hnl] at hc1 hcl
  have HU := Aside0.mk (show RowP B w 63 (.slice Al nl cl) l by rw [hnl]; exact hu)
  have HN := Aside0.mk hnl
  have HG := Aside0.mk hg
  have hl2 : nl ≤ 300 := by omega
  have hu30 := Try.underlying63
  clear hu hnl hg hl
  go_enter Try.func15, Try.ntmps15
  go_wp2_with fail
  go_loopg [2, 12] nl (fun g1 v2 v12 wr => ∃ k : Nat, v12 = .int .i64 k ∧ Aside0 (k + g1 = nl) ∧ Aside0 (RowT w.heap.size wr v2 (namesB (l.take k))) ∧ Aside0 (Below w.heap.size w wr))
  case atStart => exact ⟨0, rfl, ⟨by omega⟩, ⟨⟨rfl, .inl ⟨rfl, rfl⟩⟩⟩, ⟨Below.refl _ _⟩⟩
  case round =>
    obtain ⟨k, rfl, HK, HR, HB⟩ := hrel
    by_cases hlt : k < nl
    · have hz : (k : Int) < (nl : Int) := by omega
      have e1 : IntKind.i64.wrap ((k : Int) + 1) = ((k + 1 : Nat) : Int) := (i64_w _).trans ((w64 (by omega) (by omega)).trans (by omega))
      obtain ⟨p, hp⟩ : ∃ p, l[k]? = some p := ⟨l[k]'(by rw [← HN.out]; exact hlt), List.getElem?_eq_getElem _⟩
      obtain ⟨r, rfl, hBr, hr, hr0, hr1⟩ := rowP_get HU.out hp
      have c0 := cell_bl (HB.out.mono (Nat.le_refl _)) hr0
      have c1 := cell_bl HB.out hr1
      have HP := Aside0.mk hp
      cases ho : odd1 p.1 with
      | true =>
        have ht : (p.1.toList == [95]) = true := ho
        have HNX := Aside0.mk (show namesB (l.take (k + 1)) = namesB (l.take k) by rw [namesB_snoc l k p HP.out, ho]; simp)
        go_wp2_with fail
        go_roundg (nl - (k + 1))
        case measure => have := HK.out; omega
        case rel => exact ⟨k + 1, by first | rfl | rw [e1], ⟨by have := HK.out; omega⟩, ⟨by rw [HNX.out]; exact HR.out.alloc⟩, ⟨below_alloc HB.out _⟩⟩
      | false =>
        have ht : (p.1.toList == [95]) = false := ho
        have HNX := Aside0.mk (show namesB (l.take (k + 1)) = namesB (l.take k) ++ [p.1] by rw [namesB_snoc l k p HP.out, ho]; simp)
        have HLE := Aside0.mk (show (namesB (l.take k)).length ≤ 1000000 by
          unfold namesB
          refine Nat.le_trans (List.length_filter_le _ _) ?_
          rw [List.length_map, List.length_take]
          have := HN.out
          omega)
        have HS := Aside0.mk HB.out.size
        go_wp2_with (first | ((with_reducible refine gate_builtin (b := .append) (xs := #[.tmp 19, .tmp 22]) rfl ?_); at_builtin; refine append_T (u := p.1) rfl (.tmp 19) (.tmp 22) rfl rfl HR.out.alloc.alloc rfl (by go_simp) HLE.out (by have := HS.out; simp only [World.size_alloc]; omega) ?_; intro g2 c2 w2 hr2 hk2; have HR2 := Aside0.mk hr2; have HB2 := Aside0.mk (below_kb (below_alloc (below_alloc HB.out _) _) hk2); clear hr2 hk2))
        go_roundg (nl - (k + 1))
        case measure => have := HK.out; omega
        case rel => exact ⟨k + 1, by first | rfl | rw [e1], ⟨by have := HK.out; omega⟩, ⟨by rw [HNX.out]; exact HR2.out⟩, HB2⟩
    · have hz : ¬ (k : Int) < (nl : Int) := by omega
      go_wp2_with fail
      go_ret
      have hkn : l.take k = l := List.take_of_length_le (by rw [← HN.out]; omega)
      have := HR.out
      rw [hkn] at this
      exact ⟨⟨_, rfl, this⟩, HB.out⟩
end Go.Proofs.Ytpobgpfkohlokaa.PC
