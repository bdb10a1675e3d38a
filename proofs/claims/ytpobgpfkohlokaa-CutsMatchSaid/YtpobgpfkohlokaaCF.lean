/- cuts.New plainly; what its loop keeps. -/
import Derived.Test.YtpobgpfkohlokaaCE
import Derived.Maps.OwnIn
import Derived.Sort.CutIn
import Derived.RangeFuncBox
namespace Go.Proofs.Ytpobgpfkohlokaa.PC
open Go.RowKit Go.Lib Go.Shelf Go.Maps Go.Proofs.YtpobgpfkohlokaaW.PrintWords Go.Proofs.YtpobgpfkohlokaaW.PrintLast Go.Proofs.YtpobgpfkohlokaaW.PrintMore
set_option linter.unusedVariables false
set_option linter.unusedSimpArgs false
/-- The last one's second. -/
def setBeh {α : Type} : List (α × α) → α → List (α × α)
  | [], _ => []
  | [q], b => [(q.1, b)]
  | q :: r :: t, b => q :: setBeh (r :: t) b
theorem setBeh_len {α : Type} : ∀ (l : List (α × α)) (b : α), (setBeh l b).length = l.length
  | [], _ => rfl
  | [q], b => rfl
  | q :: r :: t, b => congrArg Nat.succ (setBeh_len (r :: t) b)
theorem setBeh_map {α β : Type} (f : α → β) : ∀ (l : List (α × α)) (b : α), (setBeh l b).map (fun p => (f p.1, f p.2)) = setBeh (l.map (fun p => (f p.1, f p.2))) (f b)
  | [], _ => rfl
  | [q], b => rfl
  | q :: r :: t, b => by
    show _ :: (setBeh (r :: t) b).map _ = _ :: setBeh _ _
    rw [setBeh_map f (r :: t) b]
    rfl
theorem setBeh_cells : ∀ (l : List (ByteArray × ByteArray)) (b : ByteArray), l ≠ [] → cellsB (setBeh l b) = (cellsB l).set ((l.length - 1) * 2 + 1) (.string b)
  | [], _, h => absurd rfl h
  | [q], b, _ => rfl
  | q :: r :: t, b, _ => by
    show Value.string q.1 :: Value.string q.2 :: cellsB (setBeh (r :: t) b) = (Value.string q.1 :: Value.string q.2 :: cellsB (r :: t)).set _ _
    rw [setBeh_cells (r :: t) b (by simp)]
    show _ = (Value.string q.1 :: Value.string q.2 :: cellsB (r :: t)).set ((t.length + 1 + 1 - 1) * 2 + 1) _
    rw [show (t.length + 1 + 1 - 1) * 2 + 1 = ((r :: t).length - 1) * 2 + 1 + 1 + 1 by simp only [List.length_cons]; omega]
    rfl
abbrev BL := List UInt8
/-- The names that came; what stands ahead; the parts. -/
abbrev NSt := List BL × BL × List (BL × BL)
def stepN (st : NSt) (p : BL × BL) : Option NSt :=
  if ¬ st.2.2 = [] ∧ p.1 = [] ∧ ¬ p.2 = [] then none
  else if p.2 ∈ st.1 ∧ ¬ p.2 = [95] then none
  else some (p.2 :: st.1, if st.2.2 = [] then p.1 else st.2.1, setBeh st.2.2 p.1 ++ if p.2 = [] then [] else [(p.2, [])])
theorem stepN_no1 {sn : List BL} {a : BL} {l : List (BL × BL)} {p : BL × BL} (h : ¬ l = [] ∧ p.1 = [] ∧ ¬ p.2 = []) : stepN (sn, a, l) p = none := if_pos h
theorem stepN_no2 {sn : List BL} {a : BL} {l : List (BL × BL)} {p : BL × BL} (h : ¬ (¬ l = [] ∧ p.1 = [] ∧ ¬ p.2 = [])) (h2 : p.2 ∈ sn ∧ ¬ p.2 = [95]) : stepN (sn, a, l) p = none := (if_neg h).trans (if_pos h2)
theorem stepN_end {sn : List BL} {a : BL} {l : List (BL × BL)} {p : BL × BL} (h : ¬ (¬ l = [] ∧ p.1 = [] ∧ ¬ p.2 = [])) (h2 : ¬ (p.2 ∈ sn ∧ ¬ p.2 = [95])) (hn : p.2 = []) : stepN (sn, a, l) p = some (p.2 :: sn, if l = [] then p.1 else a, setBeh l p.1) := by
  refine (if_neg h).trans ((if_neg h2).trans ?_)
  rw [if_pos hn, List.append_nil]
theorem stepN_on {sn : List BL} {a : BL} {l : List (BL × BL)} {p : BL × BL} (h : ¬ (¬ l = [] ∧ p.1 = [] ∧ ¬ p.2 = [])) (h2 : ¬ (p.2 ∈ sn ∧ ¬ p.2 = [95])) (hn : ¬ p.2 = []) : stepN (sn, a, l) p = some (p.2 :: sn, if l = [] then p.1 else a, setBeh l p.1 ++ [(p.2, [])]) := by
  refine (if_neg h).trans ((if_neg h2).trans ?_)
  rw [if_neg hn]
def foldN : List (BL × BL) → NSt → Option NSt
  | [], st => some st
  | p :: ps, st => (stepN st p).bind (foldN ps)
theorem foldN_append : ∀ (ps qs : List (BL × BL)) (st : NSt), foldN (ps ++ qs) st = (foldN ps st).bind (foldN qs)
  | [], qs, st => rfl
  | p :: ps, qs, st => by
    show (stepN st p).bind (foldN (ps ++ qs)) = ((stepN st p).bind (foldN ps)).bind (foldN qs)
    cases stepN st p with
    | none => rfl
    | some s => exact foldN_append ps qs s
theorem foldN_snoc (ps : List (BL × BL)) (p : BL × BL) (st s : NSt) (h : foldN ps st = some s) : foldN (ps ++ [p]) st = stepN s p := by
  rw [foldN_append, h]
  show (stepN s p).bind some = _
  cases stepN s p <;> rfl
def namesP (l : List (BL × BL)) : List BL := (l.map (·.1)).filter (fun n => !(n == [95]))
/-- cuts.New, plainly: none: no pattern. -/
def newP (s : BL) : Option (BL × List (BL × BL)) :=
  if s.length ≤ 256 then (foldN (partsA s) ([], [], [])).bind (fun st => if namesP st.2.2 = [] then none else some st.2) else none
/-- The map of the names that came. -/
def seenD : List Y2 → DataW Unit
  | [] => .map []
  | x :: pre => (seenD pre).put (.string x.1.2.data.toList) (.lit (.int .i64 1))
theorem seenD_map : ∀ pre, IsMap (seenD pre)
  | [] => isMap_empty
  | x :: pre => by
    obtain ⟨es, h⟩ := seenD_map pre
    unfold seenD
    rw [h]
    exact ⟨_, rfl⟩
theorem seenD_at : ∀ (pre : List Y2) (n : BL), (seenD pre).atKey (.string n) (.lit (.int .i64 0)) = .lit (.int .i64 (if n ∈ pre.map (fun x => (plY x).2) then 1 else 0))
  | [], n => rfl
  | x :: pre, n => by
    unfold seenD
    by_cases h : n = x.1.2.data.toList
    · rw [← h, atKey_put_same (seenD_map pre) (by show True; trivial), if_pos (by rw [h]; exact List.mem_cons_self)]
    · rw [atKey_put_other (by intro e; exact h (Lit.string.inj e)), seenD_at pre n]
      congr 3
      have : n ≠ (plY x).2 := h
      simp [this]
theorem foldN_seen (ps : List (BL × BL)) : ∀ (st s : NSt), foldN ps st = some s → s.1 = (ps.map (·.2)).reverse ++ st.1 := by
  induction ps with
  | nil => intro st s h; cases h; rfl
  | cons p ps ih =>
    intro st s h
    have h : (stepN st p).bind (foldN ps) = some s := h
    cases hs : stepN st p with
    | none => rw [hs] at h; cases h
    | some t =>
      rw [hs] at h
      rw [ih t s h]
      unfold stepN at hs
      split at hs
      · cases hs
      · split at hs
        · cases hs
        · cases hs
          simp
/-- What the loop of New keeps: its variables, the pattern, the map. -/
structure NI (B : Nat) (W : World) (a : ByteArray) (l : List (ByteArray × ByteArray)) (u : Value) (D : DataW Unit) (k : Nat) : Prop where
  t2 : Boxed W B 23 (.pointer none)
  t3 : Boxed W (B + 1) 24 (.int .i64 0)
  st : W.heap[B + 2]? = some (.cells #[.string a, u] 49 (0, 0))
  t4 : Boxed W (B + 3) 23 (.pointer (some ⟨B + 2, 0, none⟩))
  mp : W.ownsMap Try.prog 9 (plainElem Try.prog 3) (B + 4) k D
  t5 : Boxed W (B + 5) 58 (.map (some (B + 4)))
  row : RowP (B + 9) W 63 u l
  sz : B + 9 ≤ W.heap.size
theorem Kb.grownBy {S : Nat → Prop} {w w' : World} {b : Nat} (h : Kb S w w') (hs : ∀ k, S k → k = b) : w.grownBy w' (some b) :=
  ⟨h.os, h.tape, h.output, h.size, fun k hk hn => h.block k hk (fun h2 => hn (by rw [hs k h2]))⟩
theorem bx_kb {S : Nat → Prop} {w w' : World} {b : Nat} {t : TypeId} {v : Value} (h : Boxed w b t v) (hk : Kb S w w') (hn : ¬ S b) : Boxed w' b t v := (hk.block b h.lt hn).trans h
theorem ownsMap_kb {S : Nat → Prop} {w w' : World} {b k : Nat} {D : DataW Unit} (h : w.ownsMap Try.prog 9 (plainElem Try.prog 3) b k D) (hk : Kb S w w') (hn : ¬ S b) : w'.ownsMap Try.prog 9 (plainElem Try.prog 3) b k D := by
  obtain ⟨es, ck, hh, rest⟩ := h
  exact ⟨es, ck, (hk.block b (Array.getElem?_eq_some_iff.1 hh).1 hn).trans hh, rest⟩
theorem NI.kb {S : Nat → Prop} {B : Nat} {W W' : World} {a : ByteArray} {l : List (ByteArray × ByteArray)} {u : Value} {D : DataW Unit} {k : Nat} (h : NI B W a l u D k) (hk : Kb S W W') (hs : ∀ j, S j → B + 6 ≤ j ∧ j < B + 9) : NI B W' a l u D k := by
  have hn : ∀ j, j < B + 6 → ¬ S j := fun j hj h => by have := hs j h; omega
  exact ⟨bx_kb h.t2 hk (hn _ (by omega)), bx_kb h.t3 hk (hn _ (by omega)), (hk.block _ (by have := h.sz; omega) (hn _ (by omega))).trans h.st, bx_kb h.t4 hk (hn _ (by omega)), ownsMap_kb h.mp hk (hn _ (by omega)), bx_kb h.t5 hk (hn _ (by omega)),
    h.row.kb hk (fun g hg h2 => by have := hs g h2; omega), Nat.le_trans h.sz hk.size⟩
/-- The cells of one block turn: c.ahead = .. -/
theorem NI.ahead {B : Nat} {W : World} {a : ByteArray} {l : List (ByteArray × ByteArray)} {u : Value} {D : DataW Unit} {k : Nat} (h : NI B W a l u D k) (b : ByteArray) : NI B (W.setCell ⟨B + 2, 0, none⟩ (.string b)) b l u D k := by
  have hk := (Kb.refl (fun j => j = B + 2) W).setCell (p := ⟨B + 2, 0, none⟩) (.inl rfl) (.string b)
  exact ⟨bx_kb h.t2 hk (by omega), bx_kb h.t3 hk (by omega), blk_put h.st 0 _ rfl, bx_kb h.t4 hk (by omega), ownsMap_kb h.mp hk (by omega), bx_kb h.t5 hk (by omega), h.row.kb hk (fun g hg h2 => by omega), Nat.le_trans h.sz hk.size⟩
theorem row_put {B : Nat} {W : World} {l : List (ByteArray × ByteArray)} {g n c : Nat} (h : RowP B W 63 (.slice (some ⟨g, 0, none⟩) n c) l) (hl : l ≠ []) (b : ByteArray) : RowP B (W.setCell ⟨g, (l.length - 1) * 2 + 1, none⟩ (.string b)) 63 (.slice (some ⟨g, 0, none⟩) n c) (setBeh l b) := by
  have h2 := h.2
  unfold RowP World.ownsRow
  rw [setBeh_len, setBeh_cells l b hl]
  refine ⟨by rw [List.length_set]; exact h.1, .inr ?_⟩
  rcases h2 with ⟨h1, -⟩ | ⟨g', cap, cur, h1, h2, h3, h4, h5, h6, h7⟩
  · cases h1
  · cases h1
    refine ⟨g, c, cur.setIfInBounds ((l.length - 1) * 2 + 1) (.string b), rfl, h2, blk_put h3 _ _ rfl, h4, h5, by rw [Array.size_setIfInBounds]; exact h6, ?_⟩
    rw [Array.toList_setIfInBounds, List.take_set, h7]
theorem NI.behind {B : Nat} {W : World} {a : ByteArray} {l : List (ByteArray × ByteArray)} {g n c : Nat} {D : DataW Unit} {k : Nat} (h : NI B W a l (.slice (some ⟨g, 0, none⟩) n c) D k) (hl : l ≠ []) (b : ByteArray) (hg : B + 9 ≤ g) : NI B (W.setCell ⟨g, (l.length - 1) * 2 + 1, none⟩ (.string b)) a (setBeh l b) (.slice (some ⟨g, 0, none⟩) n c) D k := by
  have hk := (Kb.refl (fun j => j = g) W).setCell (p := ⟨g, (l.length - 1) * 2 + 1, none⟩) (.inl rfl) (.string b)
  exact ⟨bx_kb h.t2 hk (by omega), bx_kb h.t3 hk (by omega), (hk.block _ (by have := h.sz; omega) (by omega)).trans h.st, bx_kb h.t4 hk (by omega), ownsMap_kb h.mp hk (by omega), bx_kb h.t5 hk (by omega), row_put h.row hl b, Nat.le_trans h.sz hk.size⟩
theorem NI.update {B : Nat} {W W' : World} {a : ByteArray} {l : List (ByteArray × ByteArray)} {u : Value} {D D' : DataW Unit} {k k' : Nat} (h : NI B W a l u D k) (hg : W.grownBy W' (some (B + 4))) (hm : W'.ownsMap Try.prog 9 (plainElem Try.prog 3) (B + 4) k' D') : NI B W' a l u D' k' := by
  have hk : Kb (fun j => j = B + 4) W W' := (Kb.refl _ W).grown hg (fun j e => by cases e; exact .inl rfl)
  exact ⟨bx_kb h.t2 hk (by omega), bx_kb h.t3 hk (by omega), (hk.block _ (by have := h.sz; omega) (by omega)).trans h.st, bx_kb h.t4 hk (by omega), hm, bx_kb h.t5 hk (by omega), h.row.kb hk (fun g hg h2 => by omega), Nat.le_trans h.sz hk.size⟩
theorem NI.append {B : Nat} {W W' : World} {a : ByteArray} {l l' : List (ByteArray × ByteArray)} {u u' : Value} {D : DataW Unit} {k : Nat} (h : NI B W a l u D k) (hk : Kb (fun j => B + 9 ≤ j) W W') (hr : RowP (B + 9) W' 63 u' l') : NI B (W'.setCell ⟨B + 2, 1, none⟩ u') a l' u' D k := by
  have hk2 := (Kb.refl (fun j => j = B + 2) W').setCell (p := ⟨B + 2, 1, none⟩) (.inl rfl) u'
  have hst : W'.heap[B + 2]? = some (.cells #[.string a, u] 49 (0, 0)) := (hk.block _ (by have := h.sz; omega) (by omega)).trans h.st
  exact ⟨bx_kb (bx_kb h.t2 hk (by omega)) hk2 (by omega), bx_kb (bx_kb h.t3 hk (by omega)) hk2 (by omega), blk_put hst 1 _ rfl, bx_kb (bx_kb h.t4 hk (by omega)) hk2 (by omega), ownsMap_kb (ownsMap_kb h.mp hk (by omega)) hk2 (by omega), bx_kb (bx_kb h.t5 hk (by omega)) hk2 (by omega), hr.kb hk2 (fun g hg h2 => by omega), Nat.le_trans h.sz (Nat.le_trans hk.size hk2.size)⟩
section
variable {F : Fence} {n : Nat} {P : Program} {ops : Array Oper} {rest : List Oper} {o : Oper} {a : Act} {Q : Exit → Act → World → Prop} {w : World}
theorem gi_store_gate {t : TypeId} {p : Tmp} {v : Operand} (_ho : o.op = .store t (.tmp p) v) (h : wpListIn F n P ops Q (o :: rest) a w) : wpListIn F n P ops Q (o :: rest) a w := h
theorem gi_dst_gate {N : Tmp} (_hN : o.dst = some N) (h : wpListIn F n P ops Q (o :: rest) a w) : wpListIn F n P ops Q (o :: rest) a w := h
/-- A text into a cell. -/
theorem store_S (hgd : o.guard = none) (hd : o.dst = none) {p v : Operand} (ho : o.op = .store 9 p v) {g k : Nat} {y : ByteArray} {x : Value} (hp : a.eval p = .pointer (some ⟨g, k, none⟩)) (hv : a.eval v = .string y) (hc : w.cell? ⟨g, k, none⟩ = some x) (hf : w.frozen? ⟨g, k, none⟩ = false)
    (h : ∀ w1, w1 = w.setCell ⟨g, k, none⟩ (.string y) → wpListIn F n Try.prog ops Q rest a w1) : wpListIn F n Try.prog ops Q (o :: rest) a w := by
  refine wpListIn_plain hgd fun K hK => ?_
  unfold Oper.wpIn
  refine ⟨by simp [Oper.about, ho], ?_⟩
  rw [Oper.semAt_plain F _ _ (by rw [ho]; intro c hc'; cases hc')]
  have key : ∀ ev : Operand → Value, ev p = .pointer (some ⟨g, k, none⟩) → ev v = .string y → (execOp ev o).run Try.prog w = .ok .skip (w.setCell ⟨g, k, none⟩ (.string y)) := by
    intro ev hev hev2
    unfold execOp
    rw [ho]
    simp only [hev, hev2]
    go_simp
  rw [key _ hp hv]
  exact hK _ _ (by rw [hd]; exact h _ rfl)
theorem store_L (hgd : o.guard = none) (hd : o.dst = none) {p v : Operand} (ho : o.op = .store 47 p v) {g k m c : Nat} {A : Option Addr} {x : Value} (hp : a.eval p = .pointer (some ⟨g, k, none⟩)) (hv : a.eval v = .slice A m c) (hc : w.cell? ⟨g, k, none⟩ = some x) (hf : w.frozen? ⟨g, k, none⟩ = false)
    (h : ∀ w1, w1 = w.setCell ⟨g, k, none⟩ (.slice A m c) → wpListIn F n Try.prog ops Q rest a w1) : wpListIn F n Try.prog ops Q (o :: rest) a w := by
  refine wpListIn_plain hgd fun K hK => ?_
  unfold Oper.wpIn
  refine ⟨by simp [Oper.about, ho], ?_⟩
  rw [Oper.semAt_plain F _ _ (by rw [ho]; intro c hc'; cases hc')]
  have key : ∀ ev : Operand → Value, ev p = .pointer (some ⟨g, k, none⟩) → ev v = .slice A m c → (execOp ev o).run Try.prog w = .ok .skip (w.setCell ⟨g, k, none⟩ (.slice A m c)) := by
    intro ev hev hev2
    unfold execOp
    rw [ho]
    simp only [hev, hev2]
    go_simp
  rw [key _ hp hv]
  exact hK _ _ (by rw [hd]; exact h _ rfl)
/-- l = append(l, part). -/
theorem append_P (hgd : o.guard = none) (s x : Operand) (ho : o.op = .call { callee := .builtin .append, args := #[s, x], argTypes := #[47, 47] }) {B : Nat} {v : Value} {l : List (ByteArray × ByteArray)} (hs : a.eval s = v) (hown : RowP B w 63 v l)
    {g c : Nat} (hx : a.eval x = .slice (some ⟨g, 0, none⟩) 1 c) {u u' : ByteArray} (hu : w.cell? ⟨g, 0, none⟩ = some (.string u)) (hu' : w.cell? ⟨g, 1, none⟩ = some (.string u')) (hl : l.length ≤ 1000000) (hB : B ≤ w.heap.size)
    (h : ∀ g' c' w', RowP B w' 63 (.slice (some ⟨g', 0, none⟩) (l.length + 1) c') (l ++ [(u, u')]) → Kb (fun k => v.ownBlock = some k) w w' → wpListIn F n Try.prog ops Q rest (a.put o.dst (.slice (some ⟨g', 0, none⟩) (l.length + 1) c')) w') : wpListIn F n Try.prog ops Q (o :: rest) a w := by
  obtain ⟨i, hi, hz, h4, h5⟩ := info_parts i63
  refine wpListIn_append_own w hgd s x 47 ho B 63 i _ 2 32 Try.underlying47 hi hz h4 h5 rfl (by omega) v l.length _ hs hown ⟨g, 0, none⟩ 1 c [.string u, .string u'] hx rfl (fun j q hj => ?_) (fun q hq => ?_) (by simp only [maxLen]; omega) (by omega) hB (fun v' w' h1 h2 h3 => ?_)
  · match j, hj with
    | 0, hj => cases hj; exact hu
    | 1, hj => cases hj; exact hu'
    | j + 2, hj => cases hj
  · cases hq with
    | head => rfl
    | tail _ hq =>
      cases hq with
      | head => rfl
      | tail _ hq => cases hq
  · have hk : Kb (fun k => v.ownBlock = some k) w w' := (Kb.refl _ w).grown h2 (fun k e => .inl e)
    rcases h1.2 with ⟨-, h0⟩ | ⟨g', c', cur, h6, -⟩
    · omega
    · subst h6
      exact h g' c' w' (by unfold RowP; rw [cellsB_append, List.length_append]; exact h1) hk
end
theorem own_block {w : World} {B : Nat} {e : TypeId} {v : Value} {l : List (ByteArray × ByteArray)} (h : RowP B w e v l) {k : Nat} (hk : v.ownBlock = some k) : B ≤ k ∧ ∃ cs, w.heap[k]? = some (.cells cs e (0, 0)) := by
  rcases h.2 with ⟨h1, -⟩ | ⟨g, cap, cur, h1, h2, h3, -⟩
  · rw [h1] at hk; cases hk
  · rw [h1] at hk
    cases hk
    exact ⟨h2, cur, h3⟩
/-- What a round may turn: the variables made ahead of the loop, and cells made in it. -/
def SW (B : Nat) (W : World) (k : Nat) : Prop := (B ≤ k ∧ k < B + 6) ∨ (B + 9 ≤ k ∧ ∀ o, W.heap[k]? = some o → o.isCells = true)
theorem sw_keeps {B : Nat} {W W' : World} (h : Kb (SW B W) W W') : KeepsFrom (B + 7) W W' :=
  ⟨h.size, fun k o hk ho hc => h.blk ho (by
    rintro (⟨h1, h2⟩ | ⟨h1, h2⟩)
    · omega
    · rw [h2 o ho] at hc; cases hc)⟩
theorem sw_b0 {B : Nat} {W W' : World} (h : Kb (SW B W) W W') (hs : B + 9 ≤ W.heap.size) : W'.heap[B + 6]? = W.heap[B + 6]? :=
  h.block _ (by omega) (by rintro (⟨h1, h2⟩ | ⟨h1, h2⟩) <;> omega)
theorem sw_low {B : Nat} {W : World} {k : Nat} (h : SW B W k) : B ≤ k := by rcases h with h | h <;> omega
theorem sw_own {B : Nat} {W : World} {v : Value} {l : List (ByteArray × ByteArray)} (h : RowP (B + 9) W 63 v l) {k : Nat} (hk : v.ownBlock = some k) : SW B W k := by
  obtain ⟨h1, cs, h2⟩ := own_block h hk
  exact .inr ⟨h1, fun o ho => by rw [h2] at ho; cases ho; rfl⟩
/-- A stop on the walk's way. -/
def Hold (p : Prop) : Prop := p
theorem hold_block {F : Fence} {n i : Nat} {P : Program} {c : Code} {Q : Exit → Act → World → Prop} {a : Act} {w : World} (_h : i = 2) (h : Hold ((Code.block i c).wpIn F n P Q a w)) : (Code.block i c).wpIn F n P Q a w := h
theorem hold_seq {F : Fence} {n i : Nat} {P : Program} {ops : Array Oper} {b : Bool} {c : Code} {Q : Exit → Act → World → Prop} {a : Act} {w : World} (_h : i = 14) (h : Hold (((Code.region i ops b).seq c).wpIn F n P Q a w)) : ((Code.region i ops b).seq c).wpIn F n P Q a w := h
/-- A region in a round: walked as one that stands in none. -/
theorem wpOpIn_inRound {l n i : Nat} {P : Program} {ops : Array Oper} {Q : Exit → Act → World → Prop} (hd : ∀ (i : Nat) (o : Oper), ops[i]? = some o → ∀ c : Call, o.op ≠ Op.defer c) {K K' : Act → World → Prop} (hK : ∀ a w, K a w → K' a w) {a : Act} {w : World}
    (h : wpOpIn Fence.wide n P ops Q i K a w) : wpOpIn (Fence.wide.inRound l) n P ops Q i K' a w := by
  have h := wpOpIn_mono hK h
  unfold wpOpIn at h ⊢
  cases ho : ops[i]? with
  | none => rw [ho] at h; exact h
  | some o =>
    rw [ho] at h
    dsimp only at h ⊢
    by_cases hw : Region.wanted o (yielded ops a.tmps) = true
    · rw [if_pos hw] at h ⊢
      unfold Oper.wpIn at h ⊢
      rw [Oper.semAt_plain _ _ _ (hd i o ho)] at h ⊢
      exact h
    · rw [if_neg hw] at h ⊢
      exact h
theorem wpAnyIn_inRound {l n : Nat} {P : Program} {md : Region.Mode} {ops : Array Oper} {Q : Exit → Act → World → Prop} (hd : ∀ (i : Nat) (o : Oper), ops[i]? = some o → ∀ c : Call, o.op ≠ Op.defer c) :
    ∀ (fuel : Nat) (listed : Array Bool) (a : Act) (w : World), wpAnyIn Fence.wide n P md ops Q fuel listed a w → wpAnyIn (Fence.wide.inRound l) n P md ops Q fuel listed a w
  | 0, _, _, _, h => h
  | fuel + 1, listed, a, w, h => ⟨h.1, fun i hi => wpOpIn_inRound hd (fun a w h => wpAnyIn_inRound hd fuel _ a w h) (h.2 i hi)⟩
section
variable {F : Fence} {n : Nat} {ops : Array Oper} {o : Oper} {a : Act} {K : Act → World → Prop} {Q : Exit → Act → World → Prop} {w : World}
/-- l = append(l, part), in a region that draws. -/
theorem append_E {N : Tmp} (hN : o.dst = some N) (hw : Region.wanted o (yielded ops a.tmps) = true) (s x : Operand) (ho : o.op = .call { callee := .builtin .append, args := #[s, x], argTypes := #[47, 47] }) {B : Nat} {v : Value} {l : List (ByteArray × ByteArray)} (hs : a.eval s = v) (hown : RowP B w 63 v l)
    {g c : Nat} (hx : a.eval x = .slice (some ⟨g, 0, none⟩) 1 c) {u u' : ByteArray} (hu : w.cell? ⟨g, 0, none⟩ = some (.string u)) (hu' : w.cell? ⟨g, 1, none⟩ = some (.string u')) (hl : l.length ≤ 1000000) (hB : B ≤ w.heap.size)
    (h : ∀ g' c' w', RowP B w' 63 (.slice (some ⟨g', 0, none⟩) (l.length + 1) c') (l ++ [(u, u')]) → Kb (fun k => v.ownBlock = some k) w w' → K (a.put o.dst (.slice (some ⟨g', 0, none⟩) (l.length + 1) c')) w') :
    if Region.wanted o (yielded ops a.tmps) = true then Oper.wpIn F n Try.prog o a w K Q else (∀ f, o.about Try.prog w a.eval = some f → F.fn f) ∧ K (a.put o.dst undef) w := by
  rw [if_pos hw]
  obtain ⟨i, hi, hz, h4, h5⟩ := info_parts i63
  obtain ⟨v', w', hrun, h1, h2, h3⟩ := run_append_own (P := Try.prog) w B 47 o.type 63 i _ 2 32 Try.underlying47 hi hz h4 h5 rfl (by omega) v l.length _ hown ⟨g, 0, none⟩ 1 c [.string u, .string u'] rfl (fun j q hj => by
    match j, hj with
    | 0, hj => cases hj; exact hu
    | 1, hj => cases hj; exact hu'
    | j + 2, hj => cases hj) (fun q hq => by
    cases hq with
    | head => rfl
    | tail _ hq =>
      cases hq with
      | head => rfl
      | tail _ hq => cases hq) (by simp only [maxLen]; omega) (by omega) hB
  have hk : Kb (fun k => v.ownBlock = some k) w w' := (Kb.refl _ w).grown h2 (fun k e => .inl e)
  rcases h1.2 with ⟨-, h0⟩ | ⟨g', c', cur, h6, -⟩
  · omega
  · subst h6
    have hfin := h g' c' w' (by unfold RowP; rw [cellsB_append, List.length_append]; exact h1) hk
    unfold Oper.wpIn
    refine ⟨by simp [Oper.about, ho, resolve, Target.leads, Sem.run_pure], ?_⟩
    rw [Oper.semAt_plain F _ _ (by rw [ho]; intro c hc'; cases hc')]
    simp [execOp, ho, resolve, invoke, builtin, hs, hx, hrun, Result.andThen]
    exact hfin
/-- The store of a slice, in a region that draws. -/
theorem store_E {p : Tmp} {v : Operand} (ho : o.op = .store 47 (.tmp p) v) (hd : o.dst = none) (hw : Region.wanted o (yielded ops a.tmps) = true) {g k m c : Nat} {A : Option Addr} {x : Value} (hp : a.eval (.tmp p) = .pointer (some ⟨g, k, none⟩)) (hv : a.eval v = .slice A m c) (hc : w.cell? ⟨g, k, none⟩ = some x) (hf : w.frozen? ⟨g, k, none⟩ = false)
    (h : ∀ w1, w1 = w.setCell ⟨g, k, none⟩ (.slice A m c) → K a w1) :
    if Region.wanted o (yielded ops a.tmps) = true then Oper.wpIn F n Try.prog o a w K Q else (∀ f, o.about Try.prog w a.eval = some f → F.fn f) ∧ K (a.put o.dst undef) w := by
  rw [if_pos hw]
  unfold Oper.wpIn
  refine ⟨by simp [Oper.about, ho], ?_⟩
  rw [Oper.semAt_plain F _ _ (by rw [ho]; intro c hc'; cases hc')]
  have key : ∀ ev : Operand → Value, ev (.tmp p) = .pointer (some ⟨g, k, none⟩) → ev v = .slice A m c → (execOp ev o).run Try.prog w = .ok .skip (w.setCell ⟨g, k, none⟩ (.slice A m c)) := by
    intro ev hev hev2
    unfold execOp
    rw [ho]
    simp only [hev, hev2]
    go_simp
  rw [key _ hp hv]
  have := h _ rfl
  simp only [Oper.uponIn_skip]
  rw [hd]
  exact this
end
end Go.Proofs.Ytpobgpfkohlokaa.PC
