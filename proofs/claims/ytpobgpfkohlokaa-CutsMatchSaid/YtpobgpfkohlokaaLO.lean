/- labels.inOrder (of labels that are), choose; same, texts (of those that are). -/
import Derived.Test.YtpobgpfkohlokaaLP
import Derived.Deep.QuietTactic
import Derived.Sort.Walk0
import Derived.Laws.Cover1
namespace Go.Proofs.Ytpobgpfkohlokaa.PC
open Go.RowKit Go.Lib Go.Shelf Go.Maps Go.Proofs.YtpobgpfkohlokaaW.PrintWords Go.Proofs.YtpobgpfkohlokaaW.PrintLast Go.Proofs.YtpobgpfkohlokaaW.PrintMore
set_option linter.unusedVariables false
set_option linter.unusedSimpArgs false
theorem bytesLess_cb : ∀ (a b : List UInt8), Op.bytesLess a b = decide (compareBytes a b < 0)
  | [], [] => rfl
  | [], _ :: _ => rfl
  | _ :: _, [] => rfl
  | x :: a, y :: b => by
    have ih := bytesLess_cb a b
    have h1 : Op.bytesLess (x :: a) (y :: b) = (decide (x < y) || (x == y && Op.bytesLess a b)) := rfl
    rw [h1, ih]
    have h2 := cb_cons x y a b
    by_cases hx : compareBytes (x :: a) (y :: b) < 0
    · rw [decide_eq_true hx]
      rcases h2.1 hx with h | ⟨h, h'⟩
      · simp [h]
      · simp [h, h']
    · rw [decide_eq_false hx]
      have h3 : ¬ (x < y ∨ (x = y ∧ compareBytes a b < 0)) := fun h => hx (h2.2 h)
      have h4 : ¬ x < y := fun h => h3 (.inl h)
      by_cases h5 : x = y
      · have h6 : ¬ compareBytes a b < 0 := fun h => h3 (.inr ⟨h5, h⟩)
        simp [h4, h6]
      · simp [h4, h5]
/-- Labels in order: rising names, no value is empty. -/
structure InO (l : List PB) : Prop where
  up : l.Pairwise (fun x y => compareBytes x.1.data.toList y.1.data.toList < 0)
  ne : ∀ p ∈ l, p.2.data.toList ≠ []
set_option maxHeartbeats 8000000 in
set_option maxRecDepth 100000 in
theorem inorder_calls (l : List PB) (B : Nat) (v : Value) (w : World) (hr : RowP B w 74 v l) (hl : l.length ≤ 1000000) (ho : InO l) : Calls Try.prog 45 #[v] w fun e w' => e = .returned (.bool true) ∧ Below w.heap.size w w' := by
  obtain ⟨A, c, rfl, hcl⟩ := own_slice hr
  obtain ⟨nl, hnl⟩ : ∃ nl, nl = l.length := ⟨_, rfl⟩
  rw [← hnl] at hcl hr hl ⊢
  have HR := Aside0.mk (show RowP B w 74 (.slice A nl c) l from by rw [hnl] at hr ⊢; exact hr)
  have HN := Aside0.mk hnl
  have HO := Aside0.mk ho
  have hu74 := Try.underlying74
  clear hr hnl ho
  go_enter Try.func45, Try.ntmps45
  go_wp2
  go_loopg [7] nl (fun g1 v7 wr => ∃ i : Nat, v7 = .int .i64 i ∧ Aside0 (i + g1 = nl) ∧ Aside0 (Below w.heap.size w wr))
  case atStart => exact ⟨0, rfl, ⟨by omega⟩, ⟨Below.refl _ _⟩⟩
  case round =>
    obtain ⟨i, rfl, HI, HB⟩ := hrel
    by_cases hlt : i < nl
    · have hz : (i : Int) < (nl : Int) := by omega
      have hwi : IntKind.i64.wrap ((i : Int) + 1) = ((i + 1 : Nat) : Int) := (i64_w _).trans ((w64 (by omega) (by omega)).trans (by omega))
      obtain ⟨p, hp⟩ : ∃ p, l[i]? = some p := ⟨l[i]'(by rw [← HN.out]; exact hlt), List.getElem?_eq_getElem _⟩
      obtain ⟨r, rfl, -, hr, hr0, hr1⟩ := rowP_get HR.out hp
      have c0 := cell_bl HB.out hr0
      have c1 := cell_bl HB.out hr1
      have hne : (p.2.toList == []) = false := by
        have := HO.out.ne p (List.mem_of_getElem? hp)
        rw [← ByteArray.toList_eq] at this
        simpa using this
      have HP := Aside0.mk hp
      have hr9 := hr
      clear hp hr0 hr1 hr
      by_cases hi : 0 < i
      · have hz2 : (0 : Int) < (i : Int) := by omega
        obtain ⟨j, hj⟩ : ∃ j, j + 1 = i := ⟨i - 1, by omega⟩
        have hwj : IntKind.i64.wrap ((i : Int) - 1) = (j : Int) := (i64_w _).trans ((w64 (by omega) (by omega)).trans (by omega))
        have hjl : j < nl := by omega
        obtain ⟨q, hq⟩ : ∃ q, l[j]? = some q := ⟨l[j]'(by rw [← HN.out]; exact hjl), List.getElem?_eq_getElem _⟩
        obtain ⟨r2, hr2, -, -, hq0, -⟩ := rowP_get HR.out hq
        cases hr2
        have c2 := cell_bl HB.out hq0
        have c2a := cell_bl (below_alloc (Below.refl _ _) (.cells #[.string p.1, .string p.2] 74)) c2
        have hrn : ¬ r = wr.heap.size := by have h1 := HB.out.size; omega
        have hlow : compareBytes q.1.data.toList p.1.data.toList < 0 := by
          obtain ⟨h1, e1⟩ := List.getElem?_eq_some_iff.1 hq
          obtain ⟨h2, e2⟩ := List.getElem?_eq_some_iff.1 HP.out
          have := List.pairwise_iff_getElem.1 HO.out.up j i h1 h2 (by omega)
          rw [e1, e2] at this
          exact this
        have b0 : Op.bytesLess p.1.toList q.1.toList = false := by
          rw [ByteArray.toList_eq, ByteArray.toList_eq, bytesLess_cb]
          exact decide_eq_false (cb_asym hlow)
        have b1 : (p.1.toList == q.1.toList) = false := by
          rw [ByteArray.toList_eq, ByteArray.toList_eq]
          refine beq_eq_false_iff_ne.2 (fun h => ?_)
          rw [h, cb_self] at hlow
          omega
        have b2 : (Op.bytesLess p.1.toList q.1.toList || p.1.toList == q.1.toList) = false := by rw [b0, b1]; rfl
        clear hq hq0 hlow hj
        go_wp2_with fail
        go_quiet (fail)
        go_wp2_with fail
        go_roundg (nl - (i + 1))
        case measure => have := HI.out; omega
        case rel => exact ⟨i + 1, by first | rfl | rw [hwi], ⟨by have := HI.out; omega⟩, ⟨pw_below_drewN (below_alloc HB.out _) _⟩⟩
      · have hz2 : ¬ (0 : Int) < (i : Int) := by omega
        go_wp2_with fail
        go_quiet (fail)
        go_wp2_with fail
        go_roundg (nl - (i + 1))
        case measure => have := HI.out; omega
        case rel => exact ⟨i + 1, by first | rfl | rw [hwi], ⟨by have := HI.out; omega⟩, ⟨pw_below_drewN (below_alloc HB.out _) _⟩⟩
    · have hz : ¬ (i : Int) < (nl : Int) := by omega
      go_wp2
      go_ret
      exact ⟨rfl, HB.out⟩
section
variable {ops : Array Oper} {rest : List Oper} {o : Oper} {a : Act} {Q : Exit → Act → World → Prop} {w : World}
/-- out = append(out, label). -/
theorem append_L (hgd : o.guard = none) (s x : Operand) (ho : o.op = .call { callee := .builtin .append, args := #[s, x], argTypes := #[31, 31] }) {B : Nat} {v : Value} {l : List PB} (hs : a.eval s = v) (hown : RowP B w 74 v l)
    {g c : Nat} (hx : a.eval x = .slice (some ⟨g, 0, none⟩) 1 c) {u u' : ByteArray} (hu : w.cell? ⟨g, 0, none⟩ = some (.string u)) (hu' : w.cell? ⟨g, 1, none⟩ = some (.string u')) (hl : l.length ≤ 1000000) (hB : B ≤ w.heap.size)
    (h : ∀ g' c' w', RowP B w' 74 (.slice (some ⟨g', 0, none⟩) (l.length + 1) c') (l ++ [(u, u')]) → Kb (fun k => B ≤ k) w w' → wpList Try.prog ops Q rest (a.put o.dst (.slice (some ⟨g', 0, none⟩) (l.length + 1) c')) w') : wpList Try.prog ops Q (o :: rest) a w := by
  obtain ⟨i, hi, hz, h4, h5⟩ := info_parts i74
  refine wpList_append_own w hgd s x 31 ho B 74 i _ 2 32 Try.underlying31 hi hz h4 h5 rfl (by omega) v l.length _ hs hown ⟨g, 0, none⟩ 1 c [.string u, .string u'] hx rfl (fun j q hj => ?_) (fun q hq => ?_) (by simp only [maxLen]; omega) (by omega) hB (fun v' w' h1 h2 h3 => ?_)
  · match j, hj with
    | 0, hj => cases hj; exact hu
    | 1, hj => cases hj; exact hu'
    | j + 2, hj => cases hj
  · cases hq with
    | head => rfl
    | tail _ hq =>
      cases hq with
      | head => rfl
      | tail _ hq => cases hq
  · have hk := kb_grown hown h2
    rcases h1.2 with ⟨-, h0⟩ | ⟨g', c', cur, h6, -⟩
    · omega
    · subst h6
      exact h g' c' w' (by unfold RowP; rw [cellsB_append, List.length_append]; exact h1) hk
end
/- labels.choose, by function 52 as what is asked. -/
set_option maxHeartbeats 8000000 in
set_option maxRecDepth 100000 in
theorem choose52_calls (l : List PB) (f : PB → Bool) (B gc : Nat) (v : Value) (w : World) (hr : RowP B w 74 v l) (hl : l.length ≤ 1000000) (ho : InO l)
    (hcl : ∀ (W : World) (x : PB), x ∈ l → Below w.heap.size w W → Calls Try.prog 52 #[.agg #[.string x.1, .string x.2], .pointer (some ⟨gc, 0, none⟩)] W fun e W' => e = .returned (.bool (f x)) ∧ Below W.heap.size W W') :
    Calls Try.prog 51 #[v, .func (.func 52) #[] #[.pointer (some ⟨gc, 0, none⟩)]] w fun e w' => ∃ u, e = .returned u ∧ RowP w.heap.size w' 74 u (l.filter f) ∧ Below w.heap.size w w' := by
  have hin := inorder_calls l B v w hr hl ho
  obtain ⟨A, c, rfl, hcl'⟩ := own_slice hr
  obtain ⟨nl, hnl⟩ : ∃ nl, nl = l.length := ⟨_, rfl⟩
  rw [← hnl] at hcl' hr hl hin ⊢
  have HR := Aside0.mk (show RowP B w 74 (.slice A nl c) l from by rw [hnl] at hr ⊢; exact hr)
  have HN := Aside0.mk hnl
  have HCL := Aside0.mk hcl
  have hu74 := Try.underlying74
  clear hr hnl ho hcl
  go_enter Try.func51, Try.ntmps51
  go_wp2_with fail
  refine hin.mono ?_
  rintro e w0 ⟨rfl, hb0⟩
  have HB0 := Aside0.mk hb0
  clear hb0 hin
  go_wp2_with fail
  go_loopg [4, 12] nl (fun g1 v4 v12 wr => ∃ (i : Nat) (A4 : Option Addr) (c4 : Nat), v12 = .int .i64 i ∧ v4 = .slice A4 ((l.take i).filter f).length c4 ∧ Aside0 (i + g1 = nl) ∧ Aside0 (RowP w.heap.size wr 74 (.slice A4 ((l.take i).filter f).length c4) ((l.take i).filter f)) ∧ Aside0 (Below w.heap.size w wr))
  case atStart => exact ⟨0, none, 0, rfl, rfl, ⟨by omega⟩, ⟨⟨rfl, .inl ⟨rfl, rfl⟩⟩⟩, HB0⟩
  case round =>
    obtain ⟨i, A4, c4, rfl, rfl, HI, HO4, HB⟩ := hrel
    obtain ⟨ou, hou⟩ : ∃ ou, ou = (l.take i).filter f := ⟨_, rfl⟩
    rw [← hou] at HO4 ⊢
    have HOU := Aside0.mk hou
    clear hou
    by_cases hlt : i < nl
    · have hz : (i : Int) < (nl : Int) := by omega
      have hwi : IntKind.i64.wrap ((i : Int) + 1) = ((i + 1 : Nat) : Int) := (i64_w _).trans ((w64 (by omega) (by omega)).trans (by omega))
      obtain ⟨p, hp⟩ : ∃ p, l[i]? = some p := ⟨l[i]'(by rw [← HN.out]; exact hlt), List.getElem?_eq_getElem _⟩
      obtain ⟨r, rfl, -, hr, hr0, hr1⟩ := rowP_get HR.out hp
      have c0 := cell_bl HB.out hr0
      have c1 := cell_bl HB.out hr1
      have HSN := Aside0.mk (show (l.take (i + 1)).filter f = ou ++ (if f p then [p] else []) by
        rw [List.take_add_one, hp, List.filter_append, ← HOU.out]
        congr 1
        show List.filter f [p] = _
        cases hf : f p <;> simp [hf])
      have HLE := Aside0.mk (show ou.length ≤ 1000000 by
        rw [HOU.out]
        refine Nat.le_trans (List.length_filter_le _ _) ?_
        rw [List.length_take]
        omega)
      have hc := HCL.out (wr.alloc (.cells #[.string p.1, .string p.2] 74)) p (List.mem_of_getElem? hp) (below_alloc HB.out _)
      have hbox := World.alloc_heap_new wr (.cells #[.string p.1, .string p.2] 74)
      have HRW := Aside0.mk (HO4.out.kb ((Kb.refl (fun _ => False) wr).alloc (.cells #[.string p.1, .string p.2] 74)) (fun _ _ h => h))
      have HBW := Aside0.mk (below_alloc HB.out (.cells #[.string p.1, .string p.2] 74))
      clear hp hr0 hr1 hr HO4
      cases hf : f p with
      | false =>
        rw [hf] at hc HSN
        clear hf
        go_wp2_with fail
        refine hc.mono ?_
        rintro e w1 ⟨rfl, hb⟩
        have HB1 := Aside0.mk (below_then HBW.out hb)
        have HR1 := Aside0.mk (HRW.out.kb (Kb.of_below (S := fun _ => False) hb) (fun _ _ h => h))
        clear hb hc hbox HRW HBW
        go_wp2_with fail
        go_roundg (nl - (i + 1))
        case measure => have := HI.out; omega
        case rel =>
          have e0 : (l.take (i + 1)).filter f = ou := by rw [HSN.out]; simp
          exact ⟨i + 1, A4, c4, by first | rfl | rw [hwi], by rw [e0], ⟨by have := HI.out; omega⟩, ⟨by rw [e0]; exact HR1.out⟩, HB1⟩
      | true =>
        rw [hf] at hc HSN
        clear hf
        go_wp2_with fail
        refine hc.mono ?_
        rintro e w1 ⟨rfl, hb⟩
        have HB1 := Aside0.mk (below_then HBW.out hb)
        have HR1 := Aside0.mk (HRW.out.kb (Kb.of_below (S := fun _ => False) hb) (fun _ _ h => h))
        have d0 : w1.cell? ⟨wr.heap.size, 0, none⟩ = some (.string p.1) := (blk_cell (Kb.blk hbox (Kb.of_below (S := fun _ => False) hb) (fun h => h)) 0).trans rfl
        have d1 : w1.cell? ⟨wr.heap.size, 1, none⟩ = some (.string p.2) := (blk_cell (Kb.blk hbox (Kb.of_below (S := fun _ => False) hb) (fun h => h)) 1).trans rfl
        clear hb hc hbox HRW HBW
        go_wp2_with (first | ((with_reducible refine gate_builtin (b := .append) (xs := #[.tmp 19, .tmp 21]) rfl ?_); at_builtin; refine append_L (u := p.1) (u' := p.2) rfl (.tmp 19) (.tmp 21) rfl rfl HR1.out.alloc rfl (by go_simp) (by go_simp) HLE.out (by have := HB1.out.size; simp only [World.size_alloc]; omega) ?_; intro g2 c2 w2 hr2 hk2; have HR2 := Aside0.mk hr2; have HB2 := Aside0.mk (below_kb (below_alloc HB1.out _) hk2); clear hr2 hk2))
        go_roundg (nl - (i + 1))
        case measure => have := HI.out; omega
        case rel =>
          have e0 : (l.take (i + 1)).filter f = ou ++ [p] := by rw [HSN.out]; simp
          exact ⟨i + 1, _, c2, by first | rfl | rw [hwi], by rw [e0, List.length_append]; rfl, ⟨by have := HI.out; omega⟩, ⟨by rw [e0, List.length_append]; exact HR2.out⟩, HB2⟩
    · have hz : ¬ (i : Int) < (nl : Int) := by omega
      have HE := Aside0.mk (show l.filter f = ou by
        rw [HOU.out, List.take_of_length_le (by have := HN.out; omega)])
      go_wp2
      go_ret
      exact ⟨_, rfl, by rw [HE.out]; exact HO4.out, HB.out⟩
/- labels.choose, by function 72 as what is asked. -/
set_option maxHeartbeats 8000000 in
set_option maxRecDepth 100000 in
theorem choose72_calls (l : List PB) (f : PB → Bool) (B gc : Nat) (v : Value) (w : World) (hr : RowP B w 74 v l) (hl : l.length ≤ 1000000) (ho : InO l)
    (hcl : ∀ (W : World) (x : PB), x ∈ l → Below w.heap.size w W → Calls Try.prog 72 #[.agg #[.string x.1, .string x.2], .pointer (some ⟨gc, 0, none⟩)] W fun e W' => e = .returned (.bool (f x)) ∧ Below W.heap.size W W') :
    Calls Try.prog 51 #[v, .func (.func 72) #[] #[.pointer (some ⟨gc, 0, none⟩)]] w fun e w' => ∃ u, e = .returned u ∧ RowP w.heap.size w' 74 u (l.filter f) ∧ Below w.heap.size w w' := by
  have hin := inorder_calls l B v w hr hl ho
  obtain ⟨A, c, rfl, hcl'⟩ := own_slice hr
  obtain ⟨nl, hnl⟩ : ∃ nl, nl = l.length := ⟨_, rfl⟩
  rw [← hnl] at hcl' hr hl hin ⊢
  have HR := Aside0.mk (show RowP B w 74 (.slice A nl c) l from by rw [hnl] at hr ⊢; exact hr)
  have HN := Aside0.mk hnl
  have HCL := Aside0.mk hcl
  have hu74 := Try.underlying74
  clear hr hnl ho hcl
  go_enter Try.func51, Try.ntmps51
  go_wp2_with fail
  refine hin.mono ?_
  rintro e w0 ⟨rfl, hb0⟩
  have HB0 := Aside0.mk hb0
  clear hb0 hin
  go_wp2_with fail
  go_loopg [4, 12] nl (fun g1 v4 v12 wr => ∃ (i : Nat) (A4 : Option Addr) (c4 : Nat), v12 = .int .i64 i ∧ v4 = .slice A4 ((l.take i).filter f).length c4 ∧ Aside0 (i + g1 = nl) ∧ Aside0 (RowP w.heap.size wr 74 (.slice A4 ((l.take i).filter f).length c4) ((l.take i).filter f)) ∧ Aside0 (Below w.heap.size w wr))
  case atStart => exact ⟨0, none, 0, rfl, rfl, ⟨by omega⟩, ⟨⟨rfl, .inl ⟨rfl, rfl⟩⟩⟩, HB0⟩
  case round =>
    obtain ⟨i, A4, c4, rfl, rfl, HI, HO4, HB⟩ := hrel
    obtain ⟨ou, hou⟩ : ∃ ou, ou = (l.take i).filter f := ⟨_, rfl⟩
    rw [← hou] at HO4 ⊢
    have HOU := Aside0.mk hou
    clear hou
    by_cases hlt : i < nl
    · have hz : (i : Int) < (nl : Int) := by omega
      have hwi : IntKind.i64.wrap ((i : Int) + 1) = ((i + 1 : Nat) : Int) := (i64_w _).trans ((w64 (by omega) (by omega)).trans (by omega))
      obtain ⟨p, hp⟩ : ∃ p, l[i]? = some p := ⟨l[i]'(by rw [← HN.out]; exact hlt), List.getElem?_eq_getElem _⟩
      obtain ⟨r, rfl, -, hr, hr0, hr1⟩ := rowP_get HR.out hp
      have c0 := cell_bl HB.out hr0
      have c1 := cell_bl HB.out hr1
      have HSN := Aside0.mk (show (l.take (i + 1)).filter f = ou ++ (if f p then [p] else []) by
        rw [List.take_add_one, hp, List.filter_append, ← HOU.out]
        congr 1
        show List.filter f [p] = _
        cases hf : f p <;> simp [hf])
      have HLE := Aside0.mk (show ou.length ≤ 1000000 by
        rw [HOU.out]
        refine Nat.le_trans (List.length_filter_le _ _) ?_
        rw [List.length_take]
        omega)
      have hc := HCL.out (wr.alloc (.cells #[.string p.1, .string p.2] 74)) p (List.mem_of_getElem? hp) (below_alloc HB.out _)
      have hbox := World.alloc_heap_new wr (.cells #[.string p.1, .string p.2] 74)
      have HRW := Aside0.mk (HO4.out.kb ((Kb.refl (fun _ => False) wr).alloc (.cells #[.string p.1, .string p.2] 74)) (fun _ _ h => h))
      have HBW := Aside0.mk (below_alloc HB.out (.cells #[.string p.1, .string p.2] 74))
      clear hp hr0 hr1 hr HO4
      cases hf : f p with
      | false =>
        rw [hf] at hc HSN
        clear hf
        go_wp2_with fail
        refine hc.mono ?_
        rintro e w1 ⟨rfl, hb⟩
        have HB1 := Aside0.mk (below_then HBW.out hb)
        have HR1 := Aside0.mk (HRW.out.kb (Kb.of_below (S := fun _ => False) hb) (fun _ _ h => h))
        clear hb hc hbox HRW HBW
        go_wp2_with fail
        go_roundg (nl - (i + 1))
        case measure => have := HI.out; omega
        case rel =>
          have e0 : (l.take (i + 1)).filter f = ou := by rw [HSN.out]; simp
          exact ⟨i + 1, A4, c4, by first | rfl | rw [hwi], by rw [e0], ⟨by have := HI.out; omega⟩, ⟨by rw [e0]; exact HR1.out⟩, HB1⟩
      | true =>
        rw [hf] at hc HSN
        clear hf
        go_wp2_with fail
        refine hc.mono ?_
        rintro e w1 ⟨rfl, hb⟩
        have HB1 := Aside0.mk (below_then HBW.out hb)
        have HR1 := Aside0.mk (HRW.out.kb (Kb.of_below (S := fun _ => False) hb) (fun _ _ h => h))
        have d0 : w1.cell? ⟨wr.heap.size, 0, none⟩ = some (.string p.1) := (blk_cell (Kb.blk hbox (Kb.of_below (S := fun _ => False) hb) (fun h => h)) 0).trans rfl
        have d1 : w1.cell? ⟨wr.heap.size, 1, none⟩ = some (.string p.2) := (blk_cell (Kb.blk hbox (Kb.of_below (S := fun _ => False) hb) (fun h => h)) 1).trans rfl
        clear hb hc hbox HRW HBW
        go_wp2_with (first | ((with_reducible refine gate_builtin (b := .append) (xs := #[.tmp 19, .tmp 21]) rfl ?_); at_builtin; refine append_L (u := p.1) (u' := p.2) rfl (.tmp 19) (.tmp 21) rfl rfl HR1.out.alloc rfl (by go_simp) (by go_simp) HLE.out (by have := HB1.out.size; simp only [World.size_alloc]; omega) ?_; intro g2 c2 w2 hr2 hk2; have HR2 := Aside0.mk hr2; have HB2 := Aside0.mk (below_kb (below_alloc HB1.out _) hk2); clear hr2 hk2))
        go_roundg (nl - (i + 1))
        case measure => have := HI.out; omega
        case rel =>
          have e0 : (l.take (i + 1)).filter f = ou ++ [p] := by rw [HSN.out]; simp
          exact ⟨i + 1, _, c2, by first | rfl | rw [hwi], by rw [e0, List.length_append]; rfl, ⟨by have := HI.out; omega⟩, ⟨by rw [e0, List.length_append]; exact HR2.out⟩, HB2⟩
    · have hz : ¬ (i : Int) < (nl : Int) := by omega
      have HE := Aside0.mk (show l.filter f = ou by
        rw [HOU.out, List.take_of_length_le (by have := HN.out; omega)])
      go_wp2
      go_ret
      exact ⟨_, rfl, by rw [HE.out]; exact HO4.out, HB.out⟩
/- Two rows of the same: same says true. -/
set_option maxHeartbeats 8000000 in
set_option maxRecDepth 100000 in
theorem same_true (l : List PB) (B B' : Nat) (v v' : Value) (w : World) (hr : RowP B w 74 v l) (hr' : RowP B' w 74 v' l) (hl : l.length ≤ 1000000) : Calls Try.prog 13 #[v, v'] w fun e w' => e = .returned (.bool true) ∧ Below w.heap.size w w' := by
  obtain ⟨A, c, rfl, hcl⟩ := own_slice hr
  obtain ⟨A', c', rfl, hcl'⟩ := own_slice hr'
  obtain ⟨nl, hnl⟩ : ∃ nl, nl = l.length := ⟨_, rfl⟩
  rw [← hnl] at hcl hr hl hcl' hr' ⊢
  have HR := Aside0.mk (show RowP B w 74 (.slice A nl c) l from by rw [hnl] at hr ⊢; exact hr)
  have HR' := Aside0.mk (show RowP B' w 74 (.slice A' nl c') l from by rw [hnl] at hr' ⊢; exact hr')
  have HN := Aside0.mk hnl
  have hu74 := Try.underlying74
  clear hr hr' hnl
  go_enter Try.func13, Try.ntmps13
  go_wp2
  go_loopg [5] nl (fun g1 v5 wr => ∃ i : Nat, v5 = .int .i64 i ∧ Aside0 (i + g1 = nl) ∧ Aside0 (Below w.heap.size w wr))
  case atStart => exact ⟨0, rfl, ⟨by omega⟩, ⟨Below.refl _ _⟩⟩
  case round =>
    obtain ⟨i, rfl, HI, HB⟩ := hrel
    by_cases hlt : i < nl
    · have hz : (i : Int) < (nl : Int) := by omega
      have hwi : IntKind.i64.wrap ((i : Int) + 1) = ((i + 1 : Nat) : Int) := (i64_w _).trans ((w64 (by omega) (by omega)).trans (by omega))
      obtain ⟨p, hp⟩ : ∃ p, l[i]? = some p := ⟨l[i]'(by rw [← HN.out]; exact hlt), List.getElem?_eq_getElem _⟩
      obtain ⟨r, rfl, -, hr, hr0, hr1⟩ := rowP_get HR.out hp
      obtain ⟨r', rfl, -, hr', hr0', hr1'⟩ := rowP_get HR'.out hp
      have c0 := cell_bl HB.out hr0
      have c1 := cell_bl HB.out hr1
      have c0' := cell_bl HB.out hr0'
      have c1' := cell_bl HB.out hr1'
      clear hr0 hr1 hr hr0' hr1' hr'
      clear hp
      go_wp2_with fail
      go_quiet (fail)
      go_wp2_with fail
      go_roundg (nl - (i + 1))
      case measure => have := HI.out; omega
      case rel => exact ⟨i + 1, by first | rfl | rw [hwi], ⟨by have := HI.out; omega⟩, ⟨pw_below_drewN HB.out _⟩⟩
    · have hz : ¬ (i : Int) < (nl : Int) := by omega
      go_wp2
      go_ret
      exact ⟨rfl, HB.out⟩
/- Two rows of the same: same says true. -/
set_option maxHeartbeats 8000000 in
set_option maxRecDepth 100000 in
theorem texts_true (l : List ByteArray) (B B' : Nat) (v v' : Value) (w : World) (hr : RowT B w v l) (hr' : RowT B' w v' l) (hl : l.length ≤ 1000000) : Calls Try.prog 14 #[v, v'] w fun e w' => e = .returned (.bool true) ∧ Below w.heap.size w w' := by
  obtain ⟨A, c, rfl, hcl⟩ := own_slice hr
  obtain ⟨A', c', rfl, hcl'⟩ := own_slice hr'
  obtain ⟨nl, hnl⟩ : ∃ nl, nl = l.length := ⟨_, rfl⟩
  rw [← hnl] at hcl hr hl hcl' hr' ⊢
  have HR := Aside0.mk (show RowT B w (.slice A nl c) l from by rw [hnl] at hr ⊢; exact hr)
  have HR' := Aside0.mk (show RowT B' w (.slice A' nl c') l from by rw [hnl] at hr' ⊢; exact hr')
  have HN := Aside0.mk hnl
  have hu74 := Try.underlying74
  clear hr hr' hnl
  go_enter Try.func14, Try.ntmps14
  go_wp2
  go_loopg [5] nl (fun g1 v5 wr => ∃ i : Nat, v5 = .int .i64 i ∧ Aside0 (i + g1 = nl) ∧ Aside0 (Below w.heap.size w wr))
  case atStart => exact ⟨0, rfl, ⟨by omega⟩, ⟨Below.refl _ _⟩⟩
  case round =>
    obtain ⟨i, rfl, HI, HB⟩ := hrel
    by_cases hlt : i < nl
    · have hz : (i : Int) < (nl : Int) := by omega
      have hwi : IntKind.i64.wrap ((i : Int) + 1) = ((i + 1 : Nat) : Int) := (i64_w _).trans ((w64 (by omega) (by omega)).trans (by omega))
      obtain ⟨p, hp⟩ : ∃ p, l[i]? = some p := ⟨l[i]'(by rw [← HN.out]; exact hlt), List.getElem?_eq_getElem _⟩
      obtain ⟨r, rfl, hr, hr0⟩ := rowT_get HR.out hp
      obtain ⟨r', rfl, hr', hr0'⟩ := rowT_get HR'.out hp
      have c0 := cell_bl HB.out hr0
      have c0' := cell_bl HB.out hr0'
      clear hr0 hr hr0' hr'
      clear hp
      go_wp2_with fail
      go_quiet (fail)
      go_wp2_with fail
      go_roundg (nl - (i + 1))
      case measure => have := HI.out; omega
      case rel => exact ⟨i + 1, by first | rfl | rw [hwi], ⟨by have := HI.out; omega⟩, ⟨pw_below_drewN HB.out _⟩⟩
    · have hz : ¬ (i : Int) < (nl : Int) := by omega
      go_wp2
      go_ret
      exact ⟨rfl, HB.out⟩
end Go.Proofs.Ytpobgpfkohlokaa.PC
