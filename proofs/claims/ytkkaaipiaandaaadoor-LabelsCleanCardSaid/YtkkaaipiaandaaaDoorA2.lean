/- labels.inOrder, choose, Drop, By, Without, whatever the labels. -/
import Derived.Test.YtkkaaipiaandaaaDoorA1
namespace Go.Proofs.YtkkaaipiaandaaaDoor.PC
open Go.RowKit Go.Lib Go.Shelf Go.Maps Go.Proofs.YtkkaaipiaandaaaDoorW.PrintWords Go.Proofs.YtkkaaipiaandaaaDoorW.PrintLast Go.Proofs.YtkkaaipiaandaaaDoorW.PrintMore
set_option linter.unusedVariables false
set_option linter.unusedSimpArgs false
/-- Is the label at i as it must be, behind the one ahead of it? -/
def okAt (l : List PB) (i : Nat) : Bool :=
  match l[i]? with
  | none => true
  | some p => !(p.2.toList == []) && (match i with
    | 0 => true
    | j + 1 => match l[j]? with
      | none => true
      | some q => !(Op.bytesLess p.1.toList q.1.toList || p.1.toList == q.1.toList))
def inOB (l : List PB) : Bool := (List.range l.length).all (okAt l)
theorem inOB_false {l : List PB} {i : Nat} (h : i < l.length) (h' : okAt l i = false) : inOB l = false :=
  List.all_eq_false.2 ⟨i, List.mem_range.2 h, by rw [h']; decide⟩
theorem okAt_empty {l : List PB} {i : Nat} {p : PB} (h : l[i]? = some p) (hne : (p.2.toList == []) = true) : okAt l i = false := by
  unfold okAt
  rw [h]
  simp only [hne]
  rfl
theorem okAt_first {l : List PB} {p : PB} (h : l[0]? = some p) (hne : (p.2.toList == []) = false) : okAt l 0 = true := by
  unfold okAt
  rw [h]
  simp only [hne]
  rfl
theorem okAt_next {l : List PB} {i j : Nat} {p q : PB} (hj : j + 1 = i) (h : l[i]? = some p) (h' : l[j]? = some q) (hne : (p.2.toList == []) = false) : okAt l i = !(Op.bytesLess p.1.toList q.1.toList || p.1.toList == q.1.toList) := by
  subst hj
  unfold okAt
  rw [h]
  simp only [hne, h']
  rfl
theorem range_all {f : Nat → Bool} {i : Nat} (h : (List.range i).all f = true) (h' : f i = true) : (List.range (i + 1)).all f = true := by
  rw [List.range_succ, List.all_append, h]
  show (true && (f i && true)) = true
  rw [h']
  rfl
theorem leB (a b : ByteArray) : (Op.bytesLess b.toList a.toList || b.toList == a.toList) = false ↔ compareBytes a.data.toList b.data.toList < 0 := by
  rw [ByteArray.toList_eq, ByteArray.toList_eq, bytesLess_cb]
  constructor
  · intro h
    rcases cb_tri a.data.toList b.data.toList with h1 | h1 | h1
    · exact h1
    · rw [h1] at h
      simp at h
    · rw [decide_eq_true h1] at h
      cases h
  · intro h
    rw [decide_eq_false (cb_asym h)]
    show (_ == _) = false
    refine beq_eq_false_iff_ne.2 (fun e => ?_)
    rw [e, cb_self] at h
    omega
theorem inOB_up {l : List PB} (h : inOB l = true) : ∀ i (hi : i + 1 < l.length), compareBytes (l[i]'(by omega)).1.data.toList (l[i + 1]).1.data.toList < 0 := by
  intro i hi
  have h1 := List.all_eq_true.1 h (i + 1) (List.mem_range.2 hi)
  have e1 : l[i + 1]? = some l[i + 1] := List.getElem?_eq_getElem hi
  have e2 : l[i]? = some (l[i]'(by omega)) := List.getElem?_eq_getElem _
  cases hne : ((l[i + 1]).2.toList == []) with
  | true => rw [okAt_empty e1 hne] at h1; cases h1
  | false =>
    rw [okAt_next rfl e1 e2 hne] at h1
    exact (leB _ _).1 (by simpa using h1)
theorem inO_of {l : List PB} (h : inOB l = true) : InO l := by
  refine ⟨?_, ?_⟩
  · rw [List.pairwise_iff_getElem]
    intro i j hi hj hij
    have key : ∀ d i (hd : i + d + 1 < l.length), compareBytes (l[i]'(by omega)).1.data.toList (l[i + d + 1]).1.data.toList < 0 := by
      intro d
      induction d with
      | zero => intro i hd; exact inOB_up h i hd
      | succ d ih =>
        intro i hd
        exact cb_trans (ih i (by omega)) (inOB_up h (i + d + 1) hd)
    have := key (j - i - 1) i (by omega)
    have e : i + (j - i - 1) + 1 = j := by omega
    simp only [e] at this
    exact this
  · intro p hp he
    obtain ⟨i, hi, e⟩ := List.getElem_of_mem hp
    have h1 := List.all_eq_true.1 h i (List.mem_range.2 hi)
    rw [okAt_empty (p := p) (by rw [List.getElem?_eq_getElem hi, e]) (by rw [ByteArray.toList_eq, he]; rfl)] at h1
    cases h1
theorem inO_to {l : List PB} (h : InO l) : inOB l = true := by
  refine List.all_eq_true.2 (fun i hi => ?_)
  have hi := List.mem_range.1 hi
  have e1 : l[i]? = some l[i] := List.getElem?_eq_getElem hi
  have hne : ((l[i]).2.toList == []) = false := by
    rw [ByteArray.toList_eq]
    exact beq_eq_false_iff_ne.2 (h.ne _ (List.getElem_mem hi))
  match i, hi, e1, hne with
  | 0, hi, e1, hne => exact okAt_first e1 hne
  | j + 1, hi, e1, hne =>
    have e2 : l[j]? = some (l[j]'(by omega)) := List.getElem?_eq_getElem _
    rw [okAt_next rfl e1 e2 hne, (leB _ _).2 (List.pairwise_iff_getElem.1 h.up j (j + 1) (by omega) hi (by omega))]
    rfl
theorem inOB_iff {l : List PB} : inOB l = true ↔ InO l := ⟨inO_of, inO_to⟩

set_option maxHeartbeats 8000000 in
set_option maxRecDepth 100000 in
theorem inorder_calls (l : List PB) (B : Nat) (v : Value) (w : World) (hr : RowP B w 36 v l) (hl : l.length ≤ 1000000) : Calls Tryd.prog 27 #[v] w fun e w' => e = .returned (.bool (inOB l)) ∧ Below w.heap.size w w' := by
  obtain ⟨A, c, rfl, hcl⟩ := own_slice hr
  obtain ⟨nl, hnl⟩ : ∃ nl, nl = l.length := ⟨_, rfl⟩
  rw [← hnl] at hcl hr hl ⊢
  have HR := Aside0.mk (show RowP B w 36 (.slice A nl c) l from by rw [hnl] at hr ⊢; exact hr)
  have HN := Aside0.mk hnl
  have HF : Aside0 (∀ i, i < nl → okAt l i = false → inOB l = false) := ⟨fun i hi h => inOB_false (by rw [← hnl]; exact hi) h⟩
  obtain ⟨io, hio⟩ : ∃ io, io = inOB l := ⟨_, rfl⟩
  rw [← hio] at HF ⊢
  have HIO := Aside0.mk hio
  have hu25 := Tryd.underlying36
  clear hr hnl hio
  go_enter Tryd.func27, Tryd.ntmps27
  go_wp2
  go_loopg [7] nl (fun g1 v7 wr => ∃ i : Nat, v7 = .int .i64 i ∧ Aside0 (i + g1 = nl) ∧ Aside0 ((List.range i).all (okAt l) = true) ∧ Aside0 (Below w.heap.size w wr))
  case atStart => exact ⟨0, rfl, ⟨by omega⟩, ⟨rfl⟩, ⟨Below.refl _ _⟩⟩
  case round =>
    obtain ⟨i, rfl, HI, HA, HB⟩ := hrel
    by_cases hlt : i < nl
    · have hz : (i : Int) < (nl : Int) := by omega
      have HLT := Aside0.mk hlt
      have hwi : IntKind.i64.wrap ((i : Int) + 1) = ((i + 1 : Nat) : Int) := (i64_w _).trans ((w64 (by omega) (by omega)).trans (by omega))
      obtain ⟨p, hp⟩ : ∃ p, l[i]? = some p := ⟨l[i]'(by rw [← HN.out]; exact hlt), List.getElem?_eq_getElem _⟩
      obtain ⟨r, rfl, -, hr, hr0, hr1⟩ := rowP_get HR.out hp
      have c0 := cell_bl HB.out hr0
      have c1 := cell_bl HB.out hr1
      have HP := Aside0.mk hp
      have hr9 := hr
      clear hp hr0 hr1 hr
      cases hne : (p.2.toList == []) with
      | true =>
        have HOK := Aside0.mk (HF.out i hlt (okAt_empty HP.out hne))
        go_wp2_with fail
        go_quiet (fail)
        go_wp2_with fail
        go_ret
        exact ⟨by rw [HOK.out]; rfl, pw_below_drewN (below_alloc HB.out _) _⟩
      | false =>
        have HNE := Aside0.mk hne
        by_cases hi : 0 < i
        · have hz2 : (0 : Int) < (i : Int) := by omega
          obtain ⟨j, hj⟩ : ∃ j, j + 1 = i := ⟨i - 1, by omega⟩
          have hwj : IntKind.i64.wrap ((i : Int) - 1) = (j : Int) := (i64_w _).trans ((w64 (by omega) (by omega)).trans (by omega))
          have hjl : j < nl := by omega
          obtain ⟨q, hq⟩ : ∃ q, l[j]? = some q := ⟨l[j]'(by rw [← HN.out]; exact hjl), List.getElem?_eq_getElem _⟩
          obtain ⟨r2, hr2, -, -, hq0, -⟩ := rowP_get HR.out hq
          cases hr2
          have c2 := cell_bl HB.out hq0
          have c2a := cell_bl (below_alloc (Below.refl _ _) (.cells #[.string p.1, .string p.2] 36)) c2
          have hrn : ¬ r = wr.heap.size := by have h1 := HB.out.size; omega
          have HNX := Aside0.mk (okAt_next hj HP.out hq hne)
          clear hq hq0 hj
          cases b0 : Op.bytesLess p.1.toList q.1.toList with
          | true =>
            have HOK := Aside0.mk (HF.out i hlt (by rw [HNX.out, b0]; rfl))
            go_wp2_with fail
            go_quiet (fail)
            go_wp2_with fail
            go_ret
            exact ⟨by rw [HOK.out]; rfl, pw_below_drewN (below_alloc HB.out _) _⟩
          | false =>
            cases b1 : (p.1.toList == q.1.toList) with
            | true =>
              have HOK := Aside0.mk (HF.out i hlt (by rw [HNX.out, b0, b1]; rfl))
              go_wp2_with fail
              go_quiet (fail)
              go_wp2_with fail
              go_ret
              exact ⟨by rw [HOK.out]; rfl, pw_below_drewN (below_alloc HB.out _) _⟩
            | false =>
              have b2 : (Op.bytesLess p.1.toList q.1.toList || p.1.toList == q.1.toList) = false := by rw [b0, b1]; rfl
              have HOK := Aside0.mk (show okAt l i = true by rw [HNX.out, b2]; rfl)
              go_wp2_with fail
              go_quiet (fail)
              go_wp2_with fail
              go_roundg (nl - (i + 1))
              case measure => have := HI.out; omega
              case rel => exact ⟨i + 1, by first | rfl | rw [hwi], ⟨by have := HI.out; omega⟩, ⟨range_all HA.out HOK.out⟩, ⟨pw_below_drewN (below_alloc HB.out _) _⟩⟩
        · have hz2 : ¬ (0 : Int) < (i : Int) := by omega
          have HOK := Aside0.mk (show okAt l i = true by
            have e : i = 0 := by omega
            subst e
            exact okAt_first HP.out hne)
          go_wp2_with fail
          go_quiet (fail)
          go_wp2_with fail
          go_roundg (nl - (i + 1))
          case measure => have := HI.out; omega
          case rel => exact ⟨i + 1, by first | rfl | rw [hwi], ⟨by have := HI.out; omega⟩, ⟨range_all HA.out HOK.out⟩, ⟨pw_below_drewN (below_alloc HB.out _) _⟩⟩
    · have hz : ¬ (i : Int) < (nl : Int) := by omega
      have HOK := Aside0.mk (show io = true by
        rw [HIO.out]
        unfold inOB
        rw [← HN.out, show nl = i by have := HI.out; omega]
        exact HA.out)
      go_wp2
      go_ret
      exact ⟨by rw [HOK.out]; rfl, HB.out⟩
/-- Those of labels in order of which something is so; none, if they are not. -/
def chooseB (l : List PB) (f : PB → Bool) : List PB := if inOB l = true then l.filter f else []

set_option maxHeartbeats 8000000 in
set_option maxRecDepth 100000 in
theorem choose48_calls (l : List PB) (f : PB → Bool) (B gc : Nat) (v : Value) (w : World) (hr : RowP B w 36 v l) (hl : l.length ≤ 1000000)
    (hcl : ∀ (W : World) (x : PB), x ∈ l → Below w.heap.size w W → Calls Tryd.prog 50 #[.agg #[.string x.1, .string x.2], .pointer (some ⟨gc, 0, none⟩)] W fun e W' => e = .returned (.bool (f x)) ∧ Below W.heap.size W W') :
    Calls Tryd.prog 32 #[v, .func (.func 50) #[] #[.pointer (some ⟨gc, 0, none⟩)]] w fun e w' => ∃ u, e = .returned u ∧ RowP w.heap.size w' 36 u (chooseB l f) ∧ Below w.heap.size w w' := by
  have hin := inorder_calls l B v w hr hl
  obtain ⟨A, c, rfl, hcl'⟩ := own_slice hr
  obtain ⟨nl, hnl⟩ : ∃ nl, nl = l.length := ⟨_, rfl⟩
  rw [← hnl] at hcl' hr hl hin ⊢
  have HR := Aside0.mk (show RowP B w 36 (.slice A nl c) l from by rw [hnl] at hr ⊢; exact hr)
  have HN := Aside0.mk hnl
  have HCL := Aside0.mk hcl
  have hu25 := Tryd.underlying36
  clear hr hnl hcl
  cases hio : inOB l with
  | false =>
    have HE := Aside0.mk (show chooseB l f = [] from if_neg (by rw [hio]; decide))
    rw [hio] at hin
    clear hio
    go_enter Tryd.func32, Tryd.ntmps32
    go_wp2_with fail
    refine hin.mono ?_
    rintro e w0 ⟨rfl, hb0⟩
    have HB0 := Aside0.mk hb0
    clear hb0 hin
    go_wp2_with fail
    go_ret
    exact ⟨_, rfl, by rw [HE.out]; exact ⟨rfl, .inl ⟨rfl, rfl⟩⟩, HB0.out⟩
  | true =>
  have HCH := Aside0.mk (show chooseB l f = l.filter f from if_pos hio)
  rw [hio] at hin
  clear hio
  go_enter Tryd.func32, Tryd.ntmps32
  go_wp2_with fail
  refine hin.mono ?_
  rintro e w0 ⟨rfl, hb0⟩
  have HB0 := Aside0.mk hb0
  clear hb0 hin
  go_wp2_with fail
  go_loopg [4, 12] nl (fun g1 v4 v12 wr => ∃ (i : Nat) (A4 : Option Addr) (c4 : Nat), v12 = .int .i64 i ∧ v4 = .slice A4 ((l.take i).filter f).length c4 ∧ Aside0 (i + g1 = nl) ∧ Aside0 (RowP w.heap.size wr 36 (.slice A4 ((l.take i).filter f).length c4) ((l.take i).filter f)) ∧ Aside0 (Below w.heap.size w wr))
  case atStart => exact ⟨0, none, 0, rfl, rfl, ⟨by omega⟩, ⟨⟨rfl, .inl ⟨rfl, rfl⟩⟩⟩, HB0⟩
  case round =>
    obtain ⟨i, A4, c4, rfl, rfl, HI, HO4, HB⟩ := hrel
    obtain ⟨ou, hou⟩ : ∃ ou, ou = (l.take i).filter f := ⟨_, rfl⟩
    rw [← hou] at HO4 ⊢
    have HOU := Aside0.mk hou
    clear hou
    by_cases hlt : i < nl
    · have hz : (i : Int) < (nl : Int) := by omega
      have hwi : IntKind.i64.wrap ((i : Int) + 1) = ((i + 1 : Nat) : Int) := (i64_w _).trans ((w64 (by omega) (by omega)).trans (by omega))
      obtain ⟨p, hp⟩ : ∃ p, l[i]? = some p := ⟨l[i]'(by rw [← HN.out]; exact hlt), List.getElem?_eq_getElem _⟩
      obtain ⟨r, rfl, -, hr, hr0, hr1⟩ := rowP_get HR.out hp
      have c0 := cell_bl HB.out hr0
      have c1 := cell_bl HB.out hr1
      have HSN := Aside0.mk (show (l.take (i + 1)).filter f = ou ++ (if f p then [p] else []) by
        rw [List.take_add_one, hp, List.filter_append, ← HOU.out]
        congr 1
        show List.filter f [p] = _
        cases hf : f p <;> simp [hf])
      have HLE := Aside0.mk (show ou.length ≤ 1000000 by
        rw [HOU.out]
        refine Nat.le_trans (List.length_filter_le _ _) ?_
        rw [List.length_take]
        omega)
      have hc := HCL.out (wr.alloc (.cells #[.string p.1, .string p.2] 36)) p (List.mem_of_getElem? hp) (below_alloc HB.out _)
      have hbox := World.alloc_heap_new wr (.cells #[.string p.1, .string p.2] 36)
      have HRW := Aside0.mk (HO4.out.kb ((Kb.refl (fun _ => False) wr).alloc (.cells #[.string p.1, .string p.2] 36)) (fun _ _ h => h))
      have HBW := Aside0.mk (below_alloc HB.out (.cells #[.string p.1, .string p.2] 36))
      clear hp hr0 hr1 hr HO4
      cases hf : f p with
      | false =>
        rw [hf] at hc HSN
        clear hf
        go_wp2_with fail
        refine hc.mono ?_
        rintro e w1 ⟨rfl, hb⟩
        have HB1 := Aside0.mk (below_then HBW.out hb)
        have HR1 := Aside0.mk (HRW.out.kb (Kb.of_below (S := fun _ => False) hb) (fun _ _ h => h))
        clear hb hc hbox HRW HBW
        go_wp2_with fail
        go_roundg (nl - (i + 1))
        case measure => have := HI.out; omega
        case rel =>
          have e0 : (l.take (i + 1)).filter f = ou := by rw [HSN.out]; simp
          exact ⟨i + 1, A4, c4, by first | rfl | rw [hwi], by rw [e0], ⟨by have := HI.out; omega⟩, ⟨by rw [e0]; exact HR1.out⟩, HB1⟩
      | true =>
        rw [hf] at hc HSN
        clear hf
        go_wp2_with fail
        refine hc.mono ?_
        rintro e w1 ⟨rfl, hb⟩
        have HB1 := Aside0.mk (below_then HBW.out hb)
        have HR1 := Aside0.mk (HRW.out.kb (Kb.of_below (S := fun _ => False) hb) (fun _ _ h => h))
        have d0 : w1.cell? ⟨wr.heap.size, 0, none⟩ = some (.string p.1) := (blk_cell (Kb.blk hbox (Kb.of_below (S := fun _ => False) hb) (fun h => h)) 0).trans rfl
        have d1 : w1.cell? ⟨wr.heap.size, 1, none⟩ = some (.string p.2) := (blk_cell (Kb.blk hbox (Kb.of_below (S := fun _ => False) hb) (fun h => h)) 1).trans rfl
        clear hb hc hbox HRW HBW
        go_wp2_with (first | ((with_reducible refine gate_builtin (b := .append) (xs := #[.tmp 19, .tmp 21]) rfl ?_); at_builtin; refine append_L (u := p.1) (u' := p.2) rfl (.tmp 19) (.tmp 21) rfl rfl HR1.out.alloc rfl (by go_simp) (by go_simp) HLE.out (by have := HB1.out.size; simp only [World.size_alloc]; omega) ?_; intro g2 c2 w2 hr2 hk2; have HR2 := Aside0.mk hr2; have HB2 := Aside0.mk (below_kb (below_alloc HB1.out _) hk2); clear hr2 hk2))
        go_roundg (nl - (i + 1))
        case measure => have := HI.out; omega
        case rel =>
          have e0 : (l.take (i + 1)).filter f = ou ++ [p] := by rw [HSN.out]; simp
          exact ⟨i + 1, _, c2, by first | rfl | rw [hwi], by rw [e0, List.length_append]; rfl, ⟨by have := HI.out; omega⟩, ⟨by rw [e0, List.length_append]; exact HR2.out⟩, HB2⟩
    · have hz : ¬ (i : Int) < (nl : Int) := by omega
      have HE := Aside0.mk (show l.filter f = ou by
        rw [HOU.out, List.take_of_length_le (by have := HN.out; omega)])
      go_wp2
      go_ret
      exact ⟨_, rfl, by rw [HCH.out, HE.out]; exact HO4.out, HB.out⟩

set_option maxHeartbeats 8000000 in
set_option maxRecDepth 100000 in
theorem choose50_calls (l : List PB) (f : PB → Bool) (B gc : Nat) (v : Value) (w : World) (hr : RowP B w 36 v l) (hl : l.length ≤ 1000000)
    (hcl : ∀ (W : World) (x : PB), x ∈ l → Below w.heap.size w W → Calls Tryd.prog 33 #[.agg #[.string x.1, .string x.2], .pointer (some ⟨gc, 0, none⟩)] W fun e W' => e = .returned (.bool (f x)) ∧ Below W.heap.size W W') :
    Calls Tryd.prog 32 #[v, .func (.func 33) #[] #[.pointer (some ⟨gc, 0, none⟩)]] w fun e w' => ∃ u, e = .returned u ∧ RowP w.heap.size w' 36 u (chooseB l f) ∧ Below w.heap.size w w' := by
  have hin := inorder_calls l B v w hr hl
  obtain ⟨A, c, rfl, hcl'⟩ := own_slice hr
  obtain ⟨nl, hnl⟩ : ∃ nl, nl = l.length := ⟨_, rfl⟩
  rw [← hnl] at hcl' hr hl hin ⊢
  have HR := Aside0.mk (show RowP B w 36 (.slice A nl c) l from by rw [hnl] at hr ⊢; exact hr)
  have HN := Aside0.mk hnl
  have HCL := Aside0.mk hcl
  have hu25 := Tryd.underlying36
  clear hr hnl hcl
  cases hio : inOB l with
  | false =>
    have HE := Aside0.mk (show chooseB l f = [] from if_neg (by rw [hio]; decide))
    rw [hio] at hin
    clear hio
    go_enter Tryd.func32, Tryd.ntmps32
    go_wp2_with fail
    refine hin.mono ?_
    rintro e w0 ⟨rfl, hb0⟩
    have HB0 := Aside0.mk hb0
    clear hb0 hin
    go_wp2_with fail
    go_ret
    exact ⟨_, rfl, by rw [HE.out]; exact ⟨rfl, .inl ⟨rfl, rfl⟩⟩, HB0.out⟩
  | true =>
  have HCH := Aside0.mk (show chooseB l f = l.filter f from if_pos hio)
  rw [hio] at hin
  clear hio
  go_enter Tryd.func32, Tryd.ntmps32
  go_wp2_with fail
  refine hin.mono ?_
  rintro e w0 ⟨rfl, hb0⟩
  have HB0 := Aside0.mk hb0
  clear hb0 hin
  go_wp2_with fail
  go_loopg [4, 12] nl (fun g1 v4 v12 wr => ∃ (i : Nat) (A4 : Option Addr) (c4 : Nat), v12 = .int .i64 i ∧ v4 = .slice A4 ((l.take i).filter f).length c4 ∧ Aside0 (i + g1 = nl) ∧ Aside0 (RowP w.heap.size wr 36 (.slice A4 ((l.take i).filter f).length c4) ((l.take i).filter f)) ∧ Aside0 (Below w.heap.size w wr))
  case atStart => exact ⟨0, none, 0, rfl, rfl, ⟨by omega⟩, ⟨⟨rfl, .inl ⟨rfl, rfl⟩⟩⟩, HB0⟩
  case round =>
    obtain ⟨i, A4, c4, rfl, rfl, HI, HO4, HB⟩ := hrel
    obtain ⟨ou, hou⟩ : ∃ ou, ou = (l.take i).filter f := ⟨_, rfl⟩
    rw [← hou] at HO4 ⊢
    have HOU := Aside0.mk hou
    clear hou
    by_cases hlt : i < nl
    · have hz : (i : Int) < (nl : Int) := by omega
      have hwi : IntKind.i64.wrap ((i : Int) + 1) = ((i + 1 : Nat) : Int) := (i64_w _).trans ((w64 (by omega) (by omega)).trans (by omega))
      obtain ⟨p, hp⟩ : ∃ p, l[i]? = some p := ⟨l[i]'(by rw [← HN.out]; exact hlt), List.getElem?_eq_getElem _⟩
      obtain ⟨r, rfl, -, hr, hr0, hr1⟩ := rowP_get HR.out hp
      have c0 := cell_bl HB.out hr0
      have c1 := cell_bl HB.out hr1
      have HSN := Aside0.mk (show (l.take (i + 1)).filter f = ou ++ (if f p then [p] else []) by
        rw [List.take_add_one, hp, List.filter_append, ← HOU.out]
        congr 1
        show List.filter f [p] = _
        cases hf : f p <;> simp [hf])
      have HLE := Aside0.mk (show ou.length ≤ 1000000 by
        rw [HOU.out]
        refine Nat.le_trans (List.length_filter_le _ _) ?_
        rw [List.length_take]
        omega)
      have hc := HCL.out (wr.alloc (.cells #[.string p.1, .string p.2] 36)) p (List.mem_of_getElem? hp) (below_alloc HB.out _)
      have hbox := World.alloc_heap_new wr (.cells #[.string p.1, .string p.2] 36)
      have HRW := Aside0.mk (HO4.out.kb ((Kb.refl (fun _ => False) wr).alloc (.cells #[.string p.1, .string p.2] 36)) (fun _ _ h => h))
      have HBW := Aside0.mk (below_alloc HB.out (.cells #[.string p.1, .string p.2] 36))
      clear hp hr0 hr1 hr HO4
      cases hf : f p with
      | false =>
        rw [hf] at hc HSN
        clear hf
        go_wp2_with fail
        refine hc.mono ?_
        rintro e w1 ⟨rfl, hb⟩
        have HB1 := Aside0.mk (below_then HBW.out hb)
        have HR1 := Aside0.mk (HRW.out.kb (Kb.of_below (S := fun _ => False) hb) (fun _ _ h => h))
        clear hb hc hbox HRW HBW
        go_wp2_with fail
        go_roundg (nl - (i + 1))
        case measure => have := HI.out; omega
        case rel =>
          have e0 : (l.take (i + 1)).filter f = ou := by rw [HSN.out]; simp
          exact ⟨i + 1, A4, c4, by first | rfl | rw [hwi], by rw [e0], ⟨by have := HI.out; omega⟩, ⟨by rw [e0]; exact HR1.out⟩, HB1⟩
      | true =>
        rw [hf] at hc HSN
        clear hf
        go_wp2_with fail
        refine hc.mono ?_
        rintro e w1 ⟨rfl, hb⟩
        have HB1 := Aside0.mk (below_then HBW.out hb)
        have HR1 := Aside0.mk (HRW.out.kb (Kb.of_below (S := fun _ => False) hb) (fun _ _ h => h))
        have d0 : w1.cell? ⟨wr.heap.size, 0, none⟩ = some (.string p.1) := (blk_cell (Kb.blk hbox (Kb.of_below (S := fun _ => False) hb) (fun h => h)) 0).trans rfl
        have d1 : w1.cell? ⟨wr.heap.size, 1, none⟩ = some (.string p.2) := (blk_cell (Kb.blk hbox (Kb.of_below (S := fun _ => False) hb) (fun h => h)) 1).trans rfl
        clear hb hc hbox HRW HBW
        go_wp2_with (first | ((with_reducible refine gate_builtin (b := .append) (xs := #[.tmp 19, .tmp 21]) rfl ?_); at_builtin; refine append_L (u := p.1) (u' := p.2) rfl (.tmp 19) (.tmp 21) rfl rfl HR1.out.alloc rfl (by go_simp) (by go_simp) HLE.out (by have := HB1.out.size; simp only [World.size_alloc]; omega) ?_; intro g2 c2 w2 hr2 hk2; have HR2 := Aside0.mk hr2; have HB2 := Aside0.mk (below_kb (below_alloc HB1.out _) hk2); clear hr2 hk2))
        go_roundg (nl - (i + 1))
        case measure => have := HI.out; omega
        case rel =>
          have e0 : (l.take (i + 1)).filter f = ou ++ [p] := by rw [HSN.out]; simp
          exact ⟨i + 1, _, c2, by first | rfl | rw [hwi], by rw [e0, List.length_append]; rfl, ⟨by have := HI.out; omega⟩, ⟨by rw [e0, List.length_append]; exact HR2.out⟩, HB2⟩
    · have hz : ¬ (i : Int) < (nl : Int) := by omega
      have HE := Aside0.mk (show l.filter f = ou by
        rw [HOU.out, List.take_of_length_le (by have := HN.out; omega)])
      go_wp2
      go_ret
      exact ⟨_, rfl, by rw [HCH.out, HE.out]; exact HO4.out, HB.out⟩

set_option maxHeartbeats 8000000 in
set_option maxRecDepth 100000 in
theorem choose51_calls (l : List PB) (f : PB → Bool) (B gc : Nat) (v : Value) (w : World) (hr : RowP B w 36 v l) (hl : l.length ≤ 1000000)
    (hcl : ∀ (W : World) (x : PB), x ∈ l → Below w.heap.size w W → Calls Tryd.prog 34 #[.agg #[.string x.1, .string x.2], .pointer (some ⟨gc, 0, none⟩)] W fun e W' => e = .returned (.bool (f x)) ∧ Below W.heap.size W W') :
    Calls Tryd.prog 32 #[v, .func (.func 34) #[] #[.pointer (some ⟨gc, 0, none⟩)]] w fun e w' => ∃ u, e = .returned u ∧ RowP w.heap.size w' 36 u (chooseB l f) ∧ Below w.heap.size w w' := by
  have hin := inorder_calls l B v w hr hl
  obtain ⟨A, c, rfl, hcl'⟩ := own_slice hr
  obtain ⟨nl, hnl⟩ : ∃ nl, nl = l.length := ⟨_, rfl⟩
  rw [← hnl] at hcl' hr hl hin ⊢
  have HR := Aside0.mk (show RowP B w 36 (.slice A nl c) l from by rw [hnl] at hr ⊢; exact hr)
  have HN := Aside0.mk hnl
  have HCL := Aside0.mk hcl
  have hu25 := Tryd.underlying36
  clear hr hnl hcl
  cases hio : inOB l with
  | false =>
    have HE := Aside0.mk (show chooseB l f = [] from if_neg (by rw [hio]; decide))
    rw [hio] at hin
    clear hio
    go_enter Tryd.func32, Tryd.ntmps32
    go_wp2_with fail
    refine hin.mono ?_
    rintro e w0 ⟨rfl, hb0⟩
    have HB0 := Aside0.mk hb0
    clear hb0 hin
    go_wp2_with fail
    go_ret
    exact ⟨_, rfl, by rw [HE.out]; exact ⟨rfl, .inl ⟨rfl, rfl⟩⟩, HB0.out⟩
  | true =>
  have HCH := Aside0.mk (show chooseB l f = l.filter f from if_pos hio)
  rw [hio] at hin
  clear hio
  go_enter Tryd.func32, Tryd.ntmps32
  go_wp2_with fail
  refine hin.mono ?_
  rintro e w0 ⟨rfl, hb0⟩
  have HB0 := Aside0.mk hb0
  clear hb0 hin
  go_wp2_with fail
  go_loopg [4, 12] nl (fun g1 v4 v12 wr => ∃ (i : Nat) (A4 : Option Addr) (c4 : Nat), v12 = .int .i64 i ∧ v4 = .slice A4 ((l.take i).filter f).length c4 ∧ Aside0 (i + g1 = nl) ∧ Aside0 (RowP w.heap.size wr 36 (.slice A4 ((l.take i).filter f).length c4) ((l.take i).filter f)) ∧ Aside0 (Below w.heap.size w wr))
  case atStart => exact ⟨0, none, 0, rfl, rfl, ⟨by omega⟩, ⟨⟨rfl, .inl ⟨rfl, rfl⟩⟩⟩, HB0⟩
  case round =>
    obtain ⟨i, A4, c4, rfl, rfl, HI, HO4, HB⟩ := hrel
    obtain ⟨ou, hou⟩ : ∃ ou, ou = (l.take i).filter f := ⟨_, rfl⟩
    rw [← hou] at HO4 ⊢
    have HOU := Aside0.mk hou
    clear hou
    by_cases hlt : i < nl
    · have hz : (i : Int) < (nl : Int) := by omega
      have hwi : IntKind.i64.wrap ((i : Int) + 1) = ((i + 1 : Nat) : Int) := (i64_w _).trans ((w64 (by omega) (by omega)).trans (by omega))
      obtain ⟨p, hp⟩ : ∃ p, l[i]? = some p := ⟨l[i]'(by rw [← HN.out]; exact hlt), List.getElem?_eq_getElem _⟩
      obtain ⟨r, rfl, -, hr, hr0, hr1⟩ := rowP_get HR.out hp
      have c0 := cell_bl HB.out hr0
      have c1 := cell_bl HB.out hr1
      have HSN := Aside0.mk (show (l.take (i + 1)).filter f = ou ++ (if f p then [p] else []) by
        rw [List.take_add_one, hp, List.filter_append, ← HOU.out]
        congr 1
        show List.filter f [p] = _
        cases hf : f p <;> simp [hf])
      have HLE := Aside0.mk (show ou.length ≤ 1000000 by
        rw [HOU.out]
        refine Nat.le_trans (List.length_filter_le _ _) ?_
        rw [List.length_take]
        omega)
      have hc := HCL.out (wr.alloc (.cells #[.string p.1, .string p.2] 36)) p (List.mem_of_getElem? hp) (below_alloc HB.out _)
      have hbox := World.alloc_heap_new wr (.cells #[.string p.1, .string p.2] 36)
      have HRW := Aside0.mk (HO4.out.kb ((Kb.refl (fun _ => False) wr).alloc (.cells #[.string p.1, .string p.2] 36)) (fun _ _ h => h))
      have HBW := Aside0.mk (below_alloc HB.out (.cells #[.string p.1, .string p.2] 36))
      clear hp hr0 hr1 hr HO4
      cases hf : f p with
      | false =>
        rw [hf] at hc HSN
        clear hf
        go_wp2_with fail
        refine hc.mono ?_
        rintro e w1 ⟨rfl, hb⟩
        have HB1 := Aside0.mk (below_then HBW.out hb)
        have HR1 := Aside0.mk (HRW.out.kb (Kb.of_below (S := fun _ => False) hb) (fun _ _ h => h))
        clear hb hc hbox HRW HBW
        go_wp2_with fail
        go_roundg (nl - (i + 1))
        case measure => have := HI.out; omega
        case rel =>
          have e0 : (l.take (i + 1)).filter f = ou := by rw [HSN.out]; simp
          exact ⟨i + 1, A4, c4, by first | rfl | rw [hwi], by rw [e0], ⟨by have := HI.out; omega⟩, ⟨by rw [e0]; exact HR1.out⟩, HB1⟩
      | true =>
        rw [hf] at hc HSN
        clear hf
        go_wp2_with fail
        refine hc.mono ?_
        rintro e w1 ⟨rfl, hb⟩
        have HB1 := Aside0.mk (below_then HBW.out hb)
        have HR1 := Aside0.mk (HRW.out.kb (Kb.of_below (S := fun _ => False) hb) (fun _ _ h => h))
        have d0 : w1.cell? ⟨wr.heap.size, 0, none⟩ = some (.string p.1) := (blk_cell (Kb.blk hbox (Kb.of_below (S := fun _ => False) hb) (fun h => h)) 0).trans rfl
        have d1 : w1.cell? ⟨wr.heap.size, 1, none⟩ = some (.string p.2) := (blk_cell (Kb.blk hbox (Kb.of_below (S := fun _ => False) hb) (fun h => h)) 1).trans rfl
        clear hb hc hbox HRW HBW
        go_wp2_with (first | ((with_reducible refine gate_builtin (b := .append) (xs := #[.tmp 19, .tmp 21]) rfl ?_); at_builtin; refine append_L (u := p.1) (u' := p.2) rfl (.tmp 19) (.tmp 21) rfl rfl HR1.out.alloc rfl (by go_simp) (by go_simp) HLE.out (by have := HB1.out.size; simp only [World.size_alloc]; omega) ?_; intro g2 c2 w2 hr2 hk2; have HR2 := Aside0.mk hr2; have HB2 := Aside0.mk (below_kb (below_alloc HB1.out _) hk2); clear hr2 hk2))
        go_roundg (nl - (i + 1))
        case measure => have := HI.out; omega
        case rel =>
          have e0 : (l.take (i + 1)).filter f = ou ++ [p] := by rw [HSN.out]; simp
          exact ⟨i + 1, _, c2, by first | rfl | rw [hwi], by rw [e0, List.length_append]; rfl, ⟨by have := HI.out; omega⟩, ⟨by rw [e0, List.length_append]; exact HR2.out⟩, HB2⟩
    · have hz : ¬ (i : Int) < (nl : Int) := by omega
      have HE := Aside0.mk (show l.filter f = ou by
        rw [HOU.out, List.take_of_length_le (by have := HN.out; omega)])
      go_wp2
      go_ret
      exact ⟨_, rfl, by rw [HCH.out, HE.out]; exact HO4.out, HB.out⟩

set_option maxHeartbeats 4000000 in
theorem closure48 (x : PB) (n : ByteArray) (g : Nat) (W : World) (hc : W.cell? ⟨g, 0, none⟩ = some (.string n)) : Calls Tryd.prog 50 #[.agg #[.string x.1, .string x.2], .pointer (some ⟨g, 0, none⟩)] W fun e w' => e = .returned (.bool (!isN n x)) ∧ Below W.heap.size W w' := by
  have c1 := cell_bl (below_alloc (Below.refl W.heap.size W) (.cells #[.string x.1, .string x.2] 36)) hc
  obtain ⟨d, hd⟩ : ∃ d, d = isN n x := ⟨_, rfl⟩
  have hd2 : (x.1.toList == n.toList) = d := hd.symm
  rw [← hd]
  clear hd
  go_enter Tryd.func50, Tryd.ntmps50
  go_wp2
  go_ret
  exact ⟨rfl, below_alloc (Below.refl _ _) _⟩

set_option maxHeartbeats 4000000 in
set_option maxRecDepth 100000 in
set_option maxHeartbeats 4000000 in
set_option maxRecDepth 100000 in
theorem drop_calls (l : List PB) (n : ByteArray) (B : Nat) (v : Value) (w : World) (hr : RowP B w 36 v l) (hl : l.length ≤ 1000000) : Calls Tryd.prog 28 #[v, .string n] w fun e w' => ∃ u, e = .returned u ∧ RowP w.heap.size w' 36 u (chooseB l (fun x => !isN n x)) ∧ Below w.heap.size w w' := by
  have HB0 := Aside0.mk (below_alloc (Below.refl w.heap.size w) (.cells #[.string n] 9))
  have hb := World.alloc_heap_new w (.cells #[.string n] 9)
  have hc := choose48_calls l (fun x => !isN n x) B w.heap.size v (w.alloc (.cells #[.string n] 9)) (hr.kb ((Kb.refl (fun _ => False) w).alloc _) (fun _ _ h => h)) hl
    (fun W x _ hW => closure48 x n _ W (cell_bl hW ((blk_cell hb 0).trans rfl)))
  clear hr hb
  go_enter Tryd.func28, Tryd.ntmps28
  go_wp2_with fail
  refine hc.mono ?_
  rintro e w1 ⟨u, rfl, hu, hb1⟩
  have HU := Aside0.mk hu
  have HB1 := Aside0.mk (below_then HB0.out hb1)
  clear hu hb1 hc
  go_wp2_with fail
  go_ret
  exact ⟨u, rfl, own_base HU.out HB0.out.size, HB1.out⟩

set_option maxHeartbeats 4000000 in
set_option maxHeartbeats 4000000 in
theorem closure50 (x : PB) (b k g : Nat) (D : DataW Unit) (W : World) (hc : W.cell? ⟨g, 0, none⟩ = some (.map (some b))) (hm : W.ownsMap Tryd.prog 9 (plainElem Tryd.prog 3) b k D) (d : Bool) (hd : D.atKey (.string x.1.data.toList) (.lit (.int .i64 0)) = .lit (.int .i64 (if d = true then 1 else 0))) (hx : x.1.size ≤ 9223372036854775807) :
    Calls Tryd.prog 33 #[.agg #[.string x.1, .string x.2], .pointer (some ⟨g, 0, none⟩)] W fun e w' => e = .returned (.bool d) ∧ Below W.heap.size W w' := by
  have c1 := cell_bl (below_alloc (Below.refl W.heap.size W) (.cells #[.string x.1, .string x.2] 36)) hc
  have HM1 := Aside0.mk (ownsMap_kb hm ((Kb.refl (fun _ => False) W).alloc (.cells #[.string x.1, .string x.2] 36)) (fun h => h))
  have HD := Aside0.mk hd
  have hkey : keyOf Tryd.prog 9 (.string x.1) = some (.string x.1.data.toList) := WideMaps.keyOf_string_mk Tryd.underlying9 (by simp only [maxLen]; omega)
  clear hm hd
  cases d with
  | true =>
    go_enter Tryd.func33, Tryd.ntmps33
    go_wp2_with (first | (at_lookup; refine wpList_lookup_own_int _ rfl _ _ 53 rfl 9 3 .i64 (string_keyed Tryd.underlying9) Tryd.underlying53 Tryd.underlying3 (Tryd.zeroValue3 _) b k _ rfl HM1.out _ _ rfl hkey ?_; intro c hat hwc; rw [HD.out, if_pos rfl] at hat; cases hat))
    go_ret
    exact ⟨rfl, below_alloc (Below.refl _ _) _⟩
  | false =>
    go_enter Tryd.func33, Tryd.ntmps33
    go_wp2_with (first | (at_lookup; refine wpList_lookup_own_int _ rfl _ _ 53 rfl 9 3 .i64 (string_keyed Tryd.underlying9) Tryd.underlying53 Tryd.underlying3 (Tryd.zeroValue3 _) b k _ rfl HM1.out _ _ rfl hkey ?_; intro c hat hwc; rw [HD.out, if_neg (by decide)] at hat; cases hat))
    go_ret
    exact ⟨rfl, below_alloc (Below.refl _ _) _⟩

set_option maxHeartbeats 4000000 in
set_option maxHeartbeats 4000000 in
theorem closure51 (x : PB) (b k g : Nat) (D : DataW Unit) (W : World) (hc : W.cell? ⟨g, 0, none⟩ = some (.map (some b))) (hm : W.ownsMap Tryd.prog 9 (plainElem Tryd.prog 3) b k D) (d : Bool) (hd : D.atKey (.string x.1.data.toList) (.lit (.int .i64 0)) = .lit (.int .i64 (if d = true then 1 else 0))) (hx : x.1.size ≤ 9223372036854775807) :
    Calls Tryd.prog 34 #[.agg #[.string x.1, .string x.2], .pointer (some ⟨g, 0, none⟩)] W fun e w' => e = .returned (.bool !d) ∧ Below W.heap.size W w' := by
  have c1 := cell_bl (below_alloc (Below.refl W.heap.size W) (.cells #[.string x.1, .string x.2] 36)) hc
  have HM1 := Aside0.mk (ownsMap_kb hm ((Kb.refl (fun _ => False) W).alloc (.cells #[.string x.1, .string x.2] 36)) (fun h => h))
  have HD := Aside0.mk hd
  have hkey : keyOf Tryd.prog 9 (.string x.1) = some (.string x.1.data.toList) := WideMaps.keyOf_string_mk Tryd.underlying9 (by simp only [maxLen]; omega)
  clear hm hd
  cases d with
  | true =>
    go_enter Tryd.func34, Tryd.ntmps34
    go_wp2_with (first | (at_lookup; refine wpList_lookup_own_int _ rfl _ _ 53 rfl 9 3 .i64 (string_keyed Tryd.underlying9) Tryd.underlying53 Tryd.underlying3 (Tryd.zeroValue3 _) b k _ rfl HM1.out _ _ rfl hkey ?_; intro c hat hwc; rw [HD.out, if_pos rfl] at hat; cases hat))
    go_ret
    exact ⟨rfl, below_alloc (Below.refl _ _) _⟩
  | false =>
    go_enter Tryd.func34, Tryd.ntmps34
    go_wp2_with (first | (at_lookup; refine wpList_lookup_own_int _ rfl _ _ 53 rfl 9 3 .i64 (string_keyed Tryd.underlying9) Tryd.underlying53 Tryd.underlying3 (Tryd.zeroValue3 _) b k _ rfl HM1.out _ _ rfl hkey ?_; intro c hat hwc; rw [HD.out, if_neg (by decide)] at hat; cases hat))
    go_ret
    exact ⟨rfl, below_alloc (Below.refl _ _) _⟩

/-- Those of names, and the others. -/
def byB (l : List PB) (names : List ByteArray) : List PB := chooseB l (fun x => decide (x.1.data.toList ∈ names.map bl))
def woB (l : List PB) (names : List ByteArray) : List PB := chooseB l (fun x => !decide (x.1.data.toList ∈ names.map bl))

set_option maxHeartbeats 8000000 in
set_option maxRecDepth 100000 in
set_option maxHeartbeats 8000000 in
set_option maxRecDepth 100000 in
theorem by_calls (l : List PB) (names : List ByteArray) (B B' : Nat) (v v' : Value) (w : World) (hr : RowP B w 36 v l) (hl : l.length ≤ 1000000) (hx : ∀ x ∈ l, x.1.size ≤ 9223372036854775807) (hn : RowT B' w v' names) (hnl : names.length ≤ 1000000) (hnz : ∀ q ∈ names, q.size ≤ 9223372036854775807) :
    Calls Tryd.prog 11 #[v, v'] w fun e w' => ∃ u, e = .returned u ∧ RowP w.heap.size w' 36 u (byB l names) ∧ Below w.heap.size w w' := by
  have ha := among_calls names B' v' w hn hnl hnz
  have HR := Aside0.mk hr
  have HX := Aside0.mk hx
  obtain ⟨A, c, rfl, hcl⟩ := own_slice hr
  clear hr hx hn hnl hnz
  go_enter Tryd.func11, Tryd.ntmps11
  go_wp2_with fail
  refine ha.mono ?_
  rintro e w1 ⟨b, k, D, rfl, hb, hm, hD, hb1⟩
  have HB1 := Aside0.mk hb1
  have HR1 := Aside0.mk (HR.out.kb (Kb.of_below (S := fun _ => False) hb1) (fun _ _ h => h))
  have HM1 := Aside0.mk hm
  have HD := Aside0.mk hD
  have hbx := World.alloc_heap_new w1 (.cells #[.map (some b)] 53)
  have HBX := Aside0.mk hbx
  have hc := choose50_calls l (fun x => decide (x.1.data.toList ∈ names.map bl)) B w1.heap.size (.slice A l.length c) (w1.alloc (.cells #[.map (some b)] 53)) (HR1.out.kb ((Kb.refl (fun _ => False) w1).alloc _) (fun _ _ h => h)) hl
    (fun W x hxl hW => closure50 x b k _ D W (cell_bl hW ((blk_cell HBX.out 0).trans rfl)) (ownsMap_kb HM1.out (((Kb.refl (fun _ => False) w1).alloc _).trans (Kb.of_below (S := fun _ => False) hW)) (fun h => h)) _ (by rw [HD.out]; simp) (HX.out x hxl))
  clear ha hb1 hm hD hbx hb
  go_wp2_with fail
  refine hc.mono ?_
  rintro e w2 ⟨u, rfl, hu, hb2⟩
  have HU := Aside0.mk (own_base (B' := w.heap.size) hu (by have := HB1.out.size; simp only [World.size_alloc]; omega))
  have HB2 := Aside0.mk (below_then (below_alloc HB1.out _) hb2)
  clear hu hb2 hc
  go_wp2_with fail
  go_ret
  exact ⟨u, rfl, HU.out, HB2.out⟩

set_option maxHeartbeats 8000000 in
set_option maxRecDepth 100000 in
set_option maxHeartbeats 8000000 in
set_option maxRecDepth 100000 in
theorem without_calls (l : List PB) (names : List ByteArray) (B B' : Nat) (v v' : Value) (w : World) (hr : RowP B w 36 v l) (hl : l.length ≤ 1000000) (hx : ∀ x ∈ l, x.1.size ≤ 9223372036854775807) (hn : RowT B' w v' names) (hnl : names.length ≤ 1000000) (hnz : ∀ q ∈ names, q.size ≤ 9223372036854775807) :
    Calls Tryd.prog 12 #[v, v'] w fun e w' => ∃ u, e = .returned u ∧ RowP w.heap.size w' 36 u (woB l names) ∧ Below w.heap.size w w' := by
  have ha := among_calls names B' v' w hn hnl hnz
  have HR := Aside0.mk hr
  have HX := Aside0.mk hx
  obtain ⟨A, c, rfl, hcl⟩ := own_slice hr
  clear hr hx hn hnl hnz
  go_enter Tryd.func12, Tryd.ntmps12
  go_wp2_with fail
  refine ha.mono ?_
  rintro e w1 ⟨b, k, D, rfl, hb, hm, hD, hb1⟩
  have HB1 := Aside0.mk hb1
  have HR1 := Aside0.mk (HR.out.kb (Kb.of_below (S := fun _ => False) hb1) (fun _ _ h => h))
  have HM1 := Aside0.mk hm
  have HD := Aside0.mk hD
  have hbx := World.alloc_heap_new w1 (.cells #[.map (some b)] 53)
  have HBX := Aside0.mk hbx
  have hc := choose51_calls l (fun x => !decide (x.1.data.toList ∈ names.map bl)) B w1.heap.size (.slice A l.length c) (w1.alloc (.cells #[.map (some b)] 53)) (HR1.out.kb ((Kb.refl (fun _ => False) w1).alloc _) (fun _ _ h => h)) hl
    (fun W x hxl hW => closure51 x b k _ D W (cell_bl hW ((blk_cell HBX.out 0).trans rfl)) (ownsMap_kb HM1.out (((Kb.refl (fun _ => False) w1).alloc _).trans (Kb.of_below (S := fun _ => False) hW)) (fun h => h)) _ (by rw [HD.out]; simp) (HX.out x hxl))
  clear ha hb1 hm hD hbx hb
  go_wp2_with fail
  refine hc.mono ?_
  rintro e w2 ⟨u, rfl, hu, hb2⟩
  have HU := Aside0.mk (own_base (B' := w.heap.size) hu (by have := HB1.out.size; simp only [World.size_alloc]; omega))
  have HB2 := Aside0.mk (below_then (below_alloc HB1.out _) hb2)
  clear hu hb2 hc
  go_wp2_with fail
  go_ret
  exact ⟨u, rfl, HU.out, HB2.out⟩

end Go.Proofs.YtkkaaipiaandaaaDoor.PC
