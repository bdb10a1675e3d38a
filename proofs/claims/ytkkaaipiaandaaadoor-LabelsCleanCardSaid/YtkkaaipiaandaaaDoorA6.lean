/- labels.Check; slices.Clone and DeleteFunc at labels. -/
import Derived.Test.YtkkaaipiaandaaaDoorA5
namespace Go.Proofs.YtkkaaipiaandaaaDoor.PC
open Go.RowKit Go.Lib Go.Shelf Go.Maps Go.Proofs.YtkkaaipiaandaaaDoorW.PrintWords Go.Proofs.YtkkaaipiaandaaaDoorW.PrintLast Go.Proofs.YtkkaaipiaandaaaDoorW.PrintMore
set_option linter.unusedVariables false
set_option linter.unusedSimpArgs false
set_option maxHeartbeats 4000000 in
/-- labels.IsName, of a text of any length. -/
theorem isname_any (s : ByteArray) (w : World) : Calls Tryd.prog 6 #[.string s] w fun e w' => e = .returned (.bool (isNameB s.data.toList)) ∧ Below w.heap.size w w' := by
  by_cases h : s.size ≤ 64
  · exact isname_calls s w (by omega)
  · have hf : isNameB s.data.toList = false := by
      unfold isNameB
      rw [lk_size, decide_eq_false h]
      simp
    have hne : (s.toList == []) = false := by
      refine beq_eq_false_iff_ne.2 (fun e => ?_)
      have := lk_size s
      rw [← ByteArray.toList_eq, e] at this
      simp at this
      omega
    have h2 : ¬ (s.size : Int) ≤ 64 := by omega
    have hne2 : ¬ s.toList = [] := by simpa using hne
    rw [hf]
    clear hf h
    go_enter Tryd.func6, Tryd.ntmps6
    go_wp2
    go_ret
    exact ⟨rfl, Below.refl _ _⟩
/-- A label that no stream may have. -/
def oddB (x : PB) : Bool := !isNameB x.1.data.toList || decide (256 < x.2.size)
set_option maxHeartbeats 4000000 in
theorem closure65 (x : PB) (W : World) : Calls Tryd.prog 47 #[.agg #[.string x.1, .string x.2]] W fun e w' => e = .returned (.bool (oddB x)) ∧ Below W.heap.size W w' := by
  have hb := World.alloc_heap_new W (.cells #[.string x.1, .string x.2] 36)
  have hn := isname_any x.1 (W.alloc (.cells #[.string x.1, .string x.2] 36))
  have HB0 := Aside0.mk (below_alloc (Below.refl W.heap.size W) (.cells #[.string x.1, .string x.2] 36))
  obtain ⟨d, hd⟩ : ∃ d, d = isNameB x.1.data.toList := ⟨_, rfl⟩
  have HE := Aside0.mk (show oddB x = (!d || decide (256 < x.2.size)) by rw [hd]; rfl)
  rw [← hd] at hn
  clear hd
  cases d with
  | false =>
    go_enter Tryd.func47, Tryd.ntmps47
    go_wp2_with (go_at_call 6; refine hn.mono ?_; rintro e w' ⟨rfl, hb2⟩; have HB2 := Aside0.mk (below_then HB0.out hb2); clear hb2)
    go_ret
    exact ⟨by rw [HE.out]; rfl, HB2.out⟩
  | true =>
    by_cases hs : 256 < x.2.size
    · have hz : (256 : Int) < (x.2.size : Int) := by omega
      have HE2 := Aside0.mk (show oddB x = true by rw [HE.out, decide_eq_true hs]; rfl)
      go_enter Tryd.func47, Tryd.ntmps47
      go_wp2_with (go_at_call 6; refine hn.mono ?_; rintro e w' ⟨rfl, hb2⟩; have HB2 := Aside0.mk (below_then HB0.out hb2); have hcx := (blk_cell (Kb.blk hb (Kb.of_below (S := fun _ => False) hb2) (fun h => h)) 1).trans rfl; clear hb2)
      go_ret
      exact ⟨by rw [HE2.out]; rfl, HB2.out⟩
    · have hz : ¬ (256 : Int) < (x.2.size : Int) := by omega
      have HE2 := Aside0.mk (show oddB x = decide ((256 : Int) < (x.2.size : Int)) by rw [HE.out, decide_eq_false hs, decide_eq_false hz]; rfl)
      go_enter Tryd.func47, Tryd.ntmps47
      go_wp2_with (go_at_call 6; refine hn.mono ?_; rintro e w' ⟨rfl, hb2⟩; have HB2 := Aside0.mk (below_then HB0.out hb2); have hcx := (blk_cell (Kb.blk hb (Kb.of_below (S := fun _ => False) hb2) (fun h => h)) 1).trans rfl; clear hb2)
      go_ret
      exact ⟨by rw [HE2.out]; rfl, HB2.out⟩
/-- A label without a value. -/
def empB (x : PB) : Bool := x.2.toList == []
set_option maxHeartbeats 4000000 in
theorem closure58 (x : PB) (W : World) : Calls Tryd.prog 24 #[.agg #[.string x.1, .string x.2]] W fun e w' => e = .returned (.bool (empB x)) ∧ Below W.heap.size W w' := by
  obtain ⟨d, hd⟩ : ∃ d, d = empB x := ⟨_, rfl⟩
  have hd2 : (x.2.toList == []) = d := hd.symm
  rw [← hd]
  clear hd
  go_enter Tryd.func24, Tryd.ntmps24
  go_wp2
  go_ret
  exact ⟨rfl, below_alloc (Below.refl _ _) _⟩
/-- What IndexFunc tells. -/
def IdxAt (f : PB → Bool) (l : List PB) (r : Int) : Prop := (r = -1 ∧ ∀ x ∈ l, f x = false) ∨ (∃ (k : Nat) (p : PB), r = k ∧ l[k]? = some p ∧ f p = true ∧ ∀ x ∈ l.take k, f x = false)

set_option maxHeartbeats 4000000 in
set_option maxRecDepth 100000 in
theorem idx65_calls (l : List PB) (B : Nat) (v : Value) (w : World) (hr : RowP B w 36 v l) (hl : l.length ≤ 1000000) :
    Calls Tryd.prog 46 #[v, .func (.func 47) #[] #[]] w fun e w' => (∃ r : Int, e = .returned (.int .i64 r) ∧ IdxAt oddB l r) ∧ Below w.heap.size w w' := by
  obtain ⟨A, c, rfl, hcl⟩ := own_slice hr
  obtain ⟨nl, hnl⟩ : ∃ nl, nl = l.length := ⟨_, rfl⟩
  rw [← hnl] at hcl hr hl ⊢
  have HR := Aside0.mk (show RowP B w 36 (.slice A nl c) l from by rw [hnl] at hr ⊢; exact hr)
  have HN := Aside0.mk hnl
  clear hr hnl
  go_enter Tryd.func46, Tryd.ntmps46
  go_wp2
  go_loopg [8] nl (fun g1 v8 wr => ∃ i : Nat, v8 = .int .i64 i ∧ Aside0 (i + g1 = nl) ∧ Aside0 (∀ x ∈ l.take i, oddB x = false) ∧ Aside0 (Below w.heap.size w wr))
  case atStart => exact ⟨0, rfl, ⟨by omega⟩, ⟨fun x hx => by simp at hx⟩, ⟨Below.refl _ _⟩⟩
  case round =>
    obtain ⟨i, rfl, HI, HA, HB⟩ := hrel
    by_cases hlt : i < nl
    · have hz : (i : Int) < (nl : Int) := by omega
      have hwi : IntKind.i64.wrap ((i : Int) + 1) = ((i + 1 : Nat) : Int) := (i64_w _).trans ((w64 (by omega) (by omega)).trans (by omega))
      obtain ⟨p, hp⟩ : ∃ p, l[i]? = some p := ⟨l[i]'(by rw [← HN.out]; exact hlt), List.getElem?_eq_getElem _⟩
      obtain ⟨r, rfl, -, hr, hr0, hr1⟩ := rowP_get HR.out hp
      have c0 := cell_bl HB.out hr0
      have c1 := cell_bl HB.out hr1
      have HP := Aside0.mk hp
      have HSN := Aside0.mk (show l.take (i + 1) = l.take i ++ [p] by rw [List.take_add_one, hp]; rfl)
      clear hp hr0 hr1 hr
      have HO := closure65 p wr
      cases hd : oddB p with
      | false =>
        rw [hd] at HO
        have HD := Aside0.mk hd
        clear hd
        go_wp2_with (go_at_call 47; refine HO.mono ?_; rintro e w' ⟨rfl, hb⟩; have HB2 := Aside0.mk (below_then HB.out hb); clear hb)
        go_roundg (nl - (i + 1))
        case measure => have := HI.out; omega
        case rel => exact ⟨i + 1, by first | rfl | rw [hwi], ⟨by have := HI.out; omega⟩, ⟨fun x hx => by rw [HSN.out] at hx; rcases List.mem_append.1 hx with h | h; exact HA.out x h; rw [List.mem_singleton.1 h]; exact HD.out⟩, HB2⟩
      | true =>
        rw [hd] at HO
        have HD := Aside0.mk hd
        clear hd
        go_wp2_with (go_at_call 47; refine HO.mono ?_; rintro e w' ⟨rfl, hb⟩; have HB2 := Aside0.mk (below_then HB.out hb); clear hb)
        go_ret
        exact ⟨⟨_, rfl, .inr ⟨i, p, rfl, HP.out, HD.out, HA.out⟩⟩, HB2.out⟩
    · have hz : ¬ (i : Int) < (nl : Int) := by omega
      have HAA := Aside0.mk (show ∀ x ∈ l, oddB x = false by
        have ha := HA.out
        rw [List.take_of_length_le (by have := HN.out; omega)] at ha
        exact ha)
      go_wp2
      go_ret
      exact ⟨⟨_, rfl, .inl ⟨rfl, HAA.out⟩⟩, HB.out⟩

set_option maxHeartbeats 4000000 in
set_option maxRecDepth 100000 in
theorem idx58_calls (l : List PB) (B : Nat) (v : Value) (w : World) (hr : RowP B w 36 v l) (hl : l.length ≤ 1000000) :
    Calls Tryd.prog 46 #[v, .func (.func 24) #[] #[]] w fun e w' => (∃ r : Int, e = .returned (.int .i64 r) ∧ IdxAt empB l r) ∧ Below w.heap.size w w' := by
  obtain ⟨A, c, rfl, hcl⟩ := own_slice hr
  obtain ⟨nl, hnl⟩ : ∃ nl, nl = l.length := ⟨_, rfl⟩
  rw [← hnl] at hcl hr hl ⊢
  have HR := Aside0.mk (show RowP B w 36 (.slice A nl c) l from by rw [hnl] at hr ⊢; exact hr)
  have HN := Aside0.mk hnl
  clear hr hnl
  go_enter Tryd.func46, Tryd.ntmps46
  go_wp2
  go_loopg [8] nl (fun g1 v8 wr => ∃ i : Nat, v8 = .int .i64 i ∧ Aside0 (i + g1 = nl) ∧ Aside0 (∀ x ∈ l.take i, empB x = false) ∧ Aside0 (Below w.heap.size w wr))
  case atStart => exact ⟨0, rfl, ⟨by omega⟩, ⟨fun x hx => by simp at hx⟩, ⟨Below.refl _ _⟩⟩
  case round =>
    obtain ⟨i, rfl, HI, HA, HB⟩ := hrel
    by_cases hlt : i < nl
    · have hz : (i : Int) < (nl : Int) := by omega
      have hwi : IntKind.i64.wrap ((i : Int) + 1) = ((i + 1 : Nat) : Int) := (i64_w _).trans ((w64 (by omega) (by omega)).trans (by omega))
      obtain ⟨p, hp⟩ : ∃ p, l[i]? = some p := ⟨l[i]'(by rw [← HN.out]; exact hlt), List.getElem?_eq_getElem _⟩
      obtain ⟨r, rfl, -, hr, hr0, hr1⟩ := rowP_get HR.out hp
      have c0 := cell_bl HB.out hr0
      have c1 := cell_bl HB.out hr1
      have HP := Aside0.mk hp
      have HSN := Aside0.mk (show l.take (i + 1) = l.take i ++ [p] by rw [List.take_add_one, hp]; rfl)
      clear hp hr0 hr1 hr
      have HO := closure58 p wr
      cases hd : empB p with
      | false =>
        rw [hd] at HO
        have HD := Aside0.mk hd
        clear hd
        go_wp2_with (go_at_call 24; refine HO.mono ?_; rintro e w' ⟨rfl, hb⟩; have HB2 := Aside0.mk (below_then HB.out hb); clear hb)
        go_roundg (nl - (i + 1))
        case measure => have := HI.out; omega
        case rel => exact ⟨i + 1, by first | rfl | rw [hwi], ⟨by have := HI.out; omega⟩, ⟨fun x hx => by rw [HSN.out] at hx; rcases List.mem_append.1 hx with h | h; exact HA.out x h; rw [List.mem_singleton.1 h]; exact HD.out⟩, HB2⟩
      | true =>
        rw [hd] at HO
        have HD := Aside0.mk hd
        clear hd
        go_wp2_with (go_at_call 24; refine HO.mono ?_; rintro e w' ⟨rfl, hb⟩; have HB2 := Aside0.mk (below_then HB.out hb); clear hb)
        go_ret
        exact ⟨⟨_, rfl, .inr ⟨i, p, rfl, HP.out, HD.out, HA.out⟩⟩, HB2.out⟩
    · have hz : ¬ (i : Int) < (nl : Int) := by omega
      have HAA := Aside0.mk (show ∀ x ∈ l, empB x = false by
        have ha := HA.out
        rw [List.take_of_length_le (by have := HN.out; omega)] at ha
        exact ha)
      go_wp2
      go_ret
      exact ⟨⟨_, rfl, .inl ⟨rfl, HAA.out⟩⟩, HB.out⟩

theorem idx_any {f : PB → Bool} {l : List PB} {r : Int} (h : IdxAt f l r) : decide (0 ≤ r) = l.any f := by
  rcases h with ⟨rfl, h⟩ | ⟨k, p, rfl, h1, h2, -⟩
  · have : l.any f = false := List.any_eq_false.2 (fun x hx => by rw [h x hx]; decide)
    rw [this]
    decide
  · have : l.any f = true := List.any_eq_true.2 ⟨p, List.mem_of_getElem? h1, h2⟩
    rw [this]
    exact decide_eq_true (by omega)
set_option maxHeartbeats 4000000 in
theorem contains65_calls (l : List PB) (B : Nat) (v : Value) (w : World) (hr : RowP B w 36 v l) (hl : l.length ≤ 1000000) :
    Calls Tryd.prog 48 #[v, .func (.func 47) #[] #[]] w fun e w' => e = .returned (.bool (l.any oddB)) ∧ Below w.heap.size w w' := by
  have HC := idx65_calls l B v w hr hl
  obtain ⟨r0, hr0⟩ : ∃ r0, r0 = l.any oddB := ⟨_, rfl⟩
  have HR0 := Aside0.mk hr0
  rw [← hr0]
  obtain ⟨A, c, rfl, hcl⟩ := own_slice hr
  clear hr hl hr0
  go_enter Tryd.func48, Tryd.ntmps48
  go_wp2_with fail
  refine HC.mono ?_
  rintro e w1 ⟨⟨r, rfl, hd⟩, hb⟩
  have hdr := idx_any hd
  rw [← HR0.out] at hdr
  have HB := Aside0.mk hb
  have HDR := Aside0.mk hdr
  clear HC hb hd hdr
  go_wp2_with fail
  go_ret
  refine ⟨?_, HB.out⟩
  show Ending.returned (.bool _) = Ending.returned (.bool _)
  rw [← HDR.out]
/-- labels.Check, plainly: labels that may be a stream's. -/
def checkB (l : List PB) : Bool := decide (l.length ≤ 16) && inOB l && !l.any oddB
def checkE (l : List PB) : Int := if checkB l = true then 0 else 50
set_option maxHeartbeats 4000000 in
set_option maxRecDepth 100000 in
theorem check_calls (l : List PB) (B : Nat) (v : Value) (w : World) (hr : RowP B w 36 v l) (hl : l.length ≤ 1000000) :
    Calls Tryd.prog 25 #[v] w fun e w' => e = .returned (.int .i64 (checkE l)) ∧ Below w.heap.size w w' := by
  have hin := inorder_calls l B v w hr hl
  have hcn := fun (W : World) (hb : Below w.heap.size w W) => contains65_calls l B v W (hr.kb (Kb.of_below (S := fun _ => False) hb) (fun _ _ h => h)) hl
  obtain ⟨A, c, rfl, hcl⟩ := own_slice hr
  obtain ⟨nl, hnl⟩ : ∃ nl, nl = l.length := ⟨_, rfl⟩
  have HE := Aside0.mk (show checkE l = if (decide (nl ≤ 16) && inOB l && !l.any oddB) = true then 0 else 50 by rw [hnl]; rfl)
  rw [← hnl] at hin hcn ⊢
  obtain ⟨ce, hce⟩ : ∃ ce, ce = checkE l := ⟨_, rfl⟩
  rw [← hce] at HE ⊢
  generalize inOB l = io at HE hin
  generalize l.any oddB = oa at HE hcn
  have HCN := Aside0.mk hcn
  clear hr hnl hl hce hcn
  by_cases h16 : nl ≤ 16
  · have hz : ¬ (16 : Int) < (nl : Int) := by omega
    rw [decide_eq_true h16] at HE
    cases io with
    | false =>
      have HX := Aside0.mk (show ce = 50 from HE.out)
      clear h16 HE
      go_enter Tryd.func25, Tryd.ntmps25
      go_wp2_with (go_at_call 27; refine hin.mono ?_; rintro e w' ⟨rfl, hb⟩; have HB := Aside0.mk hb; clear hb)
      go_ret
      exact ⟨by rw [HX.out]; rfl, HB.out⟩
    | true =>
      cases oa with
      | true =>
        have HX := Aside0.mk (show ce = 50 from HE.out)
        clear h16 HE
        go_enter Tryd.func25, Tryd.ntmps25
        go_wp2_with (first | (go_at_call 27; refine hin.mono ?_; rintro e w1 ⟨rfl, hb⟩; have HB := Aside0.mk hb; clear hb) | (go_at_call 48; refine (HCN.out _ HB.out).mono ?_; rintro e w2 ⟨rfl, hb⟩; have HB2 := Aside0.mk (below_then HB.out hb); clear hb))
        go_ret
        exact ⟨by rw [HX.out]; rfl, HB2.out⟩
      | false =>
        have HX := Aside0.mk (show ce = 0 from HE.out)
        clear h16 HE
        go_enter Tryd.func25, Tryd.ntmps25
        go_wp2_with (first | (go_at_call 27; refine hin.mono ?_; rintro e w1 ⟨rfl, hb⟩; have HB := Aside0.mk hb; clear hb) | (go_at_call 48; refine (HCN.out _ HB.out).mono ?_; rintro e w2 ⟨rfl, hb⟩; have HB2 := Aside0.mk (below_then HB.out hb); clear hb))
        go_ret
        exact ⟨by rw [HX.out]; rfl, HB2.out⟩
  · have hz : (16 : Int) < (nl : Int) := by omega
    have HX := Aside0.mk (show ce = 50 by rw [HE.out, decide_eq_false h16]; rfl)
    clear h16 HE
    go_enter Tryd.func25, Tryd.ntmps25
    go_wp2_with fail
    go_ret
    exact ⟨by rw [HX.out]; rfl, Below.refl _ _⟩
/-- Cells of labels, wherever they lie. -/
def CellsP (w : World) (A : Option Addr) (l : List PB) : Prop := ∀ a, A = some a → ∀ j q, (cellsB l)[j]? = some q → w.cell? (a.add j) = some q
theorem cellsP_of {w : World} {B : Nat} {e : TypeId} {A : Option Addr} {n c : Nat} {l : List PB} (h : RowP B w e (.slice A n c) l) : CellsP w A l := by
  intro a ha j q hj
  rcases h.2 with ⟨h1, -⟩ | ⟨g, cap, cur, h1, -, h3, -, -, -, h7⟩
  · cases h1; cases ha
  · cases h1
    cases ha
    rw [Addr.add_lit, Nat.zero_add, blk_cell h3]
    have h8 := hj
    rw [← h7, List.getElem?_take] at h8
    split at h8
    · simpa using h8
    · cases h8
set_option maxHeartbeats 4000000 in
set_option maxRecDepth 100000 in
theorem clone_calls (l : List PB) (A : Option Addr) (n c : Nat) (w : World) (hn : n = l.length) (hr : CellsP w A l) (h0 : A = none → n = 0 ∧ c = 0) (hl : l.length ≤ 1000000) :
    Calls Tryd.prog 20 #[.slice A n c] w fun e w' => (∃ v', e = .returned v' ∧ RowP w.heap.size w' 36 v' l) ∧ Below w.heap.size w w' := by
  cases A with
  | none =>
    obtain ⟨h1, h2⟩ := h0 rfl
    have hl0 : l = [] := List.eq_nil_of_length_eq_zero (by rw [← hn]; exact h1)
    subst h1; subst h2; subst hl0
    have q22 : ∀ W : World, (binOp .eql 25 (.slice none 0 0) (.slice none 0 0)).run Tryd.prog W = .ok (.bool true) W := fun W => Lib.run_eql_slice_nil W _ _ none 0 0 0 0 Tryd.underlying25
    clear hr h0 hn hl
    go_enter Tryd.func20, Tryd.ntmps20
    go_wp2_with fail
    go_ret
    exact ⟨⟨_, rfl, rfl, .inl ⟨rfl, rfl⟩⟩, Below.refl _ _⟩
  | some ad =>
    obtain ⟨W0, hW0⟩ : ∃ W0, W0 = w.alloc (.cells #[] 36) := ⟨_, rfl⟩
    have hb0 : Below w.heap.size w W0 := by rw [hW0]; exact below_alloc (Below.refl _ _) _
    have hrow0 : RowP w.heap.size W0 36 (.slice (some ⟨w.heap.size, 0, none⟩) 0 0) [] := by
      refine ⟨rfl, .inr ⟨w.heap.size, 0, #[], rfl, Nat.le_refl _, by rw [hW0]; exact World.alloc_heap_new _ _, Nat.le_refl _, Nat.zero_le _, rfl, rfl⟩⟩
    obtain ⟨i, hi, hz, h4, h5⟩ := info_parts i25
    have key : ∀ {ops : Array Oper} {rest : List Oper} {o : Oper} {a : Act} {Q : Exit → Act → World → Prop} (s x : Operand), o.guard = none → o.op = .call { callee := .builtin .append, args := #[s, x], argTypes := #[25, 25] } → a.eval s = .slice (some ⟨w.heap.size, 0, none⟩) 0 0 → a.eval x = .slice (some ad) n c →
        (∀ v' w', RowP w.heap.size w' 36 v' l → Below w.heap.size w w' → wpList Tryd.prog ops Q rest (a.put o.dst v') w') → wpList Tryd.prog ops Q (o :: rest) a W0 := by
      intro ops rest o a Q s x h1 h2 h3 h6 hK
      refine wpList_append_own W0 h1 s x 25 h2 w.heap.size 36 i _ 2 32 Tryd.underlying25 hi hz h4 h5 rfl (by omega) _ 0 [] h3 hrow0 ad n c (cellsB l) h6 (by rw [cellsB_len, hn]) (fun j q hj => ?_) (cellsB_one l) (by simp only [maxLen]; omega) (by omega) hb0.size (fun v' w' g1 g2 g3 => ?_)
      · have := hr ad rfl j q hj
        rw [hW0]
        exact cell_bl (below_alloc (Below.refl _ _) _) this
      · refine hK v' w' ?_ (below_kb hb0 (kb_grown hrow0 g2))
        rw [Nat.zero_add, hn] at g1
        exact g1
    have HK := Aside0.mk @key
    have q22 : ∀ W : World, (binOp .eql 25 (.slice (some ad) n c) (.slice none 0 0)).run Tryd.prog W = .ok (.bool false) W := fun W => Lib.run_eql_slice_nil W _ _ (some ad) n c 0 0 Tryd.underlying25
    clear hr hn hrow0 key hi hz h4 h5 hl
    go_enter Tryd.func20, Tryd.ntmps20
    go_wp2_with (first | ((with_reducible refine gate_builtin (b := .append) (xs := #[.tmp 5, .tmp 6]) rfl ?_); at_builtin; (try rw [← hW0]); refine HK.out (.tmp 5) (.tmp 6) rfl rfl rfl rfl ?_; intro v2 w2 hr2 hb2; have HR2 := Aside0.mk hr2; have HB2 := Aside0.mk hb2; clear hr2 hb2))
    go_ret
    exact ⟨⟨_, rfl, HR2.out⟩, HB2.out⟩

end Go.Proofs.YtkkaaipiaandaaaDoor.PC
