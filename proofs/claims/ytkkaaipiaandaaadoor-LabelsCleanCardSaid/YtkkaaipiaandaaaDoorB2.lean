/- The statements' eq and set. -/
import Derived.Test.YtkkaaipiaandaaaDoorB1
import Derived.Test.YtkkaaipiaandaaaDoorA8
namespace Go.Proofs.YtkkaaipiaandaaaDoor.PC
open Go.RowKit Go.Lib Go.Shelf Go.Maps Go.Proofs.YtkkaaipiaandaaaDoorW.PrintWords Go.Proofs.YtkkaaipiaandaaaDoorW.PrintLast Go.Proofs.YtkkaaipiaandaaaDoorW.PrintMore
set_option linter.unusedVariables false
set_option linter.unusedSimpArgs false
theorem eqA25 (d : Nat) (w : World) (x0 y0 : ByteArray) (x1 y1 : ByteArray) :
    (Op.equalIn (d + 2) 36 (.agg #[.string x0, .string x1]) (.agg #[.string y0, .string y1])).run Tryd.prog w = .ok (x0.toList == y0.toList && (x1.toList == y1.toList)) w := by
  refine eqA_of Tryd.underlying36 (by kernel_rfl) ?_
  refine eqf_cons (by rfl) (by go_simp; rfl) (by go_simp; rfl) (by go_simp) ?_
  exact eqf_last (by rfl) (by go_simp; rfl) (by go_simp; rfl) (by go_simp)
attribute [local go_sem high] eqA25
/-- Two labels. -/
def eqB (p q : PB) : Bool := p.1.toList == q.1.toList && (p.2.toList == q.2.toList)
theorem b2_ba {a b : ByteArray} (h : a.data.toList = b.data.toList) : a = b := by
  cases a; cases b
  congr 1
  exact Array.toList_inj.1 h
theorem eqB_iff {p q : PB} : eqB p q = true ↔ p = q := by
  unfold eqB
  rw [Bool.and_eq_true, beq_iff_eq, beq_iff_eq, ByteArray.toList_eq, ByteArray.toList_eq, ByteArray.toList_eq, ByteArray.toList_eq]
  constructor
  · rintro ⟨h1, h2⟩
    exact Prod.ext (b2_ba h1) (b2_ba h2)
  · rintro rfl
    exact ⟨rfl, rfl⟩
def eqL (l m : List PB) : Bool := decide (l.length = m.length) && (List.range l.length).all (fun i => match l[i]?, m[i]? with | some p, some q => eqB p q | _, _ => true)
theorem eqL_iff {l m : List PB} : eqL l m = true ↔ l = m := by
  unfold eqL
  rw [Bool.and_eq_true, decide_eq_true_iff]
  constructor
  · rintro ⟨h1, h2⟩
    refine List.ext_getElem h1 (fun i hi hj => ?_)
    have h3 := List.all_eq_true.1 h2 i (List.mem_range.2 hi)
    rw [List.getElem?_eq_getElem hi, List.getElem?_eq_getElem hj] at h3
    exact eqB_iff.1 h3
  · rintro rfl
    refine ⟨rfl, List.all_eq_true.2 (fun i hi => ?_)⟩
    have hi := List.mem_range.1 hi
    rw [List.getElem?_eq_getElem hi]
    exact eqB_iff.2 rfl
set_option maxHeartbeats 8000000 in
set_option maxRecDepth 100000 in
theorem eq_calls (l m : List PB) (B B' : Nat) (v v' : Value) (w : World) (hr : RowP B w 36 v l) (hr' : RowP B' w 36 v' m) (hl : l.length ≤ 1000000) (hm : m.length ≤ 1000000) : Calls Tryd.prog 9 #[v, v'] w fun e w' => e = .returned (.bool (eqL l m)) ∧ Below w.heap.size w w' := by
  obtain ⟨A, c, rfl, hcl⟩ := own_slice hr
  obtain ⟨A', c', rfl, hcl'⟩ := own_slice hr'
  obtain ⟨nl, hnl⟩ : ∃ nl, nl = l.length := ⟨_, rfl⟩
  obtain ⟨nm, hnm⟩ : ∃ nm, nm = m.length := ⟨_, rfl⟩
  rw [← hnl] at hcl hr hl ⊢
  rw [← hnm] at hcl' hr' hm ⊢
  have HR := Aside0.mk (show RowP B w 36 (.slice A nl c) l from by rw [hnl] at hr ⊢; exact hr)
  have HR' := Aside0.mk (show RowP B' w 36 (.slice A' nm c') m from by rw [hnm] at hr' ⊢; exact hr')
  have HN := Aside0.mk hnl
  have HM := Aside0.mk hnm
  have HQ := Aside0.mk (show eqL l m = (decide (nl = nm) && (List.range nl).all (fun i => match l[i]?, m[i]? with | some p, some q => eqB p q | _, _ => true)) by rw [hnl, hnm]; rfl)
  obtain ⟨r, hr⟩ : ∃ r, r = eqL l m := ⟨_, rfl⟩
  rw [← hr] at HQ ⊢
  have hu25 := Tryd.underlying36
  clear hr hr' hnl hnm
  by_cases hlm : nl = nm
  · subst hlm
    rw [decide_eq_true rfl, Bool.true_and] at HQ
    go_enter Tryd.func9, Tryd.ntmps9
    go_wp2
    go_loopg [5] nl (fun g1 v5 wr => ∃ i : Nat, v5 = .int .i64 i ∧ Aside0 (i + g1 = nl) ∧ Aside0 ((List.range i).all (fun i => match l[i]?, m[i]? with | some p, some q => eqB p q | _, _ => true) = true) ∧ Aside0 (Below w.heap.size w wr))
    case atStart => exact ⟨0, rfl, ⟨by omega⟩, ⟨rfl⟩, ⟨Below.refl _ _⟩⟩
    case round =>
      obtain ⟨i, rfl, HI, HA, HB⟩ := hrel
      by_cases hlt : i < nl
      · have hz : (i : Int) < (nl : Int) := by omega
        have hwi : IntKind.i64.wrap ((i : Int) + 1) = ((i + 1 : Nat) : Int) := (i64_w _).trans ((w64 (by omega) (by omega)).trans (by omega))
        obtain ⟨p, hp⟩ : ∃ p, l[i]? = some p := ⟨l[i]'(by rw [← HN.out]; exact hlt), List.getElem?_eq_getElem _⟩
        obtain ⟨q, hq⟩ : ∃ q, m[i]? = some q := ⟨m[i]'(by rw [← HM.out]; exact hlt), List.getElem?_eq_getElem _⟩
        obtain ⟨r1, rfl, -, -, hr0, hr1⟩ := rowP_get HR.out hp
        obtain ⟨r2, rfl, -, -, hq0, hq1⟩ := rowP_get HR'.out hq
        have c0 := cell_bl HB.out hr0
        have c1 := cell_bl HB.out hr1
        have c0' := cell_bl HB.out hq0
        have c1' := cell_bl HB.out hq1
        have HPQ := Aside0.mk (show (match l[i]?, m[i]? with | some p, some q => eqB p q | _, _ => true) = eqB p q by rw [hp, hq])
        obtain ⟨d, hd⟩ : ∃ d, d = eqB p q := ⟨_, rfl⟩
        have hd2 : (p.1.toList == q.1.toList && (p.2.toList == q.2.toList)) = d := hd.symm
        rw [← hd] at HPQ
        clear hr0 hr1 hq0 hq1 hp hq hd
        cases d with
        | true =>
          go_wp2_with fail
          go_quiet (fail)
          go_wp2_with fail
          go_roundg (nl - (i + 1))
          case measure => have := HI.out; omega
          case rel => exact ⟨i + 1, by first | rfl | rw [hwi], ⟨by have := HI.out; omega⟩, ⟨range_all HA.out HPQ.out⟩, ⟨pw_below_drewN HB.out _⟩⟩
        | false =>
          have HF := Aside0.mk (show r = false by
            rw [HQ.out]
            exact List.all_eq_false.2 ⟨i, List.mem_range.2 hlt, by rw [HPQ.out]; decide⟩)
          go_wp2_with fail
          go_quiet (fail)
          go_wp2_with fail
          go_ret
          exact ⟨by rw [HF.out]; rfl, pw_below_drewN HB.out _⟩
      · have hz : ¬ (i : Int) < (nl : Int) := by omega
        have HT := Aside0.mk (show r = true by
          rw [HQ.out, show nl = i by have := HI.out; omega]
          exact HA.out)
        go_wp2
        go_ret
        exact ⟨by rw [HT.out]; rfl, HB.out⟩
  · have HF := Aside0.mk (show r = false by rw [HQ.out, decide_eq_false hlm]; rfl)
    have hne : ¬ (nl : Int) = (nm : Int) := by omega
    have hne2 : ((nl : Int) == (nm : Int)) = false := beq_eq_false_iff_ne.2 hne
    clear HQ hlm
    go_enter Tryd.func9, Tryd.ntmps9
    go_wp2
    go_ret
    exact ⟨by rw [HF.out]; rfl, Below.refl _ _⟩
/-- The labels of a text: one byte of a name, one of a value, each. -/
def setP : List UInt8 → List (BL × BL)
  | a :: b :: r => ([a], Lib.trimPrefix [b] [45]) :: setP r
  | _ => []
def toPB (p : BL × BL) : PB := (⟨p.1.toArray⟩, ⟨p.2.toArray⟩)
theorem str_lh (s : ByteArray) (i j : Nat) (I J : Int) (hI : I = (i : Int)) (hJ : J = (j : Int)) (h1 : i ≤ j) (h2 : j ≤ s.size) (W : World) : (Instr.slice 9 (.string s) (some (.int .i64 I)) (some (.int .i64 J)) none).run Tryd.prog W = .ok (.string (s.extract i j)) W := by
  subst hI; subst hJ
  have h3 : (i : Int) ≤ (j : Int) := by omega
  have h4 : (j : Int) ≤ (s.size : Int) := by omega
  simp [Instr.slice, run_underlying Tryd.underlying9, Instr.sliceBounds, run_sliceBound, h3, h4]
theorem ext_one (s : ByteArray) (i : Nat) {b : UInt8} (h : s.data.toList[i]? = some b) : (s.extract i (i + 1)).data.toList = [b] := by
  have hlt := (List.getElem?_eq_some_iff.1 h).1
  have h2 : (s.extract i (i + 1)).data.toList = (s.data.toList.take (i + 1)).drop i := by
    rw [ByteArray.data_extract, Array.toList_extract, List.extract_eq_take_drop, List.drop_take]
  rw [h2, List.take_add_one, h, List.drop_append_of_le_length (by rw [List.length_take]; omega), List.drop_eq_nil_of_le (by rw [List.length_take]; omega)]
  rfl
theorem setP_len : ∀ (n : Nat) (l : List UInt8), l.length ≤ n → (setP l).length ≤ l.length
  | _, [], _ => Nat.le_refl _
  | _, [a], _ => Nat.zero_le _
  | 0, a :: b :: r, h => by simp at h
  | n + 1, a :: b :: r, h => by
    show (setP r).length + 1 ≤ r.length + 1 + 1
    have := setP_len n r (by simp at h; omega)
    omega
theorem setP_take : ∀ (j : Nat) (l : List UInt8) (a b : UInt8), l[2 * j]? = some a → l[2 * j + 1]? = some b → setP (l.take (2 * j + 2)) = setP (l.take (2 * j)) ++ [([a], Lib.trimPrefix [b] [45])]
  | 0, l, a, b, h1, h2 => by
    match l, h1, h2 with
    | x :: y :: r, h1, h2 =>
      cases h1; cases h2
      rfl
  | j + 1, l, a, b, h1, h2 => by
    rw [show 2 * (j + 1) = 2 * j + 1 + 1 by omega] at h1 h2 ⊢
    match l, h1, h2 with
    | x :: y :: r, h1, h2 =>
      have ih := setP_take j r a b h1 h2
      show ([x], _) :: setP (r.take (2 * j + 2)) = ([x], _) :: (setP (r.take (2 * j)) ++ _)
      rw [ih]
theorem setP_end : ∀ (j : Nat) (l : List UInt8), l.length ≤ 2 * j + 1 → setP (l.take (2 * j)) = setP l
  | 0, l, h => by
    match l, h with
    | [], _ => rfl
    | [a], _ => rfl
  | j + 1, l, h => by
    rw [show 2 * (j + 1) = 2 * j + 1 + 1 by omega] at h ⊢
    match l, h with
    | [], _ => rfl
    | [a], _ => rfl
    | x :: y :: r, h =>
      show ([x], _) :: setP (r.take (2 * j)) = ([x], _) :: setP r
      rw [setP_end j r (by simp at h; omega)]
section
variable {ops : Array Oper} {o : Oper} {a : Act} {K : Act → World → Prop} {Q : Exit → Act → World → Prop} {w : World} {E : Prop}
theorem append_EL (hw : Region.wanted o (yielded ops a.tmps) = true) (s x : Operand) (ho : o.op = .call { callee := .builtin .append, args := #[s, x], argTypes := #[25, 25] }) {B : Nat} {v : Value} {l : List PB} (hs : a.eval s = v) (hown : RowP B w 36 v l)
    {g c : Nat} (hx : a.eval x = .slice (some ⟨g, 0, none⟩) 1 c) {u u' : ByteArray} (hu : w.cell? ⟨g, 0, none⟩ = some (.string u)) (hu' : w.cell? ⟨g, 1, none⟩ = some (.string u')) (hl : l.length ≤ 1000000) (hB : B ≤ w.heap.size)
    (h : ∀ g' c' w', RowP B w' 36 (.slice (some ⟨g', 0, none⟩) (l.length + 1) c') (l ++ [(u, u')]) → Kb (fun k => B ≤ k) w w' → K (a.put o.dst (.slice (some ⟨g', 0, none⟩) (l.length + 1) c')) w') :
    if Region.wanted o (yielded ops a.tmps) = true then Oper.wp Tryd.prog o a w K Q else E := by
  rw [if_pos hw]
  obtain ⟨i, hi, hz, h4, h5⟩ := info_parts i25
  obtain ⟨v', w', hrun, h1, h2, h3⟩ := run_append_own (P := Tryd.prog) w B 25 o.type 36 i _ 2 32 Tryd.underlying25 hi hz h4 h5 rfl (by omega) v l.length _ hown ⟨g, 0, none⟩ 1 c [.string u, .string u'] rfl (fun j q hj => by
    match j, hj with
    | 0, hj => cases hj; exact hu
    | 1, hj => cases hj; exact hu'
    | j + 2, hj => cases hj) (fun q hq => by
    cases hq with
    | head => rfl
    | tail _ hq =>
      cases hq with
      | head => rfl
      | tail _ hq => cases hq) (by simp only [maxLen]; omega) (by omega) hB
  have hk : Kb (fun k => B ≤ k) w w' := kb_grown hown h2
  rcases h1.2 with ⟨-, h0⟩ | ⟨g', c', cur, h6, -⟩
  · omega
  · subst h6
    have hfin := h g' c' w' (by unfold RowP; rw [cellsB_append, List.length_append]; exact h1) hk
    unfold Oper.wp
    simp [execOp, ho, resolve, invoke, builtin, hs, hx, hrun, Result.andThen]
    exact hfin
end
set_option maxHeartbeats 8000000 in
set_option maxRecDepth 100000 in
theorem lset_calls (s : ByteArray) (w : World) (hs : s.size ≤ 1000) : Calls Tryd.prog 8 #[.string s] w fun e w' => (∃ u, e = .returned u ∧ RowP w.heap.size w' 36 u ((setP s.data.toList).map toPB)) ∧ Below w.heap.size w w' := by
  have mixed : Tryd.prog.follows .mixedOrders = true := by kernel_rfl
  obtain ⟨BB, hBB⟩ : ∃ BB, BB = w.heap.size := ⟨_, rfl⟩
  rw [← hBB]
  have HBB := Aside0.mk hBB
  clear hBB
  go_enter Tryd.func8, Tryd.ntmps8
  go_wp2_with fail
  go_loopg [3, 4] 1000 (fun g1 v3 v4 wr => ∃ (i j : Nat) (A : Option Addr) (c : Nat) (ou : List PB), v4 = .int .i64 (i : Int) ∧ v3 = .slice A ou.length c ∧ i ≤ s.size ∧ Aside0 (i = 2 * j) ∧ Aside0 (j + g1 = 1000) ∧ ou.length ≤ 1000 ∧ Aside0 (ou = (setP (s.data.toList.take (2 * j))).map toPB) ∧ Aside0 (RowP BB wr 36 (.slice A ou.length c) ou) ∧ Aside0 (Below BB w wr))
  case atStart => exact ⟨0, 0, none, 0, [], rfl, rfl, Nat.zero_le _, ⟨rfl⟩, ⟨rfl⟩, Nat.zero_le _, ⟨rfl⟩, ⟨⟨rfl, .inl ⟨rfl, rfl⟩⟩⟩, ⟨Below.refl _ _⟩⟩
  case round =>
    obtain ⟨i, j, A, c, ou, rfl, rfl, hjs, HJ, HI, hol, HOU, HR, HB⟩ := hrel
    have hw1 : IntKind.i64.wrap ((i : Int) + 1) = ((i + 1 : Nat) : Int) := (i64_w _).trans ((w64 (by omega) (by omega)).trans (by omega))
    have hw2 : IntKind.i64.wrap ((i : Int) + 2) = ((i + 2 : Nat) : Int) := (i64_w _).trans ((w64 (by omega) (by omega)).trans (by omega))
    by_cases hlt : i + 1 < s.size
    · have hz : (i : Int) + 1 < (s.size : Int) := by omega
      obtain ⟨a0, ha0⟩ : ∃ a0, s.data.toList[i]? = some a0 := ⟨s.data.toList[i]'(by rw [lk_size]; omega), List.getElem?_eq_getElem _⟩
      obtain ⟨b0, hb0⟩ : ∃ b0, s.data.toList[i + 1]? = some b0 := ⟨s.data.toList[i + 1]'(by rw [lk_size]; omega), List.getElem?_eq_getElem _⟩
      have hx1 : s.extract i (i + 1) = ⟨[a0].toArray⟩ := b2_ba (by rw [ext_one s i ha0])
      have hx2 : s.extract (i + 1) (i + 2) = ⟨[b0].toArray⟩ := b2_ba (by rw [ext_one s (i + 1) hb0])
      have htr : ∀ W : World, Calls Tryd.prog 26 #[.string (s.extract (i + 1) (i + 2)), .string ⟨#[45]⟩] W fun e w' => e = .returned (.string ⟨(Lib.trimPrefix [b0] [45]).toArray⟩) ∧ w' = W := fun W => by
        rw [hx2]
        exact Tryd.strings_TrimPrefix ⟨[b0].toArray⟩ ⟨#[45]⟩ W
      have HST := Aside0.mk (setP_take j s.data.toList a0 b0 (by rw [← HJ.out]; exact ha0) (by rw [← HJ.out]; exact hb0))
      obtain ⟨x1, hx1'⟩ : ∃ x1, x1 = s.extract i (i + 1) := ⟨_, rfl⟩
      obtain ⟨x2, hx2'⟩ : ∃ x2, x2 = s.extract (i + 1) (i + 2) := ⟨_, rfl⟩
      obtain ⟨x3, hx3'⟩ : ∃ x3 : ByteArray, x3 = ⟨(Lib.trimPrefix [b0] [45]).toArray⟩ := ⟨_, rfl⟩
      rw [← hx2', ← hx3'] at htr
      have HX := Aside0.mk (show (x1, x3) = toPB ([a0], Lib.trimPrefix [b0] [45]) by rw [hx1', hx1, hx3']; rfl)
      have HX1 := Aside0.mk hx1'
      have HX2 := Aside0.mk hx2'
      have HTR := Aside0.mk htr
      have hs1 : ∀ W : World, (Instr.slice 9 (.string s) (some (.int .i64 (i : Int))) (some (.int .i64 ((i : Int) + 1))) none).run Tryd.prog W = .ok (.string x1) W := fun W => by rw [HX1.out]; exact str_lh s i (i + 1) _ _ rfl rfl (by omega) (by omega) W
      have hs2 : ∀ W : World, (Instr.slice 9 (.string s) (some (.int .i64 ((i : Int) + 1))) (some (.int .i64 ((i : Int) + 2))) none).run Tryd.prog W = .ok (.string x2) W := fun W => by rw [HX2.out]; exact str_lh s (i + 1) (i + 2) _ _ rfl rfl (by omega) (by omega) W
      have hq2 : i + 1 ≤ s.size := by omega
      have hq3 : i + 2 ≤ s.size := by omega
      have hi3 : (i : Int) + 1 ≤ (s.size : Int) := by omega
      have hi4 : (i : Int) + 2 ≤ (s.size : Int) := by omega
      have hi5 : (0 : Int) ≤ (i : Int) + 1 := by omega
      have hi6 : (0 : Int) ≤ (i : Int) + 2 := by omega
      have ht1 : ((i : Int) + 1).toNat = i + 1 := by omega
      have ht2 : ((i : Int) + 2).toNat = i + 2 := by omega
      clear ha0 hb0 hx1 hx2 hx1' hx2' hx3' htr hlt
      go_wp2_with fail
      refine wp_region_any (by assumption) ?_
      try (change wpAny _ _ _ _ _ _ _ (World.drew _))
      have HR' := Aside0.mk (HR.out.kb ((Kb.refl (fun _ => False) wr).drew) (fun _ _ h => h))
      have HB' := Aside0.mk (below_drew1 HB.out)
      clear HR HB
      generalize wr.drew = wa at HR' HB' ⊢
      refine wpAny_take (i := 0) (v := ?vS1) rfl (by kernel_rfl) (by kernel_rfl) (by kernel_rfl) (fun _ _ _ h => h) (Or.inl ⟨by rfl, ?hyS1⟩) ?_
      case hyS1 => intro w; go_simp; (first | done | (with_reducible rfl))
      refine wpAny_take (i := 1) (v := ?vS2) rfl (by kernel_rfl) (by kernel_rfl) (by kernel_rfl) (fun _ _ _ h => h) (Or.inl ⟨by rfl, ?hyS2⟩) ?_
      case hyS2 => intro w; go_simp; (first | done | (with_reducible rfl))
      refine wpAny_take (i := 2) (v := ?vS3) rfl (by kernel_rfl) (by kernel_rfl) (by kernel_rfl) (fun _ _ _ h => h) (Or.inl ⟨by rfl, ?hyS3⟩) ?_
      case hyS3 => intro w; go_simp; (first | done | (with_reducible rfl))
      refine wpAny_take (i := 3) (v := ?vS4) rfl (by kernel_rfl) (by kernel_rfl) (by kernel_rfl) (fun _ _ _ h => h) (Or.inl ⟨by rfl, ?hyS4⟩) ?_
      case hyS4 => intro w; go_simp; (first | done | (with_reducible rfl))
      refine wpAny_take (i := 4) (v := ?vS5) rfl (by kernel_rfl) (by kernel_rfl) (by kernel_rfl) (fun _ _ _ h => h) (Or.inl ⟨by rfl, ?hyS5⟩) ?_
      case hyS5 => intro w; go_simp; (first | done | (with_reducible rfl))
      refine wpAny_take (i := 5) (v := ?vS6) rfl (by kernel_rfl) (by kernel_rfl) (by kernel_rfl) (fun _ _ _ h => h) (Or.inl ⟨by rfl, ?hyS6⟩) ?_
      case hyS6 => intro w; go_simp; (first | done | (with_reducible rfl))
      refine wpAny_take (i := 6) (v := ?vS7) rfl (by kernel_rfl) (by kernel_rfl) (by kernel_rfl) (fun _ _ _ h => h) (Or.inl ⟨by rfl, ?hyS7⟩) ?_
      case hyS7 => intro w; go_simp; (first | done | (with_reducible rfl))
      refine wpAny_take (i := 7) (v := ?vS8) rfl (by kernel_rfl) (by kernel_rfl) (by kernel_rfl) (fun _ _ _ h => h) (Or.inl ⟨by rfl, ?hyS8⟩) ?_
      case hyS8 => intro w; go_simp; (first | done | (with_reducible rfl))
      refine wpAny_take (i := 8) (v := ?vS9) rfl (by kernel_rfl) (by kernel_rfl) (by kernel_rfl) (fun _ _ _ h => h) (Or.inl ⟨by rfl, ?hyS9⟩) ?_
      case hyS9 => intro w; go_simp; (first | done | (with_reducible rfl))
      refine wpAny_take (i := 9) (v := ?vS10) rfl (by kernel_rfl) (by kernel_rfl) (by kernel_rfl) (fun _ _ _ h => h) (Or.inl ⟨by rfl, ?hyS10⟩) ?_
      case hyS10 => intro w; go_simp; (first | done | (with_reducible rfl))
      refine wpAny_take (i := 10) (v := ?vS11) rfl (by kernel_rfl) (by kernel_rfl) (by kernel_rfl) (fun _ _ _ h => h) (Or.inl ⟨by rfl, ?hyS11⟩) ?_
      case hyS11 => intro w; go_simp; (first | done | (with_reducible rfl))
      refine wpAny_take (i := 11) (v := ?vS12) rfl (by kernel_rfl) (by kernel_rfl) (by kernel_rfl) (fun _ _ _ h => h) (Or.inl ⟨by rfl, ?hyS12⟩) ?_
      case hyS12 => intro w; go_simp; (first | done | (with_reducible rfl))
      refine wpAny_ready (rs := [12]) (by kernel_rfl) (by simp) ?_
      refine AllReady.cons rfl (fun K hK => ?_) ?_
      · go_simp
        (try rw [← HX2.out])
        refine (HTR.out _).mono ?_
        rintro e wb ⟨rfl, rfl⟩
        refine hK _ _ ?_
        clear hK K
        skip
        refine wpAny_take (i := 13) (v := ?vS13) rfl (by kernel_rfl) (by kernel_rfl) (by kernel_rfl) (fun _ _ _ h => h) (Or.inl ⟨by rfl, ?hyS13⟩) ?_
        case hyS13 => intro w; go_simp; (first | done | (with_reducible rfl))
        refine wpAny_ready (rs := [14]) (by kernel_rfl) (by simp) ?_
        refine AllReady.cons rfl (fun K hK => ?_) ?_
        · go_simp
          refine hK _ _ ?_
          clear hK K
          (try rw [← HX1.out])
          have hnew := World.alloc_heap_new wb (.cells #[.string x1, .string x3] 36)
          have HR2 := Aside0.mk (HR'.out.kb ((Kb.refl (fun _ => False) wb).alloc (.cells #[.string x1, .string x3] 36)) (fun _ _ h => h))
          have HB2 := Aside0.mk (show Below BB w (wb.alloc (.cells #[.string x1, .string x3] 36)) by
            have h1 := HB'.out
            rw [HBB.out] at h1 ⊢
            exact below_alloc h1 _)
          have d0 := (blk_cell hnew 0).trans rfl
          have d1 := (blk_cell hnew 1).trans rfl
          clear hnew
          refine wpAny_ready (rs := [15]) (by kernel_rfl) (by simp) ?_
          refine AllReady.cons rfl (fun K hK => ?_) ?_
          · refine append_EL (u := x1) (u' := x3) (by rfl) (.tmp 12) (.tmp 26) rfl rfl HR2.out rfl (by first | exact d0 | (rw [← HX1.out] at *; exact d0)) d1 (by omega) (by have := HB2.out.size; rw [HBB.out]; omega) ?_
            intro g3 c3 w3 hr3 hk3
            have HR3 := Aside0.mk hr3
            have HB3 := Aside0.mk (show Below BB w w3 by
              have h1 := HB2.out
              rw [HBB.out] at h1 hk3 ⊢
              exact below_kb h1 hk3)
            clear hr3 hk3
            refine hK _ _ ?_
            clear hK K
            skip
            refine wpAny_take (i := 16) (v := ?vS14) rfl (by kernel_rfl) (by kernel_rfl) (by kernel_rfl) (fun _ _ _ h => h) (Or.inl ⟨by rfl, ?hyS14⟩) ?_
            case hyS14 => intro w; go_simp; (first | done | (with_reducible rfl))
            refine wpAny_done (by kernel_rfl) ?_ _
            go_wp2_with fail
            go_roundg (1000 - (j + 1))
            case measure => have := HI.out; have := HJ.out; omega
            case rel => exact ⟨i + 2, j + 1, some ⟨g3, 0, none⟩, c3, ou ++ [(x1, x3)], by first | rfl | rw [hw2], by rw [List.length_append]; rfl, by omega, ⟨by have := HJ.out; omega⟩, ⟨by have := HI.out; have := HJ.out; omega⟩, by rw [List.length_append]; show ou.length + 1 ≤ 1000; have h1 := congrArg List.length HOU.out; rw [List.length_map] at h1; have h2 := setP_len _ (s.data.toList.take (2 * j)) (Nat.le_refl _); rw [List.length_take] at h2; have := HJ.out; omega, ⟨by rw [show 2 * (j + 1) = 2 * j + 2 by omega, HST.out, List.map_append, HOU.out, HX.out]; rfl⟩, by rw [List.length_append]; exact HR3, HB3⟩
          exact AllReady.nil
        exact AllReady.nil
      exact AllReady.nil
    · have hz : ¬ (i : Int) + 1 < (s.size : Int) := by omega
      have HE := Aside0.mk (show ou = (setP s.data.toList).map toPB by rw [HOU.out, setP_end j _ (by rw [lk_size]; have := HJ.out; omega)])
      go_wp2_with fail
      go_ret
      exact ⟨⟨_, rfl, by rw [← HE.out]; exact HR.out⟩, HB.out⟩
end Go.Proofs.YtkkaaipiaandaaaDoor.PC
