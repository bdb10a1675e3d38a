/- labels.By. -/
import Derived.Test.YtpobgpfkohlokaaLO
import Derived.Maps.Own
import Derived.Maps.OwnOps
namespace Go.Proofs.Ytpobgpfkohlokaa.PC
open Go.RowKit Go.Lib Go.Shelf Go.Maps Go.Proofs.YtpobgpfkohlokaaW.PrintWords Go.Proofs.YtpobgpfkohlokaaW.PrintLast Go.Proofs.YtpobgpfkohlokaaW.PrintMore
set_option linter.unusedVariables false
set_option linter.unusedSimpArgs false
/-- The names that are asked for. -/
def amgD : List BL → DataW Unit
  | [] => .map []
  | n :: l => (amgD l).put (.string n) (.lit (.int .i64 1))
theorem amgD_map : ∀ l, IsMap (amgD l)
  | [] => isMap_empty
  | n :: l => by
    obtain ⟨es, h⟩ := amgD_map l
    unfold amgD
    rw [h]
    exact ⟨_, rfl⟩
theorem amgD_at : ∀ (l : List BL) (n : BL), (amgD l).atKey (.string n) (.lit (.int .i64 0)) = .lit (.int .i64 (if n ∈ l then 1 else 0))
  | [], n => rfl
  | m :: l, n => by
    unfold amgD
    by_cases h : n = m
    · rw [← h, atKey_put_same (amgD_map l) (by show True; trivial), if_pos List.mem_cons_self]
    · rw [atKey_put_other (by intro e; exact h (Lit.string.inj e)), amgD_at l n]
      congr 3
      simp [h]
/-- What among hands back. -/
def AmgPost (w w' : World) (l : List ByteArray) (e : Ending) : Prop := ∃ b k D, e = .returned (.map (some b)) ∧ w.heap.size ≤ b ∧ w'.ownsMap Try.prog 9 (plainElem Try.prog 3) b k D ∧ (∀ n : BL, D.atKey (.string n) (.lit (.int .i64 0)) = (.lit (.int .i64 (if n ∈ l.map bl then 1 else 0)) : DataW Unit)) ∧ Below w.heap.size w w'
section
variable {n : Nat} {P : Program} {ops : Array Oper} {rest : List Oper} {o : Oper} {a : Act} {Q : Exit → Act → World → Prop} {w : World}
theorem go_dst_gate {N : Tmp} (_hN : o.dst = some N) (h : wpList P ops Q (o :: rest) a w) : wpList P ops Q (o :: rest) a w := h
end
set_option maxHeartbeats 8000000 in
set_option maxRecDepth 100000 in
theorem among_calls (l : List ByteArray) (B : Nat) (v : Value) (w : World) (hr : RowT B w v l) (hl : l.length ≤ 1000000) (hz : ∀ q ∈ l, q.size ≤ 1000) :
    Calls Try.prog 50 #[v] w fun e w' => AmgPost w w' l e := by
  obtain ⟨A, c, rfl, hcl⟩ := own_slice hr
  obtain ⟨nl, hnl⟩ : ∃ nl, nl = l.length := ⟨_, rfl⟩
  rw [← hnl] at hcl hr hl
  have HR := Aside0.mk (show RowT B w (.slice A nl c) l from by rw [hnl] at hr ⊢; exact hr)
  have HN := Aside0.mk hnl
  have HZ := Aside0.mk hz
  have hmm := @run_makeMap Try.prog
  have hu58 := Try.underlying58
  have hm0 := World.ownsMap_made (H := Unit) w Try.prog 9 (plainElem Try.prog 3)
  have HB0 := Aside0.mk (below_alloc (Below.refl w.heap.size w) (.map #[] 0))
  have HM0 := Aside0.mk hm0
  have hln : l.length = nl := hnl.symm
  rw [hln]
  clear hr hnl hz hm0 hln
  go_enter Try.func50, Try.ntmps50
  go_wp2_with fail
  go_loopg [9] nl (fun g1 v9 wr => ∃ i : Nat, v9 = .int .i64 i ∧ Aside0 (i + g1 = nl) ∧ Aside0 (wr.ownsMap Try.prog 9 (plainElem Try.prog 3) w.heap.size i (amgD ((l.take i).map bl).reverse)) ∧ Aside0 (Below w.heap.size w wr))
  case atStart => exact ⟨0, rfl, ⟨by omega⟩, HM0, HB0⟩
  case round =>
    obtain ⟨i, rfl, HI, HM, HB⟩ := hrel
    by_cases hlt : i < nl
    · have hz1 : (i : Int) < (nl : Int) := by omega
      have hwi : IntKind.i64.wrap ((i : Int) + 1) = ((i + 1 : Nat) : Int) := (i64_w _).trans ((w64 (by omega) (by omega)).trans (by omega))
      obtain ⟨p, hp⟩ : ∃ p, l[i]? = some p := ⟨l[i]'(by rw [← HN.out]; exact hlt), List.getElem?_eq_getElem _⟩
      obtain ⟨r, rfl, hr, hr0⟩ := rowT_get HR.out hp
      have c0 := cell_bl HB.out hr0
      have hps := HZ.out p (List.mem_of_getElem? hp)
      have hkey : keyOf Try.prog 9 (.string p) = some (.string p.data.toList) := WideMaps.keyOf_string_mk Try.underlying9 (by simp only [maxLen]; omega)
      have HSN := Aside0.mk (show ((l.take (i + 1)).map bl).reverse = p.data.toList :: ((l.take i).map bl).reverse by
        rw [List.take_add_one, hp, List.map_append, List.reverse_append]
        rfl)
      clear hp hr0 hr hps
      go_wp2_with (first | (at_mapUpdate; refine wpList_mapUpdate_own _ rfl _ _ _ 58 rfl 9 3 (string_keyed Try.underlying9) Try.underlying58 _ w.heap.size i _ rfl HM.out (by simp only [maxLen]; omega) _ _ _ rfl rfl hkey _ [] (plainElem_int Try.underlying3 (by decide)) ?_; intro w2 hown2 hgrow2; have HM2 := Aside0.mk hown2; have HB2 := Aside0.mk (below_kb HB.out ((Kb.refl (fun k => w.heap.size ≤ k) wr).grown hgrow2 (fun k e => by cases e; exact .inl (Nat.le_refl _)))); clear hown2 hgrow2))
      go_roundg (nl - (i + 1))
      case measure => have := HI.out; omega
      case rel => exact ⟨i + 1, by first | rfl | rw [hwi], ⟨by have := HI.out; omega⟩, ⟨by rw [HSN.out]; exact HM2.out⟩, HB2⟩
    · have hz1 : ¬ (i : Int) < (nl : Int) := by omega
      have HE := Aside0.mk (show l.take i = l from List.take_of_length_le (by have := HN.out; omega))
      go_wp2_with fail
      go_ret
      unfold AmgPost
      refine ⟨_, _, _, rfl, Nat.le_refl _, HM.out, fun n => ?_, HB.out⟩
      rw [HE.out, amgD_at]
      simp only [List.mem_reverse]
set_option maxHeartbeats 4000000 in
theorem closure52 (x : PB) (b k g : Nat) (D : DataW Unit) (W : World) (hc : W.cell? ⟨g, 0, none⟩ = some (.map (some b))) (hm : W.ownsMap Try.prog 9 (plainElem Try.prog 3) b k D) (d : Bool) (hd : D.atKey (.string x.1.data.toList) (.lit (.int .i64 0)) = .lit (.int .i64 (if d = true then 1 else 0))) (hx : x.1.size ≤ 1000) :
    Calls Try.prog 52 #[.agg #[.string x.1, .string x.2], .pointer (some ⟨g, 0, none⟩)] W fun e w' => e = .returned (.bool d) ∧ Below W.heap.size W w' := by
  have c1 := cell_bl (below_alloc (Below.refl W.heap.size W) (.cells #[.string x.1, .string x.2] 74)) hc
  have HM1 := Aside0.mk (ownsMap_kb hm ((Kb.refl (fun _ => False) W).alloc (.cells #[.string x.1, .string x.2] 74)) (fun h => h))
  have HD := Aside0.mk hd
  have hkey : keyOf Try.prog 9 (.string x.1) = some (.string x.1.data.toList) := WideMaps.keyOf_string_mk Try.underlying9 (by simp only [maxLen]; omega)
  clear hm hd
  cases d with
  | true =>
    go_enter Try.func52, Try.ntmps52
    go_wp2_with (first | (at_lookup; refine wpList_lookup_own_int _ rfl _ _ 58 rfl 9 3 .i64 (string_keyed Try.underlying9) Try.underlying58 Try.underlying3 (Try.zeroValue3 _) b k _ rfl HM1.out _ _ rfl hkey ?_; intro c hat hwc; rw [HD.out, if_pos rfl] at hat; cases hat))
    go_ret
    exact ⟨rfl, below_alloc (Below.refl _ _) _⟩
  | false =>
    go_enter Try.func52, Try.ntmps52
    go_wp2_with (first | (at_lookup; refine wpList_lookup_own_int _ rfl _ _ 58 rfl 9 3 .i64 (string_keyed Try.underlying9) Try.underlying58 Try.underlying3 (Try.zeroValue3 _) b k _ rfl HM1.out _ _ rfl hkey ?_; intro c hat hwc; rw [HD.out, if_neg (by decide)] at hat; cases hat))
    go_ret
    exact ⟨rfl, below_alloc (Below.refl _ _) _⟩
/-- Those of names. -/
def byB (l : List PB) (names : List ByteArray) : List PB := l.filter (fun x => decide (x.1.data.toList ∈ names.map bl))
set_option maxHeartbeats 8000000 in
set_option maxRecDepth 100000 in
theorem by_calls (l : List PB) (names : List ByteArray) (B B' : Nat) (v v' : Value) (w : World) (hr : RowP B w 74 v l) (hl : l.length ≤ 1000000) (ho : InO l) (hx : ∀ x ∈ l, x.1.size ≤ 1000) (hn : RowT B' w v' names) (hnl : names.length ≤ 1000000) (hnz : ∀ q ∈ names, q.size ≤ 1000) :
    Calls Try.prog 27 #[v, v'] w fun e w' => ∃ u, e = .returned u ∧ RowP w.heap.size w' 74 u (byB l names) ∧ Below w.heap.size w w' := by
  have ha := among_calls names B' v' w hn hnl hnz
  have HR := Aside0.mk hr
  have HO := Aside0.mk ho
  have HX := Aside0.mk hx
  obtain ⟨A, c, rfl, hcl⟩ := own_slice hr
  clear hr ho hx hn hnl hnz
  go_enter Try.func27, Try.ntmps27
  go_wp2_with fail
  refine ha.mono ?_
  rintro e w1 ⟨b, k, D, rfl, hb, hm, hD, hb1⟩
  have HB1 := Aside0.mk hb1
  have HR1 := Aside0.mk (HR.out.kb (Kb.of_below (S := fun _ => False) hb1) (fun _ _ h => h))
  have HM1 := Aside0.mk hm
  have HD := Aside0.mk hD
  have hbx := World.alloc_heap_new w1 (.cells #[.map (some b)] 58)
  have HBX := Aside0.mk hbx
  have hc := choose52_calls l (fun x => decide (x.1.data.toList ∈ names.map bl)) B w1.heap.size (.slice A l.length c) (w1.alloc (.cells #[.map (some b)] 58)) (HR1.out.kb ((Kb.refl (fun _ => False) w1).alloc _) (fun _ _ h => h)) hl HO.out
    (fun W x hxl hW => closure52 x b k _ D W (cell_bl hW ((blk_cell HBX.out 0).trans rfl)) (ownsMap_kb HM1.out (((Kb.refl (fun _ => False) w1).alloc _).trans (Kb.of_below (S := fun _ => False) hW)) (fun h => h)) _ (by rw [HD.out]; simp) (HX.out x hxl))
  clear ha hb1 hm hD hbx hb
  go_wp2_with fail
  refine hc.mono ?_
  rintro e w2 ⟨u, rfl, hu, hb2⟩
  have HU := Aside0.mk (own_base (B' := w.heap.size) hu (by have := HB1.out.size; simp only [World.size_alloc]; omega))
  have HB2 := Aside0.mk (below_then (below_alloc HB1.out _) hb2)
  clear hu hb2 hc
  go_wp2_with fail
  go_ret
  exact ⟨u, rfl, HU.out, HB2.out⟩
end Go.Proofs.Ytpobgpfkohlokaa.PC
