/- slices.Insert behind the last; labels.Set of a name beyond all. -/
import Derived.Test.YtpobgpfkohlokaaLS
namespace Go.Proofs.Ytpobgpfkohlokaa.PC
open Go.RowKit Go.Lib Go.Shelf Go.Maps Go.Proofs.YtpobgpfkohlokaaW.PrintWords Go.Proofs.YtpobgpfkohlokaaW.PrintLast Go.Proofs.YtpobgpfkohlokaaW.PrintMore
set_option linter.unusedVariables false
set_option linter.unusedSimpArgs false
set_option maxHeartbeats 8000000 in
set_option maxRecDepth 100000 in
theorem insert_calls (l : List PB) (u u' : ByteArray) (B g c1 : Nat) (v : Value) (w : World) (hB : B ≤ w.heap.size) (hr : RowP B w 74 v l) (hl : l.length ≤ 1000000) (h1 : 1 ≤ c1) (hu : w.cell? ⟨g, 0, none⟩ = some (.string u)) (hu' : w.cell? ⟨g, 1, none⟩ = some (.string u')) :
    Calls Try.prog 49 #[v, .int .i64 (l.length : Int), .slice (some ⟨g, 0, none⟩) 1 c1] w fun e w' => ∃ v', e = .returned v' ∧ RowP B w' 74 v' (l ++ [(u, u')]) ∧ Kb (fun k => B ≤ k) w w' := by
  obtain ⟨A, c, rfl, hcl⟩ := own_slice hr
  have HR := Aside0.mk hr
  have HL := Aside0.mk hl
  have HBB := Aside0.mk hB
  obtain ⟨nl, hnl⟩ : ∃ nl, nl = l.length := ⟨_, rfl⟩
  have HR : Aside0 (RowP B w 74 (.slice A nl c) l) := ⟨by rw [hnl]; exact hr⟩
  rw [← hnl] at hcl hl ⊢
  have HN := Aside0.mk hnl
  have hu74 := Try.underlying74
  have hcp := own_len hr
  have ht : ∀ v' w', RowP B w' 74 v' (l ++ [(u, u')]) = RowP B w' 74 v' (l ++ [(u, u')]) := fun _ _ => rfl
  clear hr hnl hB hcp ht
  have key : ∀ {ops : Array Oper} {rest : List Oper} {o : Oper} {a : Act} {Q : Exit → Act → World → Prop}, o.guard = none → o.op = .call { callee := .builtin .append, args := #[.tmp 23, .tmp 24], argTypes := #[31, 31] } → a.eval (.tmp 23) = .slice A nl c → a.eval (.tmp 24) = .slice (some ⟨g, 0, none⟩) 1 c1 →
      (∀ g' c' w', RowP B w' 74 (.slice (some ⟨g', 0, none⟩) (nl + 1) c') (l ++ [(u, u')]) → Kb (fun k => B ≤ k) w w' → wpList Try.prog ops Q rest (a.put o.dst (.slice (some ⟨g', 0, none⟩) (nl + 1) c')) w') → wpList Try.prog ops Q (o :: rest) a w := by
    intro ops rest o a Q h1 h2 h3 h4 h5
    refine append_L (u := u) (u' := u') h1 (.tmp 23) (.tmp 24) h2 h3 HR.out h4 hu hu' HL.out HBB.out ?_
    rw [← HN.out]
    exact h5
  cases A with
  | none =>
    go_enter Try.func49, Try.ntmps49
    go_wp2_with (first | ((with_reducible refine gate_builtin (b := .append) (xs := #[.tmp 23, .tmp 24]) rfl ?_); at_builtin; refine key rfl rfl rfl rfl ?_; intro g2 c2 w2 hr2 hk2; have HR2 := Aside0.mk hr2; have HK2 := Aside0.mk hk2; clear hr2 hk2))
    go_ret
    exact ⟨_, rfl, HR2.out, HK2.out⟩
  | some A =>
    go_enter Try.func49, Try.ntmps49
    go_wp2_with (first | ((with_reducible refine gate_builtin (b := .append) (xs := #[.tmp 23, .tmp 24]) rfl ?_); at_builtin; refine key rfl rfl rfl rfl ?_; intro g2 c2 w2 hr2 hk2; have HR2 := Aside0.mk hr2; have HK2 := Aside0.mk hk2; clear hr2 hk2))
    all_goals (go_ret; exact ⟨_, rfl, HR2.out, HK2.out⟩)
/-- Labels with one whose name is beyond all. -/
def setB (l : List PB) (n s : ByteArray) : List PB := if s.data.toList = [] then l else l ++ [(n, s)]
set_option maxHeartbeats 8000000 in
set_option maxRecDepth 100000 in
theorem set_calls (l : List PB) (n s : ByteArray) (B : Nat) (v : Value) (w : World) (hr : RowP B w 74 v l) (hl : l.length ≤ 1000000) (ho : InO l) (hn : ∀ p ∈ l, compareBytes p.1.data.toList n.data.toList < 0) :
    Calls Try.prog 25 #[v, .string n, .string s] w fun e w' => ∃ u, e = .returned u ∧ RowP w.heap.size w' 74 u (setB l n s) ∧ Below w.heap.size w w' := by
  have hin := inorder_calls l B v w hr hl ho
  have hfl : l.filter (fun x => !isN n x) = l := by
    refine List.filter_eq_self.2 (fun x hx => ?_)
    have h1 := hn x hx
    unfold isN
    have : (x.1.toList == n.toList) = false := by
      rw [ByteArray.toList_eq, ByteArray.toList_eq]
      refine beq_eq_false_iff_ne.2 (fun h => ?_)
      rw [h, cb_self] at h1
      omega
    rw [this]
    rfl
  have HR := Aside0.mk hr
  have HO := Aside0.mk ho
  have HNN := Aside0.mk hn
  obtain ⟨A, c, rfl, hcl⟩ := own_slice hr
  clear hr ho hn
  go_enter Try.func25, Try.ntmps25
  go_wp2_with fail
  refine hin.mono ?_
  rintro e w1 ⟨rfl, hb⟩
  have HB1 := Aside0.mk hb
  have hd := drop_calls l n B (.slice A l.length c) w1 (HR.out.kb (Kb.of_below (S := fun _ => False) hb) (fun _ _ h => h)) hl HO.out
  rw [hfl] at hd
  clear hin hb hfl
  go_wp2_with fail
  refine hd.mono ?_
  rintro e w2 ⟨u2, rfl, hu2, hb2⟩
  obtain ⟨A2, c2, rfl, hcl2⟩ := own_slice hu2
  have HU := Aside0.mk (own_base (B' := w.heap.size) hu2 HB1.out.size)
  have HB2 := Aside0.mk (below_then HB1.out hb2)
  clear hd hu2 hb2
  by_cases hs : s.toList = []
  · have hst : (s.toList == []) = true := by simpa using hs
    have HX := Aside0.mk (show setB l n s = l from if_pos (by rw [← ByteArray.toList_eq]; exact hs))
    go_wp2_with fail
    go_ret
    exact ⟨_, rfl, by rw [HX.out]; exact HU.out, HB2.out⟩
  · have hst : (s.toList == []) = false := by simpa using hs
    have HX := Aside0.mk (show setB l n s = l ++ [(n, s)] from if_neg (by rw [← ByteArray.toList_eq]; exact hs))
    have hbx := World.alloc_heap_new w2 (.cells #[.string n, .string s] 74)
    have HU3 := Aside0.mk (RowP.kb HU.out ((Kb.refl (fun _ => False) w2).alloc (.cells #[.string n, .string s] 74)) (fun _ _ h => h))
    have HB3 := Aside0.mk (below_alloc HB2.out (.cells #[.string n, .string s] 74))
    clear hs
    go_wp2_with fail
    generalize hg3 : w2.alloc (.cells #[.string n, .string s] 74) = w3 at hbx HU3 HB3 ⊢
    clear hg3
    refine (search_calls l (n, s) w.heap.size _ w3 HU3.out hl HNN.out).mono ?_
    rintro e w4 ⟨rfl, hb4⟩
    have hbx4 := Kb.blk hbx (Kb.of_below (S := fun _ => False) hb4) (fun h => h)
    have HU4 := Aside0.mk (RowP.kb HU3.out (Kb.of_below (S := fun _ => False) hb4) (fun _ _ h => h))
    have HB4 := Aside0.mk (below_then HB3.out hb4)
    have d0 := (blk_cell hbx4 0).trans rfl
    have d1 := (blk_cell hbx4 1).trans rfl
    clear hbx hb4 hbx4
    go_wp2_with fail
    have hb5 := World.alloc_heap_new w4 (.cells #[.string n, .string s] 74)
    refine (insert_calls l n s w.heap.size _ _ _ _ (by have := HB4.out.size; simp only [World.size_alloc]; omega) (RowP.kb HU4.out ((Kb.refl (fun _ => False) w4).alloc (.cells #[.string n, .string s] 74)) (fun _ _ h => h)) hl (Nat.le_refl _) ((blk_cell hb5 0).trans rfl) ((blk_cell hb5 1).trans rfl)).mono ?_
    rintro e w5 ⟨v5, rfl, hr5, hk5⟩
    have HR5 := Aside0.mk hr5
    have HB5 := Aside0.mk (below_kb (below_alloc HB4.out (.cells #[.string n, .string s] 74)) hk5)
    clear hr5 hk5 hb5
    go_wp2_with fail
    go_ret
    exact ⟨_, rfl, by rw [HX.out]; exact HR5.out, HB5.out⟩
end Go.Proofs.Ytpobgpfkohlokaa.PC
