/- labels.Set, whatever the labels. -/
import Derived.Test.YtkkaaipiaandaaaDoorA4
namespace Go.Proofs.YtkkaaipiaandaaaDoor.PC
open Go.RowKit Go.Lib Go.Shelf Go.Maps Go.Proofs.YtkkaaipiaandaaaDoorW.PrintWords Go.Proofs.YtkkaaipiaandaaaDoorW.PrintLast Go.Proofs.YtkkaaipiaandaaaDoorW.PrintMore
set_option linter.unusedVariables false
set_option linter.unusedSimpArgs false
theorem cellsB_take : ∀ (l : List PB) (i : Nat), cellsB (l.take i) = (cellsB l).take (i * 2)
  | l, 0 => by simp [cellsB]
  | [], i + 1 => by simp [cellsB]
  | p :: l, i + 1 => by
    rw [show (i + 1) * 2 = i * 2 + 1 + 1 by omega]
    show _ :: _ :: cellsB (l.take i) = _
    rw [cellsB_take l i]
    rfl
theorem cellsB_drop : ∀ (l : List PB) (i : Nat), cellsB (l.drop i) = (cellsB l).drop (i * 2)
  | l, 0 => by simp
  | [], i + 1 => by simp [cellsB]
  | p :: l, i + 1 => by
    rw [show (i + 1) * 2 = i * 2 + 1 + 1 by omega]
    show cellsB (l.drop i) = (cellsB l).drop (i * 2)
    exact cellsB_drop l i
theorem own_block_lt {w : World} {B : Nat} {e : TypeId} {l : List PB} {a : Addr} {n c : Nat} (h : RowP B w e (.slice (some a) n c) l) : a.block < w.heap.size := by
  rcases h.2 with ⟨h1, -⟩ | ⟨g, cap, cur, h1, -, h3, -⟩
  · cases h1
  · cases h1
    exact blk_lt h3
theorem cellsB_one : ∀ (l : List PB), ∀ u ∈ cellsB l, u.oneCell' = true := by
  intro l u hu
  obtain ⟨p, -, hp⟩ := List.mem_flatMap.1 hu
  simp at hp
  rcases hp with rfl | rfl <;> rfl
/-- Labels in order with one, of a name that is not among them. -/
def insL (l : List PB) (x : PB) : List PB := l.take (posL l x) ++ x :: l.drop (posL l x)

set_option maxHeartbeats 8000000 in
set_option maxRecDepth 100000 in
theorem insert_calls (l : List PB) (u u' : ByteArray) (B g c1 : Nat) (v : Value) (w : World) (hB : B ≤ w.heap.size) (hr : RowP B w 36 v l) (hl : l.length ≤ 1000000) (h1 : 1 ≤ c1) (hu : w.cell? ⟨g, 0, none⟩ = some (.string u)) (hu' : w.cell? ⟨g, 1, none⟩ = some (.string u')) :
    Calls Tryd.prog 30 #[v, .int .i64 (l.length : Int), .slice (some ⟨g, 0, none⟩) 1 c1] w fun e w' => ∃ v', e = .returned v' ∧ RowP B w' 36 v' (l ++ [(u, u')]) ∧ Kb (fun k => B ≤ k) w w' := by
  obtain ⟨A, c, rfl, hcl⟩ := own_slice hr
  have HR := Aside0.mk hr
  have HL := Aside0.mk hl
  have HBB := Aside0.mk hB
  obtain ⟨nl, hnl⟩ : ∃ nl, nl = l.length := ⟨_, rfl⟩
  have HR : Aside0 (RowP B w 36 (.slice A nl c) l) := ⟨by rw [hnl]; exact hr⟩
  rw [← hnl] at hcl hl ⊢
  have HN := Aside0.mk hnl
  have hu25 := Tryd.underlying36
  have hcp := own_len hr
  have ht : ∀ v' w', RowP B w' 36 v' (l ++ [(u, u')]) = RowP B w' 36 v' (l ++ [(u, u')]) := fun _ _ => rfl
  clear hr hnl hB hcp ht
  have key : ∀ {ops : Array Oper} {rest : List Oper} {o : Oper} {a : Act} {Q : Exit → Act → World → Prop}, o.guard = none → o.op = .call { callee := .builtin .append, args := #[.tmp 23, .tmp 24], argTypes := #[25, 25] } → a.eval (.tmp 23) = .slice A nl c → a.eval (.tmp 24) = .slice (some ⟨g, 0, none⟩) 1 c1 →
      (∀ g' c' w', RowP B w' 36 (.slice (some ⟨g', 0, none⟩) (nl + 1) c') (l ++ [(u, u')]) → Kb (fun k => B ≤ k) w w' → wpList Tryd.prog ops Q rest (a.put o.dst (.slice (some ⟨g', 0, none⟩) (nl + 1) c')) w') → wpList Tryd.prog ops Q (o :: rest) a w := by
    intro ops rest o a Q h1 h2 h3 h4 h5
    refine append_L (u := u) (u' := u') h1 (.tmp 23) (.tmp 24) h2 h3 HR.out h4 hu hu' HL.out HBB.out ?_
    rw [← HN.out]
    exact h5
  cases A with
  | none =>
    go_enter Tryd.func30, Tryd.ntmps30
    go_wp2_with (first | ((with_reducible refine gate_builtin (b := .append) (xs := #[.tmp 23, .tmp 24]) rfl ?_); at_builtin; refine key rfl rfl rfl rfl ?_; intro g2 c2 w2 hr2 hk2; have HR2 := Aside0.mk hr2; have HK2 := Aside0.mk hk2; clear hr2 hk2))
    go_ret
    exact ⟨_, rfl, HR2.out, HK2.out⟩
  | some A =>
    go_enter Tryd.func30, Tryd.ntmps30
    go_wp2_with (first | ((with_reducible refine gate_builtin (b := .append) (xs := #[.tmp 23, .tmp 24]) rfl ?_); at_builtin; refine key rfl rfl rfl rfl ?_; intro g2 c2 w2 hr2 hk2; have HR2 := Aside0.mk hr2; have HK2 := Aside0.mk hk2; clear hr2 hk2))
    all_goals (go_ret; exact ⟨_, rfl, HR2.out, HK2.out⟩)

theorem ins_calls (l : List PB) (u u' : ByteArray) (B g c1 : Nat) (v : Value) (w : World) (i : Nat) (hi : i ≤ l.length) (hB : B ≤ w.heap.size) (hr : RowP B w 36 v l) (hl : l.length ≤ 1000000) (h1 : 1 ≤ c1) (hb : w.heap[g]? = some (.cells #[.string u, .string u'] 36 (0, 0))) (hg : v.ownBlock ≠ some g) :
    Calls Tryd.prog 30 #[v, .int .i64 (i : Nat), .slice (some ⟨g, 0, none⟩) 1 c1] w fun e w' => ∃ v', e = .returned v' ∧ RowP B w' 36 v' (l.take i ++ (u, u') :: l.drop i) ∧ Kb (fun k => B ≤ k) w w' := by
  rcases Nat.lt_or_ge i l.length with h | h
  · refine (insL_calls B g c1 l.length i 1 v (cellsB l) [.string u, .string u'] w hB hr h (by omega) (by omega) hl (cellsB_one l) (by intro x hx; simp at hx; rcases hx with rfl | rfl <;> rfl) (0, 0) hb rfl hg).mono ?_
    rintro e w' ⟨⟨v', rfl, h2⟩, h3⟩
    refine ⟨v', rfl, ?_, h3⟩
    unfold RowP
    rw [cellsB_append, show cellsB ((u, u') :: l.drop i) = [.string u, .string u'] ++ cellsB (l.drop i) from rfl, cellsB_take, cellsB_drop]
    rw [show (l.take i ++ (u, u') :: l.drop i).length = l.length + 1 by rw [List.length_append, List.length_cons, List.length_take, List.length_drop]; omega]
    exact h2
  · obtain rfl : i = l.length := by omega
    rw [List.take_of_length_le (Nat.le_refl _), List.drop_eq_nil_of_le (Nat.le_refl _)]
    exact insert_calls l u u' B g c1 v w hB hr hl h1 ((blk_cell hb 0).trans rfl) ((blk_cell hb 1).trans rfl)
/-- labels.Set, plainly. -/
def setL (l : List PB) (n s : ByteArray) : List PB :=
  if inOB l = true then (if s.toList = [] then chooseB l (fun x => !isN n x) else insL (chooseB l (fun x => !isN n x)) (n, s)) else []
theorem inO_choose (l : List PB) (f : PB → Bool) : InO (chooseB l f) := by
  unfold chooseB
  split
  · rename_i h
    have ho := inO_of h
    exact ⟨ho.up.filter _, fun p hp => ho.ne p (List.mem_filter.1 hp).1⟩
  · exact ⟨List.Pairwise.nil, fun p hp => by cases hp⟩
theorem choose_len (l : List PB) (f : PB → Bool) : (chooseB l f).length ≤ l.length := by
  unfold chooseB
  split
  · exact List.length_filter_le _ _
  · exact Nat.zero_le _

set_option maxHeartbeats 8000000 in
set_option maxRecDepth 100000 in
theorem set_calls (l : List PB) (n s : ByteArray) (B : Nat) (v : Value) (w : World) (hr : RowP B w 36 v l) (hl : l.length ≤ 1000000) :
    Calls Tryd.prog 10 #[v, .string n, .string s] w fun e w' => ∃ u, e = .returned u ∧ RowP w.heap.size w' 36 u (setL l n s) ∧ Below w.heap.size w w' := by
  have hin := inorder_calls l B v w hr hl
  have HR := Aside0.mk hr
  obtain ⟨A, c, rfl, hcl⟩ := own_slice hr
  clear hr
  cases hio : inOB l with
  | false =>
    have HE := Aside0.mk (show setL l n s = [] from if_neg (by rw [hio]; decide))
    rw [hio] at hin
    clear hio
    go_enter Tryd.func10, Tryd.ntmps10
    go_wp2_with fail
    refine hin.mono ?_
    rintro e w0 ⟨rfl, hb0⟩
    have HB0 := Aside0.mk hb0
    clear hb0 hin
    go_wp2_with fail
    go_ret
    exact ⟨_, rfl, by rw [HE.out]; exact ⟨rfl, .inl ⟨rfl, rfl⟩⟩, HB0.out⟩
  | true =>
    have HSL := Aside0.mk (show setL l n s = (if s.toList = [] then chooseB l (fun x => !isN n x) else insL (chooseB l (fun x => !isN n x)) (n, s)) from if_pos hio)
    rw [hio] at hin
    clear hio
    go_enter Tryd.func10, Tryd.ntmps10
    go_wp2_with fail
    refine hin.mono ?_
    rintro e w1 ⟨rfl, hb⟩
    have HB1 := Aside0.mk hb
    have hd := drop_calls l n B (.slice A l.length c) w1 (HR.out.kb (Kb.of_below (S := fun _ => False) hb) (fun _ _ h => h)) hl
    obtain ⟨dl, hdl⟩ : ∃ dl, dl = chooseB l (fun x => !isN n x) := ⟨_, rfl⟩
    rw [← hdl] at hd HSL
    have HDO := Aside0.mk (show InO dl by rw [hdl]; exact inO_choose _ _)
    have hdn : dl.length ≤ 1000000 := by rw [hdl]; exact Nat.le_trans (choose_len _ _) hl
    clear hin hb hdl
    go_wp2_with fail
    refine hd.mono ?_
    rintro e w2 ⟨u2, rfl, hu2, hb2⟩
    obtain ⟨A2, c2, rfl, hcl2⟩ := own_slice hu2
    have HU := Aside0.mk (own_base (B' := w.heap.size) hu2 HB1.out.size)
    have HB2 := Aside0.mk (below_then HB1.out hb2)
    clear hd hu2 hb2
    by_cases hs : s.toList = []
    · have hst : (s.toList == []) = true := by simpa using hs
      have HX := Aside0.mk (show setL l n s = dl by rw [HSL.out, if_pos hs])
      go_wp2_with fail
      go_ret
      exact ⟨_, rfl, by rw [HX.out]; exact HU.out, HB2.out⟩
    · have hst : (s.toList == []) = false := by simpa using hs
      have HX := Aside0.mk (show setL l n s = insL dl (n, s) by rw [HSL.out, if_neg hs])
      have hbx := World.alloc_heap_new w2 (.cells #[.string n, .string s] 36)
      have HU3 := Aside0.mk (RowP.kb HU.out ((Kb.refl (fun _ => False) w2).alloc (.cells #[.string n, .string s] 36)) (fun _ _ h => h))
      have HB3 := Aside0.mk (below_alloc HB2.out (.cells #[.string n, .string s] 36))
      clear hs
      go_wp2_with fail
      generalize hg3 : w2.alloc (.cells #[.string n, .string s] 36) = w3 at hbx HU3 HB3 ⊢
      clear hg3
      refine (search_calls dl (n, s) w.heap.size _ w3 HU3.out hdn HDO.out).mono ?_
      rintro e w4 ⟨⟨bb, rfl⟩, hb4⟩
      have hbx4 := Kb.blk hbx (Kb.of_below (S := fun _ => False) hb4) (fun h => h)
      have HU4 := Aside0.mk (RowP.kb HU3.out (Kb.of_below (S := fun _ => False) hb4) (fun _ _ h => h))
      have HB4 := Aside0.mk (below_then HB3.out hb4)
      have d0 := (blk_cell hbx4 0).trans rfl
      have d1 := (blk_cell hbx4 1).trans rfl
      obtain ⟨ps, hps⟩ : ∃ ps, ps = posL dl (n, s) := ⟨_, rfl⟩
      have hpl : ps ≤ dl.length := by rw [hps]; exact pos_le _ _
      have HPS := Aside0.mk hps
      rw [← hps]
      clear hbx hb4 hbx4 hps
      go_wp2_with fail
      have hb5 := World.alloc_heap_new w4 (.cells #[.string n, .string s] 36)
      refine (ins_calls dl n s w.heap.size _ _ _ _ ps hpl (by have := HB4.out.size; simp only [World.size_alloc]; omega) (RowP.kb HU4.out ((Kb.refl (fun _ => False) w4).alloc (.cells #[.string n, .string s] 36)) (fun _ _ h => h)) hdn (Nat.le_refl _) hb5 ?_).mono ?_
      · cases A2 with
        | none => intro h; cases h
        | some a2 =>
          intro h
          have h2 : a2.block = w4.heap.size := Option.some.inj h
          have h3 := own_block_lt HU4.out
          omega
      rintro e w5 ⟨v5, rfl, hr5, hk5⟩
      have HR5 := Aside0.mk hr5
      have HB5 := Aside0.mk (below_kb (below_alloc HB4.out (.cells #[.string n, .string s] 36)) hk5)
      clear hr5 hk5 hb5
      go_wp2_with fail
      go_ret
      exact ⟨_, rfl, by rw [HX.out]; unfold insL; rw [← HPS.out]; exact HR5.out, HB5.out⟩
end Go.Proofs.YtkkaaipiaandaaaDoor.PC
