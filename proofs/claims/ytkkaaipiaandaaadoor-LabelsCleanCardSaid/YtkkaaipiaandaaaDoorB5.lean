/- quote.Quote, of texts of bytes 32 to 126. -/
import Derived.Test.YtkkaaipiaandaaaDoorB4
namespace Go.Proofs.YtkkaaipiaandaaaDoor.PC
open Go.RowKit Go.Lib Go.Shelf Go.Maps Go.Proofs.YtkkaaipiaandaaaDoorW.PrintWords Go.Proofs.YtkkaaipiaandaaaDoorW.PrintLast Go.Proofs.YtkkaaipiaandaaaDoorW.PrintMore
attribute [local go_sem] Oper.semAt_some
set_option linter.unusedVariables false
set_option linter.unusedSimpArgs false
/-- A byte in quotes. -/
def escQ (x : UInt8) : List UInt8 := if x.toNat = 34 ∨ x.toNat = 92 then [92, x] else [x]
/-- quote.Quote, plainly, of bytes 32 to 126. -/
def quoP (l : List UInt8) : List UInt8 := 34 :: (l.flatMap escQ ++ [34])
def quoB (pre : List Q1) : List UInt8 := 34 :: (pre.map (·.1)).flatMap escQ
theorem esc_len (x : UInt8) : (escQ x).length ≤ 2 := by
  unfold escQ
  split <;> simp
theorem quoB_len : ∀ pre : List Q1, (quoB pre).length ≤ 1 + 2 * pre.length
  | [] => by simp [quoB]
  | x :: pre => by
    have h := quoB_len pre
    have h2 := esc_len x.1
    unfold quoB at h ⊢
    simp only [List.map_cons, List.flatMap_cons, List.length_cons, List.length_append] at h ⊢
    omega
theorem quoB_snoc (pre : List Q1) (x : Q1) : quoB (pre ++ [x]) = quoB pre ++ escQ x.1 := by
  unfold quoB
  rw [List.map_append, List.flatMap_append]
  simp
/-- A builder is as it was where a block has been turned that is none of its own. -/
theorem bld_kb2 {W W' : World} {b g0 : Nat} {bs : List Value} (h : Lib.IsBuilderF 58 5 b b bs W) (hk : Kb (fun k => k = g0) W W') {o : Obj} (ho : W.heap[g0]? = some o) (h5 : ∀ c fz, o ≠ .cells c 5 fz) (hb : b ≠ g0) : Lib.IsBuilderF 58 5 b b bs W' := by
  have key : ∀ p, Lib.BuilderAtF 58 5 b b p bs W → Lib.BuilderAtF 58 5 b b p bs W' := by
    rintro p ⟨hB, v, hbb, ⟨h1, h2⟩, hne⟩
    refine ⟨hB, v, Kb.blk hbb hk hb, ⟨h1, ?_⟩, hne⟩
    rcases h2 with h2 | ⟨g, cap, cur, fz, e1, e2, e3, e4⟩
    · exact .inl h2
    · refine .inr ⟨g, cap, cur, fz, e1, e2, ?_, e4⟩
      rw [hk.block g (blk_lt_any e3) (fun h => by
        subst h
        rw [ho] at e3
        exact h5 _ _ (Option.some.inj e3))]
      exact e3
  rcases h with h | h
  · exact .inl (key _ h)
  · exact .inr (key _ h)
/-- What stands between two rounds. -/
structure IQ (w : World) (b b0 D1 : Nat) (pre : List Q1) (W : World) : Prop where
  bd : Lib.IsBuilderF 58 5 b b (Lib.byteCells (quoB pre)) W
  bl : Below b w W
  bx : ∃ v, W.heap[b0]? = some (.cells #[v] 9 (0, 0))
  lp : ∃ o, W.heap[D1]? = some o ∧ o.isCells = false
  ln : pre.length ≤ 100000
theorem IQ.kb {w : World} {b b0 D1 g0 : Nat} {pre : List Q1} {W W' : World} (h : IQ w b b0 D1 pre W) (hk : Kb (fun k => k = g0) W W') (hb : b < g0) (hbw : b = w.heap.size) {o : Obj} (ho : W.heap[g0]? = some o) (h5 : ∀ c fz, o ≠ .cells c 5 fz) (hbx : ∃ v, W'.heap[b0]? = some (.cells #[v] 9 (0, 0))) (hlp : ∃ o, W'.heap[D1]? = some o ∧ o.isCells = false) : IQ w b b0 D1 pre W' :=
  ⟨bld_kb2 h.bd hk ho h5 (by omega), by
    have h1 := h.bl
    rw [hbw] at h1 ⊢
    exact below_kb h1 (hk.mono (fun k e => by omega)), hbx, hlp, h.ln⟩
set_option maxHeartbeats 16000000 in
set_option maxRecDepth 100000 in
theorem quote_calls (s : ByteArray) (w : World) (hs : s.size ≤ 100000) (ha : ∀ x ∈ s.data.toList, 32 ≤ x.toNat ∧ x.toNat < 127) : Calls Tryd.prog 35 #[.string s] w fun e w' => (∃ t : ByteArray, e = .returned (.string t) ∧ t.data.toList = quoP s.data.toList) ∧ Below w.heap.size w w' := by
  obtain ⟨b, hb⟩ : ∃ b, b = w.heap.size := ⟨_, rfl⟩
  have HBQ := Aside0.mk hb
  have hnew := World.alloc_heap_new w (.cells #[.pointer none, .slice none 0 0] 58)
  rw [← hb] at hnew
  have hwb := Tryd.Builder_WriteByte_k b b [] 34 (w.alloc (.cells #[.pointer none, .slice none 0 0] 58)) (bld_new hnew) (by simp) (by simp only [World.size_alloc]; omega)
  have HB0 := Aside0.mk (show Below b w (w.alloc (.cells #[.pointer none, .slice none 0 0] 58)) by rw [hb]; exact below_alloc (Below.refl _ _) _)
  rw [← hb]
  have HWB := Aside0.mk hwb
  clear hnew hwb hb
  refine (callsIn_wide (n := 3)).1 ?_
  refine callsIn_of_wp_marks Tryd.func35 rfl trivial ?_ rfl
  simp only [Tryd.ntmps35, List.size_toArray, List.length_cons, List.length_nil, Nat.reduceAdd, Nat.reduceSub, Array.replicate_succ, Array.replicate_zero, List.push_toArray, List.append_toArray, List.nil_append, List.cons_append]
  gi_wp2_with fail
  rw [← HBQ.out]
  refine ⟨trivial, (callsIn_wide.2 HWB.out).mono ?_⟩
  rintro e w1 ⟨rfl, hbd, hbb, -⟩
  have HBD1 := Aside0.mk (show Lib.IsBuilderF 58 5 b b (Lib.byteCells (quoB [])) w1 from .inr (by simpa [quoB, Lib.byteCells] using hbd))
  have HB1 := Aside0.mk (show Below b w w1 by
    have h1 := HB0.out
    rw [HBQ.out] at h1 hbb ⊢
    exact below_kb h1 (Kb.of_below_base hbb))
  clear hbd hbb HWB HB0
  gi_wp2_with fail
  refine ⟨trivial, (callsIn_wide.2 (each_calls s w1)).mono ?_⟩
  rintro e w2 ⟨rfl, rfl⟩
  gi_wp2_with fail
  obtain ⟨W0, hW0⟩ : ∃ W0, W0 = w1.alloc (.cells #[.string s] 9) := ⟨_, rfl⟩
  have hsz0 : W0.heap.size = w1.heap.size + 1 := by rw [hW0]; simp
  have hbx0 : Boxed W0 w1.heap.size 9 (.string s) := by rw [hW0]; exact Boxed.new _ _ _
  have HBD2 := Aside0.mk (show Lib.IsBuilderF 58 5 b b (Lib.byteCells (quoB [])) W0 by rw [hW0]; exact bld_kb HBD1.out ((Kb.refl (fun _ => False) w1).alloc _))
  have HB2 := Aside0.mk (show Below b w W0 by
    have h1 := HB1.out
    rw [HBQ.out] at h1 ⊢
    rw [hW0]
    exact below_alloc h1 _)
  have hbl : b < w1.heap.size := by
    rcases HBD1.out with h | h
    · exact h.lt
    · exact h.lt
  have HBX := Aside0.mk hbx0
  rw [← hW0]
  clear hW0 HBD1 HB1
  refine range_law (gf := 72) (lb := #[.pointer (some ⟨w1.heap.size, 0, none⟩)]) rfl (enters_of Tryd.func72 (by kernel_rfl) rfl) (encs := encQ) (fun _ => rfl) (b0 := w1.heap.size) (by omega) (each_feeds s hs ha _ _) ?hK (IQ w b w1.heap.size (W0.heap.size + 1)) (fun _ _ _ => False) ?hIK ?h0 ?hB0 ?hIp ?hXp
    (fun x => { tmps := #[.string s, undef, .string ⟨#[]⟩, .pointer (some ⟨b, 0, none⟩), .int .i32 (x.1.toNat : Int), .string ⟨#[x.1]⟩, undef, .nilIface, .string s, .func (.func 72) #[] #[.pointer (some ⟨w1.heap.size, 0, none⟩)], .int .i32 (x.1.toNat : Int), .string ⟨#[x.1]⟩, undef, undef, undef, undef, undef, undef, undef, undef, undef, undef, undef, undef, undef, undef, undef, undef, undef, undef, undef, undef, undef, undef, undef, undef, undef, undef, undef, undef, undef, undef, undef, undef, undef, undef, undef, undef, undef, undef, undef, undef, undef, undef, undef, undef, undef, undef, undef, undef, undef, undef], defers := [] }) ?assign ?body ?done ?stop
  case hK =>
    rintro W W' k o ⟨u, rfl⟩ hle ho _
    exact Kb.blk ho ((Kb.refl (fun k => k = w1.heap.size) W).setCell (p := ⟨w1.heap.size, 0, none⟩) (.inl rfl) u) (by omega)
  case hIK =>
    rintro pre W W' h ⟨u, rfl⟩
    have hk := (Kb.refl (fun k => k = w1.heap.size) W).setCell (p := ⟨w1.heap.size, 0, none⟩) (.inl rfl) u
    obtain ⟨v, hv⟩ := h.bx
    obtain ⟨o, ho, hoc⟩ := h.lp
    exact h.kb hk hbl HBQ.out hv (fun c fz e => by cases e) ⟨u, (show Boxed W w1.heap.size 9 v from hv).set u⟩ ⟨o, Kb.blk ho hk (by omega), hoc⟩
  case h0 =>
    intro o1 o2 h1 h2
    refine ⟨bld_kb HBD2.out (((Kb.refl (fun _ => False) W0).alloc o1).alloc o2), ?_, ⟨_, (HBX.out.alloc o1).alloc o2⟩, ⟨o2, ?_, h2⟩, Nat.zero_le _⟩
    · have h3 := HB2.out
      rw [HBQ.out] at h3 ⊢
      exact below_alloc (below_alloc h3 _) _
    · have h3 := World.alloc_heap_new (W0.alloc o1) o2
      rwa [World.size_alloc] at h3
  case hB0 =>
    intro o1 o2
    exact (HBX.out.alloc _).alloc _
  case hIp =>
    intro pre W o hoc h
    obtain ⟨v, hv⟩ := h.bx
    obtain ⟨o', ho', hoc'⟩ := h.lp
    have hk := kb_putObj W (W0.heap.size + 1) o
    exact h.kb hk (by omega) HBQ.out ho' (fun c fz e => by rw [e] at hoc'; cases hoc') ⟨v, Kb.blk hv hk (by omega)⟩ ⟨o, World.putObj_heap_same (blk_lt_any ho'), hoc⟩
  case hXp =>
    intro c pre W o h
    exact h
  case assign =>
    intro l x W K hK
    simp only [encQ]
    gi_wp2
    exact hK
  case body =>
    rintro l' pre x W hI hN
    have HI := Aside0.mk hI
    have hlo := x.2.1
    have hhi := x.2.2
    obtain ⟨c, hc⟩ : ∃ c : Nat, c = x.1.toNat := ⟨_, rfl⟩
    have HC := Aside0.mk hc
    rw [← hc] at hlo hhi
    simp only [← hc]
    have hne1 : ¬ (c : Int) = 10 := by omega
    have hne2 : ¬ (c : Int) = 13 := by omega
    have hne3 : ¬ (c : Int) = 9 := by omega
    have hne4 : ¬ (c : Int) < 32 := by omega
    have hne5 : ¬ (c : Int) = 127 := by omega
    have hne6 : ¬ (c : Int) = 65533 := by omega
    -- what a round writes
    have hwr : ∀ (n : Nat) (t : ByteArray), t.data.toList = escQ x.1 → CallsIn Fence.wide n Tryd.prog 37 #[.pointer (some ⟨b, 0, none⟩), .string t] W fun e W' => e = .returned (.tuple #[.int .i64 t.size, .nilIface]) ∧ KeepsFrom W0.heap.size W W' ∧ W'.heap[w1.heap.size]? = W.heap[w1.heap.size]? ∧ IQ w b w1.heap.size (W0.heap.size + 1) (pre ++ [x]) W' := by
      intro n t ht
      have htl : t.size ≤ 2 := by rw [← lk_size, ht]; exact esc_len _
      refine (callsIn_wide.2 (Tryd.Builder_WriteString_k b b (Lib.byteCells (quoB pre)) t W HI.out.bd (by
        unfold Lib.byteCells
        rw [List.length_map]
        have := quoB_len pre
        have := HI.out.ln
        omega) (by have := HI.out.bl.size; have := HBQ.out; omega))).mono ?_
      rintro e W' ⟨rfl, hbd, hbb, hok⟩
      obtain ⟨v, hv⟩ := HI.out.bx
      obtain ⟨o, ho, hoc⟩ := HI.out.lp
      have hv' := hok w1.heap.size _ hv (fun h => by have := Option.some.inj h; omega) (fun c fz h => by cases h)
      have ho' := hok _ _ ho (fun h => by have := Option.some.inj h; omega) (fun c fz h => by rw [h] at hoc; cases hoc)
      refine ⟨rfl, ⟨hbb.size, fun k o hk hk2 hkc => hok k o hk2 (fun h => by have := Option.some.inj h; omega) (fun c fz h => by rw [h] at hkc; cases hkc)⟩, by rw [hv', hv], ⟨?_, ?_, ⟨v, hv'⟩, ⟨o, ho', hoc⟩, by rw [List.length_append]; show pre.length + 1 ≤ _; omega⟩⟩
      · rw [cells_cat, ht, ← quoB_snoc] at hbd
        exact .inr hbd
      · have h1 := HI.out.bl
        rw [HBQ.out] at h1 hbb ⊢
        exact below_kb h1 (Kb.of_below_base hbb)
    have HWR := Aside0.mk hwr
    clear hwr
    by_cases h34 : c = 34
    · have hz34 : (c : Int) = 34 := by omega
      have HE := Aside0.mk (show ((⟨#[92]⟩ : ByteArray) ++ ⟨#[x.1]⟩).data.toList = escQ x.1 by rw [lk_app]; unfold escQ; rw [if_pos (.inl (by rw [← HC.out]; exact h34))]; rfl)
      clear hI hN
      gi_wp2_with fail
      refine ⟨trivial, (CallsIn.inRound l' (HWR.out _ _ HE.out)).mono ?_⟩
      rintro e W' ⟨rfl, hk1, hk2, hk3⟩
      have HK := Aside0.mk (And.intro hk1 (And.intro hk2 hk3))
      clear hk1 hk2 hk3
      gi_wp2_with fail
      exact HK.out
    · have hz34 : ¬ (c : Int) = 34 := by omega
      by_cases h92 : c = 92
      · have hz92 : (c : Int) = 92 := by omega
        have HE := Aside0.mk (show ((⟨#[92]⟩ : ByteArray) ++ ⟨#[x.1]⟩).data.toList = escQ x.1 by rw [lk_app]; unfold escQ; rw [if_pos (.inr (by rw [← HC.out]; exact h92))]; rfl)
        clear hI hN
        gi_wp2_with fail
        refine ⟨trivial, (CallsIn.inRound l' (HWR.out _ _ HE.out)).mono ?_⟩
        rintro e W' ⟨rfl, hk1, hk2, hk3⟩
        have HK := Aside0.mk (And.intro hk1 (And.intro hk2 hk3))
        clear hk1 hk2 hk3
        gi_wp2_with fail
        exact HK.out
      · have hz92 : ¬ (c : Int) = 92 := by omega
        have HE := Aside0.mk (show (⟨#[x.1]⟩ : ByteArray).data.toList = escQ x.1 by unfold escQ; rw [if_neg (by rw [← HC.out]; omega)])
        clear hI hN
        gi_wp2_with fail
        refine ⟨trivial, (CallsIn.inRound l' (HWR.out _ _ HE.out)).mono ?_⟩
        rintro e W' ⟨rfl, hk1, hk2, hk3⟩
        have HK := Aside0.mk (And.intro hk1 (And.intro hk2 hk3))
        clear hk1 hk2 hk3
        gi_wp2_with fail
        exact HK.out
  case done =>
    rintro D xs W hD hS hI hd
    have HI := Aside0.mk hI
    have HD := Aside0.mk hd
    have HSS := Aside0.mk hS
    have hwb := Tryd.Builder_WriteByte_k b b (Lib.byteCells (quoB xs)) 34 W hI.bd (by
      unfold Lib.byteCells
      rw [List.length_map]
      have := quoB_len xs
      have := hI.ln
      omega) (by have := hI.bl.size; have := HBQ.out; omega)
    have hDb : D ≠ b := by omega
    clear hI hd hS
    gi_wp2_with fail
    refine ⟨trivial, (callsIn_wide.2 hwb).mono ?_⟩
    rintro e w3 ⟨rfl, hbd, hbb, hok⟩
    have HD3 := Aside0.mk (hok D _ HD.out (fun h => hDb (Option.some.inj h)) (fun c fz h => by cases h))
    have HBD3 := Aside0.mk (show Lib.IsBuilderF 58 5 b b (Lib.byteCells (quoP s.data.toList)) w3 from .inr (by
      rw [show Lib.byteCells (quoP s.data.toList) = Lib.byteCells (quoB xs) ++ [.int .u8 34] by
        rw [← HSS.out]
        unfold quoP quoB Lib.byteCells
        simp]
      exact hbd))
    have HB3 := Aside0.mk (show Below b w w3 by
      have h1 := HI.out.bl
      rw [HBQ.out] at h1 hbb ⊢
      exact below_kb h1 (Kb.of_below_base hbb))
    clear hbd hbb hok hwb
    have hst := Tryd.Builder_String_any_k b b (quoP s.data.toList) w3 HBD3.out (by have := HB3.out.size; have := HBQ.out; omega)
    gi_wp2_with fail
    refine ⟨trivial, (callsIn_wide.2 hst).mono ?_⟩
    rintro e w4 ⟨rfl, -, hbb, hok⟩
    have hd4 := hok D _ HD3.out (fun h => hDb (Option.some.inj h)) (fun c fz h => by cases h)
    have HB4 := Aside0.mk (show Below b w w4 by
      have h1 := HB3.out
      rw [HBQ.out] at h1 hbb ⊢
      exact below_kb h1 (Kb.of_below_base hbb))
    have HD4 := Aside0.mk hd4
    clear hbb hok hst hd4
    gi_wp2
    have hk3 := kb_putObj w4 D (.deferred none)
    refine ⟨by simp, .inl ⟨_, _, rfl, run_takeDeferred HD4.out, ?_⟩⟩
    refine ⟨_, results_tmp rfl _ _ _, ⟨_, rfl, rfl⟩, ?_⟩
    have h1 := HB4.out
    rw [HBQ.out] at h1 ⊢
    exact below_kb h1 (hk3.mono (fun j h => by have := HBQ.out; omega))
  case stop =>
    rintro D c pre W hD _ h hd
    exact h.elim
end Go.Proofs.YtkkaaipiaandaaaDoor.PC
