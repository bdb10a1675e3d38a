/- Rows of labels and of texts; labels.IsName, Get, byName, among; slices.SortFunc at labels; names in order, plainly. (Chapter 18's texts of this repository, turned to this seat by mkA1.py.) -/
import Derived.Test.YtkkaaipiaandaaaDoorPCx0
import Derived.Test.YtkkaaipiaandaaaDoorShelf
import Derived.RangeFuncNested
import Derived.Deep.QuietTactic
import Derived.Sort.LoopGhostIn
import Derived.Sort.Walk0
import Derived.Laws.Cover1
import Derived.Maps.Own
import Derived.Maps.OwnOps
namespace Go.Proofs.YtkkaaipiaandaaaDoor.PC
open Go.RowKit Go.Lib Go.Shelf Go.Maps Go.Proofs.YtkkaaipiaandaaaDoorW.PrintWords Go.Proofs.YtkkaaipiaandaaaDoorW.PrintLast Go.Proofs.YtkkaaipiaandaaaDoorW.PrintMore
open Go.Sort (grow putRow mapBlock putCells flatK get_flatK size_flatK HoldsK putRowK heap_grow_old onCells SWO PermIn SortedIn alloc_eq_grow grow_grow pdq pdq_sorts)
set_option linter.unusedVariables false
set_option linter.unusedSimpArgs false
theorem w64 {x : Int} (h0 : -9223372036854775808 ≤ x) (h1 : x ≤ 9223372036854775807) : wrap64 x = x := by unfold wrap64; omega
/-- From w to w': the streams stay, and every block but those of S. -/
structure Kb (S : Nat → Prop) (w w' : World) : Prop where
  os : w'.os = w.os
  tape : w'.tape = w.tape
  output : w'.output = w.output
  size : w.heap.size ≤ w'.heap.size
  block : ∀ k, k < w.heap.size → ¬ S k → w'.heap[k]? = w.heap[k]?
namespace Kb
variable {S S' : Nat → Prop} {w w1 w2 : World}
theorem refl (S : Nat → Prop) (w : World) : Kb S w w := ⟨rfl, rfl, rfl, Nat.le_refl _, fun _ _ _ => rfl⟩
theorem of_below (h : Below w.heap.size w w1) : Kb S w w1 := ⟨h.os, h.tape, h.output, h.size, fun k hk _ => h.block k hk⟩
theorem then_ (h : Kb S w w1) (k : Kb S' w1 w2) (hs : ∀ i, S' i → S i ∨ w.heap.size ≤ i) : Kb S w w2 :=
  ⟨k.os.trans h.os, k.tape.trans h.tape, k.output.trans h.output, Nat.le_trans h.size k.size, fun i hi hn => (k.block i (Nat.lt_of_lt_of_le hi h.size) (fun h2 => (hs i h2).elim hn (fun h3 => by omega))).trans (h.block i hi hn)⟩
theorem trans (h : Kb S w w1) (k : Kb S w1 w2) : Kb S w w2 := h.then_ k (fun _ h => .inl h)
theorem below (h : Kb S w w1) (k : Below w1.heap.size w1 w2) : Kb S w w2 := h.then_ (Kb.of_below (S := fun _ => False) k) (fun _ h => h.elim)
theorem alloc (h : Kb S w w1) (o : Obj) : Kb S w (w1.alloc o) := h.below (below_alloc (Below.refl _ _) o)
theorem drew (h : Kb S w w1) : Kb S w w1.drew := h.below (below_drew1 (Below.refl _ _))
theorem drewN (h : Kb S w w1) (n : Nat) : Kb S w (w1.drewN n) := h.below (pw_below_drewN (Below.refl _ _) n)
theorem setCell (h : Kb S w w1) {p : Addr} (hp : S p.block ∨ w.heap.size ≤ p.block) (u : Value) : Kb S w (w1.setCell p u) :=
  h.then_ (S' := fun k => k = p.block) ⟨rfl, rfl, rfl, by simp [World.setCell], fun i _ hn => Below.heap_setCell w1 p u i hn⟩ (fun k hk => by rw [hk]; exact hp)
theorem mono (h : Kb S w w1) (hs : ∀ k, S k → S' k) : Kb S' w w1 := ⟨h.os, h.tape, h.output, h.size, fun k hk hn => h.block k hk (fun h2 => hn (hs k h2))⟩
theorem shrink (h : Kb S w w1) (hs : ∀ k, k < w.heap.size → S k → S' k) : Kb S' w w1 := ⟨h.os, h.tape, h.output, h.size, fun k hk hn => h.block k hk (fun h2 => hn (hs k hk h2))⟩
theorem to_below (h : Kb S w w1) (hs : ∀ k, S k → w.heap.size ≤ k) : Below w.heap.size w w1 := ⟨h.os, h.tape, h.output, h.size, fun k hk => h.block k hk (fun h2 => by have := hs k h2; omega)⟩
theorem grown (h : Kb S w w1) {row : Option Nat} (hg : w1.grownBy w2 row) (hr : ∀ k, row = some k → S k ∨ w.heap.size ≤ k) : Kb S w w2 :=
  h.then_ (S' := fun k => row = some k) ⟨hg.os, hg.tape, hg.output, hg.size, fun i hi hn => hg.block i hi (fun he => hn he.symm)⟩ hr
theorem blk {g : Nat} {o : Obj} (hb : w.heap[g]? = some o) (hk : Kb S w w1) (hne : ¬ S g) : w1.heap[g]? = some o := (hk.block g (blk_lt hb) hne).trans hb
theorem cell {a : Addr} {v : Value} (hc : w.cell? a = some v) (hk : Kb S w w1) (hne : ¬ S a.block) : w1.cell? a = some v := by
  have := hk.block a.block (World.block_lt_of_cell? w a hc) hne
  simpa [World.cell?, this] using hc
end Kb
theorem below_conv (w : World) (e : TypeId) (s : ByteArray) : Below w.heap.size w (Lib.bytesWorld w e s) := ⟨rfl, rfl, rfl, by rw [Lib.bytesWorld_size]; omega, fun k hk => Lib.bytesWorld_at_old w e s k hk⟩
def digB (c : Int) : Bool := decide (48 ≤ c) && decide (c ≤ 57)
def nameB (c : Int) : Bool := decide (97 ≤ c) && decide (c ≤ 122) || decide (65 ≤ c) && decide (c ≤ 90) || digB c || c == 95
theorem isdigit_calls (c : Int) (w : World) : Calls Tryd.prog 16 #[.int .u8 c] w fun e w' => e = .returned (.bool (digB c)) ∧ w' = w := by
  go_enter Tryd.func16, Tryd.ntmps16
  go_wp2
  all_goals (go_ret; refine ⟨?_, rfl⟩; show Ending.returned (.bool _) = Ending.returned (.bool (digB c)); unfold digB; simp <;> omega)
theorem inname_calls (c : Int) (w : World) : Calls Tryd.prog 15 #[.int .u8 c] w fun e w' => e = .returned (.bool (nameB c)) ∧ w' = w := by
  have HC := fun W => isdigit_calls c W
  obtain ⟨d, hd⟩ : ∃ d, d = digB c := ⟨_, rfl⟩
  rw [← hd] at HC
  have e : nameB c = (decide (97 ≤ c) && decide (c ≤ 122) || decide (65 ≤ c) && decide (c ≤ 90) || d || c == 95) := by rw [hd]; rfl
  rw [e]
  clear e hd
  go_enter Tryd.func15, Tryd.ntmps15
  go_wp2_with (go_at_call 16; refine (HC _).mono ?_; rintro e w' ⟨rfl, rfl⟩)
  all_goals (go_ret; refine ⟨?_, rfl⟩; show Ending.returned (.bool _) = Ending.returned (.bool _); congr 2 <;> (clear HC; refine Bool.eq_iff_iff.2 ?_; cases d <;> simp_all <;> omega))
theorem odd_calls (c : Int) (w : World) : Calls Tryd.prog 19 #[.int .u8 c] w fun e w' => e = .returned (.bool (!nameB c)) ∧ w' = w := by
  have HC := fun W => inname_calls c W
  generalize nameB c = d at HC ⊢
  go_enter Tryd.func19, Tryd.ntmps19
  go_wp2_with (go_at_call 15; refine (HC _).mono ?_; rintro e w' ⟨rfl, rfl⟩)
  go_ret
  exact ⟨rfl, rfl⟩
set_option maxHeartbeats 4000000 in
set_option maxRecDepth 100000 in
theorem idxfunc_calls (l : List UInt8) (g c : Nat) (w : World) (hc : ∀ j, j < l.length → w.cell? ⟨g, j, none⟩ = some (.int .u8 ((l.getD j 0).toNat : Int))) (hsz : l.length < 1099511627776) :
    Calls Tryd.prog 42 #[.slice (some ⟨g, 0, none⟩) l.length c, .func (.func 19) #[] #[]] w fun e w' => (∃ r : Int, e = .returned (.int .i64 r) ∧ decide (0 ≤ r) = !(l.all fun b => nameB (b.toNat : Int))) ∧ w' = w := by
  obtain ⟨n, hn⟩ : ∃ n, n = l.length := ⟨_, rfl⟩
  rw [← hn] at hc hsz ⊢
  have HC := Aside0.mk hc
  have HN := Aside0.mk hn
  clear hc hn
  go_enter Tryd.func42, Tryd.ntmps42
  go_wp2
  go_loopg [8] n (fun g1 v8 wr => ∃ i : Nat, v8 = .int .i64 i ∧ Aside0 (i + g1 = n) ∧ Aside0 ((l.take i).all (fun b => nameB (b.toNat : Int)) = true) ∧ wr = w)
  case atStart => exact ⟨0, rfl, ⟨by omega⟩, ⟨rfl⟩, rfl⟩
  case round =>
    obtain ⟨i, rfl, HI, HA, rfl⟩ := hrel
    by_cases hlt : i < n
    · have hz : (i : Int) < (n : Int) := by omega
      have hcell := HC.out i hlt
      obtain ⟨b, hb⟩ : ∃ b, b = ((l.getD i 0).toNat : Int) := ⟨_, rfl⟩
      rw [← hb] at hcell
      have HBB := Aside0.mk hb
      clear hb
      have HO := fun W => odd_calls b W
      have hwi : IntKind.i64.wrap ((i : Int) + 1) = ((i + 1 : Nat) : Int) := (i64_w _).trans ((w64 (by omega) (by omega)).trans (by omega))
      have hsn : l.take (i + 1) = l.take i ++ [l.getD i 0] := by
        rw [List.take_add_one, List.getD_eq_getElem?_getD, List.getElem?_eq_getElem (by have := HN.out; omega)]; rfl
      have HSN := Aside0.mk hsn
      clear hsn
      cases hd : nameB b with
      | true =>
        rw [hd] at HO
        go_wp2_with (go_at_call 19; refine (HO _).mono ?_; rintro e w' ⟨rfl, rfl⟩)
        go_roundg (n - (i + 1))
        case measure => have := HI.out; omega
        case rel => exact ⟨i + 1, by first | rfl | rw [hwi], ⟨by have := HI.out; omega⟩, ⟨by rw [HSN.out, List.all_append, HA.out, Bool.true_and]; show (nameB ((l.getD i 0).toNat : Int) && true) = true; rw [← HBB.out, hd]; rfl⟩, rfl⟩
      | false =>
        rw [hd] at HO
        go_wp2_with (go_at_call 19; refine (HO _).mono ?_; rintro e w' ⟨rfl, rfl⟩)
        go_ret
        refine ⟨⟨_, rfl, ?_⟩, rfl⟩
        have hm : l.getD i 0 ∈ l := by rw [List.getD_eq_getElem?_getD, List.getElem?_eq_getElem (by have := HN.out; omega)]; exact List.getElem_mem _
        have : (l.all fun b => nameB (b.toNat : Int)) = false := List.all_eq_false.2 ⟨_, hm, by rw [← HBB.out, hd]; decide⟩
        rw [this]
        exact decide_eq_true (by omega)
    · have hz : ¬ (i : Int) < (n : Int) := by omega
      have ha := HA.out
      rw [List.take_of_length_le (by have := HN.out; omega)] at ha
      have HAA := Aside0.mk ha
      clear ha
      go_wp2
      go_ret
      refine ⟨⟨_, rfl, ?_⟩, rfl⟩
      rw [HAA.out]
      decide
theorem contains_calls (l : List UInt8) (g c : Nat) (w : World) (hc : ∀ j, j < l.length → w.cell? ⟨g, j, none⟩ = some (.int .u8 ((l.getD j 0).toNat : Int))) (hsz : l.length < 1099511627776) :
    Calls Tryd.prog 18 #[.slice (some ⟨g, 0, none⟩) l.length c, .func (.func 19) #[] #[]] w fun e w' => e = .returned (.bool (!(l.all fun b => nameB (b.toNat : Int)))) ∧ w' = w := by
  have HC := idxfunc_calls l g c w hc hsz
  obtain ⟨r0, hr0⟩ : ∃ r0, r0 = !(l.all fun b => nameB (b.toNat : Int)) := ⟨_, rfl⟩
  rw [← hr0] at HC ⊢
  obtain ⟨n, hn⟩ : ∃ n, n = l.length := ⟨_, rfl⟩
  rw [← hn] at HC ⊢
  clear hc hsz hn hr0
  go_enter Tryd.func18, Tryd.ntmps18
  go_wp2_with (go_at_call 42; refine HC.mono ?_; rintro e w' ⟨⟨r, rfl, hd⟩, rfl⟩)
  all_goals (go_ret; refine ⟨?_, rfl⟩; show Ending.returned (.bool _) = Ending.returned (.bool _); rw [← hd])
def isNameB (l : List UInt8) : Bool := !l.isEmpty && decide (l.length ≤ 64) && !digB ((l.getD 0 0).toNat : Int) && l.all (fun b => nameB (b.toNat : Int))
set_option maxHeartbeats 4000000 in
set_option maxRecDepth 100000 in
theorem isname_calls (s : ByteArray) (w : World) (hsz : s.size < 1099511627776) : Calls Tryd.prog 6 #[.string s] w fun e w' => e = .returned (.bool (isNameB s.data.toList)) ∧ Below w.heap.size w w' := by
  have kb := fun W => print_bytes (P := Tryd.prog) 9 37 5 Tryd.underlying9 Tryd.underlying37 Tryd.underlying5 s W
  have HD := fun c W => isdigit_calls c W
  have HC := Aside0.mk (fun (W : World) => contains_calls s.data.toList W.heap.size (grownCap W s.size 0 5) (Lib.bytesWorld W 5 s) (fun j hj => Lib.bytesWorld_cell W 5 s j (by rw [← data_length]; exact hj)) (by rw [data_length]; exact hsz))
  rw [data_length] at HC
  obtain ⟨al, hal⟩ : ∃ al, al = s.data.toList.all (fun b => nameB (b.toNat : Int)) := ⟨_, rfl⟩
  rw [← hal] at HC
  have HAL := Aside0.mk hal
  clear hal
  have HB := Aside0.mk (Below.refl w.heap.size w)
  have HL := data_length s
  have HE : s.toList = s.data.toList := ByteArray.toList_eq s
  by_cases h0 : s.toList = []
  · have hr : isNameB s.data.toList = false := by rw [← HE, h0]; rfl
    rw [hr]
    clear HE HL
    go_enter Tryd.func6, Tryd.ntmps6
    go_wp2_with fail
    go_ret
    exact ⟨rfl, HB.out⟩
  · have hg : ∀ (h : 0 < s.size), (s[0].toNat : Int) = ((s.data.toList.getD 0 0).toNat : Int) := fun h => by
      rw [List.getD_eq_getElem?_getD, List.getElem?_eq_getElem (by rw [data_length]; exact h)]; rfl
    have hp0 : 0 < s.size := by rw [← HL, ← HE]; exact List.length_pos_iff.2 h0
    have hp1 : (0 : Int) < (s.size : Int) := by omega
    have hem : s.data.toList.isEmpty = false := by rw [← HE]; cases hh : s.toList with
      | nil => exact absurd hh h0
      | cons _ _ => rfl
    have hk : ∀ b, digB ((s.data.toList.getD 0 0).toNat : Int) = b → isNameB s.data.toList = (decide (s.size ≤ 64) && !b && al) := fun b hb => by
      unfold isNameB
      rw [hem, HL, hb, ← HAL.out]
      rfl
    have HKK := Aside0.mk (And.intro hk (hg hp0))
    have HEE := Aside0.mk (show s.toList.isEmpty = false by rw [HE]; exact hem)
    clear HE HL hk hg hem
    go_enter Tryd.func6, Tryd.ntmps6
    go_wp2_with (first | (go_at_call 16; refine (HD _ _).mono ?_; rintro e w' ⟨rfl, rfl⟩) | (go_at_call 18; refine (HC.out _).mono ?_; rintro e w' ⟨rfl, rfl⟩))
    · rename_i _ hd
      go_ret
      refine ⟨?_, HB.out⟩
      rw [HKK.out.1 true (by rw [← HKK.out.2]; exact hd)]
      simp
    · rename_i _ hd
      go_ret
      refine ⟨?_, ?_⟩
      · rw [HKK.out.1 false (by rw [← HKK.out.2]; simpa using hd)]
        show Ending.returned (.bool _) = Ending.returned (.bool _)
        rw [HEE.out]
        congr 2
        rw [decide_eq_true (show s.size ≤ 64 by omega)]
        cases al <;> rfl
      · exact below_conv _ _ _
    · rename_i hd
      go_ret
      refine ⟨?_, HB.out⟩
      rw [HKK.out.1 _ rfl, decide_eq_false (show ¬ s.size ≤ 64 by omega)]
      rfl
attribute [local go_sem] Oper.semAt_some
theorem cell_bl {w w' : World} {a : Addr} {v : Value} (hb : Below w.heap.size w w') (hc : w.cell? a = some v) : w'.cell? a = some v := by
  have := hb.block a.block (World.block_lt_of_cell? w a hc)
  simpa [World.cell?, this] using hc
/-- Two texts and two texts ..: cells. -/
def cellsB (l : List (ByteArray × ByteArray)) : List Value := l.flatMap (fun p => [.string p.1, .string p.2])
theorem cellsB_len : ∀ l, (cellsB l).length = l.length * 2
  | [] => rfl
  | p :: l => by
    show ([Value.string p.1, .string p.2] ++ cellsB l).length = _
    rw [List.length_append, cellsB_len l]
    show 2 + l.length * 2 = (l.length + 1) * 2
    omega
theorem cellsB_get : ∀ (l : List (ByteArray × ByteArray)) (i : Nat) (p : ByteArray × ByteArray), l[i]? = some p → (cellsB l)[i * 2]? = some (.string p.1) ∧ (cellsB l)[i * 2 + 1]? = some (.string p.2)
  | [], i, p, h => by cases h
  | q :: l, 0, p, h => by
    cases h
    exact ⟨rfl, rfl⟩
  | q :: l, i + 1, p, h => by
    have := cellsB_get l i p h
    rw [show (i + 1) * 2 = i * 2 + 1 + 1 by omega]
    exact this
theorem cellsB_append (l m : List (ByteArray × ByteArray)) : cellsB (l ++ m) = cellsB l ++ cellsB m := List.flatMap_append
/-- A row of two texts each: v is a slice of them, new since B. -/
def RowP (B : Nat) (w : World) (e : TypeId) (v : Value) (l : List (ByteArray × ByteArray)) : Prop := w.ownsRow B e 2 v l.length (cellsB l)
def RowT (B : Nat) (w : World) (v : Value) (l : List ByteArray) : Prop := w.ownsRow B 9 1 v l.length (l.map Value.string)
theorem own_kb {S : Nat → Prop} {w w' : World} {B : Nat} {e : TypeId} {sz : Nat} {v : Value} {n : Nat} {xs : List Value} (h : w.ownsRow B e sz v n xs) (hk : Kb S w w') (hs : ∀ g, B ≤ g → ¬ S g) : w'.ownsRow B e sz v n xs := by
  refine ⟨h.1, ?_⟩
  rcases h.2 with hn | ⟨g, cap, cur, h1, h2, h3, h4⟩
  · exact .inl hn
  · exact .inr ⟨g, cap, cur, h1, h2, Kb.blk h3 hk (hs g h2), h4⟩
theorem own_base {w : World} {B B' : Nat} {e : TypeId} {sz : Nat} {v : Value} {n : Nat} {xs : List Value} (h : w.ownsRow B e sz v n xs) (hB : B' ≤ B) : w.ownsRow B' e sz v n xs := by
  refine ⟨h.1, ?_⟩
  rcases h.2 with hn | ⟨g, cap, cur, h1, h2, h3, h4⟩
  · exact .inl hn
  · exact .inr ⟨g, cap, cur, h1, Nat.le_trans hB h2, h3, h4⟩
theorem own_slice {w : World} {B : Nat} {e : TypeId} {sz : Nat} {v : Value} {n : Nat} {xs : List Value} (h : w.ownsRow B e sz v n xs) : ∃ A c, v = .slice A n c ∧ n ≤ c := by
  rcases h.2 with ⟨h1, h2⟩ | ⟨g, cap, cur, h1, h2, h3, h4, h5⟩
  · exact ⟨none, 0, by rw [h1, h2], by omega⟩
  · exact ⟨_, cap, h1, h4⟩
theorem own_cell {w : World} {B : Nat} {e : TypeId} {sz : Nat} {A : Option Addr} {n m c : Nat} {xs : List Value} (h : w.ownsRow B e sz (.slice A m c) n xs) (hn : 0 < n) : ∃ g, A = some ⟨g, 0, none⟩ ∧ B ≤ g ∧ g < w.heap.size ∧ ∀ i u, xs[i]? = some u → w.cell? ⟨g, i, none⟩ = some u := by
  rcases h.2 with ⟨h1, h2⟩ | ⟨g, cap, cur, h1, h2, h3, h4, h5, h6, h7⟩
  · omega
  · cases h1
    refine ⟨g, rfl, h2, blk_lt h3, fun i u hu => ?_⟩
    rw [← h7, List.getElem?_take] at hu
    split at hu
    · simp [World.cell?, h3]
      simpa using hu
    · cases hu
theorem rowP_get {w : World} {B : Nat} {e : TypeId} {A : Option Addr} {m c : Nat} {l : List (ByteArray × ByteArray)} (h : RowP B w e (.slice A m c) l) {i : Nat} {p : ByteArray × ByteArray} (hi : l[i]? = some p) : ∃ g, A = some ⟨g, 0, none⟩ ∧ B ≤ g ∧ g < w.heap.size ∧ w.cell? ⟨g, i * 2, none⟩ = some (.string p.1) ∧ w.cell? ⟨g, i * 2 + 1, none⟩ = some (.string p.2) := by
  have hlt : i < l.length := by
    rcases Nat.lt_or_ge i l.length with h | h
    · exact h
    · rw [List.getElem?_eq_none h] at hi; cases hi
  obtain ⟨g, hA, hB, hg, hc⟩ := own_cell h (by omega)
  exact ⟨g, hA, hB, hg, hc _ _ (cellsB_get l i p hi).1, hc _ _ (cellsB_get l i p hi).2⟩
theorem RowP.kb {S : Nat → Prop} {w w' : World} {B : Nat} {e : TypeId} {v : Value} {l : List (ByteArray × ByteArray)} (h : RowP B w e v l) (hk : Kb S w w') (hs : ∀ g, B ≤ g → ¬ S g) : RowP B w' e v l := own_kb h hk hs
theorem RowT.kb {S : Nat → Prop} {w w' : World} {B : Nat} {v : Value} {l : List ByteArray} (h : RowT B w v l) (hk : Kb S w w') (hs : ∀ g, B ≤ g → ¬ S g) : RowT B w' v l := own_kb h hk hs
theorem RowP.alloc {w : World} {B : Nat} {e : TypeId} {v : Value} {l : List (ByteArray × ByteArray)} (h : RowP B w e v l) {o : Obj} : RowP B (w.alloc o) e v l := h.kb ((Kb.refl (fun _ => False) w).alloc o) (fun _ _ h => h)
theorem RowT.alloc {w : World} {B : Nat} {v : Value} {l : List ByteArray} (h : RowT B w v l) {o : Obj} : RowT B (w.alloc o) v l := h.kb ((Kb.refl (fun _ => False) w).alloc o) (fun _ _ h => h)
theorem kb_grown {w w' : World} {B : Nat} {e : TypeId} {sz : Nat} {v : Value} {n : Nat} {xs : List Value} (h : w.ownsRow B e sz v n xs) (hg : w.grownBy w' v.ownBlock) : Kb (fun k => B ≤ k) w w' :=
  (Kb.refl _ w).grown hg (fun k hk => by
    rcases h.2 with ⟨h1, -⟩ | ⟨g, cap, cur, h1, h2, -⟩
    · rw [h1] at hk; cases hk
    · rw [h1] at hk; cases hk; exact .inl h2)
theorem below_kb {w w1 w2 : World} (h : Below w.heap.size w w1) (hk : Kb (fun k => w.heap.size ≤ k) w1 w2) : Below w.heap.size w w2 :=
  ((Kb.of_below (S := fun k => w.heap.size ≤ k) h).then_ hk (fun _ h => .inl h)).to_below (fun _ h => h)
theorem i9 : (Tryd.prog.info? 9).map (fun i => (i.zero, i.size, i.bytes)) = some (some (.string ⟨#[]⟩), 1, 16) := by kernel_rfl
theorem i25 : (Tryd.prog.info? 36).map (fun i => (i.zero, i.size, i.bytes)) = some (some (.agg #[.string ⟨#[]⟩, .string ⟨#[]⟩]), 2, 32) := by kernel_rfl
section
variable {ops : Array Oper} {rest : List Oper} {o : Oper} {a : Act} {Q : Exit → Act → World → Prop} {w : World}
/-- out = append(out, text). -/
theorem append_T (hgd : o.guard = none) (s x : Operand) (ho : o.op = .call { callee := .builtin .append, args := #[s, x], argTypes := #[32, 32] }) {B : Nat} {v : Value} {l : List ByteArray} (hs : a.eval s = v) (hown : RowT B w v l)
    {g c : Nat} (hx : a.eval x = .slice (some ⟨g, 0, none⟩) 1 c) {u : ByteArray} (hu : w.cell? ⟨g, 0, none⟩ = some (.string u)) (hl : l.length ≤ 1000000) (hB : B ≤ w.heap.size)
    (h : ∀ g' c' w', RowT B w' (.slice (some ⟨g', 0, none⟩) (l.length + 1) c') (l ++ [u]) → Kb (fun k => B ≤ k) w w' → wpList Tryd.prog ops Q rest (a.put o.dst (.slice (some ⟨g', 0, none⟩) (l.length + 1) c')) w') : wpList Tryd.prog ops Q (o :: rest) a w := by
  obtain ⟨i, hi, hz, h4, h5⟩ := info_parts i9
  refine wpList_append_own w hgd s x 32 ho B 9 i _ 1 16 Tryd.underlying32 hi hz h4 h5 rfl (by omega) v l.length _ hs hown ⟨g, 0, none⟩ 1 c [.string u] hx rfl (fun j q hj => ?_) (fun q hq => ?_) (by simp only [maxLen]; omega) (by omega) hB (fun v' w' h1 h2 h3 => ?_)
  · cases j with
    | zero => cases hj; exact hu
    | succ j => cases hj
  · cases hq with
    | head => rfl
    | tail _ hq => cases hq
  · have hk := kb_grown hown h2
    rcases h1.2 with ⟨-, h0⟩ | ⟨g', c', cur, h6, -⟩
    · omega
    · subst h6
      exact h g' c' w' (by unfold RowT; rw [List.map_append, List.length_append]; exact h1) hk
end
abbrev BL := List UInt8
theorem Kb.grownBy {S : Nat → Prop} {w w' : World} {b : Nat} (h : Kb S w w') (hs : ∀ k, S k → k = b) : w.grownBy w' (some b) :=
  ⟨h.os, h.tape, h.output, h.size, fun k hk hn => h.block k hk (fun h2 => hn (by rw [hs k h2]))⟩
theorem bx_kb {S : Nat → Prop} {w w' : World} {b : Nat} {t : TypeId} {v : Value} (h : Boxed w b t v) (hk : Kb S w w') (hn : ¬ S b) : Boxed w' b t v := (hk.block b h.lt hn).trans h
theorem ownsMap_kb {S : Nat → Prop} {w w' : World} {b k : Nat} {D : DataW Unit} (h : w.ownsMap Tryd.prog 9 (plainElem Tryd.prog 3) b k D) (hk : Kb S w w') (hn : ¬ S b) : w'.ownsMap Tryd.prog 9 (plainElem Tryd.prog 3) b k D := by
  obtain ⟨es, ck, hh, rest⟩ := h
  exact ⟨es, ck, (hk.block b (Array.getElem?_eq_some_iff.1 hh).1 hn).trans hh, rest⟩
attribute [local go_sem] Oper.semAt_some
theorem cb_self : ∀ a : List UInt8, compareBytes a a = 0
  | [] => rfl
  | x :: a => by
    unfold compareBytes
    rw [if_neg (UInt8.lt_irrefl x), if_neg (UInt8.lt_irrefl x)]
    exact cb_self a
theorem cb_cons (x y : UInt8) (a b : List UInt8) : compareBytes (x :: a) (y :: b) < 0 ↔ x < y ∨ (x = y ∧ compareBytes a b < 0) := by
  rw [compareBytes]
  by_cases h1 : x < y
  · simp [h1]
  · by_cases h2 : y < x
    · rw [if_neg h1, if_pos h2]
      constructor
      · intro h; omega
      · rintro (h | ⟨h, -⟩)
        · exact absurd h h1
        · subst h; exact absurd h2 h1
    · have e : x = y := UInt8.le_antisymm (UInt8.not_lt.1 h2) (UInt8.not_lt.1 h1)
      subst e
      simp [h1]
theorem cb_trans : ∀ {a b c : List UInt8}, compareBytes a b < 0 → compareBytes b c < 0 → compareBytes a c < 0
  | [], [], c, h, _ => by unfold compareBytes at h; omega
  | [], _ :: _, [], _, h => by unfold compareBytes at h; omega
  | [], _ :: _, _ :: _, _, _ => by unfold compareBytes; omega
  | _ :: _, [], c, h, _ => by unfold compareBytes at h; omega
  | _ :: _, _ :: _, [], _, h => by unfold compareBytes at h; omega
  | x :: a, y :: b, z :: c, h, h' => by
    rw [cb_cons] at h h' ⊢
    rcases h with h | ⟨rfl, h⟩
    · rcases h' with h' | ⟨rfl, h'⟩
      · exact .inl (UInt8.lt_trans h h')
      · exact .inl h
    · rcases h' with h' | ⟨rfl, h'⟩
      · exact .inl h'
      · exact .inr ⟨rfl, cb_trans h h'⟩
theorem cb_tri : ∀ (a b : List UInt8), compareBytes a b < 0 ∨ a = b ∨ compareBytes b a < 0
  | [], [] => .inr (.inl rfl)
  | [], _ :: _ => .inl (by unfold compareBytes; omega)
  | _ :: _, [] => .inr (.inr (by unfold compareBytes; omega))
  | x :: a, y :: b => by
    rw [cb_cons, cb_cons]
    by_cases h1 : x < y
    · exact .inl (.inl h1)
    · by_cases h2 : y < x
      · exact .inr (.inr (.inl h2))
      · have e : x = y := UInt8.le_antisymm (UInt8.not_lt.1 h2) (UInt8.not_lt.1 h1)
        subst e
        rcases cb_tri a b with h | h | h
        · exact .inl (.inr ⟨rfl, h⟩)
        · exact .inr (.inl (by rw [h]))
        · exact .inr (.inr (.inr ⟨rfl, h⟩))
theorem cb_asym {a b : List UInt8} (h : compareBytes a b < 0) : ¬ compareBytes b a < 0 := by
  intro h2
  have := cb_trans h h2
  rw [cb_self] at this
  omega
theorem cb_ntrans {a b c : List UInt8} (h : ¬ compareBytes a b < 0) (h' : ¬ compareBytes b c < 0) : ¬ compareBytes a c < 0 := by
  intro h3
  rcases cb_tri b a with h1 | h1 | h1
  · exact h' (cb_trans h1 h3)
  · subst h1; exact h' h3
  · exact h h1
/-- A list by rising names. -/
def insM (p : List UInt8 × List UInt8) : List (List UInt8 × List UInt8) → List (List UInt8 × List UInt8)
  | [] => [p]
  | q :: l => if compareBytes q.1 p.1 < 0 then q :: insM p l else p :: q :: l
def sortM : List (List UInt8 × List UInt8) → List (List UInt8 × List UInt8)
  | [] => []
  | p :: l => insM p (sortM l)
def Up (l : List (List UInt8 × List UInt8)) : Prop := l.Pairwise (fun x y => compareBytes x.1 y.1 < 0)
theorem insM_perm (p : List UInt8 × List UInt8) : ∀ l, (insM p l).Perm (p :: l)
  | [] => .refl _
  | q :: l => by
    unfold insM
    split
    · exact ((insM_perm p l).cons q).trans (List.Perm.swap p q l)
    · exact .refl _
theorem sortM_perm : ∀ l, (sortM l).Perm l
  | [] => .refl _
  | p :: l => (insM_perm p _).trans ((sortM_perm l).cons p)
theorem insM_up (p : List UInt8 × List UInt8) : ∀ l, Up l → (∀ q ∈ l, q.1 ≠ p.1) → Up (insM p l)
  | [], _, _ => List.pairwise_singleton _ _
  | q :: l, h, hne => by
    unfold insM
    have h := List.pairwise_cons.1 h
    split
    · rename_i hq
      refine List.pairwise_cons.2 ⟨fun x hx => ?_, insM_up p l h.2 (fun q hq => hne q (List.mem_cons_of_mem _ hq))⟩
      rcases List.mem_cons.1 ((insM_perm p l).mem_iff.1 hx) with rfl | hx
      · exact hq
      · exact h.1 x hx
    · rename_i hq
      have hp : compareBytes p.1 q.1 < 0 := by
        rcases cb_tri p.1 q.1 with h1 | h1 | h1
        · exact h1
        · exact absurd h1.symm (hne q List.mem_cons_self)
        · exact absurd h1 hq
      refine List.pairwise_cons.2 ⟨fun x hx => ?_, List.pairwise_cons.2 h⟩
      rcases List.mem_cons.1 hx with rfl | hx
      · exact hp
      · exact cb_trans hp (h.1 x hx)
theorem sortM_up : ∀ l : List (List UInt8 × List UInt8), (l.map (·.1)).Nodup → Up (sortM l)
  | [], _ => List.Pairwise.nil
  | p :: l, h => by
    have h := List.nodup_cons.1 h
    refine insM_up p _ (sortM_up l h.2) (fun q hq e => h.1 ?_)
    show p.1 ∈ _
    rw [← e]
    exact List.mem_map_of_mem ((sortM_perm l).mem_iff.1 hq)
theorem up_unique {l m : List (List UInt8 × List UInt8)} (hl : Up l) (hm : Up m) (hp : l.Perm m) : l = m :=
  List.Perm.eq_of_pairwise (fun a b ha hb h1 h2 => absurd h2 (cb_asym h1)) hl hm hp
abbrev PB := ByteArray × ByteArray
def encL (x : PB) : List Value := [.string x.1, .string x.2]
def cfL (x y : PB) : Int := compareBytes x.1.data.toList y.1.data.toList
theorem ltL (x y : PB) : ltOf cfL x y = decide (compareBytes x.1.data.toList y.1.data.toList < 0) := rfl
theorem swoL : SWO (ltOf cfL) where
  irrefl x := by rw [ltL, cb_self]; rfl
  trans x y z h1 h2 := by rw [ltL] at *; exact decide_eq_true (cb_trans (of_decide_eq_true h1) (of_decide_eq_true h2))
  ntrans x y z h1 h2 := by rw [ltL] at *; exact decide_eq_false (cb_ntrans (of_decide_eq_false h1) (of_decide_eq_false h2))
set_option maxHeartbeats 1000000 in
theorem closure32 (x y : PB) (W : World) : Calls Tryd.prog 22 #[.agg #[.string x.1, .string x.2], .agg #[.string y.1, .string y.2]] W fun e w' => e = .returned (.int .i64 (cfL x y)) ∧ ∃ q os', w' = grow (W.drewN q) os' := by
  have hcon := fun W' => Tryd.strings_Compare x.1 y.1 W'
  unfold cfL
  generalize compareBytes x.1.data.toList y.1.data.toList = r at hcon ⊢
  go_enter Tryd.func22, Tryd.ntmps22
  go_wp2_with (go_at_call 45; refine (hcon _).mono ?_; rintro e w' ⟨rfl, rfl⟩)
  go_ret
  exact ⟨rfl, 0, _, by rw [alloc_eq_grow, alloc_eq_grow, grow_grow]; rfl⟩
theorem cmpLaysL (blk off size : Nat) (w : World) : CmpLays Tryd.prog 22 #[] encL 2 cfL blk off size w :=
  fun _ _ _ _ x y => closure32 x y _
theorem lenL (x : PB) : (encL x).length = 2 := rfl
theorem oneL (x : PB) (v : Value) (hv : v ∈ encL x) : v.oneCell' = true := by
  simp [encL] at hv
  rcases hv with rfl | rfl <;> rfl
set_option maxHeartbeats 2000000 in
set_option maxRecDepth 100000 in
theorem sort_call (blk cap : Nat) (d : Array PB) (w : World) (hH : HoldsK encL 2 w blk 0 d) (hblk : blk < w.heap.size) (hsz : d.size < 4611686018427387904) :
    Calls Tryd.prog 21 #[.slice (some ⟨blk, 0, none⟩) d.size cap, .func (.func 22) #[] #[]] w fun e w' => e = .returned (.tuple #[]) ∧ ∃ d' n os, PermIn 0 d.size d d' ∧ SortedIn (ltOf cfL) 0 d.size d' ∧ w' = sortWorldK encL 2 w blk 0 n d' os := by
  have eg : ∀ args w, (callFunc 22 args).run Tryd.prog w = .ok (.enter 22 args) w := enters_of Tryd.func22 (by kernel_rfl) rfl
  have hlim : Lib.bitLen d.size < 4611686018427387904 := Nat.lt_of_le_of_lt (Lib.bitLen_le d.size 62 (by omega) (by omega)) (by omega)
  have hp := AnyQ.pdqsortCmpFunc_all Tryd.laysPdq 2 Tryd.isAgg36 Tryd.sizeOf36 encL cfL 22 #[] swoL blk 0 cap d w eg (cmpLaysL blk 0 d.size w) ⟨lenL, oneL, hH, hblk⟩ (d.size + 1) 0 d.size (Lib.bitLen d.size) d w (by omega) rfl (SWK.start hH) (Nat.zero_le _) (Nat.le_refl _) hsz hlim (Or.inl rfl)
  change Calls Tryd.prog 43 _ _ _ at hp
  have hl : Calls Tryd.prog 44 #[.int .u64 (d.size : Int)] w fun e w' => e = .returned (.int .i64 (Lib.bitLen d.size : Nat)) ∧ w' = w := by
    have h := Tryd.bits_Len (d.size : Int) w (by omega) (by omega)
    rwa [Int.toNat_natCast] at h
  have wr : IntKind.u64.wrap (d.size : Int) = d.size := by simp [IntKind.wrap, IntKind.bits, IntKind.signed]; omega
  have h2 := pdq_sorts (ltOf cfL) swoL d 0 d.size (Lib.bitLen d.size) true true (Nat.zero_le _) (Nat.le_refl _) (Or.inl rfl)
  obtain ⟨dd, hdd⟩ : ∃ dd, dd = pdq (ltOf cfL) d 0 d.size (Lib.bitLen d.size) true true := ⟨_, rfl⟩
  rw [← hdd] at hp h2
  obtain ⟨h3, h4⟩ := h2
  have H3 := Aside0.mk h3
  have H4 := Aside0.mk h4
  clear hH h3 h4 hdd
  go_enter Tryd.func21, Tryd.ntmps21
  go_wp2_with (first | (go_at_call 44; refine hl.mono ?_; rintro e w' ⟨rfl, rfl⟩) | (go_at_call 43; refine hp.mono ?_; rintro e w' ⟨rfl, n, os, rfl⟩))
  go_end0
  exact ⟨rfl, dd, n, os, H3.out, H4.out, rfl⟩
theorem sort_none (cap : Nat) (p : Option Addr) (w : World) :
    Calls Tryd.prog 21 #[.slice p 0 cap, .func (.func 22) #[] #[]] w fun e w' => e = .returned (.tuple #[]) ∧ w' = w := by
  have hp := fun lim => AnyF.pdqsortCmpFunc_none Tryd.laysPdq p cap lim (.func (.func 22) #[] #[]) w
  change ∀ lim, Calls Tryd.prog 43 _ _ _ at hp
  have hl : Calls Tryd.prog 44 #[.int .u64 0] w fun e w' => e = .returned (.int .i64 (Lib.bitLen 0 : Nat)) ∧ w' = w := Tryd.bits_Len 0 w (by omega) (by omega)
  go_enter Tryd.func21, Tryd.ntmps21
  go_wp2_with (first | (go_at_call 44; refine hl.mono ?_; rintro e w' ⟨rfl, rfl⟩) | (go_at_call 43; refine (hp _).mono ?_; rintro e w' ⟨rfl, rfl⟩))
  go_end0
  exact ⟨rfl, rfl⟩
theorem flat_cells (d : Array PB) : (flatK encL 2 d).toList = cellsB d.toList := by
  apply List.ext_getElem?
  intro i
  have s : (flatK encL 2 d).size = d.size * 2 := size_flatK ..
  have s2 : (cellsB d.toList).length = d.size * 2 := by rw [cellsB_len, Array.length_toList]
  rcases Nat.lt_or_ge i (d.size * 2) with h | h
  · have e0 := get_flatK encL 2 d i h
    have hj : i / 2 < d.size := by omega
    have e1 : d.toList[i / 2]? = some d[i / 2]! := by
      rw [List.getElem?_eq_getElem (by rw [Array.length_toList]; omega), getElem!_pos d _ hj]
      simp
    obtain ⟨c0, c1⟩ := cellsB_get _ _ _ e1
    rw [getElem!_pos _ _ (by omega)] at e0
    rw [Array.getElem?_toList, Array.getElem?_eq_getElem (by omega), e0]
    rcases Nat.mod_two_eq_zero_or_one i with hm | hm
    · rw [hm]
      rw [show i / 2 * 2 = i by omega] at c0
      rw [c0]; rfl
    · rw [hm]
      rw [show i / 2 * 2 + 1 = i by omega] at c1
      rw [c1]; rfl
  · rw [List.getElem?_eq_none (by rw [Array.length_toList]; omega), List.getElem?_eq_none (by omega)]
theorem rowP_holds {B : Nat} {w : World} {g n c : Nat} {l : List PB} (h : RowP B w 36 (.slice (some ⟨g, 0, none⟩) n c) l) : n = l.length ∧ g < w.heap.size ∧ B ≤ g ∧ HoldsK encL 2 w g 0 l.toArray := by
  rcases h.2 with ⟨h1, h2⟩ | ⟨g', cap, cur, h1, h2, h3, h4, h5, h6, h7⟩
  · cases h1
  · cases h1
    refine ⟨rfl, blk_lt h3, h2, fun t ht => ?_⟩
    rw [size_flatK] at ht
    refine ⟨?_, by simp [World.frozen?, h3]⟩
    have ht2 : t < (flatK encL 2 l.toArray).size := by rw [size_flatK]; exact ht
    have hf : (flatK encL 2 l.toArray).toList[t]? = some ((flatK encL 2 l.toArray)[t]!) := by
      rw [Array.getElem?_toList, Array.getElem?_eq_getElem ht2, getElem!_pos (flatK encL 2 l.toArray) t ht2]
    rw [flat_cells, List.toList_toArray, ← h7, List.getElem?_take] at hf
    split at hf
    · rw [blk_cell h3, Nat.zero_add, ← Array.getElem?_toList]
      exact hf
    · cases hf
theorem rowP_sorted {B : Nat} {w : World} {g n c m : Nat} {l : List PB} {os : Array Obj} (h : RowP B w 36 (.slice (some ⟨g, 0, none⟩) n c) l) (d : Array PB) (hd : d.size = l.length) : RowP B (sortWorldK encL 2 w g 0 m d os) 36 (.slice (some ⟨g, 0, none⟩) n c) d.toList := by
  rcases h.2 with ⟨h1, h2⟩ | ⟨g', cap, cur, h1, h2, h3, h4, h5, h6, h7⟩
  · cases h1
  · cases h1
    have hg : g < w.heap.size := blk_lt h3
    unfold RowP World.ownsRow
    rw [cellsB_len, Array.length_toList, hd]
    refine ⟨rfl, .inr ⟨g, c, putCells id 0 (flatK encL 2 d) cur, rfl, h2, ?_, h4, h5, by simp [putCells, h6], ?_⟩⟩
    · unfold sortWorldK putRowK
      rw [heap_grow_old _ _ (by simpa using hg)]
      simp [putRow, mapBlock, Sort.ahead, Array.getElem?_modify, h3, onCells]
    · rw [← flat_cells]
      apply List.ext_getElem?
      intro i
      have s : (flatK encL 2 d).size = d.size * 2 := size_flatK ..
      rcases Nat.lt_or_ge i (d.size * 2) with hi | hi
      · have hc : i < cur.size := by rw [h6]; omega
        rw [List.getElem?_take_of_lt (by omega), Array.getElem?_toList, Array.getElem?_toList]
        unfold putCells
        rw [Array.getElem?_mapIdx, Array.getElem?_eq_getElem hc, Array.getElem?_eq_getElem (by omega)]
        simp only [Option.map_some, Nat.zero_le, Nat.zero_add, Nat.sub_zero, true_and, id]
        rw [if_pos (by omega), getElem!_pos _ _ (by omega)]
      · rw [List.getElem?_eq_none (by rw [List.length_take]; omega), List.getElem?_eq_none (by rw [Array.length_toList]; omega)]
theorem below_sortedL {w wr : World} {g n : Nat} {d : Array PB} {os : Array Obj} (h : Below w.heap.size w wr) (hg : w.heap.size ≤ g) : Below w.heap.size w (sortWorldK encL 2 wr g 0 n d os) := by
  refine ⟨h.os, h.tape, h.output, ?_, fun k hk => ?_⟩
  · have := h.size
    simp [sortWorldK, putRowK, grow, putRow, mapBlock, Sort.ahead]
    omega
  · have hs := h.size
    have hne : g ≠ k := by omega
    rw [← h.block k hk]
    unfold sortWorldK putRowK
    rw [heap_grow_old _ _ (by simp [putRow, mapBlock, Sort.ahead]; omega)]
    simp [putRow, mapBlock, Sort.ahead, Array.getElem?_modify, hne]
theorem sort_rows (w wr : World) (v : Value) (l : List PB) (HO : RowP w.heap.size wr 36 v l) (hb : Below w.heap.size w wr) (hl : l.length ≤ 1000000) :
    Calls Tryd.prog 21 #[v, .func (.func 22) #[] #[]] wr fun e ws => e = .returned (.tuple #[]) ∧ ∃ ds : List PB, ds.Perm l ∧ ds.Pairwise (fun x y => ¬ compareBytes y.1.data.toList x.1.data.toList < 0) ∧ RowP w.heap.size ws 36 v ds ∧ Below w.heap.size w ws := by
  obtain ⟨A, c, rfl, hc⟩ := own_slice HO
  by_cases h0 : l = []
  · subst h0
    refine (sort_none c A wr).mono ?_
    rintro e ws ⟨rfl, rfl⟩
    exact ⟨rfl, [], .refl _, List.Pairwise.nil, HO, hb⟩
  · obtain ⟨g, rfl, -, -, -⟩ := own_cell HO (List.length_pos_iff.2 h0)
    obtain ⟨-, h1, h2, h3⟩ := rowP_holds HO
    have hs : l.toArray.size = l.length := by simp
    have hc := sort_call g c l.toArray wr h3 h1 (by omega)
    rw [hs] at hc
    refine hc.mono ?_
    rintro e ws ⟨rfl, d, n, os, ⟨hp1, _, hp2⟩, hso, rfl⟩
    rw [hs] at hp1
    have hd : d.toList.length = l.length := by simpa using hp1
    refine ⟨rfl, d.toList, ?_, ?_, rowP_sorted HO d hp1, below_sortedL hb h2⟩
    · rw [Array.toList_extract, Array.toList_extract] at hp2
      have e1 : d.toList.take l.length = d.toList := List.take_of_length_le (Nat.le_of_eq hd)
      have e2 : l.take l.length = l := List.take_of_length_le (Nat.le_refl _)
      simp only [List.extract_eq_take_drop, List.drop_zero, Nat.sub_zero, e1, e2] at hp2
      exact hp2
    · rw [List.pairwise_iff_getElem]
      intro i j hi hj hij
      have h := hso i j (Nat.zero_le _) hij (by rw [← hd]; exact hj)
      rw [ltL, getElem!_pos d i (by simpa using hi), getElem!_pos d j (by simpa using hj)] at h
      have h := of_decide_eq_false h
      simp only [Array.getElem_toList]
      exact h
theorem below_then {w w1 w2 : World} (h : Below w.heap.size w w1) (k : Below w1.heap.size w1 w2) : Below w.heap.size w w2 := below_kb h (Kb.of_below k)
theorem own_len {w : World} {B : Nat} {e : TypeId} {sz : Nat} {v : Value} {n : Nat} {xs : List Value} (h : w.ownsRow B e sz v n xs) : n ≤ maxLen := by
  rcases h.2 with ⟨h1, h2⟩ | ⟨g, cap, cur, h1, h2, h3, h4, h5, -⟩
  · rw [h2]; exact Nat.zero_le _
  · exact Nat.le_trans h4 h5
theorem rowT_get {w : World} {B : Nat} {A : Option Addr} {m c : Nat} {l : List ByteArray} (h : RowT B w (.slice A m c) l) {i : Nat} {p : ByteArray} (hi : l[i]? = some p) : ∃ g, A = some ⟨g, 0, none⟩ ∧ g < w.heap.size ∧ w.cell? ⟨g, i, none⟩ = some (.string p) := by
  have hlt : i < l.length := by
    rcases Nat.lt_or_ge i l.length with h | h
    · exact h
    · rw [List.getElem?_eq_none h] at hi; cases hi
  obtain ⟨g, hA, hB, hg, hc⟩ := own_cell h (by omega)
  exact ⟨g, hA, hg, hc _ _ (by rw [List.getElem?_map, hi]; rfl)⟩
def bl (b : ByteArray) : BL := b.data.toList
def isN (n : ByteArray) (p : PB) : Bool := p.1.toList == n.toList

theorem find_at {α : Type} (f : α → Bool) {l : List α} {k : Nat} {p : α} (h : l[k]? = some p) (ha : (l.take k).all (fun x => !f x) = true) (hp : f p = true) : l.find? f = some p := by
  rw [← List.take_append_drop k l, List.find?_append]
  have h1 : (l.take k).find? f = none := by
    rw [List.find?_eq_none]
    intro x hx
    have := List.all_eq_true.1 ha x hx
    simpa using this
  rw [h1, List.drop_eq_getElem?_toList_append, h]
  show ([p] ++ _).find? f = some p
  simp [hp]
theorem find_none {α : Type} (f : α → Bool) {l : List α} (ha : l.all (fun x => !f x) = true) : l.find? f = none := by
  rw [List.find?_eq_none]
  intro x hx
  have := List.all_eq_true.1 ha x hx
  simpa using this

/-- The value of a name: "": there is none. -/
def getB (l : List PB) (n : ByteArray) : ByteArray := match l.find? (isN n) with | some p => p.2 | none => ⟨#[]⟩

theorem lk_size (b : ByteArray) : b.data.toList.length = b.size := data_length b
theorem lk_app (a b : ByteArray) : (a ++ b).data.toList = a.data.toList ++ b.data.toList := by simp
theorem bytesLess_cb : ∀ (a b : List UInt8), Op.bytesLess a b = decide (compareBytes a b < 0)
  | [], [] => rfl
  | [], _ :: _ => rfl
  | _ :: _, [] => rfl
  | x :: a, y :: b => by
    have ih := bytesLess_cb a b
    have h1 : Op.bytesLess (x :: a) (y :: b) = (decide (x < y) || (x == y && Op.bytesLess a b)) := rfl
    rw [h1, ih]
    have h2 := cb_cons x y a b
    by_cases hx : compareBytes (x :: a) (y :: b) < 0
    · rw [decide_eq_true hx]
      rcases h2.1 hx with h | ⟨h, h'⟩
      · simp [h]
      · simp [h, h']
    · rw [decide_eq_false hx]
      have h3 : ¬ (x < y ∨ (x = y ∧ compareBytes a b < 0)) := fun h => hx (h2.2 h)
      have h4 : ¬ x < y := fun h => h3 (.inl h)
      by_cases h5 : x = y
      · have h6 : ¬ compareBytes a b < 0 := fun h => h3 (.inr ⟨h5, h⟩)
        simp [h4, h6]
      · simp [h4, h5]
/-- Labels in order: rising names, no value is empty. -/
structure InO (l : List PB) : Prop where
  up : l.Pairwise (fun x y => compareBytes x.1.data.toList y.1.data.toList < 0)
  ne : ∀ p ∈ l, p.2.data.toList ≠ []
section
variable {ops : Array Oper} {rest : List Oper} {o : Oper} {a : Act} {Q : Exit → Act → World → Prop} {w : World}
/-- out = append(out, label). -/
theorem append_L (hgd : o.guard = none) (s x : Operand) (ho : o.op = .call { callee := .builtin .append, args := #[s, x], argTypes := #[25, 25] }) {B : Nat} {v : Value} {l : List PB} (hs : a.eval s = v) (hown : RowP B w 36 v l)
    {g c : Nat} (hx : a.eval x = .slice (some ⟨g, 0, none⟩) 1 c) {u u' : ByteArray} (hu : w.cell? ⟨g, 0, none⟩ = some (.string u)) (hu' : w.cell? ⟨g, 1, none⟩ = some (.string u')) (hl : l.length ≤ 1000000) (hB : B ≤ w.heap.size)
    (h : ∀ g' c' w', RowP B w' 36 (.slice (some ⟨g', 0, none⟩) (l.length + 1) c') (l ++ [(u, u')]) → Kb (fun k => B ≤ k) w w' → wpList Tryd.prog ops Q rest (a.put o.dst (.slice (some ⟨g', 0, none⟩) (l.length + 1) c')) w') : wpList Tryd.prog ops Q (o :: rest) a w := by
  obtain ⟨i, hi, hz, h4, h5⟩ := info_parts i25
  refine wpList_append_own w hgd s x 25 ho B 36 i _ 2 32 Tryd.underlying25 hi hz h4 h5 rfl (by omega) v l.length _ hs hown ⟨g, 0, none⟩ 1 c [.string u, .string u'] hx rfl (fun j q hj => ?_) (fun q hq => ?_) (by simp only [maxLen]; omega) (by omega) hB (fun v' w' h1 h2 h3 => ?_)
  · match j, hj with
    | 0, hj => cases hj; exact hu
    | 1, hj => cases hj; exact hu'
    | j + 2, hj => cases hj
  · cases hq with
    | head => rfl
    | tail _ hq =>
      cases hq with
      | head => rfl
      | tail _ hq => cases hq
  · have hk := kb_grown hown h2
    rcases h1.2 with ⟨-, h0⟩ | ⟨g', c', cur, h6, -⟩
    · omega
    · subst h6
      exact h g' c' w' (by unfold RowP; rw [cellsB_append, List.length_append]; exact h1) hk
end
set_option maxHeartbeats 4000000 in
theorem byname_calls (x y : PB) (W : World) : Calls Tryd.prog 22 #[.agg #[.string x.1, .string x.2], .agg #[.string y.1, .string y.2]] W fun e w' => e = .returned (.int .i64 (cfL x y)) ∧ Below W.heap.size W w' := by
  have hcon := fun W' => Tryd.strings_Compare x.1 y.1 W'
  unfold cfL
  generalize compareBytes x.1.data.toList y.1.data.toList = r at hcon ⊢
  go_enter Tryd.func22, Tryd.ntmps22
  go_wp2_with (go_at_call 45; refine (hcon _).mono ?_; rintro e w' ⟨rfl, rfl⟩)
  go_ret
  exact ⟨rfl, below_alloc (below_alloc (Below.refl _ _) _) _⟩
theorem u64_w {x : Int} (h0 : 0 ≤ x) (h1 : x < 18446744073709551616) : IntKind.u64.wrap x = x := by simp [IntKind.wrap, IntKind.bits, IntKind.signed]; omega
/-- The names that are asked for. -/
def amgD : List BL → DataW Unit
  | [] => .map []
  | n :: l => (amgD l).put (.string n) (.lit (.int .i64 1))
theorem amgD_map : ∀ l, IsMap (amgD l)
  | [] => isMap_empty
  | n :: l => by
    obtain ⟨es, h⟩ := amgD_map l
    unfold amgD
    rw [h]
    exact ⟨_, rfl⟩
theorem amgD_at : ∀ (l : List BL) (n : BL), (amgD l).atKey (.string n) (.lit (.int .i64 0)) = .lit (.int .i64 (if n ∈ l then 1 else 0))
  | [], n => rfl
  | m :: l, n => by
    unfold amgD
    by_cases h : n = m
    · rw [← h, atKey_put_same (amgD_map l) (by show True; trivial), if_pos List.mem_cons_self]
    · rw [atKey_put_other (by intro e; exact h (Lit.string.inj e)), amgD_at l n]
      congr 3
      simp [h]
/-- What among hands back. -/
def AmgPost (w w' : World) (l : List ByteArray) (e : Ending) : Prop := ∃ b k D, e = .returned (.map (some b)) ∧ w.heap.size ≤ b ∧ w'.ownsMap Tryd.prog 9 (plainElem Tryd.prog 3) b k D ∧ (∀ n : BL, D.atKey (.string n) (.lit (.int .i64 0)) = (.lit (.int .i64 (if n ∈ l.map bl then 1 else 0)) : DataW Unit)) ∧ Below w.heap.size w w'
set_option maxHeartbeats 8000000 in
set_option maxRecDepth 100000 in
theorem among_calls (l : List ByteArray) (B : Nat) (v : Value) (w : World) (hr : RowT B w v l) (hl : l.length ≤ 1000000) (hz : ∀ q ∈ l, q.size ≤ 9223372036854775807) :
    Calls Tryd.prog 31 #[v] w fun e w' => AmgPost w w' l e := by
  obtain ⟨A, c, rfl, hcl⟩ := own_slice hr
  obtain ⟨nl, hnl⟩ : ∃ nl, nl = l.length := ⟨_, rfl⟩
  rw [← hnl] at hcl hr hl
  have HR := Aside0.mk (show RowT B w (.slice A nl c) l from by rw [hnl] at hr ⊢; exact hr)
  have HN := Aside0.mk hnl
  have HZ := Aside0.mk hz
  have hmm := @run_makeMap Tryd.prog
  have hu62 := Tryd.underlying53
  have hm0 := World.ownsMap_made (H := Unit) w Tryd.prog 9 (plainElem Tryd.prog 3)
  have HB0 := Aside0.mk (below_alloc (Below.refl w.heap.size w) (.map #[] 0))
  have HM0 := Aside0.mk hm0
  have hln : l.length = nl := hnl.symm
  rw [hln]
  clear hr hnl hz hm0 hln
  go_enter Tryd.func31, Tryd.ntmps31
  go_wp2_with fail
  go_loopg [9] nl (fun g1 v9 wr => ∃ i : Nat, v9 = .int .i64 i ∧ Aside0 (i + g1 = nl) ∧ Aside0 (wr.ownsMap Tryd.prog 9 (plainElem Tryd.prog 3) w.heap.size i (amgD ((l.take i).map bl).reverse)) ∧ Aside0 (Below w.heap.size w wr))
  case atStart => exact ⟨0, rfl, ⟨by omega⟩, HM0, HB0⟩
  case round =>
    obtain ⟨i, rfl, HI, HM, HB⟩ := hrel
    by_cases hlt : i < nl
    · have hz1 : (i : Int) < (nl : Int) := by omega
      have hwi : IntKind.i64.wrap ((i : Int) + 1) = ((i + 1 : Nat) : Int) := (i64_w _).trans ((w64 (by omega) (by omega)).trans (by omega))
      obtain ⟨p, hp⟩ : ∃ p, l[i]? = some p := ⟨l[i]'(by rw [← HN.out]; exact hlt), List.getElem?_eq_getElem _⟩
      obtain ⟨r, rfl, hr, hr0⟩ := rowT_get HR.out hp
      have c0 := cell_bl HB.out hr0
      have hps := HZ.out p (List.mem_of_getElem? hp)
      have hkey : keyOf Tryd.prog 9 (.string p) = some (.string p.data.toList) := WideMaps.keyOf_string_mk Tryd.underlying9 (by simp only [maxLen]; omega)
      have HSN := Aside0.mk (show ((l.take (i + 1)).map bl).reverse = p.data.toList :: ((l.take i).map bl).reverse by
        rw [List.take_add_one, hp, List.map_append, List.reverse_append]
        rfl)
      clear hp hr0 hr hps
      go_wp2_with (first | (at_mapUpdate; refine wpList_mapUpdate_own _ rfl _ _ _ 53 rfl 9 3 (string_keyed Tryd.underlying9) Tryd.underlying53 _ w.heap.size i _ rfl HM.out (by simp only [maxLen]; omega) _ _ _ rfl rfl hkey _ [] (plainElem_int Tryd.underlying3 (by decide)) ?_; intro w2 hown2 hgrow2; have HM2 := Aside0.mk hown2; have HB2 := Aside0.mk (below_kb HB.out ((Kb.refl (fun k => w.heap.size ≤ k) wr).grown hgrow2 (fun k e => by cases e; exact .inl (Nat.le_refl _)))); clear hown2 hgrow2))
      go_roundg (nl - (i + 1))
      case measure => have := HI.out; omega
      case rel => exact ⟨i + 1, by first | rfl | rw [hwi], ⟨by have := HI.out; omega⟩, ⟨by rw [HSN.out]; exact HM2.out⟩, HB2⟩
    · have hz1 : ¬ (i : Int) < (nl : Int) := by omega
      have HE := Aside0.mk (show l.take i = l from List.take_of_length_le (by have := HN.out; omega))
      go_wp2_with fail
      go_ret
      unfold AmgPost
      refine ⟨_, _, _, rfl, Nat.le_refl _, HM.out, fun n => ?_, HB.out⟩
      rw [HE.out, amgD_at]
      simp only [List.mem_reverse]
end Go.Proofs.YtkkaaipiaandaaaDoor.PC
