/- The document's answer of chapter 05, Set of a new name, and of 18, find: what the printed functions come to. -/
import Derived.Test.YtpobgpfkohlokaaPD
import Derived.Test.YtpobgpfkohlokaaPE
import Derived.Test.YtpobgpfkohlokaaLO
namespace Go.Proofs.Ytpobgpfkohlokaa.PC
open Go.RowKit Go.Lib Go.Shelf Go.Maps Go.Proofs.YtpobgpfkohlokaaW.PrintWords Go.Proofs.YtpobgpfkohlokaaW.PrintLast Go.Proofs.YtpobgpfkohlokaaW.PrintMore
set_option linter.unusedVariables false
set_option linter.unusedSimpArgs false
/-- From some number of rounds on. -/
def EvO {α : Type} (g : Nat → Option α) (r : α) : Prop := ∃ N, ∀ k, N ≤ k → g k = some r
theorem EvO.succ {α : Type} {g h : Nat → Option α} {r : α} (e : ∀ k, g (k + 1) = h k) (hh : EvO h r) : EvO g r := by
  obtain ⟨N, hN⟩ := hh
  refine ⟨N + 1, fun k hk => ?_⟩
  obtain ⟨j, rfl⟩ : ∃ j, k = j + 1 := ⟨k - 1, by omega⟩
  rw [e]
  exact hN j (by omega)
theorem EvO.of {α : Type} {g : Nat → Option α} {r : α} (h : ∀ k, g k = some r) : EvO g r := ⟨0, fun k _ => h k⟩
theorem EvO.bind {α β : Type} {g : Nat → Option α} {a : α} {h : Nat → α → Option β} {r : β} (hg : EvO g a) (hh : EvO (fun k => h k a) r) : EvO (fun k => (g k).bind (h k)) r := by
  obtain ⟨N, hN⟩ := hg
  obtain ⟨M, hM⟩ := hh
  refine ⟨max N M, fun k hk => ?_⟩
  show (g k).bind (h k) = _
  rw [hN k (by omega)]
  exact hM k (by omega)
theorem EvO.congr {α : Type} {g h : Nat → Option α} {r : α} (e : ∀ k, g k = h k) (hh : EvO h r) : EvO g r := by
  obtain ⟨N, hN⟩ := hh
  exact ⟨N, fun k hk => (e k).trans (hN k hk)⟩
theorem EvO.ex {α : Type} {g : Nat → Option α} {r : α} (h : EvO g r) : ∃ k, g k = some r := by
  obtain ⟨N, hN⟩ := h
  exact ⟨N, hN N (Nat.le_refl _)⟩
def toS (p : PB) : S74 := ⟨p.1, p.2⟩
theorem rd_toS {l : List PB} {i : Nat} {p : PB} (h : l[i]? = some p) : rd_T74 (l.map toS) (i : Int) = toS p := by
  unfold rd_T74
  rw [Int.toNat_natCast, List.getD_eq_getElem?_getD, List.getElem?_map, h]
  rfl
theorem wr1 {i : Nat} (h : i ≤ 1000000) : wrap64 ((i : Int) + 1) = ((i + 1 : Nat) : Int) := (w64 (by omega) (by omega)).trans (by omega)
theorem low_of {l : List PB} (ho : InO l) {i j : Nat} {p q : PB} (hi : l[i]? = some p) (hj : l[j]? = some q) (hij : i < j) : compareBytes p.1.data.toList q.1.data.toList < 0 := by
  obtain ⟨h1, e1⟩ := List.getElem?_eq_some_iff.1 hi
  obtain ⟨h2, e2⟩ := List.getElem?_eq_some_iff.1 hj
  have := List.pairwise_iff_getElem.1 ho.up i j h1 h2 hij
  rw [e1, e2] at this
  exact this
theorem inorder_ev (l : List PB) (ho : InO l) (hl : l.length ≤ 1000) : ∀ (m i : Nat), i + m = l.length → EvO (fun k => driftnetref05_InOrder.l0 k (l.map toS) (i : Int)) true
  | 0, i, hi => by
    refine EvO.succ (h := fun _ => some true) (fun k => ?_) (EvO.of fun _ => rfl)
    unfold driftnetref05_InOrder.l0
    rw [if_neg (by rw [List.length_map]; omega)]
  | m + 1, i, hi => by
    obtain ⟨p, hp⟩ : ∃ p, l[i]? = some p := ⟨l[i]'(by omega), List.getElem?_eq_getElem _⟩
    refine EvO.succ (fun k => ?_) (inorder_ev l ho hl m (i + 1) (by omega))
    conv => lhs; unfold driftnetref05_InOrder.l0
    rw [if_pos (by rw [List.length_map]; omega), if_pos (by omega), rd_toS hp]
    have hne : ¬ (toS p).f1.toList = [] := by
      rw [ByteArray.toList_eq]
      exact ho.ne p (List.mem_of_getElem? hp)
    rw [if_neg hne]
    by_cases h0 : (i : Int) > 0
    · obtain ⟨j, hj⟩ : ∃ j, i = j + 1 := ⟨i - 1, by omega⟩
      have e1 : wrap64 ((i : Int) - 1) = (j : Int) := (w64 (by omega) (by omega)).trans (by omega)
      obtain ⟨q, hq⟩ : ∃ q, l[j]? = some q := ⟨l[j]'(by omega), List.getElem?_eq_getElem _⟩
      rw [if_pos h0, e1, if_pos (by omega), if_pos (by rw [List.length_map]; omega), rd_toS hq]
      have hb : Op.bytesLess (toS q).f0.toList (toS p).f0.toList = true := by
        rw [ByteArray.toList_eq, ByteArray.toList_eq, bytesLess_cb]
        exact decide_eq_true (low_of ho hq hp (by omega))
      rw [if_pos hb, wr1 (by omega)]
    · rw [if_neg h0, wr1 (by omega)]
theorem among1 (a n : ByteArray) (k : Nat) : driftnetref05_among.f (k + 2) [a] n = some (decide (a.toList = n.toList)) := by
  unfold driftnetref05_among.f driftnetref05_among.l0
  have e : rdOf ByteArray.empty [a] 0 = a := rfl
  rw [if_pos (by show (0 : Int) < 1; omega), if_pos (Int.le_refl _), e]
  by_cases h : a.toList = n.toList
  · rw [if_pos h, decide_eq_true h]
  · rw [if_neg h, decide_eq_false h, show wrap64 (0 + 1) = 1 from (w64 (by omega) (by omega)).trans (by omega)]
    unfold driftnetref05_among.l0
    rw [if_neg (by show ¬ (1 : Int) < 1; omega)]
theorem among_ev (a n : ByteArray) : EvO (fun k => driftnetref05_among.f k [a] n) (decide (a.toList = n.toList)) :=
  ⟨2, fun k hk => by
    obtain ⟨j, rfl⟩ : ∃ j, k = j + 2 := ⟨k - 2, by omega⟩
    exact among1 a n j⟩
/-- Drop of a name that is not there. -/
theorem choose_ev (l : List PB) (a : ByteArray) (ho : InO l) (hl : l.length ≤ 1000) (ha : ∀ p ∈ l, p.1.data.toList ≠ a.data.toList) : ∀ (m i : Nat), i + m = l.length → EvO (fun k => driftnetref05_choose.l0 k (l.map toS) [a] false ((l.take i).map toS) (i : Int)) (l.map toS)
  | 0, i, hi => by
    refine EvO.succ (h := fun k => driftnetref05_choose.j1 k (l.map toS) [a] false ((l.take i).map toS) (i : Int) false) (fun k => ?_) ?_
    · conv => lhs; unfold driftnetref05_choose.l0
      rw [if_neg (by rw [List.length_map]; omega)]
    · refine EvO.succ (h := fun _ => some ((l.take i).map toS)) (fun k => ?_) (EvO.of fun _ => by rw [List.take_of_length_le (by omega)])
      conv => lhs; unfold driftnetref05_choose.j1
      rw [if_neg (by decide)]
  | m + 1, i, hi => by
    obtain ⟨p, hp⟩ : ∃ p, l[i]? = some p := ⟨l[i]'(by omega), List.getElem?_eq_getElem _⟩
    refine EvO.succ (h := fun k => (driftnetref05_InOrder.f k (l.map toS)).bind fun t => driftnetref05_choose.j1 k (l.map toS) [a] false ((l.take i).map toS) (i : Int) t) (fun k => ?_) ?_
    · conv => lhs; unfold driftnetref05_choose.l0
      rw [if_pos (by rw [List.length_map]; omega)]
    · refine EvO.bind (h := fun k t => driftnetref05_choose.j1 k (l.map toS) [a] false ((l.take i).map toS) (i : Int) t) (inorder_ev l ho hl l.length 0 (by omega)) ?_
      refine EvO.succ (h := fun k => (driftnetref05_among.f k [a] p.1).bind fun t => if (t == false) = true then driftnetref05_choose.l0 k (l.map toS) [a] false ((l.take i).map toS ++ [toS p]) ((i + 1 : Nat) : Int) else driftnetref05_choose.l0 k (l.map toS) [a] false ((l.take i).map toS) ((i + 1 : Nat) : Int)) (fun k => ?_) ?_
      · conv => lhs; unfold driftnetref05_choose.j1
        rw [if_pos rfl, if_pos (by omega), if_pos (by rw [List.length_map]; omega), rd_toS hp, wr1 (by omega)]
        rw [if_pos (by rw [List.length_map, List.length_take]; omega)]
        rfl
      · refine EvO.bind (h := fun k t => if (t == false) = true then driftnetref05_choose.l0 k (l.map toS) [a] false ((l.take i).map toS ++ [toS p]) ((i + 1 : Nat) : Int) else driftnetref05_choose.l0 k (l.map toS) [a] false ((l.take i).map toS) ((i + 1 : Nat) : Int)) (among_ev a p.1) ?_
        have hd : decide (a.toList = p.1.toList) = false := decide_eq_false (fun h => ha p (List.mem_of_getElem? hp) (by rw [← ByteArray.toList_eq, ← ByteArray.toList_eq]; exact h.symm))
        rw [hd]
        refine EvO.congr (fun k => ?_) (choose_ev l a ho hl ha m (i + 1) (by omega))
        rw [if_pos (show (false == false) = true from rfl)]
        congr 1
        rw [List.take_add_one, hp, List.map_append]
        rfl
theorem drop_ev (l : List PB) (a : ByteArray) (ho : InO l) (hl : l.length ≤ 1000) (ha : ∀ p ∈ l, p.1.data.toList ≠ a.data.toList) : EvO (fun k => driftnetref05_Drop.f k (l.map toS) a) (l.map toS) := by
  refine EvO.congr (h := fun k => (driftnetref05_choose.l0 k (l.map toS) [a] false ((l.take 0).map toS) ((0 : Nat) : Int)).bind fun t => some t) (fun k => rfl) ?_
  exact EvO.bind (h := fun _ t => some t) (choose_ev l a ho hl ha l.length 0 (by omega)) (EvO.of fun _ => rfl)
/-- A label into its place. -/
def insB (p : PB) : List PB → List PB
  | [] => [p]
  | q :: l => if compareBytes q.1.data.toList p.1.data.toList < 0 then q :: insB p l else p :: q :: l
theorem insB_map (p : PB) : ∀ l, (insB p l).map plB = insM (plB p) (l.map plB)
  | [] => rfl
  | q :: l => by
    unfold insB
    show _ = if compareBytes q.1.data.toList p.1.data.toList < 0 then _ else _
    split
    · rw [List.map_cons, insB_map p l]
    · rfl
/-- The place: all ahead are below, none behind. -/
theorem place_ex (p : PB) : ∀ l : List PB, l.Pairwise (fun x y => compareBytes x.1.data.toList y.1.data.toList < 0) → ∃ m, m ≤ l.length ∧ insB p l = l.take m ++ p :: l.drop m ∧ (∀ j q, l[j]? = some q → (compareBytes q.1.data.toList p.1.data.toList < 0 ↔ j < m))
  | [], _ => ⟨0, Nat.le_refl _, rfl, fun j q h => by cases h⟩
  | q :: l, h => by
    have h := List.pairwise_cons.1 h
    obtain ⟨m, h1, h2, h3⟩ := place_ex p l h.2
    by_cases hq : compareBytes q.1.data.toList p.1.data.toList < 0
    · refine ⟨m + 1, Nat.succ_le_succ h1, ?_, fun j r hr => ?_⟩
      · unfold insB
        rw [if_pos hq, h2]
        rfl
      · cases j with
        | zero => cases hr; exact ⟨fun _ => Nat.succ_pos _, fun _ => hq⟩
        | succ j => exact (h3 j r hr).trans ⟨fun h => by omega, fun h => by omega⟩
    · refine ⟨0, Nat.zero_le _, ?_, fun j r hr => ?_⟩
      · unfold insB
        rw [if_neg hq]
        rfl
      · cases j with
        | zero => cases hr; exact ⟨fun h => absurd h hq, fun h => absurd h (Nat.lt_irrefl _)⟩
        | succ j =>
          refine ⟨fun h4 => absurd (cb_trans (h.1 r (List.mem_of_getElem? hr)) h4) hq, fun h => by omega⟩
theorem put_ev (l : List PB) (p : PB) (hl : l.length ≤ 1000) (m : Nat) (hm : m ≤ l.length) (hp : ∀ j q, l[j]? = some q → (compareBytes q.1.data.toList p.1.data.toList < 0 ↔ j < m)) : ∀ (d i : Nat), i + d = l.length → EvO (fun k => driftnetref05_put.l0 k (l.map toS) (((if i ≤ m then i else m) : Nat) : Int) (i : Int) p.1 p.2) ((l.take m ++ p :: l.drop m).map toS)
  | 0, i, hi => by
    refine EvO.succ (h := fun _ => some ((l.take m ++ p :: l.drop m).map toS)) (fun k => ?_) (EvO.of fun _ => rfl)
    conv => lhs; unfold driftnetref05_put.l0
    have e : (if i ≤ m then i else m) = m := by split <;> omega
    rw [e, if_neg (by rw [List.length_map]; omega), if_pos (by omega), if_pos (by rw [List.length_map]; omega), Int.toNat_natCast]
    simp only [Option.bind_some, List.nil_append, List.length_nil, List.length_append, List.length_cons, List.length_take, List.length_drop, List.length_map]
    rw [if_pos (by omega), if_pos (by omega), if_pos (by omega)]
    rw [List.map_append, List.map_take, List.map_cons, List.map_drop, List.append_assoc]
    rfl
  | d + 1, i, hi => by
    obtain ⟨q, hq⟩ : ∃ q, l[i]? = some q := ⟨l[i]'(by omega), List.getElem?_eq_getElem _⟩
    refine EvO.succ (fun k => ?_) (put_ev l p hl m hm hp d (i + 1) (by omega))
    conv => lhs; unfold driftnetref05_put.l0
    rw [if_pos (by rw [List.length_map]; omega), if_pos (by omega), rd_toS hq, wr1 (by omega)]
    have hb : Op.bytesLess (toS q).f0.toList p.1.toList = decide (compareBytes q.1.data.toList p.1.data.toList < 0) := by
      rw [ByteArray.toList_eq, ByteArray.toList_eq, bytesLess_cb]
      rfl
    rw [hb]
    by_cases h : compareBytes q.1.data.toList p.1.data.toList < 0
    · have hj := (hp i q hq).1 h
      rw [if_pos (decide_eq_true h), if_pos (by omega)]
    · have hj : ¬ i < m := fun h2 => h ((hp i q hq).2 h2)
      rw [if_neg (by rw [decide_eq_false h]; decide)]
      have e : (if i ≤ m then i else m) = m := by split <;> omega
      rw [e, if_neg (by omega)]
/-- Set of a new name. -/
def setR (l : List PB) (p : PB) : List PB := if p.2.data.toList = [] then l else insB p l
theorem set_ev (l : List PB) (p : PB) (ho : InO l) (hl : l.length ≤ 1000) (ha : ∀ q ∈ l, q.1.data.toList ≠ p.1.data.toList) : EvO (fun k => driftnetref05_Set.f k (l.map toS) p.1 p.2) ((setR l p).map toS) := by
  refine EvO.congr (h := fun k => (driftnetref05_InOrder.f k (l.map toS)).bind fun t => if t = true then ((driftnetref05_Drop.f k (l.map toS) p.1).bind fun u => if p.2.toList = ([] : List UInt8) then some u else (driftnetref05_put.f k u p.1 p.2).bind fun v => some v) else some []) (fun k => rfl) ?_
  refine EvO.bind (h := fun k t => if t = true then ((driftnetref05_Drop.f k (l.map toS) p.1).bind fun u => if p.2.toList = ([] : List UInt8) then some u else (driftnetref05_put.f k u p.1 p.2).bind fun v => some v) else some []) (inorder_ev l ho hl l.length 0 (by omega)) ?_
  refine EvO.congr (h := fun k => (driftnetref05_Drop.f k (l.map toS) p.1).bind fun u => if p.2.toList = ([] : List UInt8) then some u else (driftnetref05_put.f k u p.1 p.2).bind fun v => some v) (fun k => if_pos rfl) ?_
  refine EvO.bind (h := fun k u => if p.2.toList = ([] : List UInt8) then some u else (driftnetref05_put.f k u p.1 p.2).bind fun v => some v) (drop_ev l p.1 ho hl ha) ?_
  unfold setR
  by_cases h0 : p.2.data.toList = []
  · rw [if_pos h0]
    exact EvO.of fun k => if_pos (by rw [ByteArray.toList_eq]; exact h0)
  · rw [if_neg h0]
    obtain ⟨m, h1, h2, h3⟩ := place_ex p l ho.up
    refine EvO.congr (h := fun k => (driftnetref05_put.f k (l.map toS) p.1 p.2).bind fun v => some v) (fun k => if_neg (by rw [ByteArray.toList_eq]; exact h0)) ?_
    rw [h2]
    exact EvO.bind (h := fun _ v => some v) (put_ev l p hl m h1 h3 l.length 0 (by omega)) (EvO.of fun _ => rfl)
/-- find is the first place. -/
theorem find_ev (s b : ByteArray) (hb : b.data.toList ≠ []) (hs : s.size ≤ 1000000) (hbs : b.size ≤ 1000000) : ∀ (d i : Nat), i + d = s.size + 1 → NoOcc s.data.toList b.data.toList i → EvO (fun k => driftnetref18_find.l0 k s b (i : Int)) (index s.data.toList b.data.toList)
  | 0, i, hi, hn => by
    refine EvO.succ (h := fun _ => some (-1)) (fun k => ?_) (EvO.of fun _ => ?_)
    · conv => lhs; unfold driftnetref18_find.l0
      rw [if_neg (by rw [w64 (by omega) (by omega)]; omega)]
    · rw [index_past hb hn (by rw [data_length]; omega)]
  | d + 1, i, hi, hn => by
    by_cases hle : i + b.size ≤ s.size
    · have e1 : wrap64 ((i : Int) + (b.size : Int)) = ((i + b.size : Nat) : Int) := (w64 (by omega) (by omega)).trans (by omega)
      have hex : (s.extract i (i + b.size)).toList = b.toList ↔ occAt s.data.toList b.data.toList i = true := by
        rw [ByteArray.toList_eq, ByteArray.toList_eq, ext_list]
        unfold occAt
        rw [List.isPrefixOf_iff_prefix, List.prefix_iff_eq_take, data_length, List.drop_take, show i + b.size - i = b.size by omega]
        exact ⟨fun h => h.symm, fun h => h.symm⟩
      by_cases ho : occAt s.data.toList b.data.toList i = true
      · refine EvO.succ (h := fun _ => some (i : Int)) (fun k => ?_) (EvO.of fun _ => ?_)
        · conv => lhs; unfold driftnetref18_find.l0
          rw [e1, if_pos (by omega), if_pos (by omega), if_pos (by omega), Int.toNat_natCast, Int.toNat_natCast, if_pos (hex.2 ho)]
        · rw [index_hit hn (by rw [data_length]; omega) ho]
      · refine EvO.succ (fun k => ?_) (find_ev s b hb hs hbs d (i + 1) (by omega) ?_)
        · conv => lhs; unfold driftnetref18_find.l0
          rw [e1, if_pos (by omega), if_pos (by omega), if_pos (by omega), Int.toNat_natCast, Int.toNat_natCast, if_neg (fun h => ho (hex.1 h)), wr1 (by omega)]
        · intro j hj
          rcases Nat.lt_or_ge j i with h | h
          · exact hn j h
          · obtain rfl : j = i := by omega
            simpa using ho
    · refine EvO.succ (h := fun _ => some (-1)) (fun k => ?_) (EvO.of fun _ => ?_)
      · conv => lhs; unfold driftnetref18_find.l0
        rw [if_neg (by rw [w64 (by omega) (by omega)]; omega)]
      · rw [index_past hb hn (by rw [data_length, data_length]; omega)]
end Go.Proofs.Ytpobgpfkohlokaa.PC
