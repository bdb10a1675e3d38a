/- The row that Of sorts: from what it owns to what the sort asks, and back. -/
import Derived.Test.YtoihjhpabccigaaSO
namespace Go.Proofs.Ytoihjhpabccigaa.OF
open Go.Shelf Go.RowKit Go.Lib Go.Proofs.Ytoihjhpabccigaa.PR
open Go.Proofs.YtoihjhpabccigaaW.PrintWords
open Go.Sort (grow putRow mapBlock putCells flatK get_flatK size_flatK HoldsK putRowK heap_grow_old onCells)
set_option linter.unusedVariables false
theorem seg {F : List Value} {j : Nat} {a b : Value} (h0 : F[j * 2]? = some a) (h1 : F[j * 2 + 1]? = some b) : (F.drop (j * 2)).take 2 = [a, b] := by
  obtain ⟨l0, e0⟩ := List.getElem?_eq_some_iff.1 h0
  obtain ⟨l1, e1⟩ := List.getElem?_eq_some_iff.1 h1
  rw [List.drop_eq_getElem_cons l0, List.drop_eq_getElem_cons l1, List.take_succ_cons, List.take_succ_cons, List.take_zero, e0, e1]
theorem seg_inv {F : List Value} {j : Nat} {a b : Value} (h : (F.drop (j * 2)).take 2 = [a, b]) : F[j * 2]? = some a ∧ F[j * 2 + 1]? = some b := by
  have h0 : ((F.drop (j * 2)).take 2)[0]? = some a := by rw [h]; rfl
  have h1 : ((F.drop (j * 2)).take 2)[1]? = some b := by rw [h]; rfl
  rw [List.getElem?_take_of_lt (by decide), List.getElem?_drop] at h0 h1
  exact ⟨h0, h1⟩
theorem flat0 (d : Array S38) (j : Nat) (hj : j < d.size) : (flatK encR 2 d).toList[j * 2]? = some (.int .i64 d[j]!.f0) ∧ (flatK encR 2 d).toList[j * 2 + 1]? = some (.int .i64 d[j]!.f1) := by
  have e0 := get_flatK encR 2 d (j * 2) (by omega)
  have e1 := get_flatK encR 2 d (j * 2 + 1) (by omega)
  have s : (flatK encR 2 d).size = d.size * 2 := size_flatK ..
  rw [show j * 2 / 2 = j by omega, show j * 2 % 2 = 0 by omega] at e0
  rw [show (j * 2 + 1) / 2 = j by omega, show (j * 2 + 1) % 2 = 1 by omega] at e1
  rw [Array.getElem?_toList, Array.getElem?_toList, Array.getElem?_eq_getElem (by omega), Array.getElem?_eq_getElem (by omega)]
  rw [getElem!_pos _ _ (by omega)] at e0 e1
  exact ⟨by rw [e0]; rfl, by rw [e1]; rfl⟩
/-- What a row of ranges is in memory. -/
structure Row (w : World) (base g cap : Nat) (xs : List S38) (cur : Array Value) : Prop where
  hbase : base ≤ g
  hblk : w.heap[g]? = some (.cells cur 38 (0, 0))
  hle : xs.length ≤ cap
  hcap : cap ≤ maxLen
  hsize : cur.size = cap * 2
  hat : ∀ j, j < xs.length → cur[j * 2]? = some (.int .i64 (xs.getD j z38).f0) ∧ cur[j * 2 + 1]? = some (.int .i64 (xs.getD j z38).f1)
theorem row_of {w : World} {base : Nat} {ok : Nat → Prop} {v : Value} {xs : List S38} (h : Kd.R k38 38 w base ok v xs) : (v = .slice none 0 0 ∧ xs = []) ∨ ∃ g cap cur, v = .slice (some ⟨g, 0, none⟩) xs.length cap ∧ Row w base g cap xs cur := by
  obtain ⟨h0, inner, ⟨hlen, ho⟩, hr⟩ := h
  rcases ho with ⟨rfl, hn⟩ | ⟨g, cap, cur, rfl, hb, hblk, hle, hcap, hsz, htk⟩
  · exact Or.inl ⟨rfl, List.eq_nil_of_length_eq_zero hn⟩
  · refine Or.inr ⟨g, cap, cur, rfl, hb, hblk, hle, hcap, hsz, fun j hj => ?_⟩
    have e : xs[j]? = some (xs.getD j z38) := by rw [List.getD_eq_getElem?_getD, List.getElem?_eq_getElem hj]; rfl
    obtain ⟨e0, e1⟩ := seg_inv (k38_openM (hr.2 j _ e))
    rw [← htk, show xs.length * k38.sz = xs.length * 2 from rfl] at e0 e1
    rw [List.getElem?_take_of_lt (by omega), Array.getElem?_toList] at e0
    rw [List.getElem?_take_of_lt (by omega), Array.getElem?_toList] at e1
    exact ⟨e0, e1⟩
theorem of_row {w : World} {base g cap : Nat} {xs : List S38} {cur : Array Value} (h : Row w base g cap xs cur) : Kd.R k38 38 w base (fun _ => True) (.slice (some ⟨g, 0, none⟩) xs.length cap) xs := by
  have hl : (cur.toList.take (xs.length * 2)).length = xs.length * 2 := by
    have h1 := h.hsize
    have h2 := h.hle
    have h3 : cur.toList.length = cur.size := Array.length_toList
    rw [List.length_take]
    omega
  refine ⟨fun _ _ => trivial, cur.toList.take (xs.length * 2), ⟨hl, Or.inr ⟨g, cap, cur, rfl, h.hbase, h.hblk, h.hle, h.hcap, h.hsize, rfl⟩⟩, hl, fun j p hp => ?_⟩
  obtain ⟨hj, e⟩ := List.getElem?_eq_some_iff.1 hp
  have e2 : xs.getD j z38 = p := by rw [List.getD_eq_getElem?_getD, hp]; rfl
  obtain ⟨c0, c1⟩ := h.hat j hj
  rw [e2] at c0 c1
  have e3 : ((cur.toList.take (xs.length * 2)).drop (j * 2)).take 2 = [.int .i64 p.f0, .int .i64 p.f1] := seg (by rw [List.getElem?_take_of_lt (by omega), Array.getElem?_toList]; exact c0) (by rw [List.getElem?_take_of_lt (by omega), Array.getElem?_toList]; exact c1)
  change k38.M _ _ _ _ (((cur.toList.take (xs.length * 2)).drop (j * 2)).take 2)
  rw [e3]
  exact k38_mkM _ _ _ _
theorem row_holds {w : World} {base g cap : Nat} {xs : List S38} {cur : Array Value} (h : Row w base g cap xs cur) : HoldsK encR 2 w g 0 xs.toArray := by
  intro t ht
  rw [size_flatK] at ht
  have ht' : t < xs.length * 2 := by simpa using ht
  refine ⟨?_, by simp [World.frozen?, h.hblk]⟩
  rw [blk_cell h.hblk, Nat.zero_add]
  have hf := flat0 xs.toArray (t / 2) (by simp; omega)
  have ha := h.hat (t / 2) (by omega)
  have eg : (xs.toArray)[t / 2]! = xs.getD (t / 2) z38 := by
    rw [getElem!_pos _ _ (by simp; omega), List.getD_eq_getElem?_getD, List.getElem?_eq_getElem (by omega)]
    simp
  rw [eg] at hf
  have sf : (flatK encR 2 xs.toArray).size = xs.length * 2 := by simp
  have em : (flatK encR 2 xs.toArray)[t]! = (flatK encR 2 xs.toArray)[t]'(by omega) := getElem!_pos _ _ (by omega)
  rcases Nat.mod_two_eq_zero_or_one t with hm | hm
  · have e : t / 2 * 2 = t := by omega
    rw [e] at hf ha
    have h1 := hf.1
    rw [Array.getElem?_toList, Array.getElem?_eq_getElem (by omega)] at h1
    rw [ha.1, ← h1, em]
    rfl
  · have e : t / 2 * 2 + 1 = t := by omega
    rw [e] at hf ha
    have h1 := hf.2
    rw [Array.getElem?_toList, Array.getElem?_eq_getElem (by omega)] at h1
    rw [ha.2, ← h1, em]
    rfl
theorem row_sorted {w : World} {base g cap n : Nat} {xs : List S38} {cur : Array Value} {os : Array Obj} (h : Row w base g cap xs cur) (d : Array S38) (hd : d.size = xs.length) : Row (sortWorldK encR 2 w g 0 n d os) base g cap d.toList (putCells id 0 (flatK encR 2 d) cur) := by
  have hg : g < w.heap.size := blk_lt h.hblk
  refine ⟨h.hbase, ?_, by rw [Array.length_toList, hd]; exact h.hle, h.hcap, by simp [putCells, h.hsize], fun j hj => ?_⟩
  · unfold sortWorldK putRowK
    rw [heap_grow_old _ _ (by simpa using hg)]
    simp [putRow, mapBlock, Sort.ahead, Array.getElem?_modify, h.hblk, onCells]
  · have hj' : j < d.size := by simpa using hj
    have hf := flat0 d j hj'
    have e : d[j]! = d.toList.getD j z38 := by
      rw [getElem!_pos d j hj', List.getD_eq_getElem?_getD, List.getElem?_eq_getElem hj]
      simp
    rw [e] at hf
    have s1 := h.hsize
    have s2 := h.hle
    have sz : (flatK encR 2 d).size = d.size * 2 := size_flatK ..
    have key : ∀ t u, t < d.size * 2 → (flatK encR 2 d).toList[t]? = some u → (putCells id 0 (flatK encR 2 d) cur)[t]? = some u := by
      intro t u ht hu
      have hc : t < cur.size := by omega
      unfold putCells
      rw [Array.getElem?_mapIdx, Array.getElem?_eq_getElem hc]
      simp only [Option.map_some, Nat.zero_le, Nat.zero_add, Nat.sub_zero, true_and, id]
      rw [if_pos (by omega), getElem!_pos _ _ (by omega)]
      rw [Array.getElem?_toList, Array.getElem?_eq_getElem (by omega)] at hu
      exact hu
    exact ⟨key _ _ (by omega) hf.1, key _ _ (by omega) hf.2⟩
theorem below_sorted {w wr : World} {g n : Nat} {d : Array S38} {os : Array Obj} (h : Below w.heap.size w wr) (hg : w.heap.size ≤ g) : Below w.heap.size w (sortWorldK encR 2 wr g 0 n d os) := by
  refine ⟨h.os, h.tape, h.output, ?_, fun k hk => ?_⟩
  · have := h.size
    simp [sortWorldK, putRowK, grow, putRow, mapBlock, Sort.ahead]
    omega
  · have hs := h.size
    have hne : g ≠ k := by omega
    rw [← h.block k hk]
    unfold sortWorldK putRowK
    rw [heap_grow_old _ _ (by simp [putRow, mapBlock, Sort.ahead]; omega)]
    simp [putRow, mapBlock, Sort.ahead, Array.getElem?_modify, hne]
#print axioms row_sorted
#print axioms below_sorted
end Go.Proofs.Ytoihjhpabccigaa.OF
