/- slices.SortFunc at labels, by the shelf's contract. -/
import Derived.Test.YtpobgpfkohlokaaCF
import Derived.Test.YtpobgpfkohlokaaCM
namespace Go.Proofs.Ytpobgpfkohlokaa.PC
open Go.Shelf Go.RowKit Go.Lib
open Go.Sort (grow putRow mapBlock putCells flatK get_flatK size_flatK HoldsK putRowK heap_grow_old onCells SWO PermIn SortedIn alloc_eq_grow grow_grow pdq pdq_sorts)
open Go.Proofs.YtpobgpfkohlokaaW.PrintWords Go.Proofs.YtpobgpfkohlokaaW.PrintLast Go.Proofs.YtpobgpfkohlokaaW.PrintMore
set_option linter.unusedVariables false
abbrev PB := ByteArray × ByteArray
def encL (x : PB) : List Value := [.string x.1, .string x.2]
def cfL (x y : PB) : Int := compareBytes x.1.data.toList y.1.data.toList
theorem ltL (x y : PB) : ltOf cfL x y = decide (compareBytes x.1.data.toList y.1.data.toList < 0) := rfl
theorem swoL : SWO (ltOf cfL) where
  irrefl x := by rw [ltL, cb_self]; rfl
  trans x y z h1 h2 := by rw [ltL] at *; exact decide_eq_true (cb_trans (of_decide_eq_true h1) (of_decide_eq_true h2))
  ntrans x y z h1 h2 := by rw [ltL] at *; exact decide_eq_false (cb_ntrans (of_decide_eq_false h1) (of_decide_eq_false h2))
set_option maxHeartbeats 1000000 in
theorem closure32 (x y : PB) (W : World) : Calls Try.prog 32 #[.agg #[.string x.1, .string x.2], .agg #[.string y.1, .string y.2]] W fun e w' => e = .returned (.int .i64 (cfL x y)) ∧ ∃ q os', w' = grow (W.drewN q) os' := by
  have hcon := fun W' => Try.strings_Compare x.1 y.1 W'
  unfold cfL
  generalize compareBytes x.1.data.toList y.1.data.toList = r at hcon ⊢
  go_enter Try.func32, Try.ntmps32
  go_wp2_with (go_at_call 33; refine (hcon _).mono ?_; rintro e w' ⟨rfl, rfl⟩)
  go_ret
  exact ⟨rfl, 0, _, by rw [alloc_eq_grow, alloc_eq_grow, grow_grow]; rfl⟩
theorem cmpLaysL (blk off size : Nat) (w : World) : CmpLays Try.prog 32 #[] encL 2 cfL blk off size w :=
  fun _ _ _ _ x y => closure32 x y _
theorem lenL (x : PB) : (encL x).length = 2 := rfl
theorem oneL (x : PB) (v : Value) (hv : v ∈ encL x) : v.oneCell' = true := by
  simp [encL] at hv
  rcases hv with rfl | rfl <;> rfl
set_option maxHeartbeats 2000000 in
set_option maxRecDepth 100000 in
theorem sort_call (blk cap : Nat) (d : Array PB) (w : World) (hH : HoldsK encL 2 w blk 0 d) (hblk : blk < w.heap.size) (hsz : d.size < 4611686018427387904) :
    Calls Try.prog 31 #[.slice (some ⟨blk, 0, none⟩) d.size cap, .func (.func 32) #[] #[]] w fun e w' => e = .returned (.tuple #[]) ∧ ∃ d' n os, PermIn 0 d.size d d' ∧ SortedIn (ltOf cfL) 0 d.size d' ∧ w' = sortWorldK encL 2 w blk 0 n d' os := by
  have eg : ∀ args w, (callFunc 32 args).run Try.prog w = .ok (.enter 32 args) w := enters_of Try.func32 (by kernel_rfl) rfl
  have hlim : Lib.bitLen d.size < 4611686018427387904 := Nat.lt_of_le_of_lt (Lib.bitLen_le d.size 62 (by omega) (by omega)) (by omega)
  have hp := AnyQ.pdqsortCmpFunc_all Try.laysPdq 2 Try.isAgg74 Try.sizeOf74 encL cfL 32 #[] swoL blk 0 cap d w eg (cmpLaysL blk 0 d.size w) ⟨lenL, oneL, hH, hblk⟩ (d.size + 1) 0 d.size (Lib.bitLen d.size) d w (by omega) rfl (SWK.start hH) (Nat.zero_le _) (Nat.le_refl _) hsz hlim (Or.inl rfl)
  change Calls Try.prog 57 _ _ _ at hp
  have hl : Calls Try.prog 58 #[.int .u64 (d.size : Int)] w fun e w' => e = .returned (.int .i64 (Lib.bitLen d.size : Nat)) ∧ w' = w := by
    have h := Try.bits_Len (d.size : Int) w (by omega) (by omega)
    rwa [Int.toNat_natCast] at h
  have wr : IntKind.u64.wrap (d.size : Int) = d.size := by simp [IntKind.wrap, IntKind.bits, IntKind.signed]; omega
  have h2 := pdq_sorts (ltOf cfL) swoL d 0 d.size (Lib.bitLen d.size) true true (Nat.zero_le _) (Nat.le_refl _) (Or.inl rfl)
  obtain ⟨dd, hdd⟩ : ∃ dd, dd = pdq (ltOf cfL) d 0 d.size (Lib.bitLen d.size) true true := ⟨_, rfl⟩
  rw [← hdd] at hp h2
  obtain ⟨h3, h4⟩ := h2
  have H3 := Aside0.mk h3
  have H4 := Aside0.mk h4
  clear hH h3 h4 hdd
  go_enter Try.func31, Try.ntmps31
  go_wp2_with (first | (go_at_call 58; refine hl.mono ?_; rintro e w' ⟨rfl, rfl⟩) | (go_at_call 57; refine hp.mono ?_; rintro e w' ⟨rfl, n, os, rfl⟩))
  go_end0
  exact ⟨rfl, dd, n, os, H3.out, H4.out, rfl⟩
theorem sort_none (cap : Nat) (p : Option Addr) (w : World) :
    Calls Try.prog 31 #[.slice p 0 cap, .func (.func 32) #[] #[]] w fun e w' => e = .returned (.tuple #[]) ∧ w' = w := by
  have hp := fun lim => AnyF.pdqsortCmpFunc_none Try.laysPdq p cap lim (.func (.func 32) #[] #[]) w
  change ∀ lim, Calls Try.prog 57 _ _ _ at hp
  have hl : Calls Try.prog 58 #[.int .u64 0] w fun e w' => e = .returned (.int .i64 (Lib.bitLen 0 : Nat)) ∧ w' = w := Try.bits_Len 0 w (by omega) (by omega)
  go_enter Try.func31, Try.ntmps31
  go_wp2_with (first | (go_at_call 58; refine hl.mono ?_; rintro e w' ⟨rfl, rfl⟩) | (go_at_call 57; refine (hp _).mono ?_; rintro e w' ⟨rfl, rfl⟩))
  go_end0
  exact ⟨rfl, rfl⟩
theorem flat_cells (d : Array PB) : (flatK encL 2 d).toList = cellsB d.toList := by
  apply List.ext_getElem?
  intro i
  have s : (flatK encL 2 d).size = d.size * 2 := size_flatK ..
  have s2 : (cellsB d.toList).length = d.size * 2 := by rw [cellsB_len, Array.length_toList]
  rcases Nat.lt_or_ge i (d.size * 2) with h | h
  · have e0 := get_flatK encL 2 d i h
    have hj : i / 2 < d.size := by omega
    have e1 : d.toList[i / 2]? = some d[i / 2]! := by
      rw [List.getElem?_eq_getElem (by rw [Array.length_toList]; omega), getElem!_pos d _ hj]
      simp
    obtain ⟨c0, c1⟩ := cellsB_get _ _ _ e1
    rw [getElem!_pos _ _ (by omega)] at e0
    rw [Array.getElem?_toList, Array.getElem?_eq_getElem (by omega), e0]
    rcases Nat.mod_two_eq_zero_or_one i with hm | hm
    · rw [hm]
      rw [show i / 2 * 2 = i by omega] at c0
      rw [c0]; rfl
    · rw [hm]
      rw [show i / 2 * 2 + 1 = i by omega] at c1
      rw [c1]; rfl
  · rw [List.getElem?_eq_none (by rw [Array.length_toList]; omega), List.getElem?_eq_none (by omega)]
theorem rowP_holds {B : Nat} {w : World} {g n c : Nat} {l : List PB} (h : RowP B w 74 (.slice (some ⟨g, 0, none⟩) n c) l) : n = l.length ∧ g < w.heap.size ∧ B ≤ g ∧ HoldsK encL 2 w g 0 l.toArray := by
  rcases h.2 with ⟨h1, h2⟩ | ⟨g', cap, cur, h1, h2, h3, h4, h5, h6, h7⟩
  · cases h1
  · cases h1
    refine ⟨rfl, blk_lt h3, h2, fun t ht => ?_⟩
    rw [size_flatK] at ht
    refine ⟨?_, by simp [World.frozen?, h3]⟩
    have ht2 : t < (flatK encL 2 l.toArray).size := by rw [size_flatK]; exact ht
    have hf : (flatK encL 2 l.toArray).toList[t]? = some ((flatK encL 2 l.toArray)[t]!) := by
      rw [Array.getElem?_toList, Array.getElem?_eq_getElem ht2, getElem!_pos (flatK encL 2 l.toArray) t ht2]
    rw [flat_cells, List.toList_toArray, ← h7, List.getElem?_take] at hf
    split at hf
    · rw [blk_cell h3, Nat.zero_add, ← Array.getElem?_toList]
      exact hf
    · cases hf
theorem rowP_sorted {B : Nat} {w : World} {g n c m : Nat} {l : List PB} {os : Array Obj} (h : RowP B w 74 (.slice (some ⟨g, 0, none⟩) n c) l) (d : Array PB) (hd : d.size = l.length) : RowP B (sortWorldK encL 2 w g 0 m d os) 74 (.slice (some ⟨g, 0, none⟩) n c) d.toList := by
  rcases h.2 with ⟨h1, h2⟩ | ⟨g', cap, cur, h1, h2, h3, h4, h5, h6, h7⟩
  · cases h1
  · cases h1
    have hg : g < w.heap.size := blk_lt h3
    unfold RowP World.ownsRow
    rw [cellsB_len, Array.length_toList, hd]
    refine ⟨rfl, .inr ⟨g, c, putCells id 0 (flatK encL 2 d) cur, rfl, h2, ?_, h4, h5, by simp [putCells, h6], ?_⟩⟩
    · unfold sortWorldK putRowK
      rw [heap_grow_old _ _ (by simpa using hg)]
      simp [putRow, mapBlock, Sort.ahead, Array.getElem?_modify, h3, onCells]
    · rw [← flat_cells]
      apply List.ext_getElem?
      intro i
      have s : (flatK encL 2 d).size = d.size * 2 := size_flatK ..
      rcases Nat.lt_or_ge i (d.size * 2) with hi | hi
      · have hc : i < cur.size := by rw [h6]; omega
        rw [List.getElem?_take_of_lt (by omega), Array.getElem?_toList, Array.getElem?_toList]
        unfold putCells
        rw [Array.getElem?_mapIdx, Array.getElem?_eq_getElem hc, Array.getElem?_eq_getElem (by omega)]
        simp only [Option.map_some, Nat.zero_le, Nat.zero_add, Nat.sub_zero, true_and, id]
        rw [if_pos (by omega), getElem!_pos _ _ (by omega)]
      · rw [List.getElem?_eq_none (by rw [List.length_take]; omega), List.getElem?_eq_none (by rw [Array.length_toList]; omega)]
theorem below_sortedL {w wr : World} {g n : Nat} {d : Array PB} {os : Array Obj} (h : Below w.heap.size w wr) (hg : w.heap.size ≤ g) : Below w.heap.size w (sortWorldK encL 2 wr g 0 n d os) := by
  refine ⟨h.os, h.tape, h.output, ?_, fun k hk => ?_⟩
  · have := h.size
    simp [sortWorldK, putRowK, grow, putRow, mapBlock, Sort.ahead]
    omega
  · have hs := h.size
    have hne : g ≠ k := by omega
    rw [← h.block k hk]
    unfold sortWorldK putRowK
    rw [heap_grow_old _ _ (by simp [putRow, mapBlock, Sort.ahead]; omega)]
    simp [putRow, mapBlock, Sort.ahead, Array.getElem?_modify, hne]
theorem sort_rows (w wr : World) (v : Value) (l : List PB) (HO : RowP w.heap.size wr 74 v l) (hb : Below w.heap.size w wr) (hl : l.length ≤ 1000000) :
    Calls Try.prog 31 #[v, .func (.func 32) #[] #[]] wr fun e ws => e = .returned (.tuple #[]) ∧ ∃ ds : List PB, ds.Perm l ∧ ds.Pairwise (fun x y => ¬ compareBytes y.1.data.toList x.1.data.toList < 0) ∧ RowP w.heap.size ws 74 v ds ∧ Below w.heap.size w ws := by
  obtain ⟨A, c, rfl, hc⟩ := own_slice HO
  by_cases h0 : l = []
  · subst h0
    refine (sort_none c A wr).mono ?_
    rintro e ws ⟨rfl, rfl⟩
    exact ⟨rfl, [], .refl _, List.Pairwise.nil, HO, hb⟩
  · obtain ⟨g, rfl, -, -, -⟩ := own_cell HO (List.length_pos_iff.2 h0)
    obtain ⟨-, h1, h2, h3⟩ := rowP_holds HO
    have hs : l.toArray.size = l.length := by simp
    have hc := sort_call g c l.toArray wr h3 h1 (by omega)
    rw [hs] at hc
    refine hc.mono ?_
    rintro e ws ⟨rfl, d, n, os, ⟨hp1, _, hp2⟩, hso, rfl⟩
    rw [hs] at hp1
    have hd : d.toList.length = l.length := by simpa using hp1
    refine ⟨rfl, d.toList, ?_, ?_, rowP_sorted HO d hp1, below_sortedL hb h2⟩
    · rw [Array.toList_extract, Array.toList_extract] at hp2
      have e1 : d.toList.take l.length = d.toList := List.take_of_length_le (Nat.le_of_eq hd)
      have e2 : l.take l.length = l := List.take_of_length_le (Nat.le_refl _)
      simp only [List.extract_eq_take_drop, List.drop_zero, Nat.sub_zero, e1, e2] at hp2
      exact hp2
    · rw [List.pairwise_iff_getElem]
      intro i j hi hj hij
      have h := hso i j (Nat.zero_le _) hij (by rw [← hd]; exact hj)
      rw [ltL, getElem!_pos d i (by simpa using hi), getElem!_pos d j (by simpa using hj)] at h
      have h := of_decide_eq_false h
      simp only [Array.getElem_toList]
      exact h
end Go.Proofs.Ytpobgpfkohlokaa.PC
