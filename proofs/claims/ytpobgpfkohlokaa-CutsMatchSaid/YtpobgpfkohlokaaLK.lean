/- CutsKnown, walked. -/
import Derived.Test.YtpobgpfkohlokaaLP
namespace Go.Proofs.Ytpobgpfkohlokaa.PC
open Go.RowKit Go.Lib Go.Shelf Go.Maps Go.Proofs.YtpobgpfkohlokaaW.PrintWords Go.Proofs.YtpobgpfkohlokaaW.PrintLast Go.Proofs.YtpobgpfkohlokaaW.PrintMore
set_option linter.unusedVariables false
set_option linter.unusedSimpArgs false
theorem lk_size (b : ByteArray) : b.data.toList.length = b.size := data_length b
theorem lk_app (a b : ByteArray) : (a ++ b).data.toList = a.data.toList ++ b.data.toList := by simp
set_option maxHeartbeats 4000000 in
theorem match_nil (s : ByteArray) (w : World) : Calls Try.prog 11 #[.pointer none, .string s] w fun e w' => e = .returned (.tuple #[.slice none 0 0, .bool false]) ∧ w' = w := by
  go_enter Try.func11, Try.ntmps11
  go_wp2
  go_ret2
  exact ⟨rfl, rfl⟩
set_option maxHeartbeats 4000000 in
theorem names_nil (w : World) : Calls Try.prog 15 #[.pointer none] w fun e w' => e = .returned (.slice none 0 0) ∧ w' = w := by
  go_enter Try.func15, Try.ntmps15
  go_wp2
  go_ret
  exact ⟨rfl, rfl⟩
theorem repeat_calls (c b : Nat) (hc : c ≤ 1000) (hb : b < 256) (w : World) : Calls Try.prog 21 #[.string ⟨#[b.toUInt8]⟩, .int .i64 c] w fun e w' => (∃ s : ByteArray, e = .returned (.string s) ∧ s.data.toList = repeatL [b.toUInt8] c ∧ s.size = c) ∧ Below w.heap.size w w' :=
  (Try.strings_Repeat ⟨#[b.toUInt8]⟩ c w (by omega) (by show 1 * c ≤ _; omega)).mono (by
    rintro e w' ⟨rfl, hb⟩
    refine ⟨⟨_, rfl, rfl, ?_⟩, hb⟩
    show (repeatL [b.toUInt8] c).toArray.size = c
    rw [List.size_toArray]
    have hl : ∀ n, (repeatL [b.toUInt8] n).length = n := by
      intro n
      induction n with
      | zero => rfl
      | succ n ih => show ([b.toUInt8] ++ repeatL [b.toUInt8] n).length = n + 1; rw [List.length_append, ih]; show 1 + n = n + 1; omega
    exact hl c)
theorem tk0 : tellsP (⟨#[60, 97]⟩ : ByteArray).data.toList (⟨#[120]⟩ : ByteArray).data.toList (([] : List ByteArray).map bl) = false := by decide
theorem tk1 : tellsP (⟨#[60, 60, 97, 62, 62]⟩ : ByteArray).data.toList (⟨#[60, 120, 62]⟩ : ByteArray).data.toList (([(⟨#[97]⟩ : ByteArray), (⟨#[120]⟩ : ByteArray)] : List ByteArray).map bl) = true := by decide
theorem tk2 : tellsP (⟨#[60, 97, 45, 98, 62, 60, 99, 62]⟩ : ByteArray).data.toList (⟨#[60, 97, 45, 98, 62, 49]⟩ : ByteArray).data.toList (([(⟨#[99]⟩ : ByteArray), (⟨#[49]⟩ : ByteArray)] : List ByteArray).map bl) = true := by decide
theorem tk3 : tellsP (⟨#[60, 60, 62]⟩ : ByteArray).data.toList (⟨#[]⟩ : ByteArray).data.toList (([] : List ByteArray).map bl) = false := by decide
theorem tk4 : tellsP (⟨#[60, 97, 62, 62]⟩ : ByteArray).data.toList (⟨#[120, 62]⟩ : ByteArray).data.toList (([(⟨#[97]⟩ : ByteArray), (⟨#[120]⟩ : ByteArray)] : List ByteArray).map bl) = true := by decide
theorem tk5 : tellsP (⟨#[120, 60, 95, 62, 121, 60, 97, 62]⟩ : ByteArray).data.toList (⟨#[120, 49, 121, 50]⟩ : ByteArray).data.toList (([(⟨#[97]⟩ : ByteArray), (⟨#[50]⟩ : ByteArray)] : List ByteArray).map bl) = true := by decide
theorem tk6 : tellsP (⟨#[60, 97, 62, 32]⟩ : ByteArray).data.toList (⟨#[32]⟩ : ByteArray).data.toList (([] : List ByteArray).map bl) = true := by decide
theorem tk7 : tellsP (⟨#[60, 97, 62, 32, 60, 95, 62]⟩ : ByteArray).data.toList (⟨#[49, 32, 50, 32, 51]⟩ : ByteArray).data.toList (([(⟨#[97]⟩ : ByteArray), (⟨#[49]⟩ : ByteArray)] : List ByteArray).map bl) = true := by decide
theorem tk9 : tellsP (⟨#[60, 98, 62, 44, 60, 97, 62]⟩ : ByteArray).data.toList (⟨#[49, 44, 50]⟩ : ByteArray).data.toList (([(⟨#[97]⟩ : ByteArray), (⟨#[50]⟩ : ByteArray), (⟨#[98]⟩ : ByteArray), (⟨#[49]⟩ : ByteArray)] : List ByteArray).map bl) = true := by decide
theorem tk10 : tellsP (⟨#[60, 95, 62, 97, 60, 120, 62, 97, 60, 95, 62]⟩ : ByteArray).data.toList (⟨#[49, 97, 50, 97, 51, 97, 52]⟩ : ByteArray).data.toList (([(⟨#[120]⟩ : ByteArray), (⟨#[50]⟩ : ByteArray)] : List ByteArray).map bl) = true := by decide
set_option maxRecDepth 100000 in
theorem tk8l : tellsP ([60] ++ repeatL [110] 64 ++ [62]) [118] [repeatL [110] 64, [118]] = true := by decide +kernel
set_option maxRecDepth 100000 in
theorem tk11l : tellsP ([60, 97, 62] ++ repeatL [120] 253) ([121] ++ repeatL [120] 253) [[97], [121]] = true := by decide +kernel
set_option maxRecDepth 100000 in
theorem badl : ∀ q ∈ ([[], [120], [60], [60, 62], [60, 95, 62], [60, 97, 32, 98, 62], [60, 95, 62, 32, 60, 95, 62], [60, 97, 62, 60, 95, 62], [60, 95, 62, 60, 97, 62], [60, 97, 62, 120, 60, 98, 62, 120, 60, 97, 62], [60] ++ repeatL [110] 64 ++ [110, 62], [60, 97, 62] ++ repeatL [120] 253 ++ [120], [60, 57, 62], [60, 195, 169, 62]] : List BL), failsP q = true := by decide +kernel
theorem nk0 : noneP (⟨#[60, 97, 62, 120]⟩ : ByteArray).data.toList (⟨#[97, 98, 99]⟩ : ByteArray).data.toList = true := by decide
theorem nk1 : noneP (⟨#[97, 98, 60, 97, 62]⟩ : ByteArray).data.toList (⟨#[97]⟩ : ByteArray).data.toList = true := by decide
theorem nk2 : noneP (⟨#[60, 97, 62, 120, 60, 98, 62, 121]⟩ : ByteArray).data.toList (⟨#[49, 121, 50, 120]⟩ : ByteArray).data.toList = true := by decide
theorem nm_tells (nm : ByteArray) (h : nm.data.toList = repeatL [110] 64) : tellsP (((⟨#[60]⟩ : ByteArray) ++ nm) ++ (⟨#[62]⟩ : ByteArray)).data.toList (⟨#[118]⟩ : ByteArray).data.toList (([nm, (⟨#[118]⟩ : ByteArray)] : List ByteArray).map bl) = true := by
  rw [lk_app, lk_app, h]
  show tellsP _ _ [nm.data.toList, [118]] = true
  rw [h]
  exact tk8l
theorem lg_tells (xs ys : ByteArray) (h : xs.data.toList = repeatL [120] 253) (h' : ys.data.toList = repeatL [120] 253) : tellsP ((⟨#[60, 97, 62]⟩ : ByteArray) ++ xs).data.toList ((⟨#[121]⟩ : ByteArray) ++ ys).data.toList (([(⟨#[97]⟩ : ByteArray), (⟨#[121]⟩ : ByteArray)] : List ByteArray).map bl) = true := by
  rw [lk_app, lk_app, h, h']
  exact tk11l
set_option maxHeartbeats 32000000 in
set_option maxRecDepth 100000 in
theorem known_calls (w : World) (m : Int) (hm : w.cell? ⟨0, 0, none⟩ = some (.int .i64 m)) : Calls Try.prog 5 #[] w fun e w' => e = .returned (.bool true) ∧ Below w.heap.size w w' := by
  have HM0 := Aside0.mk hm
  have HB0 := Aside0.mk (Below.refl w.heap.size w)
  clear hm
  go_enter Try.func5, Try.ntmps5
  go_wp2_with fail
  refine (repeat_calls 64 110 (by omega) (by omega) _).mono ?_
  rintro e w1 ⟨⟨nm, rfl, hnm, znm⟩, hb⟩
  have HNM := Aside0.mk hnm
  clear hnm
  have HB1 := Aside0.mk (below_then HB0.out hb)
  have HM1 := Aside0.mk (cell_bl hb HM0.out)
  clear hb HB0 HM0
  go_wp2_with fail
  refine (repeat_calls 253 120 (by omega) (by omega) _).mono ?_
  rintro e w2 ⟨⟨xs, rfl, hxs, zxs⟩, hb⟩
  have HXS := Aside0.mk hxs
  clear hxs
  have HB2 := Aside0.mk (below_then HB1.out hb)
  have HM2 := Aside0.mk (cell_bl hb HM1.out)
  clear hb HB1 HM1
  go_wp2_with fail
  have hc := tells_calls (⟨#[60, 97]⟩ : ByteArray) (⟨#[120]⟩ : ByteArray) [] 0 _ _ (by decide) (by decide) m HM2.out (rowT_none w2)
  rw [tk0] at hc
  refine hc.mono ?_
  clear hc
  rintro e w3 ⟨rfl, hb⟩
  have HB3 := Aside0.mk (below_then HB2.out hb)
  have HM3 := Aside0.mk (cell_bl hb HM2.out)
  clear hb HB2 HM2
  go_wp2_with fail
  have hc := tells_calls (⟨#[60, 60, 97, 62, 62]⟩ : ByteArray) (⟨#[60, 120, 62]⟩ : ByteArray) [(⟨#[97]⟩ : ByteArray), (⟨#[120]⟩ : ByteArray)] 0 _ _ (by decide) (by decide) m (cell_bl (below_alloc (Below.refl _ _) (.cells #[.string (⟨#[97]⟩ : ByteArray), .string (⟨#[120]⟩ : ByteArray)] 9)) HM3.out) (rowT_lit w3 [(⟨#[97]⟩ : ByteArray), (⟨#[120]⟩ : ByteArray)] #[.string (⟨#[97]⟩ : ByteArray), .string (⟨#[120]⟩ : ByteArray)] rfl (by simp only [List.length_cons, List.length_nil]; omega))
  rw [tk1] at hc
  refine hc.mono ?_
  clear hc
  rintro e w4 ⟨rfl, hb⟩
  have HB4 := Aside0.mk (below_then (below_alloc HB3.out (.cells #[.string (⟨#[97]⟩ : ByteArray), .string (⟨#[120]⟩ : ByteArray)] 9)) hb)
  have HM4 := Aside0.mk (cell_bl hb (cell_bl (below_alloc (Below.refl _ _) (.cells #[.string (⟨#[97]⟩ : ByteArray), .string (⟨#[120]⟩ : ByteArray)] 9)) HM3.out))
  clear hb HB3 HM3
  go_wp2_with fail
  have hc := tells_calls (⟨#[60, 97, 45, 98, 62, 60, 99, 62]⟩ : ByteArray) (⟨#[60, 97, 45, 98, 62, 49]⟩ : ByteArray) [(⟨#[99]⟩ : ByteArray), (⟨#[49]⟩ : ByteArray)] 0 _ _ (by decide) (by decide) m (cell_bl (below_alloc (Below.refl _ _) (.cells #[.string (⟨#[99]⟩ : ByteArray), .string (⟨#[49]⟩ : ByteArray)] 9)) HM4.out) (rowT_lit w4 [(⟨#[99]⟩ : ByteArray), (⟨#[49]⟩ : ByteArray)] #[.string (⟨#[99]⟩ : ByteArray), .string (⟨#[49]⟩ : ByteArray)] rfl (by simp only [List.length_cons, List.length_nil]; omega))
  rw [tk2] at hc
  refine hc.mono ?_
  clear hc
  rintro e w5 ⟨rfl, hb⟩
  have HB5 := Aside0.mk (below_then (below_alloc HB4.out (.cells #[.string (⟨#[99]⟩ : ByteArray), .string (⟨#[49]⟩ : ByteArray)] 9)) hb)
  have HM5 := Aside0.mk (cell_bl hb (cell_bl (below_alloc (Below.refl _ _) (.cells #[.string (⟨#[99]⟩ : ByteArray), .string (⟨#[49]⟩ : ByteArray)] 9)) HM4.out))
  clear hb HB4 HM4
  go_wp2_with fail
  have hc := tells_calls (⟨#[60, 60, 62]⟩ : ByteArray) (⟨#[]⟩ : ByteArray) [] 0 _ _ (by decide) (by decide) m HM5.out (rowT_none w5)
  rw [tk3] at hc
  refine hc.mono ?_
  clear hc
  rintro e w6 ⟨rfl, hb⟩
  have HB6 := Aside0.mk (below_then HB5.out hb)
  have HM6 := Aside0.mk (cell_bl hb HM5.out)
  clear hb HB5 HM5
  go_wp2_with fail
  have hc := tells_calls (⟨#[60, 97, 62, 62]⟩ : ByteArray) (⟨#[120, 62]⟩ : ByteArray) [(⟨#[97]⟩ : ByteArray), (⟨#[120]⟩ : ByteArray)] 0 _ _ (by decide) (by decide) m (cell_bl (below_alloc (Below.refl _ _) (.cells #[.string (⟨#[97]⟩ : ByteArray), .string (⟨#[120]⟩ : ByteArray)] 9)) HM6.out) (rowT_lit w6 [(⟨#[97]⟩ : ByteArray), (⟨#[120]⟩ : ByteArray)] #[.string (⟨#[97]⟩ : ByteArray), .string (⟨#[120]⟩ : ByteArray)] rfl (by simp only [List.length_cons, List.length_nil]; omega))
  rw [tk4] at hc
  refine hc.mono ?_
  clear hc
  rintro e w7 ⟨rfl, hb⟩
  have HB7 := Aside0.mk (below_then (below_alloc HB6.out (.cells #[.string (⟨#[97]⟩ : ByteArray), .string (⟨#[120]⟩ : ByteArray)] 9)) hb)
  have HM7 := Aside0.mk (cell_bl hb (cell_bl (below_alloc (Below.refl _ _) (.cells #[.string (⟨#[97]⟩ : ByteArray), .string (⟨#[120]⟩ : ByteArray)] 9)) HM6.out))
  clear hb HB6 HM6
  go_wp2_with fail
  have hc := tells_calls (⟨#[120, 60, 95, 62, 121, 60, 97, 62]⟩ : ByteArray) (⟨#[120, 49, 121, 50]⟩ : ByteArray) [(⟨#[97]⟩ : ByteArray), (⟨#[50]⟩ : ByteArray)] 0 _ _ (by decide) (by decide) m (cell_bl (below_alloc (Below.refl _ _) (.cells #[.string (⟨#[97]⟩ : ByteArray), .string (⟨#[50]⟩ : ByteArray)] 9)) HM7.out) (rowT_lit w7 [(⟨#[97]⟩ : ByteArray), (⟨#[50]⟩ : ByteArray)] #[.string (⟨#[97]⟩ : ByteArray), .string (⟨#[50]⟩ : ByteArray)] rfl (by simp only [List.length_cons, List.length_nil]; omega))
  rw [tk5] at hc
  refine hc.mono ?_
  clear hc
  rintro e w8 ⟨rfl, hb⟩
  have HB8 := Aside0.mk (below_then (below_alloc HB7.out (.cells #[.string (⟨#[97]⟩ : ByteArray), .string (⟨#[50]⟩ : ByteArray)] 9)) hb)
  have HM8 := Aside0.mk (cell_bl hb (cell_bl (below_alloc (Below.refl _ _) (.cells #[.string (⟨#[97]⟩ : ByteArray), .string (⟨#[50]⟩ : ByteArray)] 9)) HM7.out))
  clear hb HB7 HM7
  go_wp2_with fail
  have hc := tells_calls (⟨#[60, 97, 62, 32]⟩ : ByteArray) (⟨#[32]⟩ : ByteArray) [] 0 _ _ (by decide) (by decide) m HM8.out (rowT_none w8)
  rw [tk6] at hc
  refine hc.mono ?_
  clear hc
  rintro e w9 ⟨rfl, hb⟩
  have HB9 := Aside0.mk (below_then HB8.out hb)
  have HM9 := Aside0.mk (cell_bl hb HM8.out)
  clear hb HB8 HM8
  go_wp2_with fail
  have hc := tells_calls (⟨#[60, 97, 62, 32, 60, 95, 62]⟩ : ByteArray) (⟨#[49, 32, 50, 32, 51]⟩ : ByteArray) [(⟨#[97]⟩ : ByteArray), (⟨#[49]⟩ : ByteArray)] 0 _ _ (by decide) (by decide) m (cell_bl (below_alloc (Below.refl _ _) (.cells #[.string (⟨#[97]⟩ : ByteArray), .string (⟨#[49]⟩ : ByteArray)] 9)) HM9.out) (rowT_lit w9 [(⟨#[97]⟩ : ByteArray), (⟨#[49]⟩ : ByteArray)] #[.string (⟨#[97]⟩ : ByteArray), .string (⟨#[49]⟩ : ByteArray)] rfl (by simp only [List.length_cons, List.length_nil]; omega))
  rw [tk7] at hc
  refine hc.mono ?_
  clear hc
  rintro e w10 ⟨rfl, hb⟩
  have HB10 := Aside0.mk (below_then (below_alloc HB9.out (.cells #[.string (⟨#[97]⟩ : ByteArray), .string (⟨#[49]⟩ : ByteArray)] 9)) hb)
  have HM10 := Aside0.mk (cell_bl hb (cell_bl (below_alloc (Below.refl _ _) (.cells #[.string (⟨#[97]⟩ : ByteArray), .string (⟨#[49]⟩ : ByteArray)] 9)) HM9.out))
  clear hb HB9 HM9
  go_wp2_with fail
  have hc := tells_calls (((⟨#[60]⟩ : ByteArray) ++ nm) ++ (⟨#[62]⟩ : ByteArray)) (⟨#[118]⟩ : ByteArray) [nm, (⟨#[118]⟩ : ByteArray)] 0 _ _ (by simp only [ByteArray.size_append]; show 1 + nm.size + 1 < _; omega) (by decide) m (cell_bl (below_alloc (Below.refl _ _) (.cells #[.string nm, .string (⟨#[118]⟩ : ByteArray)] 9)) HM10.out) (rowT_lit w10 [nm, (⟨#[118]⟩ : ByteArray)] #[.string nm, .string (⟨#[118]⟩ : ByteArray)] rfl (by simp only [List.length_cons, List.length_nil]; omega))
  rw [nm_tells nm HNM.out] at hc
  refine hc.mono ?_
  clear hc
  rintro e w11 ⟨rfl, hb⟩
  have HB11 := Aside0.mk (below_then (below_alloc HB10.out (.cells #[.string nm, .string (⟨#[118]⟩ : ByteArray)] 9)) hb)
  have HM11 := Aside0.mk (cell_bl hb (cell_bl (below_alloc (Below.refl _ _) (.cells #[.string nm, .string (⟨#[118]⟩ : ByteArray)] 9)) HM10.out))
  clear hb HB10 HM10
  go_wp2_with fail
  have hc := tells_calls (⟨#[60, 98, 62, 44, 60, 97, 62]⟩ : ByteArray) (⟨#[49, 44, 50]⟩ : ByteArray) [(⟨#[97]⟩ : ByteArray), (⟨#[50]⟩ : ByteArray), (⟨#[98]⟩ : ByteArray), (⟨#[49]⟩ : ByteArray)] 0 _ _ (by decide) (by decide) m (cell_bl (below_alloc (Below.refl _ _) (.cells #[.string (⟨#[97]⟩ : ByteArray), .string (⟨#[50]⟩ : ByteArray), .string (⟨#[98]⟩ : ByteArray), .string (⟨#[49]⟩ : ByteArray)] 9)) HM11.out) (rowT_lit w11 [(⟨#[97]⟩ : ByteArray), (⟨#[50]⟩ : ByteArray), (⟨#[98]⟩ : ByteArray), (⟨#[49]⟩ : ByteArray)] #[.string (⟨#[97]⟩ : ByteArray), .string (⟨#[50]⟩ : ByteArray), .string (⟨#[98]⟩ : ByteArray), .string (⟨#[49]⟩ : ByteArray)] rfl (by simp only [List.length_cons, List.length_nil]; omega))
  rw [tk9] at hc
  refine hc.mono ?_
  clear hc
  rintro e w12 ⟨rfl, hb⟩
  have HB12 := Aside0.mk (below_then (below_alloc HB11.out (.cells #[.string (⟨#[97]⟩ : ByteArray), .string (⟨#[50]⟩ : ByteArray), .string (⟨#[98]⟩ : ByteArray), .string (⟨#[49]⟩ : ByteArray)] 9)) hb)
  have HM12 := Aside0.mk (cell_bl hb (cell_bl (below_alloc (Below.refl _ _) (.cells #[.string (⟨#[97]⟩ : ByteArray), .string (⟨#[50]⟩ : ByteArray), .string (⟨#[98]⟩ : ByteArray), .string (⟨#[49]⟩ : ByteArray)] 9)) HM11.out))
  clear hb HB11 HM11
  go_wp2_with fail
  have hc := tells_calls (⟨#[60, 95, 62, 97, 60, 120, 62, 97, 60, 95, 62]⟩ : ByteArray) (⟨#[49, 97, 50, 97, 51, 97, 52]⟩ : ByteArray) [(⟨#[120]⟩ : ByteArray), (⟨#[50]⟩ : ByteArray)] 0 _ _ (by decide) (by decide) m (cell_bl (below_alloc (Below.refl _ _) (.cells #[.string (⟨#[120]⟩ : ByteArray), .string (⟨#[50]⟩ : ByteArray)] 9)) HM12.out) (rowT_lit w12 [(⟨#[120]⟩ : ByteArray), (⟨#[50]⟩ : ByteArray)] #[.string (⟨#[120]⟩ : ByteArray), .string (⟨#[50]⟩ : ByteArray)] rfl (by simp only [List.length_cons, List.length_nil]; omega))
  rw [tk10] at hc
  refine hc.mono ?_
  clear hc
  rintro e w13 ⟨rfl, hb⟩
  have HB13 := Aside0.mk (below_then (below_alloc HB12.out (.cells #[.string (⟨#[120]⟩ : ByteArray), .string (⟨#[50]⟩ : ByteArray)] 9)) hb)
  have HM13 := Aside0.mk (cell_bl hb (cell_bl (below_alloc (Below.refl _ _) (.cells #[.string (⟨#[120]⟩ : ByteArray), .string (⟨#[50]⟩ : ByteArray)] 9)) HM12.out))
  clear hb HB12 HM12
  go_wp2_with fail
  refine (repeat_calls 253 120 (by omega) (by omega) _).mono ?_
  rintro e w14 ⟨⟨ys, rfl, hys, zys⟩, hb⟩
  have HYS := Aside0.mk hys
  clear hys
  have HB14 := Aside0.mk (below_then HB13.out hb)
  have HM14 := Aside0.mk (cell_bl hb HM13.out)
  clear hb HB13 HM13
  go_wp2_with fail
  have hc := tells_calls ((⟨#[60, 97, 62]⟩ : ByteArray) ++ xs) ((⟨#[121]⟩ : ByteArray) ++ ys) [(⟨#[97]⟩ : ByteArray), (⟨#[121]⟩ : ByteArray)] 0 _ _ (by simp only [ByteArray.size_append]; show 3 + xs.size < _; omega) (by simp only [ByteArray.size_append]; show 1 + ys.size < _; omega) m (cell_bl (below_alloc (Below.refl _ _) (.cells #[.string (⟨#[97]⟩ : ByteArray), .string (⟨#[121]⟩ : ByteArray)] 9)) HM14.out) (rowT_lit w14 [(⟨#[97]⟩ : ByteArray), (⟨#[121]⟩ : ByteArray)] #[.string (⟨#[97]⟩ : ByteArray), .string (⟨#[121]⟩ : ByteArray)] rfl (by simp only [List.length_cons, List.length_nil]; omega))
  rw [lg_tells xs ys HXS.out HYS.out] at hc
  refine hc.mono ?_
  clear hc
  rintro e w15 ⟨rfl, hb⟩
  have HB15 := Aside0.mk (below_then (below_alloc HB14.out (.cells #[.string (⟨#[97]⟩ : ByteArray), .string (⟨#[121]⟩ : ByteArray)] 9)) hb)
  have HM15 := Aside0.mk (cell_bl hb (cell_bl (below_alloc (Below.refl _ _) (.cells #[.string (⟨#[97]⟩ : ByteArray), .string (⟨#[121]⟩ : ByteArray)] 9)) HM14.out))
  clear hb HB14 HM14
  obtain ⟨bl_, hbl⟩ : ∃ b : List ByteArray, b = [(⟨#[]⟩ : ByteArray), (⟨#[120]⟩ : ByteArray), (⟨#[60]⟩ : ByteArray), (⟨#[60, 62]⟩ : ByteArray), (⟨#[60, 95, 62]⟩ : ByteArray), (⟨#[60, 97, 32, 98, 62]⟩ : ByteArray), (⟨#[60, 95, 62, 32, 60, 95, 62]⟩ : ByteArray), (⟨#[60, 97, 62, 60, 95, 62]⟩ : ByteArray), (⟨#[60, 95, 62, 60, 97, 62]⟩ : ByteArray), (⟨#[60, 97, 62, 120, 60, 98, 62, 120, 60, 97, 62]⟩ : ByteArray), (((⟨#[60]⟩ : ByteArray) ++ nm) ++ (⟨#[110, 62]⟩ : ByteArray)), (((⟨#[60, 97, 62]⟩ : ByteArray) ++ xs) ++ (⟨#[120]⟩ : ByteArray)), (⟨#[60, 57, 62]⟩ : ByteArray), (⟨#[60, 195, 169, 62]⟩ : ByteArray)] := ⟨_, rfl⟩
  have hbad : ∀ q ∈ bl_, failsP q.data.toList = true ∧ q.size < 1099511627776 := by
    have hf : ∀ q ∈ bl_.map (fun b => b.data.toList), failsP q = true := by
      rw [hbl]
      simp only [List.map_cons, List.map_nil, lk_app, HNM.out, HXS.out]
      exact badl
    have hz : ∀ q ∈ bl_, q.size < 1099511627776 := by
      rw [hbl]
      intro q hq
      simp only [List.mem_cons, List.not_mem_nil, or_false] at hq
      rcases hq with rfl | rfl | rfl | rfl | rfl | rfl | rfl | rfl | rfl | rfl | rfl | rfl | rfl | rfl <;> first | decide | (simp only [ByteArray.size_append]; have h1 := znm; have h2 := zxs; first | (show 1 + nm.size + 2 < _; omega) | (show 3 + xs.size + 1 < _; omega))
    exact fun q hq => ⟨hf _ (List.mem_map_of_mem hq), hz q hq⟩
  have hbl14 : bl_.length = 14 := by rw [hbl]; rfl
  have HBAD := Aside0.mk hbad
  clear hbad
  have hrow := rowT_lit w15 bl_ #[.string (⟨#[]⟩ : ByteArray), .string (⟨#[120]⟩ : ByteArray), .string (⟨#[60]⟩ : ByteArray), .string (⟨#[60, 62]⟩ : ByteArray), .string (⟨#[60, 95, 62]⟩ : ByteArray), .string (⟨#[60, 97, 32, 98, 62]⟩ : ByteArray), .string (⟨#[60, 95, 62, 32, 60, 95, 62]⟩ : ByteArray), .string (⟨#[60, 97, 62, 60, 95, 62]⟩ : ByteArray), .string (⟨#[60, 95, 62, 60, 97, 62]⟩ : ByteArray), .string (⟨#[60, 97, 62, 120, 60, 98, 62, 120, 60, 97, 62]⟩ : ByteArray), .string (((⟨#[60]⟩ : ByteArray) ++ nm) ++ (⟨#[110, 62]⟩ : ByteArray)), .string (((⟨#[60, 97, 62]⟩ : ByteArray) ++ xs) ++ (⟨#[120]⟩ : ByteArray)), .string (⟨#[60, 57, 62]⟩ : ByteArray), .string (⟨#[60, 195, 169, 62]⟩ : ByteArray)] (by rw [hbl]; rfl) (by omega)
  rw [hbl14] at hrow
  have HROW := Aside0.mk hrow
  have HL14 := Aside0.mk hbl14
  clear hrow hbl hbl14
  have HBb := Aside0.mk (below_alloc HB15.out (.cells #[.string (⟨#[]⟩ : ByteArray), .string (⟨#[120]⟩ : ByteArray), .string (⟨#[60]⟩ : ByteArray), .string (⟨#[60, 62]⟩ : ByteArray), .string (⟨#[60, 95, 62]⟩ : ByteArray), .string (⟨#[60, 97, 32, 98, 62]⟩ : ByteArray), .string (⟨#[60, 95, 62, 32, 60, 95, 62]⟩ : ByteArray), .string (⟨#[60, 97, 62, 60, 95, 62]⟩ : ByteArray), .string (⟨#[60, 95, 62, 60, 97, 62]⟩ : ByteArray), .string (⟨#[60, 97, 62, 120, 60, 98, 62, 120, 60, 97, 62]⟩ : ByteArray), .string (((⟨#[60]⟩ : ByteArray) ++ nm) ++ (⟨#[110, 62]⟩ : ByteArray)), .string (((⟨#[60, 97, 62]⟩ : ByteArray) ++ xs) ++ (⟨#[120]⟩ : ByteArray)), .string (⟨#[60, 57, 62]⟩ : ByteArray), .string (⟨#[60, 195, 169, 62]⟩ : ByteArray)] 9))
  have HMb := Aside0.mk (cell_bl (below_alloc (Below.refl _ _) (.cells #[.string (⟨#[]⟩ : ByteArray), .string (⟨#[120]⟩ : ByteArray), .string (⟨#[60]⟩ : ByteArray), .string (⟨#[60, 62]⟩ : ByteArray), .string (⟨#[60, 95, 62]⟩ : ByteArray), .string (⟨#[60, 97, 32, 98, 62]⟩ : ByteArray), .string (⟨#[60, 95, 62, 32, 60, 95, 62]⟩ : ByteArray), .string (⟨#[60, 97, 62, 60, 95, 62]⟩ : ByteArray), .string (⟨#[60, 95, 62, 60, 97, 62]⟩ : ByteArray), .string (⟨#[60, 97, 62, 120, 60, 98, 62, 120, 60, 97, 62]⟩ : ByteArray), .string (((⟨#[60]⟩ : ByteArray) ++ nm) ++ (⟨#[110, 62]⟩ : ByteArray)), .string (((⟨#[60, 97, 62]⟩ : ByteArray) ++ xs) ++ (⟨#[120]⟩ : ByteArray)), .string (⟨#[60, 57, 62]⟩ : ByteArray), .string (⟨#[60, 195, 169, 62]⟩ : ByteArray)] 9)) HM15.out)
  go_wp2_with fail
  generalize hwb : w15.alloc (.cells #[.string (⟨#[]⟩ : ByteArray), .string (⟨#[120]⟩ : ByteArray), .string (⟨#[60]⟩ : ByteArray), .string (⟨#[60, 62]⟩ : ByteArray), .string (⟨#[60, 95, 62]⟩ : ByteArray), .string (⟨#[60, 97, 32, 98, 62]⟩ : ByteArray), .string (⟨#[60, 95, 62, 32, 60, 95, 62]⟩ : ByteArray), .string (⟨#[60, 97, 62, 60, 95, 62]⟩ : ByteArray), .string (⟨#[60, 95, 62, 60, 97, 62]⟩ : ByteArray), .string (⟨#[60, 97, 62, 120, 60, 98, 62, 120, 60, 97, 62]⟩ : ByteArray), .string (((⟨#[60]⟩ : ByteArray) ++ nm) ++ (⟨#[110, 62]⟩ : ByteArray)), .string (((⟨#[60, 97, 62]⟩ : ByteArray) ++ xs) ++ (⟨#[120]⟩ : ByteArray)), .string (⟨#[60, 57, 62]⟩ : ByteArray), .string (⟨#[60, 195, 169, 62]⟩ : ByteArray)] 9) = wb at HROW HBb HMb ⊢
  clear hwb
  go_loopg [5] 14 (fun g1 v5 wr => ∃ k : Nat, v5 = .int .i64 k ∧ Aside0 (k + g1 = 14) ∧ Aside0 (Below wb.heap.size wb wr))
  case atStart => exact ⟨0, rfl, ⟨rfl⟩, ⟨Below.refl _ _⟩⟩
  case round =>
    obtain ⟨k, rfl, HK, HB⟩ := hrel
    by_cases hlt : k < 14
    · have hz : (k : Int) < 14 := by omega
      have e1 : IntKind.i64.wrap ((k : Int) + 1) = ((k + 1 : Nat) : Int) := (i64_w _).trans ((w64 (by omega) (by omega)).trans (by omega))
      obtain ⟨q, hq⟩ : ∃ q, bl_[k]? = some q := ⟨bl_[k]'(by rw [HL14.out]; exact hlt), List.getElem?_eq_getElem _⟩
      obtain ⟨g, hg, -, hq0⟩ := rowT_get HROW.out hq
      cases hg
      have c0 := cell_bl HB.out hq0
      obtain ⟨hf, hzq⟩ := HBAD.out q (List.mem_of_getElem? hq)
      have hc := fun W => fails_calls q W hzq
      rw [hf] at hc
      clear hq hf hq0
      go_wp2_with (first | (go_at_call 23; refine (hc _).mono ?_; rintro e w' ⟨rfl, hb⟩; have HBn := Aside0.mk (below_then HB.out hb); clear hb))
      go_roundg (14 - (k + 1))
      case measure => have := HK.out; omega
      case rel => exact ⟨k + 1, by first | rfl | rw [e1], ⟨by have := HK.out; omega⟩, HBn⟩
    · have hz : ¬ (k : Int) < 14 := by omega
      go_wp2_with fail
      go_loopg [6, 7] 2 (fun g1 v6 v7 wr => ∃ k : Nat, v7 = .int .i64 k ∧ Aside0 (k + g1 = 2) ∧ (k = 0 ∧ v6 = .pointer none ∨ k ≠ 0 ∧ CutsAt wb.heap.size wr v6 ⟨#[]⟩ []) ∧ Aside0 (Below wb.heap.size wb wr))
      case atStart => exact ⟨0, rfl, ⟨rfl⟩, .inl ⟨rfl, rfl⟩, HB⟩
      case round =>
        clear HB HK hz hlt
        obtain ⟨k, rfl, HK, hv, HB⟩ := hrel
        have HMr := Aside0.mk (cell_bl HB.out HMb.out)
        rcases hv with ⟨rfl, rfl⟩ | ⟨hk0, hca⟩
        · go_wp2_with (first | (go_at_call 11; refine (match_nil _ _).mono ?_; rintro e w' ⟨rfl, hw⟩; subst w') | (go_at_call 15; refine (names_nil _).mono ?_; rintro e w' ⟨rfl, hw⟩; subst w'))
          have HZ := Aside0.mk HB.out.size
          go_roundg 1
          case measure => have := HK.out; omega
          case rel => exact ⟨1, rfl, ⟨rfl⟩, .inr ⟨by omega, _, .slice none 0 0, rfl, HZ.out, World.alloc_heap_new _ _, rfl, .inl ⟨rfl, rfl⟩⟩, ⟨below_alloc HB.out _⟩⟩
        · by_cases hlt : k < 2
          · obtain rfl : k = 1 := by omega
            have hmn := match_none _ _ _ _ _ hca (by decide) (by decide) ⟨#[]⟩ (by decide) m HMr.out rfl
            have HCA := Aside0.mk hca
            obtain ⟨gz, uz, rfl, -⟩ := hca
            clear hk0 hlt
            go_wp2_with fail
            refine hmn.mono ?_
            rintro e wx ⟨rfl, hb⟩
            have HBx := Aside0.mk (below_then HB.out hb)
            have hn := names_calls wx wb.heap.size _ ⟨#[]⟩ [] (HCA.out.kb (Kb.of_below (S := fun _ => False) hb) (fun _ _ h => h)) (by decide)
            clear hb hmn
            go_wp2_with fail
            refine hn.mono ?_
            rintro e wy ⟨⟨un, rfl, hu⟩, hb⟩
            have hun : ∃ A c, un = .slice A 0 c := by
              obtain ⟨A, c, h1, -⟩ := own_slice hu
              exact ⟨A, c, h1⟩
            obtain ⟨An, cn, rfl⟩ := hun
            have HBy := Aside0.mk (below_then HBx.out hb)
            clear hb hu hn
            go_wp2_with fail
            have HZ := Aside0.mk HBy.out.size
            go_roundg 0
            case measure => have := HK.out; omega
            case rel => exact ⟨2, rfl, ⟨rfl⟩, .inr ⟨by omega, _, .slice none 0 0, rfl, HZ.out, World.alloc_heap_new _ _, rfl, .inl ⟨rfl, rfl⟩⟩, ⟨below_alloc HBy.out _⟩⟩
          · obtain rfl : k = 2 := by have := HK.out; omega
            clear hk0 hca hlt
            have HBF := Aside0.mk (below_then HBb.out HB.out)
            go_wp2_with fail
            refine (works_calls _ m HMr.out).mono ?_
            rintro e x1 ⟨rfl, hb⟩
            have HB1 := Aside0.mk (below_then HBF.out hb)
            have HM1 := Aside0.mk (cell_bl hb HMr.out)
            clear hb
            go_wp2_with fail
            have hc := none_calls (⟨#[60, 97, 62, 120]⟩ : ByteArray) (⟨#[97, 98, 99]⟩ : ByteArray) _ (by decide) (by decide) m HM1.out
            rw [nk0] at hc
            refine hc.mono ?_
            clear hc
            rintro e x2 ⟨rfl, hb⟩
            have HB2 := Aside0.mk (below_then HB1.out hb)
            have HM2 := Aside0.mk (cell_bl hb HM1.out)
            clear hb
            go_wp2_with fail
            have hc := none_calls (⟨#[97, 98, 60, 97, 62]⟩ : ByteArray) (⟨#[97]⟩ : ByteArray) _ (by decide) (by decide) m HM2.out
            rw [nk1] at hc
            refine hc.mono ?_
            clear hc
            rintro e x3 ⟨rfl, hb⟩
            have HB3 := Aside0.mk (below_then HB2.out hb)
            have HM3 := Aside0.mk (cell_bl hb HM2.out)
            clear hb
            go_wp2_with fail
            have hc := none_calls (⟨#[60, 97, 62, 120, 60, 98, 62, 121]⟩ : ByteArray) (⟨#[49, 121, 50, 120]⟩ : ByteArray) _ (by decide) (by decide) m HM3.out
            rw [nk2] at hc
            refine hc.mono ?_
            clear hc
            rintro e x4 ⟨rfl, hb⟩
            have HB4 := Aside0.mk (below_then HB3.out hb)
            have HM4 := Aside0.mk (cell_bl hb HM3.out)
            clear hb
            go_wp2_with fail
            go_ret
            exact ⟨rfl, HB4.out⟩
end Go.Proofs.Ytpobgpfkohlokaa.PC
