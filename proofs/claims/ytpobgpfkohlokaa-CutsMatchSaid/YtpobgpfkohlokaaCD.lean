/- cuts.parts: what is ahead of each part, and its name; the iterator's contract. -/
import Derived.Test.YtpobgpfkohlokaaCC
import Derived.Sort.LoopGhostIn
namespace Go.Proofs.Ytpobgpfkohlokaa.PC
open Go.RowKit Go.Lib Go.Shelf Go.Proofs.YtpobgpfkohlokaaW.PrintWords Go.Proofs.YtpobgpfkohlokaaW.PrintLast Go.Proofs.YtpobgpfkohlokaaW.PrintMore
set_option linter.unusedVariables false
set_option linter.unusedSimpArgs false
attribute [local go_sem] Oper.semAt_some
/-- What stands ahead of each part, and its name; behind the last one no name. -/
def partsP : Nat → List UInt8 → List (List UInt8 × List UInt8)
  | 0, s => [(s, [])]
  | f + 1, s => match firstP s with
    | none => [(s, [])]
    | some p => (s.take p.1, p.2) :: partsP f (s.drop (p.1 + p.2.length + 2))
/-- Two texts of at most 256 bytes. -/
abbrev Y2 := { p : ByteArray × ByteArray // p.1.size ≤ 256 ∧ p.2.size ≤ 256 }
def encY (x : Y2) : Array Value := #[.string x.1.1, .string x.1.2]
def plY (x : Y2) : List UInt8 × List UInt8 := (x.1.1.data.toList, x.1.2.data.toList)
theorem partsP_none {f : Nat} {s : List UInt8} (h : firstP s = none) : partsP f s = [(s, [])] := by
  cases f with
  | zero => rfl
  | succ f => unfold partsP; rw [h]
theorem firstP_len : ∀ {s : List UInt8} {p : Nat × List UInt8}, firstP s = some p → p.1 + p.2.length + 2 ≤ s.length
  | [], p, h => by cases h
  | b :: t, p, h => by
    unfold firstP at h
    cases hp : partAt (b :: t) with
    | none =>
      rw [hp] at h
      dsimp only at h
      cases hf : firstP t with
      | none => rw [hf] at h; cases h
      | some q =>
        rw [hf] at h
        have := firstP_len hf
        cases h
        show q.1 + 1 + q.2.length + 2 ≤ t.length + 1
        omega
    | some n =>
      rw [hp] at h
      dsimp only at h
      cases h
      have hp : (if b = 60 ∧ (cut1 t 62).2.2 = true ∧ ((cut1 t 62).1 = [95] ∨ isNameB (cut1 t 62).1 = true) then some (cut1 t 62).1 else none) = some n := hp
      by_cases hc : b = 60 ∧ (cut1 t 62).2.2 = true ∧ ((cut1 t 62).1 = [95] ∨ isNameB (cut1 t 62).1 = true)
      · rw [if_pos hc] at hp
        have e : (cut1 t 62).1 = n := Option.some.inj hp
        have := cut1_len t 62 hc.2.1
        rw [e] at this
        show 0 + n.length + 2 ≤ t.length + 1
        omega
      · rw [if_neg hc] at hp; cases hp
theorem partsP_enough : ∀ (f : Nat) (l : List UInt8), l.length < f → ∀ g, l.length < g → partsP f l = partsP g l
  | 0, l, h, _, _ => by omega
  | f + 1, l, h, 0, h2 => by omega
  | f + 1, l, h, g + 1, h2 => by
    unfold partsP
    cases hp : firstP l with
    | none => rfl
    | some p =>
      have := firstP_len hp
      dsimp only
      rw [partsP_enough f _ (by rw [List.length_drop]; omega) g (by rw [List.length_drop]; omega)]
def partsA (l : List UInt8) : List (List UInt8 × List UInt8) := partsP (l.length + 1) l
theorem partsA_none {l : List UInt8} (h : firstP l = none) : partsA l = [(l, [])] := partsP_none h
theorem partsA_some {l : List UInt8} {p : Nat × List UInt8} (h : firstP l = some p) : partsA l = (l.take p.1, p.2) :: partsA (l.drop (p.1 + p.2.length + 2)) := by
  have := firstP_len h
  conv => lhs; unfold partsA partsP; rw [h]
  dsimp only
  unfold partsA
  rw [partsP_enough l.length _ (by rw [List.length_drop]; omega) _ (Nat.lt_succ_self _)]
theorem cell_bl {w w' : World} {a : Addr} {v : Value} (hb : Below w.heap.size w w') (hc : w.cell? a = some v) : w'.cell? a = some v := by
  have := hb.block a.block (World.block_lt_of_cell? w a hc)
  simpa [World.cell?, this] using hc
theorem frozen_bl {w w' : World} {a : Addr} {v : Value} (hb : Below w.heap.size w w') (hc : w.cell? a = some v) : w'.frozen? a = w.frozen? a := by
  have := hb.block a.block (World.block_lt_of_cell? w a hc)
  simp [World.frozen?, this]
theorem partsP_len : ∀ (f : Nat) (l : List UInt8), (partsP f l).length ≤ f + 1
  | 0, l => Nat.le_refl _
  | f + 1, l => by
    unfold partsP
    cases firstP l with
    | none => show 1 ≤ _; omega
    | some p => exact Nat.succ_le_succ (partsP_len f _)
theorem partsA_len : ∀ (n : Nat) (l : List UInt8), l.length ≤ n → (partsA l).length ≤ l.length + 1
  | 0, l, h => by
    have : l = [] := List.eq_nil_of_length_eq_zero (by omega)
    subst this
    exact Nat.le_refl _
  | n + 1, l, h => by
    cases hp : firstP l with
    | none => rw [partsA_none hp]; show 1 ≤ _; omega
    | some p =>
      have h2 := firstP_len hp
      rw [partsA_some hp]
      have := partsA_len n (l.drop (p.1 + p.2.length + 2)) (by rw [List.length_drop]; omega)
      rw [List.length_drop] at this
      show _ + 1 ≤ _
      omega
theorem partsA_pos (l : List UInt8) : 0 < (partsA l).length := by
  cases hp : firstP l with
  | none => rw [partsA_none hp]; exact Nat.zero_lt_one
  | some p => rw [partsA_some hp]; exact Nat.zero_lt_succ _
set_option maxHeartbeats 8000000 in
set_option maxRecDepth 100000 in
theorem parts_feeds (s : ByteArray) (hs : s.size ≤ 256) (b0 n : Nat) : Feeds Try.prog n 53 #[.pointer (some ⟨b0, 0, none⟩)] encY b0 (Kb (fun k => k = b0)) (fun W => Boxed W b0 9 (.string s)) (fun xs => xs.map plY = partsA s.data.toList) (fun pre => ∃ rest, pre.map plY ++ rest = partsA s.data.toList) 257 := by
  rintro l J Jx hJK hY W hJ0 hb0'
  have hb0 := Aside0.mk hb0'
  clear hb0'
  refine callsIn_of_wp Try.func53 rfl trivial ?_ rfl
  simp only [Try.ntmps53, List.size_toArray, List.length_cons, List.length_nil, Nat.reduceAdd, Nat.reduceSub, Array.replicate_succ, Array.replicate_zero, List.push_toArray, List.append_toArray, List.nil_append, List.cons_append]
  gi_wp2
  gi_loopg [] s.size (fun g1 wr => ∃ (s1 : ByteArray) (pre : List Y2), Aside0 (s1.size ≤ 256 ∧ s1.size ≤ g1) ∧ Aside0 (Boxed wr b0 9 (.string s1)) ∧ Aside0 (J pre wr) ∧ Aside0 (pre.map plY ++ partsA s1.data.toList = partsA s.data.toList))
  case atStart => exact ⟨s, [], ⟨hs, Nat.le_refl _⟩, hb0, ⟨hJ0⟩, ⟨rfl⟩⟩
  case round =>
    obtain ⟨s1, pre, HS, HX, HJ, HP⟩ := hrel
    have hbx := HX.out.cell
    have hfx := HX.out.frozen
    have HLT := Aside0.mk (show pre.length < 257 by
      have h1 := congrArg List.length HP.out
      have h2 := partsA_pos s1.data.toList
      have h3 := partsA_len _ s.data.toList (Nat.le_refl _)
      rw [data_length] at h3
      rw [List.length_append, List.length_map] at h1
      omega)
    have HF := Aside0.mk (first_calls s1 wr (by have := HS.out; omega))
    gi_wp2_with fail
    refine ⟨trivial, fun h => (by cases h), (callsIn_wide.2 HF.out).mono ?_⟩
    rintro e w1 ⟨(⟨hn, rfl⟩ | ⟨fr, nm, hp, hfl, rfl⟩), hb⟩
    · have HB := Aside0.mk hb
      have HN := Aside0.mk hn
      have hbx1 : w1.cell? ⟨b0, 0, none⟩ = some (.string s1) := cell_bl HB.out hbx
      clear hb hn HF
      obtain ⟨fn, tmps, assign, body, hy, hR⟩ := hY pre ⟨(s1, ⟨#[]⟩), HS.out.1, Nat.zero_le _⟩ w1 (hJK _ _ _ HJ.out (Kb.of_below HB.out)) HLT.out
      dsimp only [encY] at hy
      have HR := Aside0.mk hR
      clear hR
      gi_wp2
      refine ⟨fun h => (by cases h), HR.out.mono ?_⟩
      rintro e W3 (⟨rfl, hJ3, -⟩ | ⟨rfl, hJx3⟩)
      · have H3 := Aside0.mk hJ3
        clear hJ3
        gi_wp2
        refine bodyPost_ret (results_none rfl _ _ _) rfl ?_
        exact ⟨⟨_, rfl⟩, .inl ⟨_, by rw [List.map_append, ← HP.out, partsA_none HN.out]; rfl, H3.out⟩⟩
      · have H3 := Aside0.mk hJx3
        clear hJx3
        gi_wp2
        refine bodyPost_ret (results_none rfl _ _ _) rfl ?_
        exact ⟨⟨_, rfl⟩, .inr ⟨_, ⟨[], by rw [List.append_nil, List.map_append, ← HP.out, partsA_none HN.out]; rfl⟩, H3.out⟩⟩
    · have HB := Aside0.mk hb
      have HN := Aside0.mk (And.intro hp hfl)
      have hbx1 : w1.cell? ⟨b0, 0, none⟩ = some (.string s1) := cell_bl HB.out hbx
      have hfx1 : w1.frozen? ⟨b0, 0, none⟩ = false := (frozen_bl HB.out hbx).trans hfx
      have hf1 : (fr : Int) ≤ (s1.size : Int) := by omega
      have hf2 : fr ≤ s1.size := by omega
      have ht1 : (fr : Int) + 1 + (nm.size : Int) + 1 ≤ (s1.size : Int) := by omega
      have ht2 : fr + 1 + nm.size + 1 ≤ s1.size := by omega
      have hs1 := HS.out
      clear hb hp HF
      obtain ⟨x, hx⟩ : ∃ x : Y2, x.1 = (s1.extract 0 fr, nm) := ⟨⟨(s1.extract 0 fr, nm), by rw [ByteArray.size_extract]; omega, Nat.le_trans (show nm.size ≤ s1.size by omega) hs1.1⟩, rfl⟩
      have HXX := Aside0.mk hx
      obtain ⟨fn, tmps, assign, body, hy, hR⟩ := hY pre x w1 (hJK _ _ _ HJ.out (Kb.of_below HB.out)) HLT.out
      simp only [encY, hx] at hy
      clear hx
      have HR := Aside0.mk hR
      clear hR
      gi_wp2
      refine ⟨fun h => (by cases h), HR.out.mono ?_⟩
      rintro e W3 (⟨rfl, hJ3, hk3⟩ | ⟨rfl, hJx3⟩)
      · have H3 := Aside0.mk hJ3
        have HX3 : Aside0 (Boxed W3 b0 9 (.string s1)) := ⟨hk3.trans ((HB.out.block b0 HX.out.lt).trans HX.out)⟩
        have hbx3 := HX3.out.cell
        have hfx3 := HX3.out.frozen
        clear hJ3 hk3
        gi_wp2
        gi_roundg (s1.size - (fr + 1 + nm.size + 1))
        case measure => have := HS.out.2; omega
        case rel =>
          refine ⟨s1.extract (fr + 1 + nm.size + 1) s1.size, pre ++ [x], ⟨by rw [ByteArray.size_extract]; omega, by rw [ByteArray.size_extract]; omega⟩, ⟨HX3.out.set _⟩, ⟨hJK _ _ _ H3.out ((Kb.refl (fun k => k = b0) W3).setCell (p := ⟨b0, 0, none⟩) (.inl rfl) _)⟩, ⟨?_⟩⟩
          rw [List.map_append, ← HP.out, partsA_some HN.out.1, List.append_assoc]
          congr 1
          show (x.1.1.data.toList, x.1.2.data.toList) :: _ = (_, _) :: _
          rw [HXX.out]
          congr 1
          · rw [ext_take]
          · rw [ext_drop, show fr + 1 + nm.size + 1 = fr + nm.data.toList.length + 2 by rw [data_length]; omega]; rfl
      · have H3 := Aside0.mk hJx3
        clear hJx3
        gi_wp2
        refine bodyPost_ret (results_none rfl _ _ _) rfl ?_
        exact ⟨⟨_, rfl⟩, .inr ⟨_, ⟨partsA (s1.data.toList.drop (fr + nm.data.toList.length + 2)), by
          rw [← HP.out, partsA_some HN.out.1, List.map_append, List.append_assoc]
          congr 1
          show (x.1.1.data.toList, x.1.2.data.toList) :: _ = (_, _) :: _
          rw [HXX.out, ext_take]
          rfl⟩, H3.out⟩⟩
end Go.Proofs.Ytpobgpfkohlokaa.PC
