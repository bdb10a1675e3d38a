/- The document's answer of chapter 18: part is what stands here; New, plainly, is New. -/
import Derived.Test.YtpobgpfkohlokaaRA
import Derived.Test.YtpobgpfkohlokaaNW
namespace Go.Proofs.Ytpobgpfkohlokaa.PC
open Go.RowKit Go.Lib Go.Shelf Go.Maps Go.Proofs.YtpobgpfkohlokaaW.PrintWords Go.Proofs.YtpobgpfkohlokaaW.PrintLast Go.Proofs.YtpobgpfkohlokaaW.PrintMore
set_option linter.unusedVariables false
set_option linter.unusedSimpArgs false
theorem part_f (c : Int) : driftnetref05_part.f c = some (nameB c) := by
  unfold driftnetref05_part.f nameB digB
  by_cases h1 : 97 ≤ c <;> by_cases h2 : c ≤ 122 <;> by_cases h3 : 65 ≤ c <;> by_cases h4 : c ≤ 90 <;> by_cases h5 : 48 ≤ c <;> by_cases h6 : c ≤ 57 <;> simp [h1, h2, h3, h4, h5, h6]
theorem digit_f (c : Int) : driftnetref05_isDigit.f c = some (digB c) := by
  unfold driftnetref05_isDigit.f digB
  by_cases h5 : 48 ≤ c <;> simp [h5]
theorem bt_list (s : ByteArray) (i : Nat) (h : i < s.size) : bt s (i : Int) = ((s.data.toList.getD i 0).toNat : Int) := by
  unfold bt
  rw [dif_pos (by rw [Int.toNat_natCast]; exact h)]
  rw [List.getD_eq_getElem?_getD, List.getElem?_eq_getElem (by rw [data_length]; exact h)]
  simp
  rfl
theorem isname_l (x : ByteArray) (hx : x.size ≤ 100000) : ∀ (d i : Nat), i + d = x.size → EvO (fun k => driftnetref05_IsName.l0 k x (i : Int)) ((x.data.toList.drop i).all (fun b => nameB (b.toNat : Int)))
  | 0, i, hi => by
    refine EvO.succ (h := fun _ => some true) (fun k => ?_) (EvO.of fun _ => ?_)
    · conv => lhs; unfold driftnetref05_IsName.l0
      rw [if_neg (by omega)]
    · rw [List.drop_of_length_le (by rw [data_length]; omega)]
      rfl
  | d + 1, i, hi => by
    have hl : i < x.data.toList.length := by rw [data_length]; omega
    have ed : x.data.toList.drop i = x.data.toList[i] :: x.data.toList.drop (i + 1) := List.drop_eq_getElem_cons hl
    have eb : bt x (i : Int) = (x.data.toList[i].toNat : Int) := by
      rw [bt_list x i (by omega), List.getD_eq_getElem?_getD, List.getElem?_eq_getElem hl]
      rfl
    rw [ed, List.all_cons]
    refine EvO.succ (h := fun k => if nameB (x.data.toList[i].toNat : Int) = true then driftnetref05_IsName.l0 k x ((i + 1 : Nat) : Int) else some false) (fun k => ?_) ?_
    · conv => lhs; unfold driftnetref05_IsName.l0
      rw [if_pos (by omega), if_pos (by omega), eb, part_f, wr1 (by omega)]
      rfl
    · cases hn : nameB (x.data.toList[i].toNat : Int) with
      | true =>
        rw [Bool.true_and]
        exact EvO.congr (fun k => if_pos rfl) (isname_l x hx d (i + 1) (by omega))
      | false => exact EvO.of fun k => if_neg (by decide)
theorem isn_j0 (k : Nat) (x : ByteArray) (t : Bool) : driftnetref05_IsName.j0 (k + 1) x t = if t = true then some false else driftnetref05_IsName.l0 k x 0 := by simp only [driftnetref05_IsName.j0]
theorem prt_j0 (k : Nat) (x : ByteArray) (t : Bool) : driftnetref18_part.j0 (k + 1) x t = if t = true then some ((⟨#[]⟩ : ByteArray), 0) else driftnetref18_part.l0 k x 1 := by simp only [driftnetref18_part.j0]
theorem isname_ev (x : ByteArray) (hx : x.size ≤ 100000) : EvO (fun k => driftnetref05_IsName.f k x) (isNameB x.data.toList) := by
  unfold driftnetref05_IsName.f isNameB
  by_cases h0 : x.toList = []
  · have e : x.data.toList = [] := by rw [← ByteArray.toList_eq]; exact h0
    rw [e]
    refine EvO.succ (h := fun _ => some false) (fun k => ?_) (EvO.of fun _ => rfl)
    rw [if_pos h0, isn_j0, if_pos rfl]
  · have e : x.data.toList ≠ [] := by rw [← ByteArray.toList_eq]; exact h0
    have hpos : 0 < x.size := by rw [← data_length]; exact List.length_pos_iff.2 e
    have hem : x.data.toList.isEmpty = false := by simpa using e
    rw [hem]
    by_cases h64 : (x.size : Int) > 64
    · have : decide (x.data.toList.length ≤ 64) = false := decide_eq_false (by rw [data_length]; omega)
      rw [this]
      refine EvO.succ (h := fun _ => some false) (fun k => ?_) (EvO.of fun _ => rfl)
      rw [if_neg h0, if_pos h64, isn_j0, if_pos rfl]
    · have : decide (x.data.toList.length ≤ 64) = true := decide_eq_true (by rw [data_length]; omega)
      rw [this]
      have hb := bt_list x 0 hpos
      refine EvO.succ (h := fun k => if digB ((x.data.toList.getD 0 0).toNat : Int) = true then some false else driftnetref05_IsName.l0 k x ((0 : Nat) : Int)) (fun k => ?_) ?_
      · rw [if_neg h0, if_neg h64, if_pos (by omega), show (0 : Int) = ((0 : Nat) : Int) from rfl, hb, digit_f]
        show driftnetref05_IsName.j0 (k + 1) x _ = _
        rw [isn_j0]
        rfl
      · cases hd : digB ((x.data.toList.getD 0 0).toNat : Int) with
        | true => exact EvO.of fun k => if_pos rfl
        | false =>
          refine EvO.congr (fun k => if_neg (by decide)) ?_
          have := isname_l x hx x.size 0 (by omega)
          simpa using this
/-- What part hands back. -/
def partR (s : ByteArray) : ByteArray × Int := match partAt s.data.toList with | some n => (⟨n.toArray⟩, (n.length : Int) + 2) | none => (⟨#[]⟩, 0)
theorem part_l (s : ByteArray) (hs : s.size ≤ 100000) (t : BL) (ht : s.data.toList = 60 :: t) : ∀ (d i : Nat), i + d = s.size → 1 ≤ i → (∀ x ∈ t.take (i - 1), x ≠ 62) → EvO (fun k => driftnetref18_part.l0 k s (i : Int)) (partR s)
  | 0, i, hi, h1, hn => by
    have hz : s.size = t.length + 1 := by rw [← data_length, ht]; rfl
    have hno : ∀ x ∈ t, x ≠ 62 := by rw [List.take_of_length_le (by omega)] at hn; exact hn
    have hp : partAt s.data.toList = none := by
      rw [ht]
      unfold partAt
      dsimp only
      refine if_neg ?_
      rintro ⟨-, h2, -⟩
      unfold cut1 at h2
      rcases indexByte_spec 62 t with ⟨h3, -⟩ | ⟨j, h3, h4, h5, -⟩
      · rw [if_pos (by rw [h3]; decide)] at h2; cases h2
      · rw [List.getD_eq_getElem?_getD, List.getElem?_eq_getElem h4] at h5
        exact hno _ (List.getElem_mem h4) h5
    unfold partR
    rw [hp]
    refine EvO.succ (h := fun _ => some ((⟨#[]⟩ : ByteArray), 0)) (fun k => ?_) (EvO.of fun _ => rfl)
    conv => lhs; unfold driftnetref18_part.l0
    rw [if_neg (by omega)]
  | d + 1, i, hi, h1, hn => by
    have hz : s.size = t.length + 1 := by rw [← data_length, ht]; rfl
    have hl : i < s.data.toList.length := by rw [data_length]; omega
    have hit : i - 1 < t.length := by omega
    have hsi : s.data.toList[i] = t[i - 1] := by
      have : s.data.toList[i]? = t[i - 1]? := by rw [ht]; rw [List.getElem?_cons, if_neg (by omega)]
      rw [List.getElem?_eq_getElem hl, List.getElem?_eq_getElem hit] at this
      exact Option.some.inj this
    have eb : bt s (i : Int) = (t[i - 1].toNat : Int) := by
      rw [bt_list s i (by omega), List.getD_eq_getElem?_getD, List.getElem?_eq_getElem hl, ← hsi]
      rfl
    by_cases h62 : t[i - 1] = 62
    · have hc62 : bt s (i : Int) = 62 := by rw [eb, h62]; rfl
      obtain ⟨n, hnn⟩ : ∃ n, n = t.take (i - 1) := ⟨_, rfl⟩
      have hnl : n.length = i - 1 := by rw [hnn, List.length_take]; omega
      have etn : t = n ++ 62 :: t.drop i := by
        conv => lhs; rw [← List.take_append_drop (i - 1) t]
        rw [hnn, List.drop_eq_getElem_cons hit, h62, show i - 1 + 1 = i by omega]
      have hex : (s.extract 1 i).data.toList = n := by
        rw [ext_list, ht, hnn]
        obtain ⟨j, rfl⟩ : ∃ j, i = j + 1 := ⟨i - 1, by omega⟩
        rfl
      have hex2 : s.extract 1 i = ⟨n.toArray⟩ := nw_eq (by rw [hex])
      rw [← hnn] at hn
      have hpa : partAt s.data.toList = if n = [95] ∨ isNameB n = true then some n else none := by
        rw [ht]
        unfold partAt
        dsimp only
        rw [etn, cut1_at 62 n _ hn]
        by_cases h : n = [95] ∨ isNameB n = true
        · rw [if_pos h]; exact if_pos ⟨rfl, rfl, h⟩
        · rw [if_neg h]; exact if_neg (fun h2 => h h2.2.2)
      unfold partR
      rw [hpa]
      have hlen : (n.length : Int) + 2 = ((i + 1 : Nat) : Int) := by omega
      refine EvO.succ (h := fun k => if n = [95] then some ((⟨n.toArray⟩ : ByteArray), ((i + 1 : Nat) : Int)) else (driftnetref05_IsName.f k (s.extract 1 i)).bind fun t108 => if t108 = true then some ((⟨n.toArray⟩ : ByteArray), ((i + 1 : Nat) : Int)) else some ((⟨#[]⟩ : ByteArray), 0)) (fun k => ?_) ?_
      · conv => lhs; unfold driftnetref18_part.l0
        rw [if_pos (by omega), if_pos (by omega), if_pos hc62, if_pos (by omega), if_pos (by omega), Int.toNat_natCast, wr1 (by omega), ByteArray.toList_eq, hex, hex2]
      · by_cases h95 : n = [95]
        · rw [if_pos (show n = [95] ∨ isNameB n = true from .inl h95)]
          refine EvO.of fun k => ?_
          rw [if_pos h95]
          show some (_, _) = some (_, (n.length : Int) + 2)
          rw [hlen]
        · refine EvO.congr (fun k => if_neg h95) ?_
          have hiv := isname_ev (s.extract 1 i) (by rw [← data_length, hex]; omega)
          rw [hex] at hiv
          refine EvO.bind (h := fun _ t108 => if t108 = true then some ((⟨n.toArray⟩ : ByteArray), ((i + 1 : Nat) : Int)) else some ((⟨#[]⟩ : ByteArray), 0)) hiv ?_
          by_cases hib : isNameB n = true
          · rw [if_pos (show n = [95] ∨ isNameB n = true from .inr hib)]
            refine EvO.of fun k => ?_
            show (if isNameB n = true then _ else _) = _
            rw [if_pos hib]
            show some (_, _) = some (_, (n.length : Int) + 2)
            rw [hlen]
          · rw [if_neg (show ¬ (n = [95] ∨ isNameB n = true) from fun h => h.elim h95 hib)]
            refine EvO.of fun k => ?_
            show (if isNameB n = true then _ else _) = _
            rw [if_neg hib]
    · have hc62 : ¬ bt s (i : Int) = 62 := by
        rw [eb]
        intro h
        refine h62 (UInt8.toNat_inj.1 ?_)
        show t[i - 1].toNat = 62
        omega
      refine EvO.succ (fun k => ?_) (part_l s hs t ht d (i + 1) (by omega) (by omega) ?_)
      · conv => lhs; unfold driftnetref18_part.l0
        rw [if_pos (by omega), if_pos (by omega), if_neg hc62, wr1 (by omega)]
      · intro x hx
        rw [show i + 1 - 1 = (i - 1) + 1 by omega, List.take_add_one, List.getElem?_eq_getElem hit] at hx
        rcases List.mem_append.1 hx with hx | hx
        · exact hn x hx
        · have : x = t[i - 1] := by simpa using hx
          rw [this]; exact h62
theorem part_ev (s : ByteArray) (hs : s.size ≤ 100000) : EvO (fun k => driftnetref18_part.f k s) (partR s) := by
  unfold driftnetref18_part.f
  by_cases h0 : s.toList = []
  · have e : s.data.toList = [] := by rw [← ByteArray.toList_eq]; exact h0
    unfold partR
    rw [e]
    refine EvO.succ (h := fun _ => some ((⟨#[]⟩ : ByteArray), 0)) (fun k => ?_) (EvO.of fun _ => rfl)
    rw [if_pos h0, prt_j0, if_pos rfl]
  · have e : s.data.toList ≠ [] := by rw [← ByteArray.toList_eq]; exact h0
    have hpos : 0 < s.size := by rw [← data_length]; exact List.length_pos_iff.2 e
    obtain ⟨c, t, hct⟩ : ∃ c t, s.data.toList = c :: t := by
      cases h : s.data.toList with
      | nil => exact absurd h e
      | cons c t => exact ⟨c, t, rfl⟩
    have hb : bt s 0 = (c.toNat : Int) := by
      have := bt_list s 0 hpos
      rw [hct] at this
      exact this
    by_cases h60 : c = 60
    · subst h60
      refine EvO.succ (fun k => ?_) (part_l s hs t hct (s.size - 1) 1 (by omega) (Nat.le_refl _) (by intro x hx; cases hx))
      rw [if_neg h0, if_pos (by omega), hb]
      show driftnetref18_part.j0 (k + 1) s false = _
      rw [prt_j0, if_neg (by decide)]
      rfl
    · have hp : partAt s.data.toList = none := by
        rw [hct]
        unfold partAt
        exact if_neg (fun h => h60 h.1)
      unfold partR
      rw [hp]
      have hne : (bt s 0 != 60) = true := by
        rw [hb]
        refine bne_iff_ne.2 (fun h => h60 (UInt8.toNat_inj.1 ?_))
        show c.toNat = 60
        omega
      refine EvO.succ (h := fun _ => some ((⟨#[]⟩ : ByteArray), 0)) (fun k => ?_) (EvO.of fun _ => rfl)
      rw [if_neg h0, if_pos (by omega), hne, prt_j0, if_pos rfl]
/-! ### New, as the document says it -/
def lastBeh : List (BL × BL) → BL
  | [] => []
  | [q] => q.2
  | _ :: r :: t => lastBeh (r :: t)
def rstep (s : BL) (st : BL × List (BL × BL)) : Option (BL × BL × List (BL × BL)) :=
  match partAt s with
  | some n => if ¬ st.2 = [] ∧ lastBeh st.2 = [] then none else if ¬ n = [95] ∧ n ∈ st.2.map (·.1) then none else some (s.drop (n.length + 2), st.1, st.2 ++ [(n, [])])
  | none => some (s.drop 1, if st.2 = [] then st.1 ++ s.take 1 else st.1, setBeh st.2 (lastBeh st.2 ++ s.take 1))
def rrun : Nat → BL → BL × List (BL × BL) → Option (BL × List (BL × BL))
  | 0, _, _ => none
  | f + 1, s, st => if s = [] then some st else (rstep s st).bind (fun r => rrun f r.1 r.2)
def rnewP (s : BL) : Option (BL × List (BL × BL)) := if s.length ≤ 256 then (rrun (s.length + 1) s ([], [])).bind (fun st => if namesP st.2 = [] then none else some st) else none
theorem lastBeh_snoc : ∀ (L : List (BL × BL)) (n b : BL), lastBeh (L ++ [(n, b)]) = b
  | [], n, b => rfl
  | [q], n, b => rfl
  | q :: r :: L, n, b => lastBeh_snoc (r :: L) n b
theorem setBeh_snoc2 : ∀ (L : List (BL × BL)) (n b c : BL), setBeh (L ++ [(n, b)]) c = L ++ [(n, c)]
  | [], n, b, c => rfl
  | [q], n, b, c => rfl
  | q :: r :: L, n, b, c => by
    show q :: setBeh ((r :: L) ++ [(n, b)]) c = q :: ((r :: L) ++ [(n, c)])
    rw [setBeh_snoc2 (r :: L) n b c]
def addH (x : BL) : List (BL × BL) → List (BL × BL)
  | [] => []
  | p :: ps => (x ++ p.1, p.2) :: ps
theorem partsA_cons {c : UInt8} {t : BL} (h : partAt (c :: t) = none) : partsA (c :: t) = addH [c] (partsA t) := by
  have hf : firstP (c :: t) = (firstP t).map (fun p => (p.1 + 1, p.2)) := by
    conv => lhs; unfold firstP
    rw [h]
  cases h1 : firstP t with
  | none =>
    rw [h1] at hf
    rw [partsA_none hf, partsA_none h1]
    rfl
  | some p =>
    rw [h1] at hf
    rw [partsA_some hf, partsA_some h1]
    show ((c :: t).take (p.1 + 1), p.2) :: partsA ((c :: t).drop (p.1 + 1 + p.2.length + 2)) = ([c] ++ t.take p.1, p.2) :: partsA (t.drop (p.1 + p.2.length + 2))
    rw [show p.1 + 1 + p.2.length + 2 = (p.1 + p.2.length + 2) + 1 by omega]
    rfl
theorem addH_addH (x y : BL) : ∀ ps, addH x (addH y ps) = addH (x ++ y) ps
  | [] => rfl
  | p :: ps => by show (x ++ (y ++ p.1), p.2) :: ps = ((x ++ y) ++ p.1, p.2) :: ps; rw [List.append_assoc]
theorem partAt_ne {s n : BL} (h : partAt s = some n) : n ≠ [] := by
  unfold partAt at h
  split at h
  · cases h
  · split at h
    · rename_i h2
      cases h
      rcases h2.2.2 with h3 | h3
      · rw [h3]; simp
      · intro h4
        rw [h4] at h3
        cases h3
    · cases h
/-- The parts so far; the last one's behind is still to come. -/
def OpenL (L : List (BL × BL)) : Prop := L = [] ∨ ∃ L0 n, L = L0 ++ [(n, [])]
theorem run_fold : ∀ (f : Nat) (s : BL) (sn : List BL) (a : BL) (L : List (BL × BL)) (x : BL), s.length < f → OpenL L → (∀ n, n ∈ sn ↔ n ∈ L.map (·.1)) → [] ∉ sn →
    rrun f s (if L = [] then x else a, setBeh L x) = (foldN (addH x (partsA s)) (sn, a, L)).map (·.2)
  | 0, s, sn, a, L, x, hl, _, _, _ => by omega
  | f + 1, s, sn, a, L, x, hl, hL, hs, h0 => by
    unfold rrun
    have hbl : L ≠ [] → lastBeh (setBeh L x) = x := by
      intro hne
      rcases hL with rfl | ⟨L0, n, rfl⟩
      · exact absurd rfl hne
      · rw [setBeh_snoc, lastBeh_snoc]
    have hem : setBeh L x = [] ↔ L = [] := by
      constructor
      · intro h
        have := congrArg List.length h
        rw [setBeh_len] at this
        exact List.eq_nil_of_length_eq_zero this
      · rintro rfl; rfl
    by_cases hse : s = []
    · rw [if_pos hse, hse]
      have hp : partsA [] = [([], [])] := rfl
      rw [hp]
      show some _ = Option.map _ ((stepN (sn, a, L) (x ++ [], [])).bind some)
      rw [List.append_nil, stepN_end (fun h => h.2.2 rfl) (fun h => h0 h.1) rfl]
      rfl
    · rw [if_neg hse]
      obtain ⟨c, t, rfl⟩ : ∃ c t, s = c :: t := by
        cases s with
        | nil => exact absurd rfl hse
        | cons c t => exact ⟨c, t, rfl⟩
      unfold rstep
      cases hp : partAt (c :: t) with
      | some n =>
        have hn := partAt_ne hp
        have hf : firstP (c :: t) = some (0, n) := by
          unfold firstP
          rw [hp]
        have hlen := firstP_len hf
        rw [partsA_some hf]
        simp only []
        show _ = Option.map _ ((stepN (sn, a, L) (x ++ (c :: t).take 0, n)).bind (foldN (partsA ((c :: t).drop (0 + n.length + 2)))))
        rw [show x ++ (c :: t).take 0 = x by simp, Nat.zero_add]
        have hnames : (setBeh L x).map (·.1) = L.map (·.1) := setBeh_names L x
        by_cases hc1 : ¬ L = [] ∧ x = []
        · rw [if_pos ⟨fun h => hc1.1 (hem.1 h), by rw [hbl hc1.1]; exact hc1.2⟩, stepN_no1 ⟨hc1.1, hc1.2, hn⟩]
          rfl
        · have hc1' : ¬ (¬ setBeh L x = [] ∧ lastBeh (setBeh L x) = []) := by
            rintro ⟨h1, h2⟩
            have h3 : ¬ L = [] := fun h => h1 (hem.2 h)
            rw [hbl h3] at h2
            exact hc1 ⟨h3, h2⟩
          rw [if_neg hc1', hnames]
          by_cases hc2 : n ∈ sn ∧ ¬ n = [95]
          · rw [if_pos ⟨hc2.2, (hs n).1 hc2.1⟩, stepN_no2 (fun h => hc1 ⟨h.1, h.2.1⟩) hc2]
            rfl
          · rw [if_neg (fun h => hc2 ⟨(hs n).2 h.2, h.1⟩), stepN_on (fun h => hc1 ⟨h.1, h.2.1⟩) hc2 hn]
            show rrun f _ _ = Option.map _ (foldN _ _)
            have ih := run_fold f ((c :: t).drop (n.length + 2)) (n :: sn) (if L = [] then x else a) (setBeh L x ++ [(n, [])]) [] (by rw [List.length_drop]; omega) (.inr ⟨_, _, rfl⟩) (fun m => by
              rw [List.map_append, hnames, List.mem_append, List.mem_cons, hs m]
              simp only [List.map_cons, List.map_nil, List.mem_singleton]
              exact Or.comm) (by
              intro h
              rcases List.mem_cons.1 h with h | h
              · exact hn h.symm
              · exact h0 h)
            rw [if_neg (by simp), setBeh_snoc2] at ih
            have e : addH [] (partsA ((c :: t).drop (n.length + 2))) = partsA ((c :: t).drop (n.length + 2)) := by
              cases partsA ((c :: t).drop (n.length + 2)) <;> rfl
            rw [e] at ih
            exact ih
      | none =>
        rw [partsA_cons hp, addH_addH]
        show rrun f t (if setBeh L x = [] then (if L = [] then x else a) ++ [c] else (if L = [] then x else a), setBeh (setBeh L x) (lastBeh (setBeh L x) ++ [c])) = _
        have ih := run_fold f t sn a L (x ++ [c]) (by simp only [List.length_cons] at hl; omega) hL hs h0
        rw [← ih]
        congr 1
        by_cases hLe : L = []
        · subst hLe
          rfl
        · rw [if_neg (fun h => hLe (hem.1 h)), if_neg hLe, if_neg hLe, hbl hLe]
          rcases hL with h | ⟨L0, m, rfl⟩
          · exact absurd h hLe
          · rw [setBeh_snoc2, setBeh_snoc2, setBeh_snoc2]
theorem rnewP_eq (s : BL) : rnewP s = newP s := by
  unfold rnewP newP
  split
  · have h := run_fold (s.length + 1) s [] [] [] [] (Nat.lt_succ_self _) (.inl rfl) (fun n => by simp) (by simp)
    have e : addH [] (partsA s) = partsA s := by cases partsA s <;> rfl
    rw [e] at h
    have h2 : rrun (s.length + 1) s ([], []) = (foldN (partsA s) ([], [], [])).map (·.2) := h
    rw [h2]
    cases foldN (partsA s) ([], [], []) <;> rfl
  · rfl
end Go.Proofs.Ytpobgpfkohlokaa.PC
