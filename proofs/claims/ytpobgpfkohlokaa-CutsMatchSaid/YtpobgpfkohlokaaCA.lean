/- labels.IsName. -/
import Derived.Test.YtpobgpfkohlokaaKB
namespace Go.Proofs.Ytpobgpfkohlokaa.PC
open Go.RowKit Go.Lib Go.Proofs.YtpobgpfkohlokaaW.PrintWords Go.Proofs.YtpobgpfkohlokaaW.PrintLast Go.Proofs.YtpobgpfkohlokaaW.PrintMore
set_option linter.unusedVariables false
set_option linter.unusedSimpArgs false
theorem below_conv (w : World) (e : TypeId) (s : ByteArray) : Below w.heap.size w (Lib.bytesWorld w e s) := ⟨rfl, rfl, rfl, by rw [Lib.bytesWorld_size]; omega, fun k hk => Lib.bytesWorld_at_old w e s k hk⟩
def digB (c : Int) : Bool := decide (48 ≤ c) && decide (c ≤ 57)
def nameB (c : Int) : Bool := decide (97 ≤ c) && decide (c ≤ 122) || decide (65 ≤ c) && decide (c ≤ 90) || digB c || c == 95
theorem isdigit_calls (c : Int) (w : World) : Calls Try.prog 97 #[.int .u8 c] w fun e w' => e = .returned (.bool (digB c)) ∧ w' = w := by
  go_enter Try.func97, Try.ntmps97
  go_wp2
  all_goals (go_ret; refine ⟨?_, rfl⟩; show Ending.returned (.bool _) = Ending.returned (.bool (digB c)); unfold digB; simp <;> omega)
theorem inname_calls (c : Int) (w : World) : Calls Try.prog 100 #[.int .u8 c] w fun e w' => e = .returned (.bool (nameB c)) ∧ w' = w := by
  have HC := fun W => isdigit_calls c W
  obtain ⟨d, hd⟩ : ∃ d, d = digB c := ⟨_, rfl⟩
  rw [← hd] at HC
  have e : nameB c = (decide (97 ≤ c) && decide (c ≤ 122) || decide (65 ≤ c) && decide (c ≤ 90) || d || c == 95) := by rw [hd]; rfl
  rw [e]
  clear e hd
  go_enter Try.func100, Try.ntmps100
  go_wp2_with (go_at_call 97; refine (HC _).mono ?_; rintro e w' ⟨rfl, rfl⟩)
  all_goals (go_ret; refine ⟨?_, rfl⟩; show Ending.returned (.bool _) = Ending.returned (.bool _); congr 2 <;> (clear HC; refine Bool.eq_iff_iff.2 ?_; cases d <;> simp_all <;> omega))
theorem odd_calls (c : Int) (w : World) : Calls Try.prog 99 #[.int .u8 c] w fun e w' => e = .returned (.bool (!nameB c)) ∧ w' = w := by
  have HC := fun W => inname_calls c W
  generalize nameB c = d at HC ⊢
  go_enter Try.func99, Try.ntmps99
  go_wp2_with (go_at_call 100; refine (HC _).mono ?_; rintro e w' ⟨rfl, rfl⟩)
  go_ret
  exact ⟨rfl, rfl⟩
set_option maxHeartbeats 4000000 in
set_option maxRecDepth 100000 in
theorem idxfunc_calls (l : List UInt8) (g c : Nat) (w : World) (hc : ∀ j, j < l.length → w.cell? ⟨g, j, none⟩ = some (.int .u8 ((l.getD j 0).toNat : Int))) (hsz : l.length < 1099511627776) :
    Calls Try.prog 108 #[.slice (some ⟨g, 0, none⟩) l.length c, .func (.func 99) #[] #[]] w fun e w' => (∃ r : Int, e = .returned (.int .i64 r) ∧ decide (0 ≤ r) = !(l.all fun b => nameB (b.toNat : Int))) ∧ w' = w := by
  obtain ⟨n, hn⟩ : ∃ n, n = l.length := ⟨_, rfl⟩
  rw [← hn] at hc hsz ⊢
  have HC := Aside0.mk hc
  have HN := Aside0.mk hn
  clear hc hn
  go_enter Try.func108, Try.ntmps108
  go_wp2
  go_loopg [8] n (fun g1 v8 wr => ∃ i : Nat, v8 = .int .i64 i ∧ Aside0 (i + g1 = n) ∧ Aside0 ((l.take i).all (fun b => nameB (b.toNat : Int)) = true) ∧ wr = w)
  case atStart => exact ⟨0, rfl, ⟨by omega⟩, ⟨rfl⟩, rfl⟩
  case round =>
    obtain ⟨i, rfl, HI, HA, rfl⟩ := hrel
    by_cases hlt : i < n
    · have hz : (i : Int) < (n : Int) := by omega
      have hcell := HC.out i hlt
      obtain ⟨b, hb⟩ : ∃ b, b = ((l.getD i 0).toNat : Int) := ⟨_, rfl⟩
      rw [← hb] at hcell
      have HBB := Aside0.mk hb
      clear hb
      have HO := fun W => odd_calls b W
      have hwi : IntKind.i64.wrap ((i : Int) + 1) = ((i + 1 : Nat) : Int) := (i64_w _).trans ((w64 (by omega) (by omega)).trans (by omega))
      have hsn : l.take (i + 1) = l.take i ++ [l.getD i 0] := by
        rw [List.take_add_one, List.getD_eq_getElem?_getD, List.getElem?_eq_getElem (by have := HN.out; omega)]; rfl
      have HSN := Aside0.mk hsn
      clear hsn
      cases hd : nameB b with
      | true =>
        rw [hd] at HO
        go_wp2_with (go_at_call 99; refine (HO _).mono ?_; rintro e w' ⟨rfl, rfl⟩)
        go_roundg (n - (i + 1))
        case measure => have := HI.out; omega
        case rel => exact ⟨i + 1, by first | rfl | rw [hwi], ⟨by have := HI.out; omega⟩, ⟨by rw [HSN.out, List.all_append, HA.out, Bool.true_and]; show (nameB ((l.getD i 0).toNat : Int) && true) = true; rw [← HBB.out, hd]; rfl⟩, rfl⟩
      | false =>
        rw [hd] at HO
        go_wp2_with (go_at_call 99; refine (HO _).mono ?_; rintro e w' ⟨rfl, rfl⟩)
        go_ret
        refine ⟨⟨_, rfl, ?_⟩, rfl⟩
        have hm : l.getD i 0 ∈ l := by rw [List.getD_eq_getElem?_getD, List.getElem?_eq_getElem (by have := HN.out; omega)]; exact List.getElem_mem _
        have : (l.all fun b => nameB (b.toNat : Int)) = false := List.all_eq_false.2 ⟨_, hm, by rw [← HBB.out, hd]; decide⟩
        rw [this]
        exact decide_eq_true (by omega)
    · have hz : ¬ (i : Int) < (n : Int) := by omega
      have ha := HA.out
      rw [List.take_of_length_le (by have := HN.out; omega)] at ha
      have HAA := Aside0.mk ha
      clear ha
      go_wp2
      go_ret
      refine ⟨⟨_, rfl, ?_⟩, rfl⟩
      rw [HAA.out]
      decide
theorem contains_calls (l : List UInt8) (g c : Nat) (w : World) (hc : ∀ j, j < l.length → w.cell? ⟨g, j, none⟩ = some (.int .u8 ((l.getD j 0).toNat : Int))) (hsz : l.length < 1099511627776) :
    Calls Try.prog 98 #[.slice (some ⟨g, 0, none⟩) l.length c, .func (.func 99) #[] #[]] w fun e w' => e = .returned (.bool (!(l.all fun b => nameB (b.toNat : Int)))) ∧ w' = w := by
  have HC := idxfunc_calls l g c w hc hsz
  obtain ⟨r0, hr0⟩ : ∃ r0, r0 = !(l.all fun b => nameB (b.toNat : Int)) := ⟨_, rfl⟩
  rw [← hr0] at HC ⊢
  obtain ⟨n, hn⟩ : ∃ n, n = l.length := ⟨_, rfl⟩
  rw [← hn] at HC ⊢
  clear hc hsz hn hr0
  go_enter Try.func98, Try.ntmps98
  go_wp2_with (go_at_call 108; refine HC.mono ?_; rintro e w' ⟨⟨r, rfl, hd⟩, rfl⟩)
  all_goals (go_ret; refine ⟨?_, rfl⟩; show Ending.returned (.bool _) = Ending.returned (.bool _); rw [← hd])
def isNameB (l : List UInt8) : Bool := !l.isEmpty && decide (l.length ≤ 64) && !digB ((l.getD 0 0).toNat : Int) && l.all (fun b => nameB (b.toNat : Int))
set_option maxHeartbeats 4000000 in
set_option maxRecDepth 100000 in
theorem isname_calls (s : ByteArray) (w : World) (hsz : s.size < 1099511627776) : Calls Try.prog 76 #[.string s] w fun e w' => e = .returned (.bool (isNameB s.data.toList)) ∧ Below w.heap.size w w' := by
  have kb := fun W => print_bytes (P := Try.prog) 9 52 5 Try.underlying9 Try.underlying52 Try.underlying5 s W
  have HD := fun c W => isdigit_calls c W
  have HC := Aside0.mk (fun (W : World) => contains_calls s.data.toList W.heap.size (grownCap W s.size 0 5) (Lib.bytesWorld W 5 s) (fun j hj => Lib.bytesWorld_cell W 5 s j (by rw [← data_length]; exact hj)) (by rw [data_length]; exact hsz))
  rw [data_length] at HC
  obtain ⟨al, hal⟩ : ∃ al, al = s.data.toList.all (fun b => nameB (b.toNat : Int)) := ⟨_, rfl⟩
  rw [← hal] at HC
  have HAL := Aside0.mk hal
  clear hal
  have HB := Aside0.mk (Below.refl w.heap.size w)
  have HL := data_length s
  have HE : s.toList = s.data.toList := ByteArray.toList_eq s
  by_cases h0 : s.toList = []
  · have hr : isNameB s.data.toList = false := by rw [← HE, h0]; rfl
    rw [hr]
    clear HE HL
    go_enter Try.func76, Try.ntmps76
    go_wp2_with fail
    go_ret
    exact ⟨rfl, HB.out⟩
  · have hg : ∀ (h : 0 < s.size), (s[0].toNat : Int) = ((s.data.toList.getD 0 0).toNat : Int) := fun h => by
      rw [List.getD_eq_getElem?_getD, List.getElem?_eq_getElem (by rw [data_length]; exact h)]; rfl
    have hp0 : 0 < s.size := by rw [← HL, ← HE]; exact List.length_pos_iff.2 h0
    have hp1 : (0 : Int) < (s.size : Int) := by omega
    have hem : s.data.toList.isEmpty = false := by rw [← HE]; cases hh : s.toList with
      | nil => exact absurd hh h0
      | cons _ _ => rfl
    have hk : ∀ b, digB ((s.data.toList.getD 0 0).toNat : Int) = b → isNameB s.data.toList = (decide (s.size ≤ 64) && !b && al) := fun b hb => by
      unfold isNameB
      rw [hem, HL, hb, ← HAL.out]
      rfl
    have HKK := Aside0.mk (And.intro hk (hg hp0))
    have HEE := Aside0.mk (show s.toList.isEmpty = false by rw [HE]; exact hem)
    clear HE HL hk hg hem
    go_enter Try.func76, Try.ntmps76
    go_wp2_with (first | (go_at_call 97; refine (HD _ _).mono ?_; rintro e w' ⟨rfl, rfl⟩) | (go_at_call 98; refine (HC.out _).mono ?_; rintro e w' ⟨rfl, rfl⟩))
    · rename_i _ hd
      go_ret
      refine ⟨?_, HB.out⟩
      rw [HKK.out.1 true (by rw [← HKK.out.2]; exact hd)]
      simp
    · rename_i _ hd
      go_ret
      refine ⟨?_, ?_⟩
      · rw [HKK.out.1 false (by rw [← HKK.out.2]; simpa using hd)]
        show Ending.returned (.bool _) = Ending.returned (.bool _)
        rw [HEE.out]
        congr 2
        rw [decide_eq_true (show s.size ≤ 64 by omega)]
        cases al <;> rfl
      · exact below_conv _ _ _
    · rename_i hd
      go_ret
      refine ⟨?_, HB.out⟩
      rw [HKK.out.1 _ rfl, decide_eq_false (show ¬ s.size ≤ 64 by omega)]
      rfl
end Go.Proofs.Ytpobgpfkohlokaa.PC
