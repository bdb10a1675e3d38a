/- WindowBetween: whatever the samples and the two quantiles, the law says true; what came in reads as it did. -/
import Derived.Test.YtgdkgahbmfhgcaaB14
import Derived.Test.YtgdkgahbmfhgcaaRows
import Derived.WalkKit
import Derived.ProofKit
import Derived.OpenShut
import Derived.ShutString
import Derived.ChangeOld
import Derived.Below
import Derived.SizedLaws
import Derived.Lib.SmallJoins
namespace Go.Proofs.Ytgdkgahbmfhgcaa.windowBetween
open Go.ChangeShapes Go.WideShapes Go.ChangeAt Go.RowKit Go.Proofs.Ytgdkgahbmfhgcaa.PN Go.Proofs.YtgdkgahbmfhgcaaW.PrintWords
open Go.ChangeMaps (open_string shut_string)
set_option linter.unusedVariables false
theorem own : ownKnob Try.prog.godebug = none := by kernel_rfl
theorem laidOut : laidOutB Try.prog = true := by kernel_rfl
theorem cell1 {l : List Value} {i : Nat} {v : Value} (h : (l.drop i).take 1 = [v]) : l[i]? = some v := by
  have h0 : ((l.drop i).take 1)[0]? = some v := by rw [h]; rfl
  rw [List.getElem?_take_of_lt (by decide), List.getElem?_drop] at h0
  exact h0
set_option maxRecDepth 100000 in
theorem op52 (w : World) : OP.Opens Try.prog w k3 52 (fun _ => True) := by
  intro H enc spare held fuel cs x hx hz
  obtain ⟨xs, m, rfl, rfl, hl, hn, hf⟩ := DataW.trod_array Try.underlying52 hx
  have hl3 : cs.length = 3 := hl.trans (by kernel_rfl)
  have hc : Try.prog.cellsOf 3 = 1 := by kernel_rfl
  rw [hc] at hf
  have key : ∀ i, i < 3 → ∃ k : Int, cs[i]? = some (.int .i64 k) := fun i hi => by
    have h := hf i hi
    rw [List.getElem?_eq_getElem (show i < xs.length by omega), Nat.mul_one] at h
    obtain ⟨k, hk, _, _⟩ := DataW.trod_int Try.underlying3 h
    exact ⟨k, cell1 hk⟩
  obtain ⟨a, ha⟩ := key 0 (by omega)
  obtain ⟨b, hb⟩ := key 1 (by omega)
  obtain ⟨c, hc3⟩ := key 2 (by omega)
  have e : cs = [.int .i64 a, .int .i64 b, .int .i64 c] := by
    refine List.ext_getElem? (fun i => ?_)
    match i with
    | 0 => exact ha
    | 1 => exact hb
    | 2 => exact hc3
    | n + 3 => rw [List.getElem?_eq_none (by omega)]; rfl
  exact ⟨(a, b, c), ⟨[.int .i64 a], [.int .i64 b, .int .i64 c], e, rfl, [.int .i64 b], [.int .i64 c], rfl, rfl, rfl⟩, trivial⟩
theorem arr23 {H : Type} {enc : TypeId × Value → H} {W : World} {spare : Nat → Bool} {held : Bool} {fuel : Nat} {cs : List Value} {x : DataW H × List MemPlace} (hx : DataW.trod enc Try.prog W 0 spare held fuel 23 cs = some x) : ∃ a b, cs = [.int .i64 a, .int .i64 b] := by
  obtain ⟨xs, m, rfl, rfl, hl, hn, hf⟩ := DataW.trod_array Try.underlying23 hx
  have hl2 : cs.length = 2 := hl.trans (by kernel_rfl)
  have hc : Try.prog.cellsOf 3 = 1 := by kernel_rfl
  rw [hc] at hf
  have key : ∀ i, i < 2 → ∃ k : Int, cs[i]? = some (.int .i64 k) := fun i hi => by
    have h := hf i hi
    rw [List.getElem?_eq_getElem (show i < xs.length by omega), Nat.mul_one] at h
    obtain ⟨k, hk, _, _⟩ := DataW.trod_int Try.underlying3 h
    exact ⟨k, cell1 hk⟩
  obtain ⟨a, ha⟩ := key 0 (by omega)
  obtain ⟨b, hb⟩ := key 1 (by omega)
  refine ⟨a, b, List.ext_getElem? (fun i => ?_)⟩
  match i with
  | 0 => exact ha
  | 1 => exact hb
  | n + 2 => rw [List.getElem?_eq_none (by omega)]; rfl
theorem okArr {P : Program} {w : World} {r : Reach} {base : Nat} {t : TypeId} {v : Value} {n : Nat} {e : TypeId} (ht : P.underlying t = some (.array n e)) (h : Value.okWide P w r base t v) : ∃ cs, v = .agg cs := by
  simp only [Value.okWide, ht] at h
  obtain ⟨cs, h1, _⟩ := h
  exact ⟨cs, h1⟩
set_option maxRecDepth 100000 in
theorem lifted (os : Os) (started : os.Started) (H : Type) (enc : TypeId × Value → H) :
    ReturnsInHanded {} Try.checked os 3 .any (Rows.windowBetweenSpec.pre6 enc Try.prog Try.f3 Rows.windowBetweenRow.domain false) (Rows.windowBetweenSpec.post enc Try.prog Try.f3 false true false false) := by
  refine returnsInHanded_of_change_sized (C := Try.checked) own started (by kernel_rfl) Try.func3
    (ChangeSpec.witness6 (enc := enc) (C := Try.checked) false ⟨#[], #[.slice none 0 0, .agg #[.int .i64 0, .int .i64 0]], []⟩ 8 (by kernel_rfl) (by kernel_rfl) (by kernel_rfl) (by kernel_rfl)) ?_
  intro W base args ds gs before hval0 hW hcnd hsz0 _
  have hsz : (DataW.weightsEach Try.prog (Try.f3.params.toList ++ Rows.windowBetweenSpec.plain.varTypes Try.prog) (ds ++ gs)).all (· ≤ reachBytes) = true := hsz0
  have hval : ∀ (j : Nat) t v, Try.f3.params[j]? = some t → args[j]? = some v → Value.okWide Try.prog W .any base t v := hval0
  have hW' := hW
  obtain ⟨p, q, hA0, hV, rfl, hfz, hnd⟩ := hW
  have hA : DataW.TrodAll enc Try.prog W 0 (fun _ => true) true Try.f3.params.toList args.toList ds p := hA0
  rw [Try.params3] at hA hval hsz
  obtain ⟨v0, vs0, d0, ds0, p0, q0, hargs, rfl, rfl, h0, r0⟩ := trodAll_cons hA
  obtain ⟨v1, vs1, d1, ds1, p1, q1, rfl, rfl, rfl, h1, r1⟩ := trodAll_cons r0
  obtain ⟨rfl, rfl, rfl⟩ := trodAll_nil r1
  obtain rfl : args = #[v0, v1] := by cases args; simp_all
  obtain ⟨rfl, rfl⟩ := trodVars_none hV
  obtain ⟨a0, len0, cap0, rfl⟩ := okWide_slice Try.underlying22 (hval 0 22 v0 rfl rfl)
  have k0 := h0
  have lt0 : ∀ x ∈ p0, x.block < W.heap.size := by obtain ⟨m, hm⟩ := k0; exact DataW.trod_lt m _ _ _ hm
  obtain ⟨l0, hl0, hle0, hC0, hwf0⟩ : ∃ l, OP.RowOf k3 24 (fun _ => True) W a0 len0 cap0 l := by
    obtain ⟨fuel, hf⟩ := h0
    obtain ⟨A, n, c, l, hcs, r⟩ := OP.opens_row (0, 0, 0) Try.underlying22 (op52 _) (by kernel_rfl) (B := 24) (by kernel_rfl) hf (OP.weights_at hsz (j := 0) rfl rfl)
    simp [Value.cells] at hcs
    obtain ⟨rfl, rfl, rfl⟩ := hcs
    exact ⟨l, r⟩
  subst hl0
  have k1 := h1
  have lt1 : ∀ x ∈ p1, x.block < W.heap.size := by obtain ⟨m, hm⟩ := k1; exact DataW.trod_lt m _ _ _ hm
  obtain ⟨cs1, rfl⟩ := okArr Try.underlying23 (hval 1 23 v1 rfl rfl)
  obtain ⟨a1, a2, rfl⟩ : ∃ a b, cs1 = #[.int .i64 a, .int .i64 b] := by
    obtain ⟨fuel, hf⟩ := h1
    have hz : (Value.agg cs1).cells.toList = cs1.toList := by simp [Value.cells]
    obtain ⟨a, b, hab⟩ := arr23 hf
    rw [hz] at hab
    exact ⟨a, b, by rw [← Array.toArray_toList (xs := cs1), hab]⟩
  clear hA0 hval0 hsz0 hsz
  refine (between_calls l0 (by have := hwf0.1; omega) a1 a2 W a0 cap0 hC0).mono fun e W' ⟨he, bel⟩ => ?_
  subst he
  exact ⟨_, rfl, _, _, _, [], _, [], hW', trodAll_mk1 (shut_bool Try.underlying4 _), (trodAll_cons_mk (Below.trod laidOut (by kernel_rfl) (of_decide_eq_true (by kernel_rfl)) k0 bel lt0) (trodAll_cons_mk (Below.trod laidOut (by kernel_rfl) (of_decide_eq_true (by kernel_rfl)) k1 bel lt1) trodAll_mk0)), rfl, bel.frame _, fun h => by cases h⟩
theorem over : Rows.windowBetweenRow.holds Try.pinned (OpenSpec.ofChange Rows.windowBetweenSpec) :=
  OpenClaim.holds_of_wide 3 Try.f3 rfl rfl rfl rfl rfl rfl rfl ⟨rfl, rfl, rfl, rfl, rfl⟩ rfl rfl rfl rfl rfl (by kernel_rfl) Try.func3 (by kernel_rfl)
    (of_decide_eq_true (by kernel_rfl)) (by unfold Func.isWrapper; first | (rw [if_pos (by decide +kernel)]; kernel_rfl) | (rw [if_neg (by decide +kernel)]; exact ⟨rfl, rfl⟩))
    (fun os started H enc _ => lifted os started H enc)
theorem proved : Rows.WindowBetweenSaid := over
end Go.Proofs.Ytgdkgahbmfhgcaa.windowBetween
namespace Go.Proofs.Ytgdkgahbmfhgcaa
/-- The row, under a short name, for the claim. -/
theorem windowBetween_holds : Rows.WindowBetweenSaid := windowBetween.proved
end Go.Proofs.Ytgdkgahbmfhgcaa
