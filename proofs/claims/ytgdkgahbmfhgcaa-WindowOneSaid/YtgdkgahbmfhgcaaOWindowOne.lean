/- WindowOne: whatever the number and the quantile, the law says true; what came in reads as it did. -/
import Derived.Test.YtgdkgahbmfhgcaaO14
import Derived.Test.YtgdkgahbmfhgcaaRows
import Derived.WalkKit
import Derived.ProofKit
import Derived.OpenShut
import Derived.ShutString
import Derived.ChangeOld
import Derived.Below
import Derived.SizedLaws
import Derived.Lib.SmallJoins
namespace Go.Proofs.Ytgdkgahbmfhgcaa.windowOne
open Go.ChangeShapes Go.WideShapes Go.ChangeAt Go.RowKit Go.Proofs.Ytgdkgahbmfhgcaa.PN Go.Proofs.YtgdkgahbmfhgcaaW.PrintWords Go.Proofs.Ytgdkgahbmfhgcaa.Limbs
open Go.ChangeMaps (open_string shut_string)
set_option linter.unusedVariables false
theorem own : ownKnob Try.prog.godebug = none := by kernel_rfl
theorem laidOut : laidOutB Try.prog = true := by kernel_rfl
theorem cell1 {l : List Value} {i : Nat} {v : Value} (h : (l.drop i).take 1 = [v]) : l[i]? = some v := by
  have h0 : ((l.drop i).take 1)[0]? = some v := by rw [h]; rfl
  rw [List.getElem?_take_of_lt (by decide), List.getElem?_drop] at h0
  exact h0
theorem isR_of {ok : Nat → Prop} {w : World} {v1 v2 : Value} {s : Bool} {m d : Nat} (h : OkR s m d) (h1 : Kd.V (Kd.int .u32) 48 w 0 ok v1 (limbs m)) (h2 : Kd.V (Kd.int .u32) 48 w 0 ok v2 (limbs d)) : ∃ x, IsR ok w (.agg #[.bool s, v1, v2]) x := by
  obtain ⟨hs, hd, hg, hm16, hd16⟩ := h
  obtain ⟨e1, e2, e3⟩ := red_mk s m d hd
  rw [hg, Nat.div_one] at e1 e2
  have e4 : decide ((mkRat (if s = true then -(m : Int) else m) d).num < 0) = s := by
    cases s with
    | true => 
      refine decide_eq_true ?_
      have hp : 0 < m := hs rfl
      rw [(mk_num _ d (by omega)).1]
      have : ((if true = true then -(m : Int) else (m : Int)).natAbs.gcd d : Nat) = 1 := by rw [signed_abs]; exact hg
      rw [this]
      simp
      omega
    | false =>
      refine decide_eq_false ?_
      rw [(mk_num _ d (by omega)).1]
      have : ((if false = true then -(m : Int) else (m : Int)).natAbs.gcd d : Nat) = 1 := by rw [signed_abs]; exact hg
      rw [this]
      simp
  refine ⟨mkRat (if s = true then -(m : Int) else m) d, ⟨by rw [e1]; exact hm16, by rw [e2]; exact hd16⟩, v1, v2, by rw [e4], by rw [e1]; exact h1, by rw [e2]; exact h2⟩
theorem ok_of {l : List Int} (h : ∀ y ∈ l, (Lit.int .u32 y).wf = true) : Ok l := fun x hx => by
  have h1 := h x hx
  simp [Lit.wf] at h1
  have h2 : IntKind.u32.min = 0 := rfl
  have h3 : IntKind.u32.max = 4294967295 := rfl
  omega
theorem kdr_bool {w : World} {b : Bool} {cs : List Value} (h : Kd.bool.K w b cs) : cs = [.bool b] := h
abbrev KR : Kd (Bool × List Int × List Int) := Kd.pair Kd.bool (Kd.pair (Kd.slice 48 (Kd.int .u32)) (Kd.slice 48 (Kd.int .u32)))
def W1 (l : List Int) : Prop := l.length * 4 ≤ 140737488351232 ∧ l.length ≤ maxLen ∧ ∀ x ∈ l, (Lit.int .u32 x).wf = true
theorem op28 (w : World) : OP.Opens Try.prog w (Kd.slice 48 (Kd.int .u32)) 28 W1 := OP.opens_slice 0 Try.underlying28 (OP.opens_int Try.underlying48) (by kernel_rfl) (by kernel_rfl)
set_option maxRecDepth 100000 in
theorem op30 (w : World) : OP.Opens Try.prog w KR 30 (fun y => True ∧ (W1 y.2.1 ∧ W1 y.2.2)) := by
  refine OP.opens_struct Try.underlying30 ?_ (by kernel_rfl)
  have h1 := OP.opens_last (P := Try.prog) (w := w) (f := { name := "Den", type := 28, offset := 2, embedded := false, tag := "", pkgPath := "", byteOffset := 32 }) (off := 2) (op28 w) rfl (by kernel_rfl)
  have h2 := OP.opens_field (P := Try.prog) (w := w) (f := { name := "Num", type := 28, offset := 1, embedded := false, tag := "", pkgPath := "", byteOffset := 8 }) (off := 1) (op28 w) rfl (by kernel_rfl) h1
  exact OP.opens_field (P := Try.prog) (w := w) (f := { name := "Neg", type := 4, offset := 0, embedded := false, tag := "", pkgPath := "", byteOffset := 0 }) (off := 0) (OP.opens_bool Try.underlying4) rfl (by kernel_rfl) h2
set_option maxRecDepth 100000 in
theorem lifted (os : Os) (started : os.Started) (H : Type) (enc : TypeId × Value → H) :
    ReturnsInHanded {} Try.checked os 4 .any (Rows.windowOneSpec.pre6 enc Try.prog Try.f4 Rows.windowOneRow.domain false) (Rows.windowOneSpec.post enc Try.prog Try.f4 false true false false) := by
  refine returnsInHanded_of_change_sized (C := Try.checked) own started (by kernel_rfl) Try.func4
    (ChangeSpec.witness6 (enc := enc) (C := Try.checked) false ⟨#[], #[.agg #[.bool false, .slice none 0 0, .slice none 0 0], .int .i64 0], []⟩ 8 (by kernel_rfl) (by kernel_rfl) (by kernel_rfl) (by kernel_rfl)) ?_
  intro W base args ds gs before hval0 hW hcnd hsz0 _
  have hsz : (DataW.weightsEach Try.prog (Try.f4.params.toList ++ Rows.windowOneSpec.plain.varTypes Try.prog) (ds ++ gs)).all (· ≤ reachBytes) = true := hsz0
  have hval : ∀ (j : Nat) t v, Try.f4.params[j]? = some t → args[j]? = some v → Value.okWide Try.prog W .any base t v := hval0
  have hW' := hW
  obtain ⟨p, q, hA0, hV, rfl, hfz, hnd⟩ := hW
  have hA : DataW.TrodAll enc Try.prog W 0 (fun _ => true) true Try.f4.params.toList args.toList ds p := hA0
  rw [Try.params4] at hA hval hsz
  obtain ⟨v0, vs0, d0, ds0, p0, q0, hargs, rfl, rfl, h0, r0⟩ := trodAll_cons hA
  obtain ⟨v1, vs1, d1, ds1, p1, q1, rfl, rfl, rfl, h1, r1⟩ := trodAll_cons r0
  obtain ⟨rfl, rfl, rfl⟩ := trodAll_nil r1
  obtain rfl : args = #[v0, v1] := by cases args; simp_all
  obtain ⟨rfl, rfl⟩ := trodVars_none hV
  obtain ⟨cs0, rfl, hcs0⟩ := okWide_struct Try.underlying30 (hval 0 30 v0 rfl rfl)
  have k0 := h0
  have lt0 : ∀ x ∈ p0, x.block < W.heap.size := by obtain ⟨m, hm⟩ := k0; exact DataW.trod_lt m _ _ _ hm
  obtain ⟨s, ls, xs, A0, c0, A1, c1, e0, hc0, hC0, hc1, hC1, okl, okd⟩ : ∃ (s : Bool) (ls xs : List Int) (A0 : Option Addr) (c0 : Nat) (A1 : Option Addr) (c1 : Nat), cs0 = #[.bool s, .slice A0 ls.length c0, .slice A1 xs.length c1] ∧ ls.length ≤ c0 ∧ Kd.C (Kd.int .u32) W A0 ls.length ls ∧ xs.length ≤ c1 ∧ Kd.C (Kd.int .u32) W A1 xs.length xs ∧ Ok ls ∧ Ok xs := by
    obtain ⟨fuel, hf⟩ := h0
    obtain ⟨⟨s, ls, xs⟩, ⟨ca, cb, e1, hs, cc, cd, e2, ⟨A0, c0, e3, hc0, hC0⟩, ⟨A1, c1, e4, hc1, hC1⟩⟩, _, ⟨_, _, w1⟩, ⟨_, _, w2⟩⟩ := op30 W H enc _ _ fuel _ _ hf (OP.weights_at hsz (j := 0) rfl rfl)
    refine ⟨s, ls, xs, A0, c0, A1, c1, ?_, hc0, hC0, hc1, hC1, ok_of w1, ok_of w2⟩
    have hs' := kdr_bool hs
    have e5 : cs0.toList = [.bool s, .slice A0 ls.length c0, .slice A1 xs.length c1] := by
      have : (Value.agg cs0).cells.toList = cs0.toList := by simp [Value.cells]
      rw [← this, e1, hs', e2, e3, e4]
      rfl
    rw [← e5]
  subst e0
  obtain ⟨a1, rfl, rfl, rfl, w1⟩ := open_int Try.underlying3 (hval 1 3 v1 rfl rfl) h1
  clear hA0 hval0 hsz0 hsz
  have key : Calls Try.prog 4 #[.agg #[.bool s, .slice A0 ls.length c0, .slice A1 xs.length c1], .int .i64 a1] W fun e w' => e = .returned (.bool true) ∧ Below W.heap.size W w' := by
    by_cases hg : ∃ m d, ls = limbs m ∧ xs = limbs d ∧ OkR s m d
    · obtain ⟨m, d, rfl, rfl, ho⟩ := hg
      obtain ⟨x, hx⟩ := isR_of ho (Kd.V_mk hc0 (Kd.C_F (Kd.heap_int _) hC0)) (Kd.V_mk hc1 (Kd.C_F (Kd.heap_int _) hC1))
      exact one_good x a1 W _ hx
    · exact one_bad s ls xs ⟨okl, okd, hg⟩ a1 W A0 c0 A1 c1 hC0 hc0 hC1 hc1
  refine key.mono fun e W' ⟨he, bel⟩ => ?_
  subst he
  exact ⟨_, rfl, _, _, _, [], _, [], hW', trodAll_mk1 (shut_bool Try.underlying4 _), (trodAll_cons_mk (Below.trod laidOut (by kernel_rfl) (of_decide_eq_true (by kernel_rfl)) k0 bel lt0) (trodAll_cons_mk (shut_int Try.underlying3 w1) trodAll_mk0)), rfl, bel.frame _, fun h => by cases h⟩
theorem over : Rows.windowOneRow.holds Try.pinned (OpenSpec.ofChange Rows.windowOneSpec) :=
  OpenClaim.holds_of_wide 4 Try.f4 rfl rfl rfl rfl rfl rfl rfl ⟨rfl, rfl, rfl, rfl, rfl⟩ rfl rfl rfl rfl rfl (by kernel_rfl) Try.func4 (by kernel_rfl)
    (of_decide_eq_true (by kernel_rfl)) (by unfold Func.isWrapper; first | (rw [if_pos (by decide +kernel)]; kernel_rfl) | (rw [if_neg (by decide +kernel)]; exact ⟨rfl, rfl⟩))
    (fun os started H enc _ => lifted os started H enc)
theorem proved : Rows.WindowOneSaid := over
end Go.Proofs.Ytgdkgahbmfhgcaa.windowOne
namespace Go.Proofs.Ytgdkgahbmfhgcaa
/-- The row, under a short name, for the claim. -/
theorem windowOne_holds : Rows.WindowOneSaid := windowOne.proved
end Go.Proofs.Ytgdkgahbmfhgcaa
