/- A range over a function whose iterator keeps a box of its own: the caller's law; cuts.parts. -/
import Derived.Test.YtpobgpfkohlokaaCB
import Derived.RangeFuncNested
import Derived.RangeFuncBound
import Derived.RangeFuncCalls
import Derived.RangeFuncLeaves
import Derived.Shelf.Abstract
import Derived.Shelf.RegionOpen
import Derived.OwnWalkIn
import Derived.TacticsInMore
import Derived.LoopNIn
import Derived.LoopIn
namespace Go.Proofs.Ytpobgpfkohlokaa.PC
open Go.RowKit Go.Lib Go.Shelf Go.Proofs.YtpobgpfkohlokaaW.PrintWords Go.Proofs.YtpobgpfkohlokaaW.PrintLast Go.Proofs.YtpobgpfkohlokaaW.PrintMore
set_option linter.unusedVariables false
set_option linter.unusedSimpArgs false
/-- The iterator: whatever J is kept by its own steps (Keep) and made longer by the rounds, it leaves J of all that came, or a round has left. -/
def Feeds {α : Type} (P : Program) (n gf : Nat) (lb : Array Value) (encs : α → Array Value) (b0 : Nat) (Keep : World → World → Prop) (B0 : World → Prop) (S Sp : List α → Prop) (N : Nat) : Prop :=
  ∀ (l : Nat) (J : List α → World → Prop) (Jx : List α → World → Prop), (∀ pre W W', J pre W → Keep W W' → J pre W') →
    (∀ pre x W, J pre W → pre.length < N → YieldAt Fence.wide (n - 1) P l (encs x) W fun e W' => (e = .returned (.bool true) ∧ J (pre ++ [x]) W' ∧ W'.heap[b0]? = W.heap[b0]?) ∨ (e = .returned (.bool false) ∧ Jx (pre ++ [x]) W')) →
    ∀ W, J [] W → B0 W → CallsIn Fence.wide n P gf (#[.func (.yield l) #[] #[]] ++ lb) W fun e W' => (∃ v, e = .returned v) ∧ ((∃ xs, S xs ∧ J xs W') ∨ (∃ pre, Sp pre ∧ Jx pre W'))
/-- How a round may be left. -/
def roundEnds {α : Type} (B b0 : Nat) (I : List α → World → Prop) (X : Code → List α → World → Prop) (xs : List α) (W : World) : Exit → Act → World → Prop
  | .normal, _, W' => KeepsFrom B W W' ∧ W'.heap[b0]? = W.heap[b0]? ∧ I xs W'
  | .ret, _, W' => KeepsFrom B W W' ∧ X .ret xs W'
  | .exit id, _, W' => KeepsFrom B W W' ∧ X (.exit id) xs W'
  | .goto t, _, W' => KeepsFrom B W W' ∧ X (.goto t) xs W'
  | .panic _, _, _ => False
  | .outgrown, _, _ => False
theorem range_law {α : Type} {P : Program} {n : Nat} {g : Operand} {ps : Array Tmp} {assign body : Code} {Q : Exit → Act → World → Prop} {a : Act} {w : World} {gf : Nat} {lb : Array Value}
    (hg : a.eval g = .func (.func gf) #[] lb) (eg : ∀ args w, (callFunc gf args).run P w = .ok (.enter gf args) w) {encs : α → Array Value} (hps : ∀ x, (encs x).size = ps.size)
    {b0 : Nat} (hb0 : b0 < w.heap.size) {Keep : World → World → Prop} {B0 : World → Prop} {S Sp : List α → Prop} {N : Nat} (hit : Feeds P (n - 1) gf lb encs b0 Keep B0 S Sp N)
    (hK : ∀ W W' k o, Keep W W' → w.heap.size ≤ k → W.heap[k]? = some o → o.isCells = false → W'.heap[k]? = some o)
    (I : List α → World → Prop) (X : Code → List α → World → Prop) (hIK : ∀ pre W W', I pre W → Keep W W' → I pre W') (h0 : ∀ o1 o2, I [] ((w.alloc o1).alloc o2)) (hB0 : ∀ o1 o2, B0 ((w.alloc o1).alloc o2))
    (hIp : ∀ pre W o, I pre W → I pre (W.putObj (w.heap.size + 1) o)) (hXp : ∀ c pre W o, X c pre W → X c pre (W.putObj (w.heap.size + 1) o)) (a₁ : α → Act)
    (hassign : ∀ (l : Nat) (x : α) (W : World) (K : Act → World → Prop), K (a₁ x) W →
      assign.wpIn (Fence.wide.inRound l) (n - 1 - 1) P (Exit.then K (fun _ _ _ => False)) { tmps := (ps.zip (encs x)).foldl (fun t (p, v) => t.setIfInBounds p v) a.tmps, defers := [] } W)
    (hbody : ∀ (l : Nat) (pre : List α) (x : α) (W : World), I pre W → pre.length < N → body.wpIn (Fence.wide.inRound l) (n - 1 - 1) P (roundEnds w.heap.size b0 I X (pre ++ [x]) W) (a₁ x) W)
    (hdone : ∀ (D : Nat) (xs : List α) (W : World), w.heap.size = D → S xs → I xs W → W.heap[D]? = some (.deferred (some [])) → Q .normal { a with defers := { target := .collected D, args := #[] } :: a.defers } W)
    (hstop : ∀ (D : Nat) (c : Code) (pre : List α) (W : World), w.heap.size = D → Sp pre → X c pre W → W.heap[D]? = some (.deferred (some [])) → c.wpIn Fence.wide n P Q { a with defers := { target := .collected D, args := #[] } :: a.defers } W) :
    (Code.rangeFunc g ps assign body).wpIn Fence.wide n P Q a w := by
  refine wpIn_rangeFunc fun fn hfn => ?_
  obtain ⟨D, hD⟩ : ∃ D, D = w.heap.size := ⟨_, rfl⟩
  obtain ⟨rec_, hrec⟩ : ∃ rec_ : LoopState → Option Code → Loop, rec_ = fun st pe => { state := st, pending := pe, fn, tmps := a.tmps, params := ps, assign, body, defers := D } := ⟨_, rfl⟩
  have hl1 : ((w.alloc (.deferred (some []))).alloc (.loop (rec_ .ready none))).heap[D + 1]? = some (.loop (rec_ .ready none)) := by
    have := World.alloc_heap_new (w.alloc (.deferred (some []))) (.loop (rec_ .ready none))
    rwa [World.size_alloc, ← hD] at this
  have hd1 : ((w.alloc (.deferred (some []))).alloc (.loop (rec_ .ready none))).heap[D]? = some (.deferred (some [])) := by
    rw [hD]; exact (Below.heap_alloc _ _ _ (by simp)).trans (World.alloc_heap_new w _)
  refine ⟨D + 1, [{ target := .collected D, args := #[] }], (w.alloc (.deferred (some []))).alloc (.loop (rec_ .ready none)), { target := .fn (.func gf) lb, args := #[.func (.yield (D + 1)) #[] #[]] }, (w.alloc (.deferred (some []))).alloc (.loop (rec_ .ready none)), gf,
    #[.func (.yield (D + 1)) #[] #[]] ++ lb, (w.alloc (.deferred (some []))).alloc (.loop (rec_ .ready none)), ?_, ?_, fun _ _ => trivial, ?_, fun h => (by cases h), ?_⟩
  · rw [hrec, hD]; exact run_enterLoop_outer _ _ _ _ _
  · simp only [resolve, hg]; simp [go_sem]
  · simp [invoke, go_sem, eg]
  -- what is kept between two rounds: the caller's word, the record, the block of deferred calls
  have step : ∀ W W', (W.heap[D + 1]? = some (.loop (rec_ .ready none)) ∧ W.heap[D]? = some (.deferred (some []))) → Keep W W' → (W'.heap[D + 1]? = some (.loop (rec_ .ready none)) ∧ W'.heap[D]? = some (.deferred (some []))) := fun W W' h hk =>
    ⟨hK W W' _ _ hk (by omega) h.1 rfl, hK W W' _ _ hk (by omega) h.2 rfl⟩
  refine (hit (D + 1) (fun pre W => I pre W ∧ W.heap[D + 1]? = some (.loop (rec_ .ready none)) ∧ W.heap[D]? = some (.deferred (some [])))
    (fun pre W => ∃ c, X c pre W ∧ W.heap[D + 1]? = some (.loop (rec_ .done (some c))) ∧ W.heap[D]? = some (.deferred (some [])))
    (fun pre W W' h hk => ⟨hIK _ _ _ h.1 hk, step W W' h.2 hk⟩) ?_ _ ⟨h0 _ _, hl1, hd1⟩ (hB0 _ _)).mono ?_
  · rintro pre x W ⟨hi, hl, hd⟩ hN
    have hlt : D + 1 < W.heap.size := (Array.getElem?_eq_some_iff.1 hl).1
    have hy := run_yield (P := P) (args := encs x) hl (by rw [hrec]; exact hps x)
    rw [hrec] at hy
    refine ⟨fn, _, assign, body, hy, roundIn_of_wpIn hfn (hassign _ x W _ ⟨_, run_beginRound hl (by rw [hrec]), ?_⟩)⟩
    have hl2 : (W.putObj (D + 1) (.loop { rec_ .ready none with state := .busy })).heap[D + 1]? = some (.loop { rec_ .ready none with state := .busy }) := World.putObj_heap_same hlt
    have hd2 : (W.putObj (D + 1) (.loop { rec_ .ready none with state := .busy })).heap[D]? = some (.deferred (some [])) := (World.putObj_heap_other (by omega)).trans hd
    have hbx : (W.putObj (D + 1) (.loop { rec_ .ready none with state := .busy })).heap[b0]? = W.heap[b0]? := World.putObj_heap_other (by omega)
    have hi2 : I pre (W.putObj (D + 1) (.loop { rec_ .ready none with state := .busy })) := by have := hIp pre W (.loop { rec_ .ready none with state := .busy }) hi; rwa [← hD] at this
    refine wpIn_mono (hbody _ pre x _ hi2 hN) ?_
    have out : ∀ (j : Option Code) (W3 : World), KeepsFrom w.heap.size (W.putObj (D + 1) (.loop { rec_ .ready none with state := .busy })) W3 →
        (Instr.endRound (D + 1) j).run P W3 = .ok (.bool j.isNone) (W3.putObj (D + 1) (.loop (rec_ (if j.isNone then .ready else .done) j))) ∧
        (W3.putObj (D + 1) (.loop (rec_ (if j.isNone then .ready else .done) j))).heap[D + 1]? = some (.loop (rec_ (if j.isNone then .ready else .done) j)) ∧
        (W3.putObj (D + 1) (.loop (rec_ (if j.isNone then .ready else .done) j))).heap[D]? = some (.deferred (some [])) := fun j W3 hk3 => by
      have hl3 := hk3.same _ _ (by omega) hl2 rfl
      have hd3 := hk3.same _ _ (by omega) hd2 rfl
      have h7 := run_endRound (P := P) j hl3
      rw [hrec] at h7 ⊢
      exact ⟨h7, World.putObj_heap_same (Array.getElem?_eq_some_iff.1 hl3).1, (World.putObj_heap_other (by omega)).trans hd3⟩
    have gone : ∀ (c : Code) (W3 : World), KeepsFrom w.heap.size (W.putObj (D + 1) (.loop { rec_ .ready none with state := .busy })) W3 → X c (pre ++ [x]) W3 → ∃ v w', (Instr.endRound (D + 1) (some c)).run P W3 = .ok v w' ∧ ((Ending.returned v = .returned (.bool true) ∧ (I (pre ++ [x]) w' ∧ w'.heap[D + 1]? = some (.loop (rec_ .ready none)) ∧ w'.heap[D]? = some (.deferred (some []))) ∧ w'.heap[b0]? = W.heap[b0]?) ∨ (Ending.returned v = .returned (.bool false) ∧ ∃ c, X c (pre ++ [x]) w' ∧ w'.heap[D + 1]? = some (.loop (rec_ .done (some c))) ∧ w'.heap[D]? = some (.deferred (some [])))) := fun c W3 hk3 hx => by
      obtain ⟨hr, hl4, hd4⟩ := out (some c) W3 hk3
      exact ⟨_, _, hr, .inr ⟨rfl, c, by have := hXp c _ W3 (.loop (rec_ .done (some c))) hx; rwa [← hD] at this, hl4, hd4⟩⟩
    rintro e a3 W3 hp
    cases e with
    | normal =>
      obtain ⟨hk3, hb3, hi3⟩ := hp
      obtain ⟨hr, hl4, hd4⟩ := out none W3 hk3
      refine ⟨_, _, hr, .inl ⟨rfl, ⟨by have := hIp _ W3 (.loop (rec_ .ready none)) hi3; rwa [← hD] at this, hl4, hd4⟩, ?_⟩⟩
      exact (World.putObj_heap_other (by omega)).trans (hb3.trans hbx)
    | ret => exact gone _ W3 hp.1 hp.2
    | exit id => exact gone _ W3 hp.1 hp.2
    | goto t => exact gone _ W3 hp.1 hp.2
    | panic ch => exact hp.elim
    | outgrown => exact hp.elim
  · rintro e W2 ⟨⟨v, rfl⟩, (⟨xs, hS, hi, hl, hd⟩ | ⟨pre, hSp, c, hx, hl, hd⟩)⟩
    · refine ⟨none, _, (by have := run_endLoop (P := P) hl (by rw [hrec]; simp); rw [hrec] at this; exact this), hdone D xs _ hD.symm hS ?_ ((World.putObj_heap_other (by omega)).trans hd)⟩
      rw [show D + 1 = w.heap.size + 1 by omega]; exact hIp xs W2 _ hi
    · refine ⟨some c, _, (by have := run_endLoop (P := P) hl (by rw [hrec]; simp); rw [hrec] at this; exact this), hstop D c pre _ hD.symm hSp ?_ ((World.putObj_heap_other (by omega)).trans hd)⟩
      rw [show D + 1 = w.heap.size + 1 by omega]; exact hXp c pre W2 _ hx
end Go.Proofs.Ytpobgpfkohlokaa.PC
