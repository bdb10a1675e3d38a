/- quote.Quote, of texts of bytes 32 to 126. -/
import Derived.Test.YtkkaaipiaandaaaDoorB3
import Derived.RangeFuncNested
import Derived.RangeFuncBound
import Derived.RangeFuncCalls
import Derived.RangeFuncLeaves
import Derived.Shelf.Abstract
import Derived.Shelf.RegionOpen
import Derived.OwnWalkIn
import Derived.TacticsInMore
import Derived.LoopNIn
import Derived.LoopIn
import Derived.Sort.LoopGhostIn
import Derived.Sort.CutIn
namespace Go.Proofs.YtkkaaipiaandaaaDoor.PC
open Go.RowKit Go.Lib Go.Shelf Go.Maps Go.Proofs.YtkkaaipiaandaaaDoorW.PrintWords Go.Proofs.YtkkaaipiaandaaaDoorW.PrintLast Go.Proofs.YtkkaaipiaandaaaDoorW.PrintMore
set_option linter.unusedVariables false
set_option linter.unusedSimpArgs false
-- CC
/-- The iterator: whatever J is kept by its own steps (Keep) and made longer by the rounds, it leaves J of all that came, or a round has left. -/
def Feeds {α : Type} (P : Program) (n gf : Nat) (lb : Array Value) (encs : α → Array Value) (b0 : Nat) (Keep : World → World → Prop) (B0 : World → Prop) (S Sp : List α → Prop) (N : Nat) : Prop :=
  ∀ (l : Nat) (J : List α → World → Prop) (Jx : List α → World → Prop), (∀ pre W W', J pre W → Keep W W' → J pre W') →
    (∀ pre x W, J pre W → pre.length < N → YieldAt Fence.wide (n - 1) P l (encs x) W fun e W' => (e = .returned (.bool true) ∧ J (pre ++ [x]) W' ∧ W'.heap[b0]? = W.heap[b0]?) ∨ (e = .returned (.bool false) ∧ Jx (pre ++ [x]) W')) →
    ∀ W, J [] W → B0 W → CallsIn Fence.wide n P gf (#[.func (.yield l) #[] #[]] ++ lb) W fun e W' => (∃ v, e = .returned v) ∧ ((∃ xs, S xs ∧ J xs W') ∨ (∃ pre, Sp pre ∧ Jx pre W'))
/-- How a round may be left. -/
def roundEnds {α : Type} (B b0 : Nat) (I : List α → World → Prop) (X : Code → List α → World → Prop) (xs : List α) (W : World) : Exit → Act → World → Prop
  | .normal, _, W' => KeepsFrom B W W' ∧ W'.heap[b0]? = W.heap[b0]? ∧ I xs W'
  | .ret, _, W' => KeepsFrom B W W' ∧ X .ret xs W'
  | .exit id, _, W' => KeepsFrom B W W' ∧ X (.exit id) xs W'
  | .goto t, _, W' => KeepsFrom B W W' ∧ X (.goto t) xs W'
  | .panic _, _, _ => False
  | .outgrown, _, _ => False
theorem range_law {α : Type} {P : Program} {n : Nat} {g : Operand} {ps : Array Tmp} {assign body : Code} {Q : Exit → Act → World → Prop} {a : Act} {w : World} {gf : Nat} {lb : Array Value}
    (hg : a.eval g = .func (.func gf) #[] lb) (eg : ∀ args w, (callFunc gf args).run P w = .ok (.enter gf args) w) {encs : α → Array Value} (hps : ∀ x, (encs x).size = ps.size)
    {b0 : Nat} (hb0 : b0 < w.heap.size) {Keep : World → World → Prop} {B0 : World → Prop} {S Sp : List α → Prop} {N : Nat} (hit : Feeds P (n - 1) gf lb encs b0 Keep B0 S Sp N)
    (hK : ∀ W W' k o, Keep W W' → w.heap.size ≤ k → W.heap[k]? = some o → o.isCells = false → W'.heap[k]? = some o)
    (I : List α → World → Prop) (X : Code → List α → World → Prop) (hIK : ∀ pre W W', I pre W → Keep W W' → I pre W') (h0 : ∀ o1 o2 : Obj, o1.isCells = false → o2.isCells = false → I [] ((w.alloc o1).alloc o2)) (hB0 : ∀ o1 o2, B0 ((w.alloc o1).alloc o2))
    (hIp : ∀ pre W (o : Obj), o.isCells = false → I pre W → I pre (W.putObj (w.heap.size + 1) o)) (hXp : ∀ c pre W o, X c pre W → X c pre (W.putObj (w.heap.size + 1) o)) (a₁ : α → Act)
    (hassign : ∀ (l : Nat) (x : α) (W : World) (K : Act → World → Prop), K (a₁ x) W →
      assign.wpIn (Fence.wide.inRound l) (n - 1 - 1) P (Exit.then K (fun _ _ _ => False)) { tmps := (ps.zip (encs x)).foldl (fun t (p, v) => t.setIfInBounds p v) a.tmps, defers := [] } W)
    (hbody : ∀ (l : Nat) (pre : List α) (x : α) (W : World), I pre W → pre.length < N → body.wpIn (Fence.wide.inRound l) (n - 1 - 1) P (roundEnds w.heap.size b0 I X (pre ++ [x]) W) (a₁ x) W)
    (hdone : ∀ (D : Nat) (xs : List α) (W : World), w.heap.size = D → S xs → I xs W → W.heap[D]? = some (.deferred (some [])) → Q .normal { a with defers := { target := .collected D, args := #[] } :: a.defers } W)
    (hstop : ∀ (D : Nat) (c : Code) (pre : List α) (W : World), w.heap.size = D → Sp pre → X c pre W → W.heap[D]? = some (.deferred (some [])) → c.wpIn Fence.wide n P Q { a with defers := { target := .collected D, args := #[] } :: a.defers } W) :
    (Code.rangeFunc g ps assign body).wpIn Fence.wide n P Q a w := by
  refine wpIn_rangeFunc fun fn hfn => ?_
  obtain ⟨D, hD⟩ : ∃ D, D = w.heap.size := ⟨_, rfl⟩
  obtain ⟨rec_, hrec⟩ : ∃ rec_ : LoopState → Option Code → Loop, rec_ = fun st pe => { state := st, pending := pe, fn, tmps := a.tmps, params := ps, assign, body, defers := D } := ⟨_, rfl⟩
  have hl1 : ((w.alloc (.deferred (some []))).alloc (.loop (rec_ .ready none))).heap[D + 1]? = some (.loop (rec_ .ready none)) := by
    have := World.alloc_heap_new (w.alloc (.deferred (some []))) (.loop (rec_ .ready none))
    rwa [World.size_alloc, ← hD] at this
  have hd1 : ((w.alloc (.deferred (some []))).alloc (.loop (rec_ .ready none))).heap[D]? = some (.deferred (some [])) := by
    rw [hD]; exact (Below.heap_alloc _ _ _ (by simp)).trans (World.alloc_heap_new w _)
  refine ⟨D + 1, [{ target := .collected D, args := #[] }], (w.alloc (.deferred (some []))).alloc (.loop (rec_ .ready none)), { target := .fn (.func gf) lb, args := #[.func (.yield (D + 1)) #[] #[]] }, (w.alloc (.deferred (some []))).alloc (.loop (rec_ .ready none)), gf,
    #[.func (.yield (D + 1)) #[] #[]] ++ lb, (w.alloc (.deferred (some []))).alloc (.loop (rec_ .ready none)), ?_, ?_, fun _ _ => trivial, ?_, fun h => (by cases h), ?_⟩
  · rw [hrec, hD]; exact run_enterLoop_outer _ _ _ _ _
  · simp only [resolve, hg]; simp [go_sem]
  · simp [invoke, go_sem, eg]
  -- what is kept between two rounds: the caller's word, the record, the block of deferred calls
  have step : ∀ W W', (W.heap[D + 1]? = some (.loop (rec_ .ready none)) ∧ W.heap[D]? = some (.deferred (some []))) → Keep W W' → (W'.heap[D + 1]? = some (.loop (rec_ .ready none)) ∧ W'.heap[D]? = some (.deferred (some []))) := fun W W' h hk =>
    ⟨hK W W' _ _ hk (by omega) h.1 rfl, hK W W' _ _ hk (by omega) h.2 rfl⟩
  refine (hit (D + 1) (fun pre W => I pre W ∧ W.heap[D + 1]? = some (.loop (rec_ .ready none)) ∧ W.heap[D]? = some (.deferred (some [])))
    (fun pre W => ∃ c, X c pre W ∧ W.heap[D + 1]? = some (.loop (rec_ .done (some c))) ∧ W.heap[D]? = some (.deferred (some [])))
    (fun pre W W' h hk => ⟨hIK _ _ _ h.1 hk, step W W' h.2 hk⟩) ?_ _ ⟨h0 _ _ rfl rfl, hl1, hd1⟩ (hB0 _ _)).mono ?_
  · rintro pre x W ⟨hi, hl, hd⟩ hN
    have hlt : D + 1 < W.heap.size := (Array.getElem?_eq_some_iff.1 hl).1
    have hy := run_yield (P := P) (args := encs x) hl (by rw [hrec]; exact hps x)
    rw [hrec] at hy
    refine ⟨fn, _, assign, body, hy, roundIn_of_wpIn hfn (hassign _ x W _ ⟨_, run_beginRound hl (by rw [hrec]), ?_⟩)⟩
    have hl2 : (W.putObj (D + 1) (.loop { rec_ .ready none with state := .busy })).heap[D + 1]? = some (.loop { rec_ .ready none with state := .busy }) := World.putObj_heap_same hlt
    have hd2 : (W.putObj (D + 1) (.loop { rec_ .ready none with state := .busy })).heap[D]? = some (.deferred (some [])) := (World.putObj_heap_other (by omega)).trans hd
    have hbx : (W.putObj (D + 1) (.loop { rec_ .ready none with state := .busy })).heap[b0]? = W.heap[b0]? := World.putObj_heap_other (by omega)
    have hi2 : I pre (W.putObj (D + 1) (.loop { rec_ .ready none with state := .busy })) := by have := hIp pre W (.loop { rec_ .ready none with state := .busy }) rfl hi; rwa [← hD] at this
    refine wpIn_mono (hbody _ pre x _ hi2 hN) ?_
    have out : ∀ (j : Option Code) (W3 : World), KeepsFrom w.heap.size (W.putObj (D + 1) (.loop { rec_ .ready none with state := .busy })) W3 →
        (Instr.endRound (D + 1) j).run P W3 = .ok (.bool j.isNone) (W3.putObj (D + 1) (.loop (rec_ (if j.isNone then .ready else .done) j))) ∧
        (W3.putObj (D + 1) (.loop (rec_ (if j.isNone then .ready else .done) j))).heap[D + 1]? = some (.loop (rec_ (if j.isNone then .ready else .done) j)) ∧
        (W3.putObj (D + 1) (.loop (rec_ (if j.isNone then .ready else .done) j))).heap[D]? = some (.deferred (some [])) := fun j W3 hk3 => by
      have hl3 := hk3.same _ _ (by omega) hl2 rfl
      have hd3 := hk3.same _ _ (by omega) hd2 rfl
      have h7 := run_endRound (P := P) j hl3
      rw [hrec] at h7 ⊢
      exact ⟨h7, World.putObj_heap_same (Array.getElem?_eq_some_iff.1 hl3).1, (World.putObj_heap_other (by omega)).trans hd3⟩
    have gone : ∀ (c : Code) (W3 : World), KeepsFrom w.heap.size (W.putObj (D + 1) (.loop { rec_ .ready none with state := .busy })) W3 → X c (pre ++ [x]) W3 → ∃ v w', (Instr.endRound (D + 1) (some c)).run P W3 = .ok v w' ∧ ((Ending.returned v = .returned (.bool true) ∧ (I (pre ++ [x]) w' ∧ w'.heap[D + 1]? = some (.loop (rec_ .ready none)) ∧ w'.heap[D]? = some (.deferred (some []))) ∧ w'.heap[b0]? = W.heap[b0]?) ∨ (Ending.returned v = .returned (.bool false) ∧ ∃ c, X c (pre ++ [x]) w' ∧ w'.heap[D + 1]? = some (.loop (rec_ .done (some c))) ∧ w'.heap[D]? = some (.deferred (some [])))) := fun c W3 hk3 hx => by
      obtain ⟨hr, hl4, hd4⟩ := out (some c) W3 hk3
      exact ⟨_, _, hr, .inr ⟨rfl, c, by have := hXp c _ W3 (.loop (rec_ .done (some c))) hx; rwa [← hD] at this, hl4, hd4⟩⟩
    rintro e a3 W3 hp
    cases e with
    | normal =>
      obtain ⟨hk3, hb3, hi3⟩ := hp
      obtain ⟨hr, hl4, hd4⟩ := out none W3 hk3
      refine ⟨_, _, hr, .inl ⟨rfl, ⟨by have := hIp _ W3 (.loop (rec_ .ready none)) rfl hi3; rwa [← hD] at this, hl4, hd4⟩, ?_⟩⟩
      exact (World.putObj_heap_other (by omega)).trans (hb3.trans hbx)
    | ret => exact gone _ W3 hp.1 hp.2
    | exit id => exact gone _ W3 hp.1 hp.2
    | goto t => exact gone _ W3 hp.1 hp.2
    | panic ch => exact hp.elim
    | outgrown => exact hp.elim
  · rintro e W2 ⟨⟨v, rfl⟩, (⟨xs, hS, hi, hl, hd⟩ | ⟨pre, hSp, c, hx, hl, hd⟩)⟩
    · refine ⟨none, _, (by have := run_endLoop (P := P) hl (by rw [hrec]; simp); rw [hrec] at this; exact this), hdone D xs _ hD.symm hS ?_ ((World.putObj_heap_other (by omega)).trans hd)⟩
      rw [show D + 1 = w.heap.size + 1 by omega]; exact hIp xs W2 _ rfl hi
    · refine ⟨some c, _, (by have := run_endLoop (P := P) hl (by rw [hrec]; simp); rw [hrec] at this; exact this), hstop D c pre _ hD.symm hSp ?_ ((World.putObj_heap_other (by omega)).trans hd)⟩
      rw [show D + 1 = w.heap.size + 1 by omega]; exact hXp c pre W2 _ hx
theorem frozen_bl {w w' : World} {a : Addr} {v : Value} (hb : Below w.heap.size w w') (hc : w.cell? a = some v) : w'.frozen? a = w.frozen? a := by
  have := hb.block a.block (World.block_lt_of_cell? w a hc)
  simp [World.frozen?, this]
theorem kb_putObj (W : World) (l : Nat) (o : Obj) : Kb (fun j => j = l) W (W.putObj l o) :=
  (Kb.refl _ W).grown (grownBy_putObj' W l o) (fun k e => by cases e; exact .inl rfl)
attribute [local go_sem] Oper.semAt_some
set_option maxHeartbeats 4000000 in
theorem decode_calls (s : ByteArray) (x : UInt8) (w : World) (h0 : s.data.toList[0]? = some x) (hx : x.toNat < 128) : Calls Tryd.prog 73 #[.string s] w fun e w' => e = .returned (.tuple #[.int .i32 x.toNat, .int .i64 1]) ∧ w' = w := by
  have hd := fun W => Tryd.utf8_DecodeRuneInString_ascii s x W h0 hx
  have hne : (s.toList == []) = false := by
    rw [ByteArray.toList_eq]
    cases hl : s.data.toList with
    | nil => rw [hl] at h0; cases h0
    | cons _ _ => rfl
  have hne2 : ¬ s.toList = [] := by simpa using hne
  obtain ⟨c, hc⟩ : ∃ c : Int, c = (x.toNat : Int) := ⟨_, rfl⟩
  rw [← hc]
  rw [← hc] at hd
  clear h0 hx hc
  go_enter Tryd.func73, Tryd.ntmps73
  go_wp2_with (go_at_call 85; refine (hd _).mono ?_; rintro e w' ⟨rfl, rfl⟩)
  go_ret2
  exact ⟨rfl, rfl⟩
theorem each_calls (s : ByteArray) (w : World) : Calls Tryd.prog 54 #[.string s] w fun e w' => e = .returned (.func (.func 72) #[] #[.pointer (some ⟨w.heap.size, 0, none⟩)]) ∧ w' = w.alloc (.cells #[.string s] 9) := by
  go_enter Tryd.func54, Tryd.ntmps54
  go_wp2
  go_ret
  exact ⟨rfl, rfl⟩
/-- A byte's rune, and its text. -/
abbrev Q1 := { x : UInt8 // 32 ≤ x.toNat ∧ x.toNat < 127 }
def encQ (x : Q1) : Array Value := #[.int .i32 (x.1.toNat : Int), .string ⟨#[x.1]⟩]
set_option maxHeartbeats 8000000 in
set_option maxRecDepth 100000 in
theorem each_feeds (s : ByteArray) (hs : s.size ≤ 100000) (ha : ∀ x ∈ s.data.toList, 32 ≤ x.toNat ∧ x.toNat < 127) (b0 n : Nat) : Feeds Tryd.prog n 72 #[.pointer (some ⟨b0, 0, none⟩)] encQ b0 (fun W W' => ∃ u, W' = W.setCell ⟨b0, 0, none⟩ u) (fun W => Boxed W b0 9 (.string s)) (fun xs => xs.map (·.1) = s.data.toList) (fun pre => True) 100000 := by
  rintro l J Jx hJK hY W hJ0 hb0'
  have hb0 := Aside0.mk hb0'
  clear hb0'
  refine callsIn_of_wp Tryd.func72 rfl trivial ?_ rfl
  simp only [Tryd.ntmps72, List.size_toArray, List.length_cons, List.length_nil, Nat.reduceAdd, Nat.reduceSub, Array.replicate_succ, Array.replicate_zero, List.push_toArray, List.append_toArray, List.nil_append, List.cons_append]
  gi_wp2
  gi_loopg [] s.size (fun g1 wr => ∃ (s1 : ByteArray) (pre : List Q1), Aside0 (s1.size ≤ 100000 ∧ s1.size ≤ g1) ∧ Aside0 (Boxed wr b0 9 (.string s1)) ∧ Aside0 (J pre wr) ∧ Aside0 (pre.map (·.1) ++ s1.data.toList = s.data.toList))
  case atStart => exact ⟨s, [], ⟨hs, Nat.le_refl _⟩, hb0, ⟨hJ0⟩, ⟨rfl⟩⟩
  case round =>
    obtain ⟨s1, pre, HS, HX, HJ, HP⟩ := hrel
    have hbx := HX.out.cell
    have hfx := HX.out.frozen
    cases hl : s1.data.toList with
    | nil =>
      have hne : (s1.toList == []) = true := by rw [ByteArray.toList_eq, hl]; rfl
      have hne2 : s1.toList = [] := by rw [ByteArray.toList_eq, hl]
      have HE := Aside0.mk (show pre.map (·.1) = s.data.toList by rw [← HP.out, hl, List.append_nil])
      clear hl
      gi_wp2_with fail
      go_end0
      exact ⟨⟨_, rfl⟩, .inl ⟨pre, HE.out, HJ.out⟩⟩
    | cons x r =>
      have hne : (s1.toList == []) = false := by rw [ByteArray.toList_eq, hl]; rfl
      have hne2 : ¬ s1.toList = [] := by rw [ByteArray.toList_eq, hl]; simp
      have hxs : x ∈ s.data.toList := by rw [← HP.out, hl]; exact List.mem_append_right _ List.mem_cons_self
      have hdc := decode_calls s1 x wr (by rw [hl]; rfl) (by have := ha x hxs; omega)
      have hsz1 : 1 ≤ s1.size := by rw [← lk_size, hl]; simp
      have hz1 : (1 : Int) ≤ (s1.size : Int) := by omega
      have hx1 : s1.extract 0 1 = ⟨#[x]⟩ := b2_ba (by rw [ext_one s1 0 (by rw [hl]; rfl)])
      have HLT := Aside0.mk (show pre.length < 100000 by
        have h1 := congrArg List.length HP.out
        rw [List.length_append, hl, lk_size, List.length_map] at h1
        simp only [List.length_cons] at h1
        omega)
      have HR1 := Aside0.mk (show (s1.extract 1 s1.size).data.toList = r by
        rw [ByteArray.data_extract, Array.toList_extract, List.extract_eq_take_drop, hl, List.drop_succ_cons, List.drop_zero, List.take_of_length_le]
        have := lk_size s1
        rw [hl] at this
        simp only [List.length_cons] at this
        omega)
      have HL := Aside0.mk hl
      have HA := Aside0.mk (ha x hxs)
      obtain ⟨fn, tmps, assign, body, hy, hR⟩ := hY pre ⟨x, ha x hxs⟩ wr HJ.out HLT.out
      simp only [encQ] at hy
      have HR := Aside0.mk hR
      have HDC := Aside0.mk hdc
      clear hR hl hdc
      gi_wp2_with fail
      refine ⟨trivial, fun h => (by cases h), (callsIn_wide.2 HDC.out).mono ?_⟩
      rintro e w1 ⟨rfl, rfl⟩
      gi_wp2_with fail
      refine ⟨fun h => (by cases h), HR.out.mono ?_⟩
      rintro e W3 (⟨rfl, hJ3, hk3⟩ | ⟨rfl, hJx3⟩)
      · have H3 := Aside0.mk hJ3
        have HX3 : Aside0 (Boxed W3 b0 9 (.string s1)) := ⟨hk3.trans HX.out⟩
        have hbx3 := HX3.out.cell
        have hfx3 := HX3.out.frozen
        clear hJ3 hk3
        gi_wp2
        gi_roundg (s1.size - 1)
        case measure => have := HS.out.2; omega
        case rel =>
          refine ⟨s1.extract 1 s1.size, pre ++ [⟨x, HA.out⟩], ⟨by rw [ByteArray.size_extract]; have := HS.out.1; omega, by rw [ByteArray.size_extract]; omega⟩, ⟨HX3.out.set _⟩, ⟨hJK _ _ _ H3.out ⟨_, rfl⟩⟩, ⟨?_⟩⟩
          rw [HR1.out, ← HP.out, HL.out, List.map_append, List.append_assoc]
          rfl
      · have H3 := Aside0.mk hJx3
        clear hJx3
        gi_wp2
        refine bodyPost_ret (results_none rfl _ _ _) rfl ?_
        exact ⟨⟨_, rfl⟩, .inr ⟨_, trivial, H3.out⟩⟩
end Go.Proofs.YtkkaaipiaandaaaDoor.PC
