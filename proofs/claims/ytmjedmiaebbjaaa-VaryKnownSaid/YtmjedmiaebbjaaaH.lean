/- The reader of package vary (New, U, S, Text, Err, Left), call by call: what each answers and how the reader stands behind it. Conditions: the bytes are bytes (0 to 255). -/
import Derived.Test.YtmjedmiaebbjaaaProg
import Derived.Below
import Derived.Deep.Draws
import Derived.Deep.AppendLies
import Derived.Maps.AppendAt
import Derived.OwnWalk
import Derived.Laws.BytesArg
import Derived.Laws.MakeOwn
import Derived.Laws.OwnMore
import Derived.Deep.OwnRows
import Derived.Tactics
import Derived.Lib.ConvBytes
import Derived.Laws.Slices
import Derived.WalkKit
import Derived.KernelRfl
import Derived.RowKit3
import Derived.Deep.LoopGhost
import Derived.Deep.QuietTactic
import Derived.BigQuiet
import Derived.WideLaws
import Derived.Deep.DeepCutAuto
import Derived.Deep.CutBlock
import Derived.Deep.RegionHeld3
import Derived.Laws.Rows
import Derived.Lib.AppendStr
import Derived.ArgAppend
import Derived.Laws.IdiomCopy
import Derived.OrdersHeld
import Derived.Laws.BitsLemmas
import Derived.RowKit
import Derived.Test.YtmjedmiaebbjaaaWWords
import Derived.Test.YtmjedmiaebbjaaaWLast
import Derived.Test.YtmjedmiaebbjaaaWTab
import Derived.Test.YtmjedmiaebbjaaaWFour
import Derived.Test.YtmjedmiaebbjaaaWQPut
import Derived.Test.YtmjedmiaebbjaaaWApart
import Derived.Test.YtmjedmiaebbjaaaWArr
import Derived.Test.YtmjedmiaebbjaaaWZeros
import Derived.Test.YtmjedmiaebbjaaaWFoot
import Derived.Test.YtmjedmiaebbjaaaWKept
import Derived.Test.YtmjedmiaebbjaaaWShare
import Derived.Test.YtmjedmiaebbjaaaWN
import Derived.Test.YtmjedmiaebbjaaaWFootNe
import Derived.Test.YtmjedmiaebbjaaaWAt
import Derived.Test.YtmjedmiaebbjaaaWEqStruct
import Derived.Test.YtmjedmiaebbjaaaWRepsOne
import Derived.Test.YtmjedmiaebbjaaaWInv
import Derived.Test.YtmjedmiaebbjaaaWInvWords
import Derived.Test.YtmjedmiaebbjaaaWGuard
import Derived.Test.YtmjedmiaebbjaaaWNEv
import Derived.Test.YtmjedmiaebbjaaaWMore
import Derived.WalkSpells
import Derived.Test.YtmjedmiaebbjaaaVA
namespace Go.Proofs.Ytmjedmiaebbjaaa.H
open Go.RowKit Go.Proofs.YtmjedmiaebbjaaaW.PrintWords Go.Proofs.YtmjedmiaebbjaaaW.PrintLast Go.Proofs.YtmjedmiaebbjaaaW.PrintMore
set_option linter.unusedVariables false
set_option linter.unusedSimpArgs false
theorem hinfo5 : (Try.prog.info? 5).map (fun i => (i.zero, i.size, i.bytes)) = some (some (.int .u8 0), 1, 1) := by kernel_rfl

def bytes_Clone.f (l0 : List Int) : Option (List Int) := if l0.length < 140737488355328 then some l0 else none
set_option maxHeartbeats 800000 in
set_option maxRecDepth 100000 in
theorem bytes_Clone.calls (A0 : Option Addr) (c0 : Nat) (l0 : List Int) (r : List Int) (w : World) (hr0 : Kd.C (Kd.int .u8) w A0 l0.length l0) (hc0 : l0.length ≤ c0) (h : bytes_Clone.f l0 = some r) :
    Calls Try.prog 36 #[.slice A0 l0.length c0] w fun e w' => ∃ v0_ : Value, e = .returned (v0_) ∧ Kd.R (Kd.int .u8) 5 w' w.heap.size (fun _ => True) v0_ r ∧ Below w.heap.size w w' := by
  unfold bytes_Clone.f at h
  by_cases c2 : l0.length < 140737488355328
  · rw [if_pos c2] at h
    obtain rfl := Option.some.inj h
    have HR0 := Aside0.mk hr0
    have HC0 := Aside0.mk hc0
    have LMc2 := Aside0.mk c2
    clear c2 h hr0 hc0
    have HB := Aside0.mk (Below.refl w.heap.size w)
    have q22 : ∀ (w : World) (a : Option Addr) (n c n' c' : Nat), (binOp .eql 22 (.slice a n c) (.slice none n' c')).run Try.prog w = .ok (.bool a.isNone) w := fun w a n c n' c' => Lib.run_eql_slice_nil w _ _ a n c n' c' Try.underlying22
    cases A0 with
    | none =>
      have hl : l0 = [] := by
        cases l0 with
        | nil => rfl
        | cons a t => obtain ⟨ad, h, _⟩ := HR0.out.2.2 (by simp); cases h
      subst hl
      go_enter Try.func36, Try.ntmps36
      go_wp2
      go_ret
      exact ⟨_, rfl, Kd.R_nil _ _ _ _ _, HB.out⟩
    | some ad =>
      go_enter Try.func36, Try.ntmps36
      go_wp2_with (first
        | ((with_reducible refine gate_dst (N := 5) rfl ?_); refine Kd.R_lit (Kd.int .u8) (w0 := w) w.heap.size 5 ?hg (N := 5) ?hd (xs := ([] : List Int)) (inner := []) (ok := fun _ => True) (okp := fun _ => True) ?hr ?hp (fun _ hk => hk) trivial (Below.refl _ _) (Nat.le_refl _) (by simp) ?_; (case hd => rfl); (case hg => rfl); (case hr => first | (go_simp; done) | (go_simp; rfl)); (case hp => exact (Reps.none _ _)); intro v122 w3 ho4 hb hg_ hnew_; clear hg_ hnew_; have n1_ := Aside0.mk hb; have HO := Aside0.mk ho4; clear HB; have HB := n1_; clear n1_ ho4 hb)
        | ((with_reducible refine gate_builtin (b := .append) (xs := #[.tmp 5, .tmp 6]) rfl ?_); at_builtin; refine Kd.R_append_rows (Kd.int .u8) (w0 := w) w.heap.size rfl (.tmp 5) (.tmp 6) 22 5 (.int .u8 0) 1 rfl Try.underlying22 hinfo5 rfl (by decide) (by omega) v122 ([] : List Int) l0 _ _ _ (fun _ => True) (fun _ => False) rfl rfl ?aO ?aR (fun _ _ h => h) (fun _ h => h.elim) ?aF ?aB ?aS ?aL ?_; (case aR => exact Kd.C_below HR0.out HB.out); (case aB => exact HB.out); (case aF => exact (fun _ _ => trivial)); (case aO => exact HO.out); (case aS => exact below_size HB.out); (case aL => have := LMc2.out; simp; omega); intro v250 w3 ho hb hg hat; have n0_ := Aside0.mk (hb); have n1_ := Aside0.mk (ho); clear HB HO; have HB := n0_; have HO251 := n1_; clear n0_ n1_; clear ho hb hg hat))
      go_ret
      exact ⟨_, rfl, by simpa using HO251.out, HB.out⟩
  · rw [if_neg c2] at h
    exact absurd h (by simp)
/-- w' is w but for what block g holds (and for draws). -/
structure Only (w w' : World) (g : Nat) : Prop where
  os : w'.os = w.os
  tape : w'.tape = w.tape
  output : w'.output = w.output
  size : w'.heap.size = w.heap.size
  block : ∀ i, i ≠ g → w'.heap[i]? = w.heap[i]?
theorem Only.refl (w : World) (g : Nat) : Only w w g := ⟨rfl, rfl, rfl, rfl, fun _ _ => rfl⟩
theorem Only.trans {a b c : World} {g : Nat} (h : Only a b g) (k : Only b c g) : Only a c g := ⟨k.os.trans h.os, k.tape.trans h.tape, k.output.trans h.output, k.size.trans h.size, fun i hi => (k.block i hi).trans (h.block i hi)⟩
theorem Only.setCell {a b : World} {g : Nat} (h : Only a b g) (j : Nat) (u : Value) : Only a (b.setCell ⟨g, j, none⟩ u) g := h.trans ⟨rfl, rfl, rfl, by simp [World.setCell], fun i hi => Below.heap_setCell _ _ _ _ hi⟩
theorem Only.drewN {a b : World} {g : Nat} (h : Only a b g) (n : Nat) : Only a (b.drewN n) g := ⟨h.os, h.tape, h.output, h.size, h.block⟩
theorem Only.below {a b : World} {g B : Nat} (h : Only a b g) (hg : B ≤ g) : Below B a b := ⟨h.os, h.tape, h.output, by rw [h.size]; exact Nat.le_refl _, fun k hk => h.block k (by omega)⟩
/-- v is a slice of the bytes l, in a block of S. -/
def RowIn (w : World) (S : Nat → Prop) (v : Value) (l : List Int) : Prop := ∃ A c, v = .slice A l.length c ∧ l.length ≤ c ∧ Kd.C (Kd.int .u8) w A l.length l ∧ ∀ ad, A = some ad → S ad.block
theorem C_blocks {w w' : World} {A : Option Addr} {n : Nat} {l : List Int} (h : Kd.C (Kd.int .u8) w A n l) (hb : ∀ ad, A = some ad → w'.heap[ad.block]? = w.heap[ad.block]?) : Kd.C (Kd.int .u8) w' A n l := by
  refine ⟨h.1, h.2.1, fun hn => ?_⟩
  obtain ⟨ad, e, hc⟩ := h.2.2 hn
  refine ⟨ad, e, fun j p hj => ?_⟩
  obtain ⟨c, h1, h2, h3⟩ := hc j p hj
  refine ⟨c, h1, h2, fun i u hu => ?_⟩
  rw [← h3 i u hu]
  exact World.cell?_of_block (w := w) (by rw [add_block]; exact hb ad e)
theorem RowIn.only {w w' : World} {S : Nat → Prop} {v : Value} {l : List Int} {g : Nat} (h : RowIn w S v l) (ho : Only w w' g) (hS : ∀ k, S k → k ≠ g) : RowIn w' S v l := by
  obtain ⟨A, c, e, hl, hC, hA⟩ := h
  exact ⟨A, c, e, hl, C_blocks hC (fun ad ha => ho.block _ (hS _ (hA ad ha))), hA⟩
theorem RowIn.below {w w' : World} {S : Nat → Prop} {v : Value} {l : List Int} (h : RowIn w S v l) (ho : Below w.heap.size w w') : RowIn w' S v l := by
  obtain ⟨A, c, e, hl, hC, hA⟩ := h
  exact ⟨A, c, e, hl, Kd.C_below hC ho, hA⟩
theorem RowIn.of_R {w : World} {base : Nat} {ok : Nat → Prop} {v : Value} {l : List Int} (h : Kd.R (Kd.int .u8) 5 w base ok v l) : RowIn w (fun k => base ≤ k ∧ k < w.heap.size) v l := by
  have hb := Kd.R_base h
  have hl := Kd.R_lt h
  obtain ⟨A, c, rfl, h1, h2⟩ := Kd.R_reads h
  exact ⟨A, c, rfl, h1, h2, fun ad ha => ⟨hb _ (by subst ha; simp [Value.ownBlock]), hl _ (by subst ha; simp [Value.ownBlock])⟩⟩
theorem RowIn.mono {w : World} {S S' : Nat → Prop} {v : Value} {l : List Int} (h : RowIn w S v l) (hS : ∀ k, S k → S' k) : RowIn w S' v l := by
  obtain ⟨A, c, e, hl, hC, hA⟩ := h
  exact ⟨A, c, e, hl, hC, fun ad ha => hS _ (hA ad ha)⟩
theorem RowIn.cut {w : World} {S : Nat → Prop} {A : Option Addr} {c m : Nat} {l : List Int} (hl : l.length ≤ c) (hC : Kd.C (Kd.int .u8) w A l.length l) (hA : ∀ ad, A = some ad → S ad.block) (hm : m ≤ l.length) :
    RowIn w S (.slice (if c = m then A else A.map (·.add (m * 1))) (l.length - m) (c - m)) (l.drop m) := by
  refine ⟨if c = m then A else A.map (·.add (m * 1)), c - m, by rw [List.length_drop], by rw [List.length_drop]; omega, Kd.C_drop (m := m) (c := c) hC hm hl, fun ad ha => ?_⟩
  split at ha
  · exact hA ad ha
  · cases A with
    | none => cases ha
    | some a =>
      simp only [Option.map_some, Option.some.injEq] at ha
      rw [← ha, add_block]
      exact hA a rfl
/-- The program's reader at block g: what is left, and its error. -/
def Rd (w : World) (g : Nat) (S : Nat → Prop) (l : List Int) (e : Int) : Prop := ∃ v, w.heap[g]? = some (.cells #[.bool true, v, .int .i64 e] 51 (0, 0)) ∧ RowIn w S v l
/-- The document's reader at block g. -/
def Rr (w : World) (g : Nat) (S : Nat → Prop) (l : List Int) (e : Int) : Prop := ∃ v, w.heap[g]? = some (.cells #[v, .int .i64 e] 46 (0, 0)) ∧ RowIn w S v l
theorem Rd.other {w w' : World} {g g' : Nat} {S : Nat → Prop} {l : List Int} {e : Int} (h : Rd w g S l e) (ho : Only w w' g') (hg : g ≠ g') (hS : ∀ k, S k → k ≠ g') : Rd w' g S l e := by
  obtain ⟨v, hb, hr⟩ := h
  exact ⟨v, (ho.block g hg).trans hb, hr.only ho hS⟩
theorem Rr.other {w w' : World} {g g' : Nat} {S : Nat → Prop} {l : List Int} {e : Int} (h : Rr w g S l e) (ho : Only w w' g') (hg : g ≠ g') (hS : ∀ k, S k → k ≠ g') : Rr w' g S l e := by
  obtain ⟨v, hb, hr⟩ := h
  exact ⟨v, (ho.block g hg).trans hb, hr.only ho hS⟩
theorem Rd.below {w w' : World} {g : Nat} {S : Nat → Prop} {l : List Int} {e : Int} (h : Rd w g S l e) (ho : Below w.heap.size w w') : Rd w' g S l e := by
  obtain ⟨v, hb, hr⟩ := h
  exact ⟨v, (ho.block g (blk_lt hb)).trans hb, hr.below ho⟩
theorem Rr.below {w w' : World} {g : Nat} {S : Nat → Prop} {l : List Int} {e : Int} (h : Rr w g S l e) (ho : Below w.heap.size w w') : Rr w' g S l e := by
  obtain ⟨v, hb, hr⟩ := h
  exact ⟨v, (ho.block g (blk_lt hb)).trans hb, hr.below ho⟩
theorem Rd.lt {w : World} {g : Nat} {S : Nat → Prop} {l : List Int} {e : Int} (h : Rd w g S l e) : g < w.heap.size := by obtain ⟨v, hb, _⟩ := h; exact blk_lt hb
theorem Rr.lt {w : World} {g : Nat} {S : Nat → Prop} {l : List Int} {e : Int} (h : Rr w g S l e) : g < w.heap.size := by obtain ⟨v, hb, _⟩ := h; exact blk_lt hb
theorem Rd.set_err {w : World} {g : Nat} {S : Nat → Prop} {l : List Int} {e : Int} (h : Rd w g S l e) (hS : ∀ k, S k → k ≠ g) (a : Int) : Rd (w.setCell ⟨g, 2, none⟩ (.int .i64 a)) g S l a := by
  obtain ⟨v, hb, hr⟩ := h
  exact ⟨v, by simpa using blk_set hb 2 (.int .i64 a), hr.only ((Only.refl w g).setCell 2 _) hS⟩
theorem Rr.set_err {w : World} {g : Nat} {S : Nat → Prop} {l : List Int} {e : Int} (h : Rr w g S l e) (hS : ∀ k, S k → k ≠ g) (a : Int) : Rr (w.setCell ⟨g, 1, none⟩ (.int .i64 a)) g S l a := by
  obtain ⟨v, hb, hr⟩ := h
  exact ⟨v, by simpa using blk_set hb 1 (.int .i64 a), hr.only ((Only.refl w g).setCell 1 _) hS⟩
theorem Rd.set_left {w : World} {g : Nat} {S : Nat → Prop} {l l' : List Int} {e : Int} {v' : Value} (h : Rd w g S l e) (hS : ∀ k, S k → k ≠ g) (hv : RowIn w S v' l') : Rd (w.setCell ⟨g, 1, none⟩ v') g S l' e := by
  obtain ⟨v, hb, hr⟩ := h
  exact ⟨v', by simpa using blk_set hb 1 v', hv.only ((Only.refl w g).setCell 1 _) hS⟩
theorem Rr.set_left {w : World} {g : Nat} {S : Nat → Prop} {l l' : List Int} {e : Int} {v' : Value} (h : Rr w g S l e) (hS : ∀ k, S k → k ≠ g) (hv : RowIn w S v' l') : Rr (w.setCell ⟨g, 0, none⟩ v') g S l' e := by
  obtain ⟨v, hb, hr⟩ := h
  exact ⟨v', by simpa using blk_set hb 0 v', hv.only ((Only.refl w g).setCell 0 _) hS⟩
def leftOf (l : List Int) (e : Int) : Int := if e = 0 then (l.length : Int) else 0
set_option maxHeartbeats 800000 in
theorem vary_New.calls (A0 : Option Addr) (c0 : Nat) (l0 : List Int) (w : World) (hr0 : Kd.C (Kd.int .u8) w A0 l0.length l0) (hc0 : l0.length ≤ c0) (h : l0.length < 140737488355328) :
    Calls Try.prog 22 #[.slice A0 l0.length c0] w fun e w' => ∃ (g : Nat), e = .returned (.pointer (some ⟨g, 0, none⟩)) ∧ w.heap.size ≤ g ∧ Rd w' g (fun k => w.heap.size ≤ k ∧ k < g) l0 0 ∧ Below w.heap.size w w' := by
  have hu51 := Try.underlying51
  have HR0 := Aside0.mk hr0
  have HC0 := Aside0.mk hc0
  have HL := Aside0.mk h
  clear hr0 hc0 h
  go_enter Try.func22, Try.ntmps22
  go_wp2_with (go_at_call 36; (with_reducible refine (bytes_Clone.calls _ _ l0 l0 _ HR0.out HC0.out (by unfold bytes_Clone.f; rw [if_pos HL.out])).mono ?_); rintro e w1 ⟨v, rfl, ho, hb⟩; have HI := Aside0.mk (RowIn.of_R ho); obtain ⟨A, c, rfl, hl, hC⟩ := Kd.R_reads ho; have HB := Aside0.mk hb; clear hb hl hC ho)
  go_ret
  exact ⟨_, rfl, HB.out.size, ⟨_, by simpa using heap_alloc_new w1 _, HI.out.below (below_alloc (Below.refl _ _) _)⟩, below_alloc HB.out _⟩
set_option maxHeartbeats 800000 in
theorem vary_none.calls (w : World) (g : Nat) (S : Nat → Prop) (l : List Int) (e : Int) (hI : Rd w g S l e) :
    Calls Try.prog 37 #[.pointer (some ⟨g, 0, none⟩)] w fun x w' => x = .returned (.bool false) ∧ w' = w := by
  obtain ⟨v, hb, hr⟩ := hI
  have c0 : w.cell? ⟨g, 0, none⟩ = some (.bool true) := by rw [blk_cell hb]; rfl
  clear hr hb
  go_enter Try.func37, Try.ntmps37
  go_wp2
  go_ret
  exact ⟨rfl, rfl⟩
set_option maxHeartbeats 800000 in
theorem vary_fail.calls (w : World) (g : Nat) (S : Nat → Prop) (l : List Int) (e a : Int) (hI : Rd w g S l e) :
    Calls Try.prog 38 #[.pointer (some ⟨g, 0, none⟩), .int .i64 a] w fun x w' => x = .returned (.int .i64 0) ∧ w' = w.setCell ⟨g, 2, none⟩ (.int .i64 a) := by
  obtain ⟨v, hb, hr⟩ := hI
  have c2 : w.cell? ⟨g, 2, none⟩ = some (.int .i64 e) := by rw [blk_cell hb]; rfl
  have f2 : w.frozen? ⟨g, 2, none⟩ = false := blk_frozen hb 2
  clear hr hb
  go_enter Try.func38, Try.ntmps38
  go_wp2
  go_ret
  exact ⟨rfl, rfl⟩
set_option maxHeartbeats 800000 in
theorem vary_Err.calls (w : World) (g : Nat) (S : Nat → Prop) (l : List Int) (e : Int) (hI : Rd w g S l e) :
    Calls Try.prog 31 #[.pointer (some ⟨g, 0, none⟩)] w fun x w' => x = .returned (.int .i64 e) ∧ w' = w := by
  have HI := Aside0.mk hI
  obtain ⟨v, hb, hr⟩ := hI
  have c2 : w.cell? ⟨g, 2, none⟩ = some (.int .i64 e) := by rw [blk_cell hb]; rfl
  clear hr hb
  go_enter Try.func31, Try.ntmps31
  go_wp2_with (go_at_call 37; (with_reducible refine (vary_none.calls _ g S l e HI.out).mono ?_); rintro x w' ⟨rfl, rfl⟩)
  go_ret
  exact ⟨rfl, rfl⟩
set_option maxHeartbeats 800000 in
theorem vary_Left.calls (w : World) (g : Nat) (S : Nat → Prop) (l : List Int) (e : Int) (hI : Rd w g S l e) :
    Calls Try.prog 32 #[.pointer (some ⟨g, 0, none⟩)] w fun x w' => x = .returned (.int .i64 (leftOf l e)) ∧ w' = w := by
  have HI := Aside0.mk hI
  obtain ⟨v, hb, A, c, rfl, hl, hC, hA⟩ := hI
  have c1 : w.cell? ⟨g, 1, none⟩ = some (.slice A l.length c) := by rw [blk_cell hb]; rfl
  clear hC hb hA
  by_cases he : e = 0
  · subst he
    go_enter Try.func32, Try.ntmps32
    go_wp2_with (go_at_call 31; (with_reducible refine (vary_Err.calls _ g S l 0 HI.out).mono ?_); rintro x w' ⟨rfl, rfl⟩)
    go_ret
    exact ⟨rfl, rfl⟩
  · have hb0 : (e == 0) = false := by simpa using he
    have hb1 : (e != 0) = true := by simpa using he
    have HE := Aside0.mk he
    clear he
    go_enter Try.func32, Try.ntmps32
    go_wp2_with (go_at_call 31; (with_reducible refine (vary_Err.calls _ g S l e HI.out).mono ?_); rintro x w' ⟨rfl, rfl⟩)
    go_ret
    exact ⟨by unfold leftOf; rw [if_neg HE.out]; rfl, rfl⟩
set_option maxHeartbeats 1600000 in
set_option maxRecDepth 100000 in
theorem vary_U_err (w : World) (g : Nat) (S : Nat → Prop) (l : List Int) (e : Int) (hI : Rd w g S l e) (he : e ≠ 0) :
    Calls Try.prog 25 #[.pointer (some ⟨g, 0, none⟩)] w fun x w' => x = .returned (.int .i64 0) ∧ w' = w := by
  have HI := Aside0.mk hI
  obtain ⟨v, hb, hr⟩ := hI
  have c2 : w.cell? ⟨g, 2, none⟩ = some (.int .i64 e) := by rw [blk_cell hb]; rfl
  have hb0 : (e == 0) = false := by simpa using he
  have hb1 : (e != 0) = true := by simpa using he
  clear hr hb he
  go_enter Try.func25, Try.ntmps25
  go_wp2_with (go_at_call 37; (with_reducible refine (vary_none.calls _ g S l e HI.out).mono ?_); rintro x w' ⟨rfl, rfl⟩)
  go_ret
  exact ⟨rfl, rfl⟩
def UPost (w : World) (g : Nat) (S : Nat → Prop) (l : List Int) (x : Ending) (w' : World) : Prop := x = .returned (.int .i64 (VA.uRes l).1) ∧ Rd w' g S (VA.uRes l).2.1 (VA.uRes l).2.2 ∧ Only w w' g
theorem upost_fail {w : World} {g : Nat} {S : Nat → Prop} {l : List Int} {e : Int} (hI : Rd w g S l 0) (hS : ∀ k, S k → k ≠ g) (h : VA.uRes l = (0, l, e)) : UPost w g S l (.returned (.int .i64 0)) (w.setCell ⟨g, 2, none⟩ (.int .i64 e)) := by
  unfold UPost
  rw [h]
  exact ⟨rfl, hI.set_err hS e, (Only.refl _ _).setCell _ _⟩
theorem upost_good {w : World} {g : Nat} {S : Nat → Prop} {l l' : List Int} {m v : Int} {v' : Value} (hI : Rd w g S l 0) (hS : ∀ k, S k → k ≠ g) (h : VA.uRes l = (v, l', 0)) (hv : RowIn w S v' l') (hm : m = v) : UPost w g S l (.returned (.int .i64 m)) (w.setCell ⟨g, 1, none⟩ v') := by
  unfold UPost
  rw [h]
  exact ⟨by rw [hm], hI.set_left hS hv, (Only.refl _ _).setCell _ _⟩
set_option maxHeartbeats 3200000 in
set_option maxRecDepth 100000 in
theorem vary_U.calls (w : World) (g : Nat) (S : Nat → Prop) (l : List Int) (hI : Rd w g S l 0) (hS : ∀ k, S k → k ≠ g) (hwf : ∀ x ∈ l, 0 ≤ x ∧ x < 256) :
    Calls Try.prog 25 #[.pointer (some ⟨g, 0, none⟩)] w (UPost w g S l) := by
  have HI := Aside0.mk hI
  have HWF := Aside0.mk hwf
  have HS := Aside0.mk hS
  obtain ⟨v, hb, A, c, rfl, hl, hC, hA⟩ := hI
  have hmax : l.length ≤ 9223372036854775807 := hC.2.1
  have c1 : w.cell? ⟨g, 1, none⟩ = some (.slice A l.length c) := by rw [blk_cell hb]; rfl
  have f1 : w.frozen? ⟨g, 1, none⟩ = false := blk_frozen hb 1
  have c2 : w.cell? ⟨g, 2, none⟩ = some (.int .i64 0) := by rw [blk_cell hb]; rfl
  have HC := Aside0.mk hC
  have HL := Aside0.mk hl
  have HA := Aside0.mk hA
  clear hC hb hwf hA hS
  go_enter Try.func25, Try.ntmps25
  go_wp2_with (go_at_call 37; (with_reducible refine (vary_none.calls _ g S l 0 HI.out).mono ?_); rintro x w' ⟨rfl, rfl⟩)
  go_loop [3, 4, 5, 20] (fun n i4 c5 i => ∃ (k : Nat) (m : Int), k ≤ l.length ∧ k ≤ 8 ∧ Aside0 (k ≤ VA.lead l) ∧ i = .int .i64 k ∧ n = .int .i64 m ∧ Aside0 (m = VA.val (l.take k))) (fun _ _ _ i => l.length - (intOf i).toNat)
  case atStart => exact ⟨0, 0, Nat.zero_le _, by decide, ⟨Nat.zero_le _⟩, rfl, rfl, ⟨by simp [VA.val]⟩⟩
  case round =>
    obtain ⟨k, m, hk, hk8, hld, rfl, rfl, hm⟩ := hrel
    by_cases hlt : k < l.length
    · have hki : (k : Int) < (l.length : Int) := by omega
      have hk0 : (0 : Int) ≤ (k : Int) := by omega
      obtain ⟨ad, rfl, hx⟩ := Kd.at_int HC.out (k : Int) hk0 hki
      rw [show ((k : Int)).toNat = k from rfl] at hx
      obtain ⟨c5, hc5⟩ : ∃ c5, c5 = rd l (k : Int) := ⟨_, rfl⟩
      rw [← hc5] at hx
      have hcd : c5 = l.getD k 0 := hc5
      have hcm : c5 ∈ l := by rw [hcd, List.getD_eq_getElem?_getD, List.getElem?_eq_getElem hlt]; exact List.getElem_mem hlt
      obtain ⟨hc0, hc1⟩ := HWF.out c5 hcm
      have HST := Aside0.mk (VA.lead_step l k hld.out hlt)
      have HVT := Aside0.mk (VA.val_take l k hlt)
      have HVB := Aside0.mk (VA.val_take_bound l k)
      have HCD := Aside0.mk hcd
      clear hc5 hcd hcm
      by_cases h8 : k = 8
      · have HU := Aside0.mk (VA.uRes_big l (by have := hld.out; omega))
        have hk8b : ((k : Int) == 8) = true := by simp; omega
        have h89 : (8 : Int) ≤ (l.length : Int) := by omega
        clear h8
        go_wp2_with (go_at_call 38; (with_reducible refine (vary_fail.calls _ g S l 0 _ HI.out).mono ?_); rintro x w' ⟨rfl, rfl⟩)
        go_ret
        exact upost_fail HI.out HS.out HU.out
      · have hk7 : (k : Int) < 8 := by omega
        have hk7b : ((k : Int) == 8) = false := by simp; omega
        have hk7n : k < 8 := by omega
        clear h8
        have hmb : 0 ≤ m ∧ m < 128 ^ k := by rw [hm.out]; exact HVB.out
        obtain ⟨m', hm'⟩ : ∃ m', bits .or .i64 m (wrap64 (wrap64 (bits .andNot .u8 c5 128) * 2 ^ (7 * k))) = m' := ⟨_, rfl⟩
        have HM' : Aside0 (m' = VA.val (l.take (k + 1))) := ⟨by rw [← hm', VA.or_join m c5 k hk7n hmb.1 hmb.2 hc0 hc1, HVT.out, hm.out, HCD.out]⟩
        clear hmb
        by_cases hge : 128 ≤ c5
        · have hld' := HST.out.1 (by rw [← HCD.out]; exact hge)
          go_wp2_with (fail)
          go_round
          case rel => exact ⟨k + 1, m', by omega, by omega, ⟨hld'⟩, by go_num, rfl, HM'⟩
          case measure => simp [intOf]; omega
        · have hlk := Aside0.mk (HST.out.2 (by rw [← HCD.out]; omega))
          have hge' : c5 < 128 := by omega
          clear hge
          by_cases hbad : (0 < k ∧ c5 = 0) ∨ 18014398509481982 < m'
          · have HU := Aside0.mk (VA.uRes_bad l k hk7n hlk.out hlt (by rw [← HCD.out, ← HM'.out]; exact hbad))
            by_cases hb1 : 0 < k
            · by_cases hb2 : c5 = 0
              · subst hb2
                go_wp2_with (go_at_call 38; (with_reducible refine (vary_fail.calls _ g S l 0 _ HI.out).mono ?_); rintro x w' ⟨rfl, rfl⟩)
                go_ret
                exact upost_fail HI.out HS.out HU.out
              · have hb3 : 18014398509481982 < m' := by omega
                have hb2b : (c5 == 0) = false := by simpa using hb2
                clear hbad hb2
                go_wp2_with (go_at_call 38; (with_reducible refine (vary_fail.calls _ g S l 0 _ HI.out).mono ?_); rintro x w' ⟨rfl, rfl⟩)
                go_ret
                exact upost_fail HI.out HS.out HU.out
            · have hb3 : 18014398509481982 < m' := by omega
              clear hbad
              go_wp2_with (go_at_call 38; (with_reducible refine (vary_fail.calls _ g S l 0 _ HI.out).mono ?_); rintro x w' ⟨rfl, rfl⟩)
              go_ret
              exact upost_fail HI.out HS.out HU.out
          · have HU := Aside0.mk (VA.uRes_good l k hk7n hlk.out hlt (by rw [← HCD.out, ← HM'.out]; exact hbad))
            have hle : m' ≤ 18014398509481982 := by omega
            obtain ⟨i0, hi0, _, hsz, _⟩ := info_parts hinfo5
            have hcut := cut_from (P := Try.prog) 22 5 .i64 Try.underlying22 hi0 1 hsz (some ad) l.length c ((k : Int) + 1) (by omega) (by omega)
            rw [show ((k : Int) + 1).toNat = k + 1 from by omega] at hcut
            have hr := RowIn.cut (m := k + 1) HL.out HC.out HA.out (by omega)
            obtain ⟨v', hv'⟩ : ∃ v', v' = Value.slice (if c = k + 1 then some ad else (some ad : Option Addr).map (·.add ((k + 1) * 1))) (l.length - (k + 1)) (c - (k + 1)) := ⟨_, rfl⟩
            rw [← hv'] at hcut hr
            obtain ⟨A1, c1', e1, _⟩ := id hr
            obtain ⟨n1, hn1⟩ : ∃ n1, n1 = (l.drop (k + 1)).length := ⟨_, rfl⟩
            rw [← hn1] at e1
            rw [e1] at hcut
            have HV := Aside0.mk e1
            have HR := Aside0.mk hr
            clear hr hi0 hsz hv' e1 hn1
            by_cases hb1 : 0 < k
            · have hb2 : ¬ c5 = 0 := by omega
              have hb2b : (c5 == 0) = false := by simpa using hb2
              clear hbad hb2
              go_wp2_with (fail)
              go_ret
              rw [← HV.out]
              exact upost_good HI.out HS.out HU.out HR.out HM'.out
            · clear hbad
              go_wp2_with (fail)
              go_ret
              rw [← HV.out]
              exact upost_good HI.out HS.out HU.out HR.out HM'.out
    · have hkl : k = l.length := by omega
      have hle := VA.lead_le l
      by_cases h8 : l.length < 8
      · have HU := Aside0.mk (VA.uRes_short l (by omega) (by have := hld.out; omega))
        have h8' : decide ((8 : Int) ≤ (l.length : Int)) = false := by simp; omega
        clear hle hkl
        go_wp2_with (go_at_call 38; (with_reducible refine (vary_fail.calls _ g S l 0 _ HI.out).mono ?_); rintro x w' ⟨rfl, rfl⟩)
        go_ret
        exact upost_fail HI.out HS.out HU.out
      · have HU := Aside0.mk (VA.uRes_big l (by have := hld.out; omega))
        clear hle hkl
        go_wp2_with (go_at_call 38; (with_reducible refine (vary_fail.calls _ g S l 0 _ HI.out).mono ?_); rintro x w' ⟨rfl, rfl⟩)
        go_ret
        exact upost_fail HI.out HS.out HU.out
theorem ret_i64 {a b : Int} (h : a = b) : Ending.returned (.int .i64 a) = Ending.returned (.int .i64 b) := by rw [h]
set_option maxHeartbeats 1600000 in
set_option maxRecDepth 100000 in
theorem vary_S.calls (w : World) (g : Nat) (S : Nat → Prop) (l : List Int) (hI : Rd w g S l 0) (hS : ∀ k, S k → k ≠ g) (hwf : ∀ x ∈ l, 0 ≤ x ∧ x < 256) :
    Calls Try.prog 27 #[.pointer (some ⟨g, 0, none⟩)] w fun x w' => x = .returned (.int .i64 (VA.sOf (VA.uRes l).1)) ∧ Rd w' g S (VA.uRes l).2.1 (VA.uRes l).2.2 ∧ Only w w' g := by
  have HI := Aside0.mk hI
  have HS := Aside0.mk hS
  have HWF := Aside0.mk hwf
  obtain ⟨u0, u1⟩ := VA.uRes_bound l
  obtain ⟨n, hn⟩ : ∃ n, n = (VA.uRes l).1 := ⟨_, rfl⟩
  rw [← hn] at u0 u1
  have HN := Aside0.mk hn
  clear hI hS hwf hn
  go_enter Try.func27, Try.ntmps27
  go_wp2_with (go_at_call 25; (with_reducible refine (vary_U.calls _ g S l HI.out HS.out HWF.out).mono ?_); rintro x w' ⟨rfl, h1, h2⟩; rw [← HN.out]; have H1 := Aside0.mk h1; have H2 := Aside0.mk h2; clear h1 h2)
  go_ret
  exact ⟨by rw [← HN.out, ← VA.sOf_eq n u0 u1]; rfl, H1.out, H2.out⟩
set_option maxHeartbeats 1600000 in
set_option maxRecDepth 100000 in
theorem vary_S_err (w : World) (g : Nat) (S : Nat → Prop) (l : List Int) (e : Int) (hI : Rd w g S l e) (he : e ≠ 0) :
    Calls Try.prog 27 #[.pointer (some ⟨g, 0, none⟩)] w fun x w' => x = .returned (.int .i64 0) ∧ w' = w := by
  have HI := Aside0.mk hI
  have HE := Aside0.mk he
  have hz := VA.sOf_eq 0 (by decide) (by decide)
  rw [show (0 : Int) / 2 = 0 by decide, show VA.sOf 0 = 0 by decide] at hz
  have HZ := Aside0.mk hz
  clear hI he hz
  go_enter Try.func27, Try.ntmps27
  go_wp2_with (go_at_call 25; (with_reducible refine (vary_U_err _ g S l e HI.out HE.out).mono ?_); rintro x w' ⟨rfl, rfl⟩)
  go_ret
  exact ⟨ret_i64 HZ.out, rfl⟩
def TPost (w : World) (g : Nat) (S : Nat → Prop) (most : Int) (l : List Int) (x : Ending) (w' : World) : Prop := x = .returned (.string (strOfNums (VA.tRes most l).1)) ∧ Rd w' g S (VA.tRes most l).2.1 (VA.tRes most l).2.2 ∧ Only w w' g
theorem tpost_fail {w w1 : World} {g : Nat} {S : Nat → Prop} {l l' : List Int} {e most : Int} (hI : Rd w1 g S l' 0) (hS : ∀ k, S k → k ≠ g) (hK : Only w w1 g) (h : VA.tRes most l = ([], l', e)) : TPost w g S most l (.returned (.string ⟨#[]⟩)) (w1.setCell ⟨g, 2, none⟩ (.int .i64 e)) := by
  unfold TPost
  rw [h]
  exact ⟨rfl, hI.set_err hS e, hK.setCell _ _⟩
theorem tpost_err {w w1 : World} {g : Nat} {S : Nat → Prop} {l l' : List Int} {e most : Int} (hI : Rd w1 g S l' e) (hK : Only w w1 g) (h : VA.tRes most l = ([], l', e)) : TPost w g S most l (.returned (.string ⟨#[]⟩)) w1 := by
  unfold TPost
  rw [h]
  exact ⟨rfl, hI, hK⟩
theorem tpost_good {w w1 : World} {g : Nat} {S : Nat → Prop} {l l1 l2 l3 : List Int} {most : Int} {v' : Value} (hI : Rd w1 g S l1 0) (hS : ∀ k, S k → k ≠ g) (hK : Only w w1 g) (h : VA.tRes most l = (l2, l3, 0)) (hv : RowIn w1 S v' l3) : TPost w g S most l (.returned (.string (strOfNums l2))) (w1.setCell ⟨g, 1, none⟩ v') := by
  unfold TPost
  rw [h]
  exact ⟨rfl, hI.set_left hS hv, hK.setCell _ _⟩
set_option maxHeartbeats 1600000 in
set_option maxRecDepth 100000 in
theorem vary_Text_err (w : World) (g : Nat) (S : Nat → Prop) (most : Int) (l : List Int) (e : Int) (hI : Rd w g S l e) (he : e ≠ 0) :
    Calls Try.prog 29 #[.pointer (some ⟨g, 0, none⟩), .int .i64 most] w fun x w' => x = .returned (.string ⟨#[]⟩) ∧ w' = w := by
  have HI := Aside0.mk hI
  have HE := Aside0.mk he
  have hb0 : (e == 0) = false := by simpa using he
  have hb1 : (e != 0) = true := by simpa using he
  clear hI he
  go_enter Try.func29, Try.ntmps29
  go_wp2_with (first | (go_at_call 25; (with_reducible refine (vary_U_err _ g S l e HI.out HE.out).mono ?_); rintro x w' ⟨rfl, rfl⟩) | (go_at_call 31; (with_reducible refine (vary_Err.calls _ g S l e HI.out).mono ?_); rintro x w' ⟨rfl, rfl⟩))
  go_ret
  exact ⟨rfl, rfl⟩
set_option maxHeartbeats 3200000 in
set_option maxRecDepth 100000 in
theorem vary_Text.calls (w : World) (g : Nat) (S : Nat → Prop) (most : Int) (l : List Int) (hI : Rd w g S l 0) (hS : ∀ k, S k → k ≠ g) (hwf : ∀ x ∈ l, 0 ≤ x ∧ x < 256) :
    Calls Try.prog 29 #[.pointer (some ⟨g, 0, none⟩), .int .i64 most] w (TPost w g S most l) := by
  have HI := Aside0.mk hI
  have HS := Aside0.mk hS
  have HWF := Aside0.mk hwf
  obtain ⟨u0, u1⟩ := VA.uRes_bound l
  clear hI hS hwf
  obtain ⟨n, l', e, hn⟩ : ∃ n l' e, VA.uRes l = (n, l', e) := ⟨_, _, _, rfl⟩
  rw [show (VA.uRes l).1 = n by rw [hn]] at u0 u1
  have HN := Aside0.mk hn
  clear hn
  go_enter Try.func29, Try.ntmps29
  go_wp2_with fail
  refine (vary_U.calls _ g S l HI.out HS.out HWF.out).mono ?_
  rintro x w1 hx
  unfold UPost at hx
  rw [HN.out] at hx
  obtain ⟨rfl, h1, h3⟩ := hx
  change Rd w1 g S l' e at h1
  have H1 := Aside0.mk h1
  have H3 := Aside0.mk h3
  obtain ⟨v, hb, A, c, rfl, hl, hC, hA⟩ := h1
  have c1 : w1.cell? ⟨g, 1, none⟩ = some (.slice A l'.length c) := by rw [blk_cell hb]; rfl
  have f1 : w1.frozen? ⟨g, 1, none⟩ = false := blk_frozen hb 1
  have HC := Aside0.mk hC
  have HL := Aside0.mk hl
  have HA := Aside0.mk hA
  clear h3 hb hC hl hA
  by_cases he : e = 0
  · subst he
    by_cases hm : most < n
    · have HT := Aside0.mk (VA.tRes_most most l l' n HN.out hm)
      go_wp2_with (first | (go_at_call 31; (with_reducible refine (vary_Err.calls _ g S l' 0 H1.out).mono ?_); rintro x w' ⟨rfl, rfl⟩) | (go_at_call 38; (with_reducible refine (vary_fail.calls _ g S l' 0 _ H1.out).mono ?_); rintro x w' ⟨rfl, rfl⟩))
      go_ret
      exact tpost_fail H1.out HS.out H3.out HT.out
    · by_cases hs : (l'.length : Int) < n
      · have HT := Aside0.mk (VA.tRes_short most l l' n HN.out hm hs)
        go_wp2_with (first | (go_at_call 31; (with_reducible refine (vary_Err.calls _ g S l' 0 H1.out).mono ?_); rintro x w' ⟨rfl, rfl⟩) | (go_at_call 38; (with_reducible refine (vary_fail.calls _ g S l' 0 _ H1.out).mono ?_); rintro x w' ⟨rfl, rfl⟩))
        go_ret
        exact tpost_fail H1.out HS.out H3.out HT.out
      · have HT := Aside0.mk (VA.tRes_good most l l' n HN.out hm hs)
        have hnl : n ≤ (l'.length : Int) := by omega
        obtain ⟨i0, hi0, _, hsz, _⟩ := info_parts hinfo5
        obtain ⟨j, rfl⟩ := Int.eq_ofNat_of_zero_le u0
        have hcut := cut_from (P := Try.prog) 22 5 .i64 Try.underlying22 hi0 1 hsz A l'.length c (j : Int) u0 hnl
        have hct := cut_to (P := Try.prog) 22 5 .i64 Try.underlying22 hi0 A l'.length c (j : Int) u0 hnl HL.out
        rw [show ((j : Nat) : Int).toNat = j from rfl] at hcut hct
        have hr := RowIn.cut (m := j) HL.out HC.out HA.out (by omega)
        have hrt := Kd.C_take (m := j) HC.out (by omega)
        rw [show (l'.take j).length = j by rw [List.length_take]; omega] at hrt
        have hcv : (convert 22 9 (.slice A j c)).run Try.prog w1 = .ok (.string (strOfNums (l'.take j))) w1 := Kd.C_string Try.underlying22 Try.underlying5 Try.underlying9 hrt
        obtain ⟨s, hs2⟩ : ∃ s, s = strOfNums (l'.take j) := ⟨_, rfl⟩
        rw [← hs2] at hcv
        have HS2 := Aside0.mk hs2
        obtain ⟨v', hv'⟩ : ∃ v', v' = Value.slice (if c = j then A else A.map (·.add (j * 1))) (l'.length - j) (c - j) := ⟨_, rfl⟩
        rw [← hv'] at hcut hr
        obtain ⟨A1, c1', e1, _⟩ := id hr
        obtain ⟨n1, hn1⟩ : ∃ n1, n1 = (l'.drop j).length := ⟨_, rfl⟩
        rw [← hn1] at e1
        rw [e1] at hcut
        have HV := Aside0.mk e1
        have HR := Aside0.mk hr
        clear hr hi0 hsz hv' e1 hn1 hrt hs2
        go_wp2_with (first | (go_at_call 31; (with_reducible refine (vary_Err.calls _ g S l' 0 H1.out).mono ?_); rintro x w' ⟨rfl, rfl⟩) | (go_at_call 38; (with_reducible refine (vary_fail.calls _ g S l' 0 _ H1.out).mono ?_); rintro x w' ⟨rfl, rfl⟩))
        go_ret
        rw [← HV.out, HS2.out]
        exact tpost_good H1.out HS.out H3.out HT.out HR.out
  · have HT := Aside0.mk (VA.tRes_err most l l' n e HN.out he)
    have hb0 : (e == 0) = false := by simpa using he
    have hb1 : (e != 0) = true := by simpa using he
    clear he
    go_wp2_with (first | (go_at_call 31; (with_reducible refine (vary_Err.calls _ g S l' e H1.out).mono ?_); rintro x w' ⟨rfl, rfl⟩))
    go_ret
    exact tpost_err H1.out H3.out HT.out
def reads_f (l0 : List Int) : Option (Int × Int) := if l0.length < 140737488355328 then (if (l0.all fun x => decide (0 ≤ x) && decide (x < 256)) = true then some ((VA.uRes l0).1, (VA.uRes l0).2.2) else none) else none
theorem wf_of_all {l : List Int} (h : (l.all fun x => decide (0 ≤ x) && decide (x < 256)) = true) : ∀ x ∈ l, 0 ≤ x ∧ x < 256 := by
  intro x hx
  have := List.all_eq_true.1 h x hx
  simpa using this
set_option maxHeartbeats 1600000 in
set_option maxRecDepth 100000 in
theorem reads_calls (A0 : Option Addr) (c0 : Nat) (l0 : List Int) (r1 r2 : Int) (w : World) (hr0 : Kd.C (Kd.int .u8) w A0 l0.length l0) (hc0 : l0.length ≤ c0) (h : reads_f l0 = some (r1, r2)) :
    Calls Try.prog 35 #[.slice A0 l0.length c0] w fun e w' => e = .returned (.tuple #[.int .i64 r1, .int .i64 r2]) ∧ Below w.heap.size w w' := by
  unfold reads_f at h
  by_cases h1 : l0.length < 140737488355328
  · rw [if_pos h1] at h
    by_cases h2 : (l0.all fun x => decide (0 ≤ x) && decide (x < 256)) = true
    · rw [if_pos h2] at h
      simp only [Option.some.injEq, Prod.mk.injEq] at h
      obtain ⟨e1, e2⟩ := h
      have HWF := Aside0.mk (wf_of_all h2)
      have HR := Aside0.mk hr0
      have HC := Aside0.mk hc0
      have HL := Aside0.mk h1
      have E1 := Aside0.mk e1
      have E2 := Aside0.mk e2
      clear hr0 hc0 h1 h2 e1 e2
      go_enter Try.func35, Try.ntmps35
      go_wp2_with fail
      refine (vary_New.calls A0 c0 l0 w HR.out HC.out HL.out).mono ?_
      rintro x w2 ⟨g, rfl, hg, hI, hB⟩
      have HS : Aside0 (∀ k, (w.heap.size ≤ k ∧ k < g) → k ≠ g) := ⟨fun k h e => by omega⟩
      have HI := Aside0.mk hI
      have HB := Aside0.mk hB
      have HG := Aside0.mk hg
      clear hI hB hg
      go_wp2_with fail
      refine (vary_U.calls _ g _ l0 HI.out HS.out HWF.out).mono ?_
      rintro x w3 hx
      unfold UPost at hx
      rw [E1.out, E2.out] at hx
      obtain ⟨rfl, h1, h3⟩ := hx
      have H1 := Aside0.mk h1
      have H3 := Aside0.mk h3
      clear h1 h3
      go_wp2_with (go_at_call 31; (with_reducible refine (vary_Err.calls _ g _ _ _ H1.out).mono ?_); rintro x w' ⟨rfl, rfl⟩)
      go_ret2
      exact ⟨rfl, HB.out.trans (H3.out.below HG.out)⟩
    · rw [if_neg h2] at h
      exact absurd h (by simp)
  · rw [if_neg h1] at h
    exact absurd h (by simp)
end Go.Proofs.Ytmjedmiaebbjaaa.H
