/- slices.SortFunc at runes.Set, by the shelf's contract of pdqsortCmpFunc. -/
import Derived.Test.YtoihjhpabccigaaPRx0
import Derived.Test.YtoihjhpabccigaaShelf
namespace Go.Proofs.Ytoihjhpabccigaa.OF
open Go.Shelf Go.RowKit Go.Lib Go.Sort Go.Proofs.Ytoihjhpabccigaa.PR
open Go.Proofs.YtoihjhpabccigaaW.PrintWords (Aside0)
set_option linter.unusedVariables false
def encR (x : S38) : List Value := [.int .i64 x.f0, .int .i64 x.f1]
instance : Inhabited S38 := ⟨⟨0, 0⟩⟩
def cfR (x y : S38) : Int := Lib.compareInt x.f0 y.f0
theorem ltR (x y : S38) : ltOf cfR x y = decide (x.f0 < y.f0) := by
  unfold ltOf cfR Lib.compareInt
  by_cases h1 : x.f0 < y.f0
  · simp [h1]
  · by_cases h2 : y.f0 < x.f0 <;> simp [h1, h2]
theorem swoR : SWO (ltOf cfR) where
  irrefl x := by rw [ltR]; simp
  trans x y z h1 h2 := by rw [ltR] at *; simp at *; omega
  ntrans x y z h1 h2 := by rw [ltR] at *; simp at *; omega
set_option maxHeartbeats 1000000 in
theorem closure33 (x y : S38) (W : World) : Calls Try.prog 33 #[.agg #[.int .i64 x.f0, .int .i64 x.f1], .agg #[.int .i64 y.f0, .int .i64 y.f1]] W fun e w' => e = .returned (.int .i64 (cfR x y)) ∧ ∃ q os', w' = grow (W.drewN q) os' := by
  have hcon := fun W' => Try.cmp_Compare_int x.f0 y.f0 W'
  unfold cfR
  generalize Lib.compareInt x.f0 y.f0 = r at hcon ⊢
  go_enter Try.func33, Try.ntmps33
  go_wp2_with (go_at_call 34; refine (hcon _).mono ?_; rintro e w' ⟨rfl, rfl⟩)
  go_ret
  exact ⟨rfl, 0, _, by rw [alloc_eq_grow, alloc_eq_grow, grow_grow]; rfl⟩
theorem cmpLaysR (blk off size : Nat) (w : World) : CmpLays Try.prog 33 #[] encR 2 cfR blk off size w :=
  fun _ _ _ _ x y => closure33 x y _
theorem lenR (x : S38) : (encR x).length = 2 := rfl
theorem oneR (x : S38) (v : Value) (hv : v ∈ encR x) : v.oneCell' = true := by
  simp [encR] at hv
  rcases hv with rfl | rfl <;> rfl
set_option maxHeartbeats 2000000 in
set_option maxRecDepth 100000 in
theorem sort_call (blk cap : Nat) (d : Array S38) (w : World) (hH : HoldsK encR 2 w blk 0 d) (hblk : blk < w.heap.size) (hsz : d.size < 4611686018427387904) :
    Calls Try.prog 32 #[.slice (some ⟨blk, 0, none⟩) d.size cap, .func (.func 33) #[] #[]] w fun e w' => e = .returned (.tuple #[]) ∧ ∃ d' n os, PermIn 0 d.size d d' ∧ SortedIn (ltOf cfR) 0 d.size d' ∧ w' = sortWorldK encR 2 w blk 0 n d' os := by
  have eg : ∀ args w, (callFunc 33 args).run Try.prog w = .ok (.enter 33 args) w := enters_of Try.func33 (by kernel_rfl) rfl
  have hlim : Lib.bitLen d.size < 4611686018427387904 := Nat.lt_of_le_of_lt (Lib.bitLen_le d.size 62 (by omega) (by omega)) (by omega)
  have hp := AnyQ.pdqsortCmpFunc_all Try.laysPdq 2 Try.isAgg38 Try.sizeOf38 encR cfR 33 #[] swoR blk 0 cap d w eg (cmpLaysR blk 0 d.size w) ⟨lenR, oneR, hH, hblk⟩ (d.size + 1) 0 d.size (Lib.bitLen d.size) d w (by omega) rfl (SWK.start hH) (Nat.zero_le _) (Nat.le_refl _) hsz hlim (Or.inl rfl)
  change Calls Try.prog 39 _ _ _ at hp
  have hl : Calls Try.prog 40 #[.int .u64 (d.size : Int)] w fun e w' => e = .returned (.int .i64 (Lib.bitLen d.size : Nat)) ∧ w' = w := by
    have h := Try.bits_Len (d.size : Int) w (by omega) (by omega)
    rwa [Int.toNat_natCast] at h
  have wr : IntKind.u64.wrap (d.size : Int) = d.size := by simp [IntKind.wrap, IntKind.bits, IntKind.signed]; omega
  have h2 := pdq_sorts (ltOf cfR) swoR d 0 d.size (Lib.bitLen d.size) true true (Nat.zero_le _) (Nat.le_refl _) (Or.inl rfl)
  obtain ⟨dd, hdd⟩ : ∃ dd, dd = pdq (ltOf cfR) d 0 d.size (Lib.bitLen d.size) true true := ⟨_, rfl⟩
  rw [← hdd] at hp h2
  obtain ⟨h3, h4⟩ := h2
  have H3 := Aside0.mk h3
  have H4 := Aside0.mk h4
  clear hH h3 h4 hdd
  go_enter Try.func32, Try.ntmps32
  go_wp2_with (first | (go_at_call 40; refine hl.mono ?_; rintro e w' ⟨rfl, rfl⟩) | (go_at_call 39; refine hp.mono ?_; rintro e w' ⟨rfl, n, os, rfl⟩))
  go_end0
  exact ⟨rfl, dd, n, os, H3.out, H4.out, rfl⟩
theorem sort_none (cap : Nat) (p : Option Addr) (w : World) :
    Calls Try.prog 32 #[.slice p 0 cap, .func (.func 33) #[] #[]] w fun e w' => e = .returned (.tuple #[]) ∧ w' = w := by
  have hp := fun lim => AnyF.pdqsortCmpFunc_none Try.laysPdq p cap lim (.func (.func 33) #[] #[]) w
  change ∀ lim, Calls Try.prog 39 _ _ _ at hp
  have hl : Calls Try.prog 40 #[.int .u64 0] w fun e w' => e = .returned (.int .i64 (Lib.bitLen 0 : Nat)) ∧ w' = w := Try.bits_Len 0 w (by omega) (by omega)
  go_enter Try.func32, Try.ntmps32
  go_wp2_with (first | (go_at_call 40; refine hl.mono ?_; rintro e w' ⟨rfl, rfl⟩) | (go_at_call 39; refine (hp _).mono ?_; rintro e w' ⟨rfl, rfl⟩))
  go_end0
  exact ⟨rfl, rfl⟩
#print axioms sort_call
#print axioms sort_none
end Go.Proofs.Ytoihjhpabccigaa.OF
