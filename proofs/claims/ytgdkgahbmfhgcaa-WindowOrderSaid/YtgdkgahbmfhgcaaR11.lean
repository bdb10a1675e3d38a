/- What the statement rests on, part 11: WS WH. -/
import Derived.Test.YtgdkgahbmfhgcaaR10
set_option linter.unusedVariables false
set_option linter.unusedSimpArgs false
set_option maxHeartbeats 4000000
set_option maxRecDepth 100000
namespace Go.Proofs.Ytgdkgahbmfhgcaa.PN
open Go.RowKit Go.Proofs.Ytgdkgahbmfhgcaa.NS Go.Proofs.Ytgdkgahbmfhgcaa.Limbs Go.Proofs.YtgdkgahbmfhgcaaW.PrintWords Go.Proofs.YtgdkgahbmfhgcaaW.PrintLast Go.Proofs.YtgdkgahbmfhgcaaW.PrintMore
open Go.Sort Go.Lib Go.Shelf
theorem swaprange_calls {α : Type} [Inhabited α] (enc : α → List Value) (k : Nat) (zE : ∀ w, (Go.sizeOf 30).run Try.prog w = .ok k w) (hk : ∀ x, (enc x).length = k) (h1 : ∀ x, ∀ v ∈ enc x, v.oneCell' = true) (g : Nat) (blk off cap a b n : Nat) (d : Array α) (w : World) (hH : HoldsK enc k w blk off d) (hblk : blk < w.heap.size) (hab : a + n ≤ b) (hb : b + n ≤ d.size) (hsz : d.size < 4611686018427387904) :
 Calls Try.prog 80 #[.slice (some ⟨blk, off, none⟩) d.size cap, .int .i64 a, .int .i64 b, .int .i64 n, .func (.func g) #[] #[]] w fun e w' =>
  e = .returned (.tuple #[]) ∧ ∃ d', SwBy d d' a b n ∧ HoldsK enc k w' blk off d' ∧ Kb (fun j => j = blk) w w' := by
 have mixed : Try.prog.follows .mixedOrders = true := by kernel_rfl
 have u22 := run_underlying Try.underlying72
 have aE := agg30
 have HH : Aside0 (HoldsK enc k w blk off d) := ⟨hH⟩
 have HK : Aside0 (∀ x, (enc x).length = k) := ⟨hk⟩
 have H1 : Aside0 (∀ x, ∀ v ∈ enc x, v.oneCell' = true) := ⟨h1⟩
 have HBL : Aside0 (blk < w.heap.size) := ⟨hblk⟩
 clear hH hk h1 hblk
 obtain ⟨D, hD⟩ : ∃ D, D = d.size := ⟨_, rfl⟩
 rw [← hD] at hb hsz ⊢
 have HD := Aside0.mk hD
 clear hD
 go_enter Try.func80, Try.ntmps80
 go_wp2
 go_loopg [10] n (fun g1 vi wr => ∃ (i : Nat) (dk : Array α), vi = .int .i64 i ∧ i + g1 = n ∧ dk.size = D ∧ Aside0 (HoldsK enc k wr blk off dk) ∧ Aside0 (Kb (fun j => j = blk) w wr) ∧ Aside0 (SwBy d dk a b i))
 case atStart => exact ⟨0, d, rfl, by omega, HD.out.symm, HH, ⟨Kb.refl _ _⟩, ⟨SwBy.zero _ _ _⟩⟩
 case round =>
  obtain ⟨i, dk, rfl, hg1, hsk, HW, HB, HS⟩ := hrel
  by_cases hlt : i < n
  · have hltz : (i : Int) < (n : Int) := by omega
    have hwx : IntKind.i64.wrap ((a : Int) + (i : Int)) = (a : Int) + (i : Int) := (i64_w _).trans ((w64 (by omega) (by omega)).trans (by omega))
    have hwy : IntKind.i64.wrap ((b : Int) + (i : Int)) = (b : Int) + (i : Int) := (i64_w _).trans ((w64 (by omega) (by omega)).trans (by omega))
    have hwi : IntKind.i64.wrap ((i : Int) + 1) = ((i + 1 : Nat) : Int) := (i64_w _).trans ((w64 (by omega) (by omega)).trans (by omega))
    have jx : (a : Int) + (i : Int) < (D : Int) := by omega
    have jy : (b : Int) + (i : Int) < (D : Int) := by omega
    obtain ⟨xv, hxv⟩ : ∃ v, dk[(a + i)]! = v := ⟨_, rfl⟩
    obtain ⟨yv, hyv⟩ : ∃ v, dk[(b + i)]! = v := ⟨_, rfl⟩
    obtain ⟨cX, hcX⟩ : ∃ c, c = enc xv := ⟨_, rfl⟩
    obtain ⟨cY, hcY⟩ : ∃ c, c = enc yv := ⟨_, rfl⟩
    have hlw : blk < wr.heap.size := Nat.lt_of_lt_of_le HBL.out HB.out.size
    have HLQ := Aside0.mk hlw
    have hsX : cX.length = k := by rw [hcX]; exact HK.out _
    have hsY : cY.length = k := by rw [hcY]; exact HK.out _
    have hHd : HoldsK enc k wr.drew blk off dk := HW.out
    have bnd : ∀ z, z < dk.size → z * k + k ≤ dk.size * k := fun z hz => by
     have := Nat.mul_le_mul_right k (show z + 1 ≤ dk.size from hz); rwa [Nat.add_mul, Nat.one_mul] at this
    have lx : Sem.run Try.prog (loadCellsFrom ⟨blk, off + (a + i) * k, none⟩ 0 k #[]) wr.drew = .ok cX.toArray wr.drew := by rw [hcX, ← hxv]; exact run_loadCellsFrom_list Try.prog _ _ _ k (HK.out _) (HoldsK.cells hHd HK.out (by omega))
    have ly : Sem.run Try.prog (loadCellsFrom ⟨blk, off + (b + i) * k, none⟩ 0 k #[]) wr.drew = .ok cY.toArray wr.drew := by rw [hcY, ← hyv]; exact run_loadCellsFrom_list Try.prog _ _ _ k (HK.out _) (HoldsK.cells hHd HK.out (by omega))
    have s1 : Sem.run Try.prog (storeCells ⟨blk, off + (a + i) * k, none⟩ cY 0) wr.drew = .ok () (wr.drew.setCells blk (off + (a + i) * k) cY) := stores_of_holds Try.prog hHd ((a + i) * k) _ (by rw [hsY, size_flatK]; exact bnd (a + i) (by omega)) (by rw [hcY]; exact H1.out _)
    have s2 : Sem.run Try.prog (storeCells ⟨blk, off + (b + i) * k, none⟩ cX 0) (wr.drew.setCells blk (off + (a + i) * k) cY) = .ok () ((wr.drew.setCells blk (off + (a + i) * k) cY).setCells blk (off + (b + i) * k) cX) :=
     stores_of_holds Try.prog (holds_setCells_c hHd ((a + i) * k) _ (by rw [hsY, size_flatK]; exact bnd (a + i) (by omega))) ((b + i) * k) _ (by rw [hsX, size_setMany, size_flatK]; exact bnd (b + i) (by omega)) (by rw [hcX]; exact H1.out _)
    have hsw : Aside0 (HoldsK enc k ((wr.drew.setCells blk (off + (a + i) * k) cY).setCells blk (off + (b + i) * k) cX) blk off (swp dk (a + i) (b + i)) ∧ Kb (fun j => j = blk) w ((wr.drew.setCells blk (off + (a + i) * k) cY).setCells blk (off + (b + i) * k) cX)) := by
     have h8 : HoldsK enc k (sortWorldK enc k wr blk off 1 (swp dk (a + i) (b + i)) #[]) blk off (swp dk (a + i) (b + i)) ∧ Kb (fun j => j = blk) wr (sortWorldK enc k wr blk off 1 (swp dk (a + i) (b + i)) #[]) := ⟨holdsK_sortWorldK_c enc k wr blk off dk _ _ _ HW.out HLQ.out (by rw [size_swp]), kb_sortWorld _ _ _ _ _ _ _ _⟩
     have hst : wr = sortWorldK enc k wr blk off 0 dk #[] := by unfold sortWorldK; rw [grow_empty]; exact (putRowK_self enc k wr blk off dk HW.out).symm
     have h9 := sortWorldK_swp_c enc k wr blk off HK.out 0 dk #[] HLQ.out (a + i) (b + i) (by omega) (by omega)
     rw [← hst, hxv, hyv, ← hcX, ← hcY] at h9
     rw [show (wr.drew.setCells blk (off + (a + i) * k) cY).setCells blk (off + (b + i) * k) cX = sortWorldK enc k wr blk off 1 (swp dk (a + i) (b + i)) #[] from h9]
     exact ⟨⟨h8.1, Kb.trans HB.out h8.2⟩⟩
    clear hHd bnd hcX hcY hxv hyv hlw
    go_wp2_with fail
    go_big_region_o
    all_goals go_wp2
    go_roundg (n - (i + 1))
    case measure => omega
    case rel => exact ⟨i + 1, swp dk (a + i) (b + i), by first | rfl | rw [hwi] | go_num, by omega, by rw [size_swp]; exact hsk, ⟨hsw.out.1⟩, ⟨hsw.out.2⟩, ⟨HS.out.step (by omega) (by have := HD.out; omega)⟩⟩
  · have hltz : ¬ (i : Int) < (n : Int) := by omega
    obtain rfl : i = n := by omega
    go_wp2
    go_end0
    exact ⟨rfl, dk, HS.out, HW.out, HB.out⟩
theorem swaprange_at {α : Type} [Inhabited α] (enc : α → List Value) (k : Nat) (zE : ∀ w, (Go.sizeOf 30).run Try.prog w = .ok k w) (hk : ∀ x, (enc x).length = k) (h1 : ∀ x, ∀ v ∈ enc x, v.oneCell' = true) (g : Nat) (blk off cap a b n : Nat) (d : Array α) (w : World) {zd za zb zn : Int} {nd : Nat} (end_ : nd = d.size) (ea : za = (a : Int)) (eb : zb = (b : Int)) (en : zn = (n : Int)) (hH : HoldsK enc k w blk off d) (hblk : blk < w.heap.size) (hab : a + n ≤ b) (hb : b + n ≤ d.size) (hsz : d.size < 4611686018427387904) :
 Calls Try.prog 80 #[.slice (some ⟨blk, off, none⟩) nd cap, .int .i64 za, .int .i64 zb, .int .i64 zn, .func (.func g) #[] #[]] w fun e w' =>
  e = .returned (.tuple #[]) ∧ ∃ d', SwBy d d' a b n ∧ HoldsK enc k w' blk off d' ∧ Kb (fun j => j = blk) w w' := by
 subst end_ ea eb en
 exact swaprange_calls enc k zE hk h1 g blk off cap a b n d w hH hblk hab hb hsz
theorem rotate_calls {α : Type} [Inhabited α] (enc : α → List Value) (k : Nat) (zE : ∀ w, (Go.sizeOf 30).run Try.prog w = .ok k w) (hk : ∀ x, (enc x).length = k) (h1 : ∀ x, ∀ v ∈ enc x, v.oneCell' = true) (g : Nat) (blk off cap a m b : Nat) (d : Array α) (w : World) (hH : HoldsK enc k w blk off d) (hblk : blk < w.heap.size) (h1m : a < m) (h2m : m < b) (hb : b ≤ d.size) (hsz : d.size < 4611686018427387904) :
 Calls Try.prog 79 #[.slice (some ⟨blk, off, none⟩) d.size cap, .int .i64 a, .int .i64 m, .int .i64 b, .func (.func g) #[] #[]] w fun e w' =>
  e = .returned (.tuple #[]) ∧ ∃ d', RotBy d d' a m b ∧ HoldsK enc k w' blk off d' ∧ Kb (fun j => j = blk) w w' := by
 have SW := Aside0.mk (fun (D : Nat) (a b n : Nat) (d : Array α) (w : World) (za zb zn : Int) => @swaprange_at α _ enc k zE hk h1 g blk off cap a b n d w 0 za zb zn D)
 have HH : Aside0 (HoldsK enc k w blk off d) := ⟨hH⟩
 have HBL : Aside0 (blk < w.heap.size) := ⟨hblk⟩
 clear hH hk h1 hblk zE
 obtain ⟨D, hD⟩ : ∃ D, D = d.size := ⟨_, rfl⟩
 rw [← hD] at hb hsz ⊢
 have HD := Aside0.mk hD
 clear hD
 go_enter Try.func79, Try.ntmps79
 go_wp2
 go_loopg [10, 11] (b - a) (fun g1 vi vj wr => ∃ (i j : Nat) (dk : Array α), vi = .int .i64 i ∧ vj = .int .i64 j ∧ i + j ≤ g1 + 1 ∧ 0 < i ∧ 0 < j ∧ a + i ≤ m ∧ m + j ≤ b ∧ dk.size = D ∧ Aside0 (HoldsK enc k wr blk off dk) ∧ Aside0 (Kb (fun j => j = blk) w wr) ∧ Aside0 (∀ d', RotBy dk d' (m - i) m (m + j) → RotBy d d' a m b))
 case atStart => exact ⟨m - a, b - m, d, by first | rfl | (congr 1; omega), by first | rfl | (congr 1; omega), by omega, by omega, by omega, by omega, by omega, HD.out.symm, HH, ⟨Kb.refl _ _⟩, ⟨fun d' h => by rwa [show m - (m - a) = a by omega, show m + (b - m) = b by omega] at h⟩⟩
 case round =>
  obtain ⟨i, j, dk, rfl, rfl, hg1, hi0, hj0, him, hjb, hsk, HW, HB, HT⟩ := hrel
  have HLB := Aside0.mk (Nat.lt_of_lt_of_le HBL.out HB.out.size)
  rcases Nat.lt_trichotomy i j with hij | hij | hij
  · have n1 : ((i : Int) == (j : Int)) = false := beq_eq_false_iff_ne.2 (by omega)
    have n2 : ¬ (j : Int) < (i : Int) := by omega
    have n3 : ¬ (i : Int) = (j : Int) := by omega
    have n4 : decide ((j : Int) < (i : Int)) = false := decide_eq_false n2
    go_wp2_with fail
    with_reducible refine (SW.out D (m - i) (m + j - i) i dk wr _ _ _ hsk.symm ?e1a ?e2a ?e3a HW.out HLB.out (by omega) (by omega) (by omega)).mono ?_
    case e1a => omega
    case e2a => omega
    case e3a => omega
    rintro e w1 ⟨rfl, d1, hsw, hh, hb1⟩
    have HW1 := Aside0.mk hh
    have HB1 := Aside0.mk (Kb.trans HB.out hb1)
    have HS1 := Aside0.mk hsw
    have hs1 : d1.size = D := hsw.perm.1.trans hsk
    clear hh hb1 hsw
    go_wp2
    go_roundg (i + (j - i) - 1)
    case measure => omega
    case rel => exact ⟨i, j - i, d1, rfl, by first | rfl | (congr 1; omega), by omega, hi0, by omega, him, by omega, hs1, HW1, HB1, ⟨fun d' h => HT.out d' (RotBy.less HS1.out (by rwa [show m + (j - i) = m + j - i by omega] at h) (by omega) (by omega) (by omega))⟩⟩
  · subst hij
    go_wp2_with fail
    with_reducible refine (SW.out D (m - i) m i dk wr _ _ _ hsk.symm ?e1b ?e2b ?e3b HW.out HLB.out (by omega) (by omega) (by omega)).mono ?_
    case e1b => omega
    case e2b => omega
    case e3b => omega
    rintro e w1 ⟨rfl, d1, hsw, hh, hb1⟩
    have HW1 := Aside0.mk hh
    have HB1 := Aside0.mk (Kb.trans HB.out hb1)
    have HS1 := Aside0.mk (HT.out d1 (RotBy.eq hsw (by omega)))
    clear hh hb1 hsw
    go_wp2
    go_end0
    exact ⟨rfl, d1, HS1.out, HW1.out, HB1.out⟩
  · have n1 : ((i : Int) == (j : Int)) = false := beq_eq_false_iff_ne.2 (by omega)
    have n2 : (j : Int) < (i : Int) := by omega
    have n3 : ¬ (i : Int) = (j : Int) := by omega
    have n4 : decide ((j : Int) < (i : Int)) = true := decide_eq_true n2
    go_wp2_with fail
    with_reducible refine (SW.out D (m - i) m j dk wr _ _ _ hsk.symm ?e1c ?e2c ?e3c HW.out HLB.out (by omega) (by omega) (by omega)).mono ?_
    case e1c => omega
    case e2c => omega
    case e3c => omega
    rintro e w1 ⟨rfl, d1, hsw, hh, hb1⟩
    have HW1 := Aside0.mk hh
    have HB1 := Aside0.mk (Kb.trans HB.out hb1)
    have HS1 := Aside0.mk hsw
    have hs1 : d1.size = D := hsw.perm.1.trans hsk
    clear hh hb1 hsw
    go_wp2
    go_roundg (i - j + j - 1)
    case measure => omega
    case rel => exact ⟨i - j, j, d1, by first | rfl | (congr 1; omega), rfl, by omega, by omega, hj0, by omega, hjb, hs1, HW1, HB1, ⟨fun d' h => HT.out d' (RotBy.more HS1.out (by rwa [show m - (i - j) = m - i + j by omega] at h) (by omega) (by omega))⟩⟩
theorem symmerge_left {α : Type} [Inhabited α] (enc : α → List Value) (k : Nat) (zE : ∀ w, (Go.sizeOf 30).run Try.prog w = .ok k w) (hk : ∀ x, (enc x).length = k) (h1 : ∀ x, ∀ v ∈ enc x, v.oneCell' = true) (cf : α → α → Int) (g : Nat) (eg : ∀ args w, (callFunc g args).run Try.prog w = .ok (.enter g args) w) (blk off cap : Nat) (hswo : SWO (ltOf cf)) (a m b : Nat) (hm : m = a + 1) (d : Array α) (w : World) (hcmp : ∀ W : World, Kb (fun j => j = blk) w W → ∀ x y : α, Calls Try.prog g #[.agg (enc x).toArray, .agg (enc y).toArray] W fun e w' => e = .returned (.int .i64 (cf x y)) ∧ Below W.heap.size W w') (hH : HoldsK enc k w blk off d) (hblk : blk < w.heap.size) (h2m : a + 1 < b) (hb : b ≤ d.size) (hsz : d.size < 2305843009213693952) (hB : SortedIn (ltOf cf) (a + 1) b d) :
 Calls Try.prog 78 #[.slice (some ⟨blk, off, none⟩) d.size cap, .int .i64 a, .int .i64 m, .int .i64 b, .func (.func g) #[] #[]] w fun e w' =>
  e = .returned (.tuple #[]) ∧ ∃ d', PermIn a b d d' ∧ SortedIn (ltOf cf) a b d' ∧ HoldsK enc k w' blk off d' ∧ Kb (fun j => j = blk) w w' := by
 have mixed : Try.prog.follows .mixedOrders = true := by kernel_rfl
 have u22 := run_underlying Try.underlying72
 have aE := agg30
 have HH : Aside0 (HoldsK enc k w blk off d) := ⟨hH⟩
 have HK : Aside0 (∀ x, (enc x).length = k) := ⟨hk⟩
 have H1 : Aside0 (∀ x, ∀ v ∈ enc x, v.oneCell' = true) := ⟨h1⟩
 have HBL : Aside0 (blk < w.heap.size) := ⟨hblk⟩
 clear hH hk h1 hblk
 have HC := Aside0.mk hcmp
 have HSB := Aside0.mk (And.intro hB (And.intro hswo hb))
 clear hcmp hB hswo
 obtain ⟨D, hD⟩ : ∃ D, D = d.size := ⟨_, rfl⟩
 rw [← hD] at hb hsz ⊢
 have HD := Aside0.mk hD
 clear hD
 have hm1 : ((m : Int) - (a : Int) == 1) = true := beq_iff_eq.2 (by omega)
 have hm2 : (m : Int) - (a : Int) = 1 := by omega
 have HM := Aside0.mk hm
 clear hm
 go_enter Try.func78, Try.ntmps78
 go_wp2_with fail
 go_loopg [10, 11] (b - (a + 1)) (fun g1 vi vj wr => ∃ (i j : Nat), vi = .int .i64 i ∧ vj = .int .i64 j ∧ a + 1 ≤ i ∧ i ≤ j ∧ j ≤ b ∧ j - i ≤ g1 ∧ Aside0 (HoldsK enc k wr blk off d) ∧ Aside0 (Kb (fun j => j = blk) w wr) ∧ Aside0 (a + 1 < i → ltOf cf d[i - 1]! d[a]! = true) ∧ Aside0 (j < b → ltOf cf d[j]! d[a]! = false))
 case atStart => exact ⟨m, b, rfl, rfl, by omega, by omega, by omega, by omega, HH, ⟨Kb.refl _ _⟩, ⟨fun h => by have := HM.out; omega⟩, ⟨fun h => by omega⟩⟩
 case round =>
  obtain ⟨i, j, rfl, rfl, ia, ij, jb, hg1, HW, HB, HL, HR⟩ := hrel
  by_cases hlt : i < j
  · have hltz : (i : Int) < (j : Int) := by omega
    go_wp2_with fail
    obtain ⟨h, hh⟩ : ∃ h, h = (i + j) / 2 := ⟨_, rfl⟩
    have hhz : ((i : Int) + (j : Int)) / 2 = (h : Int) := by omega
    have hh1 : i ≤ h := by omega
    have hh2 : h < j := by omega
    rw [hhz]
    clear hh hhz
    have jh : (h : Int) < (D : Int) := by omega
    have ja : (a : Int) < (D : Int) := by omega
    have hwh : IntKind.i64.wrap ((h : Int) + 1) = ((h + 1 : Nat) : Int) := (i64_w _).trans ((w64 (by omega) (by omega)).trans (by omega))
    obtain ⟨xj, hxj⟩ : ∃ x, d[h]! = x := ⟨_, rfl⟩
    obtain ⟨xp, hxp⟩ : ∃ x, d[a]! = x := ⟨_, rfl⟩
    obtain ⟨cJ, hcJ⟩ : ∃ c, c = enc xj := ⟨_, rfl⟩
    obtain ⟨cP, hcP⟩ : ∃ c, c = enc xp := ⟨_, rfl⟩
    have hlb2 := Aside0.mk (Nat.lt_of_lt_of_le HBL.out HB.out.size)
    have lj : ∀ p : BelowBy wr, Sem.run Try.prog (loadCellsFrom ⟨blk, off + h * k, none⟩ 0 k #[]) p.w1 = .ok cJ.toArray p.w1 := fun p => by
     rw [hcJ, ← hxj]; exact run_loadCellsFrom_list Try.prog _ _ _ k (HK.out _) (HoldsK.cells (holdsK_kb HW.out p.h hlb2.out) HK.out (by have := HD.out; omega))
    have lp : ∀ p : BelowBy wr, Sem.run Try.prog (loadCellsFrom ⟨blk, off + a * k, none⟩ 0 k #[]) p.w1 = .ok cP.toArray p.w1 := fun p => by
     rw [hcP, ← hxp]; exact run_loadCellsFrom_list Try.prog _ _ _ k (HK.out _) (HoldsK.cells (holdsK_kb HW.out p.h hlb2.out) HK.out (by have := HD.out; omega))
    obtain ⟨cv, hcv⟩ : ∃ c, c = cf xj xp := ⟨_, rfl⟩
    have hcg : ∀ p : BelowBy wr, Calls Try.prog g #[.agg cJ.toArray, .agg cP.toArray] p.w1 fun e w' => e = .returned (.int .i64 cv) ∧ ∃ q : BelowBy wr, w' = q.w1 := fun p => by
     rw [hcJ, hcP, hcv]; exact calls_below p.h (HC.out _ (Kb.below HB.out p.h) xj xp)
    have hsJ : cJ.length = k := by rw [hcJ]; exact HK.out _
    have hsP : cP.length = k := by rw [hcP]; exact HK.out _
    have CC : Aside0 (cv = cf d[h]! d[a]!) := ⟨by rw [hxj, hxp]; exact hcv⟩
    clear hcJ hcP hcv hxj hxp
    by_cases hlv : cv < 0
    · refine wp_region_quiet_below (by assumption) (by kernel_rfl) ?_
      repeat (quiet_step ((first | (go_at_fn g; refine hcg _))))
      refine wpQuiet_nil ?_
      intro _ hw'
      obtain ⟨pq, hw''⟩ := hw'
      subst hw''
      have HLT : Aside0 (ltOf cf d[h]! d[a]! = true) := ⟨decide_eq_true (by rw [← CC.out]; exact hlv)⟩
      go_wp2_with fail
      go_roundg (j - (h + 1))
      case measure => omega
      case rel => exact ⟨h + 1, j, by first | rfl | rw [hwh], rfl, by omega, by omega, jb, by omega, ⟨holdsK_kb HW.out pq.h hlb2.out⟩, ⟨Kb.below HB.out pq.h⟩, ⟨fun _ => HLT.out⟩, HR⟩
    · refine wp_region_quiet_below (by assumption) (by kernel_rfl) ?_
      repeat (quiet_step ((first | (go_at_fn g; refine hcg _))))
      refine wpQuiet_nil ?_
      intro _ hw'
      obtain ⟨pq, hw''⟩ := hw'
      subst hw''
      have HLT : Aside0 (ltOf cf d[h]! d[a]! = false) := ⟨decide_eq_false (by rw [← CC.out]; exact hlv)⟩
      go_wp2_with fail
      go_roundg (h - i)
      case measure => omega
      case rel => exact ⟨i, h, rfl, rfl, ia, hh1, by omega, by omega, ⟨holdsK_kb HW.out pq.h hlb2.out⟩, ⟨Kb.below HB.out pq.h⟩, HL, ⟨fun _ => HLT.out⟩⟩
  · have hltz : ¬ (i : Int) < (j : Int) := by omega
    obtain rfl : i = j := by omega
    have HLB := Aside0.mk (Nat.lt_of_lt_of_le HBL.out HB.out.size)
    go_wp2_with fail
    go_loopg [13] (i - (a + 1)) (fun g2 vk wr2 => ∃ (x : Nat) (dk : Array α), vk = .int .i64 x ∧ x + 1 + g2 = i ∧ a ≤ x ∧ dk.size = D ∧ Aside0 (HoldsK enc k wr2 blk off dk) ∧ Aside0 (Kb (fun j => j = blk) w wr2) ∧ Aside0 (RotBy d dk a (a + 1) (x + 1)))
    case atStart => exact ⟨a, d, rfl, by omega, Nat.le_refl _, HD.out.symm, HW, HB, ⟨RotBy.none_r _ _ _⟩⟩
    case round =>
     obtain ⟨x, dk, rfl, hg2, hax, hsk, HWK, HBK, HT⟩ := hrel
     have hwi : IntKind.i64.wrap ((i : Int) - 1) = (i : Int) - 1 := (i64_w _).trans (w64 (by omega) (by omega))
     by_cases hx : x + 1 < i
     · have hxz : (x : Int) < (i : Int) - 1 := by omega
       have hwx : IntKind.i64.wrap ((x : Int) + 1) = (x : Int) + 1 := (i64_w _).trans (w64 (by omega) (by omega))
       have jx : (x : Int) < (D : Int) := by omega
       have jx1 : (x : Int) + 1 < (D : Int) := by omega
       have p0 : (0 : Int) ≤ (x : Int) + 1 := by omega
       have e0 : ((x : Int) + 1).toNat = x + 1 := by omega
       obtain ⟨xv, hxv⟩ : ∃ v, dk[x]! = v := ⟨_, rfl⟩
       obtain ⟨yv, hyv⟩ : ∃ v, dk[(x + 1)]! = v := ⟨_, rfl⟩
       obtain ⟨cX, hcX⟩ : ∃ c, c = enc xv := ⟨_, rfl⟩
       obtain ⟨cY, hcY⟩ : ∃ c, c = enc yv := ⟨_, rfl⟩
       have hlw : blk < wr.heap.size := Nat.lt_of_lt_of_le HBL.out HBK.out.size
       have HLQ := Aside0.mk hlw
       have hsX : cX.length = k := by rw [hcX]; exact HK.out _
       have hsY : cY.length = k := by rw [hcY]; exact HK.out _
       have hHd : HoldsK enc k wr.drew blk off dk := HWK.out
       have bnd : ∀ z, z < dk.size → z * k + k ≤ dk.size * k := fun z hz => by
        have := Nat.mul_le_mul_right k (show z + 1 ≤ dk.size from hz); rwa [Nat.add_mul, Nat.one_mul] at this
       have lx : Sem.run Try.prog (loadCellsFrom ⟨blk, off + x * k, none⟩ 0 k #[]) wr.drew = .ok cX.toArray wr.drew := by rw [hcX, ← hxv]; exact run_loadCellsFrom_list Try.prog _ _ _ k (HK.out _) (HoldsK.cells hHd HK.out (by omega))
       have ly : Sem.run Try.prog (loadCellsFrom ⟨blk, off + (x + 1) * k, none⟩ 0 k #[]) wr.drew = .ok cY.toArray wr.drew := by rw [hcY, ← hyv]; exact run_loadCellsFrom_list Try.prog _ _ _ k (HK.out _) (HoldsK.cells hHd HK.out (by omega))
       have s1 : Sem.run Try.prog (storeCells ⟨blk, off + x * k, none⟩ cY 0) wr.drew = .ok () (wr.drew.setCells blk (off + x * k) cY) := stores_of_holds Try.prog hHd (x * k) _ (by rw [hsY, size_flatK]; exact bnd x (by omega)) (by rw [hcY]; exact H1.out _)
       have s2 : Sem.run Try.prog (storeCells ⟨blk, off + (x + 1) * k, none⟩ cX 0) (wr.drew.setCells blk (off + x * k) cY) = .ok () ((wr.drew.setCells blk (off + x * k) cY).setCells blk (off + (x + 1) * k) cX) :=
        stores_of_holds Try.prog (holds_setCells_c hHd (x * k) _ (by rw [hsY, size_flatK]; exact bnd x (by omega))) ((x + 1) * k) _ (by rw [hsX, size_setMany, size_flatK]; exact bnd (x + 1) (by omega)) (by rw [hcX]; exact H1.out _)
       have hsw : Aside0 (HoldsK enc k ((wr.drew.setCells blk (off + x * k) cY).setCells blk (off + (x + 1) * k) cX) blk off (swp dk x (x + 1)) ∧ Kb (fun j => j = blk) w ((wr.drew.setCells blk (off + x * k) cY).setCells blk (off + (x + 1) * k) cX)) := by
        have h8 : HoldsK enc k (sortWorldK enc k wr blk off 1 (swp dk x (x + 1)) #[]) blk off (swp dk x (x + 1)) ∧ Kb (fun j => j = blk) wr (sortWorldK enc k wr blk off 1 (swp dk x (x + 1)) #[]) := ⟨holdsK_sortWorldK_c enc k wr blk off dk _ _ _ HWK.out HLQ.out (by rw [size_swp]), kb_sortWorld _ _ _ _ _ _ _ _⟩
        have hst : wr = sortWorldK enc k wr blk off 0 dk #[] := by unfold sortWorldK; rw [grow_empty]; exact (putRowK_self enc k wr blk off dk HWK.out).symm
        have h9 := sortWorldK_swp_c enc k wr blk off HK.out 0 dk #[] HLQ.out x (x + 1) (by omega) (by omega)
        rw [← hst, hxv, hyv, ← hcX, ← hcY] at h9
        rw [show (wr.drew.setCells blk (off + x * k) cY).setCells blk (off + (x + 1) * k) cX = sortWorldK enc k wr blk off 1 (swp dk x (x + 1)) #[] from h9]
        exact ⟨⟨h8.1, Kb.trans HBK.out h8.2⟩⟩
       clear hHd bnd hcX hcY hxv hyv hlw
       go_wp2_with fail
       go_big_region_o
       all_goals go_wp2
       go_roundg (i - (x + 1 + 1))
       case measure => omega
       case rel => exact ⟨x + 1, swp dk x (x + 1), by first | rfl | (congr 1; omega) | rw [hwx], by omega, by omega, by rw [size_swp]; exact hsk, ⟨hsw.out.1⟩, ⟨hsw.out.2⟩, ⟨HT.out.up hax (by have := HD.out; omega)⟩⟩
     · have hxz : ¬ (x : Int) < (i : Int) - 1 := by omega
       have HX := Aside0.mk (show x + 1 = i by omega)
       go_wp2_with fail
       refine bodyPost_ret (results_none rfl _ _ _) rfl ?_
       have h9 := sm_left HSB.out.2.1 (by have := HD.out; have := HSB.out.2.2; omega) HSB.out.1 ia jb HL.out HR.out (by have e := HX.out; have h := HT.out; rwa [e] at h)
       exact ⟨rfl, dk, h9.1, h9.2, HWK.out, HBK.out⟩
theorem symmerge_right {α : Type} [Inhabited α] (enc : α → List Value) (k : Nat) (zE : ∀ w, (Go.sizeOf 30).run Try.prog w = .ok k w) (hk : ∀ x, (enc x).length = k) (h1 : ∀ x, ∀ v ∈ enc x, v.oneCell' = true) (cf : α → α → Int) (g : Nat) (eg : ∀ args w, (callFunc g args).run Try.prog w = .ok (.enter g args) w) (blk off cap : Nat) (hswo : SWO (ltOf cf)) (a m b : Nat) (hm : b = m + 1) (d : Array α) (w : World) (hcmp : ∀ W : World, Kb (fun j => j = blk) w W → ∀ x y : α, Calls Try.prog g #[.agg (enc x).toArray, .agg (enc y).toArray] W fun e w' => e = .returned (.int .i64 (cf x y)) ∧ Below W.heap.size W w') (hH : HoldsK enc k w blk off d) (hblk : blk < w.heap.size) (h1m : a + 1 < m) (hb : b ≤ d.size) (hsz : d.size < 2305843009213693952) (hA : SortedIn (ltOf cf) a m d) :
 Calls Try.prog 78 #[.slice (some ⟨blk, off, none⟩) d.size cap, .int .i64 a, .int .i64 m, .int .i64 b, .func (.func g) #[] #[]] w fun e w' =>
  e = .returned (.tuple #[]) ∧ ∃ d', PermIn a (m + 1) d d' ∧ SortedIn (ltOf cf) a (m + 1) d' ∧ HoldsK enc k w' blk off d' ∧ Kb (fun j => j = blk) w w' := by
 have mixed : Try.prog.follows .mixedOrders = true := by kernel_rfl
 have u22 := run_underlying Try.underlying72
 have aE := agg30
 have HH : Aside0 (HoldsK enc k w blk off d) := ⟨hH⟩
 have HK : Aside0 (∀ x, (enc x).length = k) := ⟨hk⟩
 have H1 : Aside0 (∀ x, ∀ v ∈ enc x, v.oneCell' = true) := ⟨h1⟩
 have HBL : Aside0 (blk < w.heap.size) := ⟨hblk⟩
 clear hH hk h1 hblk
 have HC := Aside0.mk hcmp
 have HSB := Aside0.mk (And.intro hA (And.intro hswo hb))
 clear hcmp hA hswo
 obtain ⟨D, hD⟩ : ∃ D, D = d.size := ⟨_, rfl⟩
 rw [← hD] at hb hsz ⊢
 have HD := Aside0.mk hD
 clear hD
 have hm0 : ((m : Int) - (a : Int) == 1) = false := beq_eq_false_iff_ne.2 (by omega)
 have hm0' : ¬ (m : Int) - (a : Int) = 1 := by omega
 have hm1 : ((b : Int) - (m : Int) == 1) = true := beq_iff_eq.2 (by omega)
 have hm2 : (b : Int) - (m : Int) = 1 := by omega
 have HM := Aside0.mk hm
 have HMD := Aside0.mk (show m < D by omega)
 clear hm
 go_enter Try.func78, Try.ntmps78
 go_wp2_with fail
 go_loopg [14, 15] (m - a) (fun g1 vi vj wr => ∃ (i j : Nat), vi = .int .i64 i ∧ vj = .int .i64 j ∧ a ≤ i ∧ i ≤ j ∧ j ≤ m ∧ j - i ≤ g1 ∧ Aside0 (HoldsK enc k wr blk off d) ∧ Aside0 (Kb (fun j => j = blk) w wr) ∧ Aside0 (a < i → ltOf cf d[m]! d[i - 1]! = false) ∧ Aside0 (j < m → ltOf cf d[m]! d[j]! = true))
 case atStart => exact ⟨a, m, rfl, rfl, by omega, by omega, by omega, by omega, HH, ⟨Kb.refl _ _⟩, ⟨fun h => by omega⟩, ⟨fun h => by omega⟩⟩
 case round =>
  obtain ⟨i, j, rfl, rfl, ia, ij, jb, hg1, HW, HB, HL, HR⟩ := hrel
  by_cases hlt : i < j
  · have hltz : (i : Int) < (j : Int) := by omega
    go_wp2_with fail
    obtain ⟨h, hh⟩ : ∃ h, h = (i + j) / 2 := ⟨_, rfl⟩
    have hhz : ((i : Int) + (j : Int)) / 2 = (h : Int) := by omega
    have hh1 : i ≤ h := by omega
    have hh2 : h < j := by omega
    rw [hhz]
    clear hh hhz
    have jh : (h : Int) < (D : Int) := by have := HMD.out; omega
    have ja : (m : Int) < (D : Int) := by have := HMD.out; omega
    have hwh : IntKind.i64.wrap ((h : Int) + 1) = ((h + 1 : Nat) : Int) := (i64_w _).trans ((w64 (by omega) (by omega)).trans (by omega))
    obtain ⟨xj, hxj⟩ : ∃ x, d[m]! = x := ⟨_, rfl⟩
    obtain ⟨xp, hxp⟩ : ∃ x, d[h]! = x := ⟨_, rfl⟩
    obtain ⟨cJ, hcJ⟩ : ∃ c, c = enc xj := ⟨_, rfl⟩
    obtain ⟨cP, hcP⟩ : ∃ c, c = enc xp := ⟨_, rfl⟩
    have hlb2 := Aside0.mk (Nat.lt_of_lt_of_le HBL.out HB.out.size)
    have lj : ∀ p : BelowBy wr, Sem.run Try.prog (loadCellsFrom ⟨blk, off + m * k, none⟩ 0 k #[]) p.w1 = .ok cJ.toArray p.w1 := fun p => by
     rw [hcJ, ← hxj]; exact run_loadCellsFrom_list Try.prog _ _ _ k (HK.out _) (HoldsK.cells (holdsK_kb HW.out p.h hlb2.out) HK.out (by have := HD.out; have := HMD.out; omega))
    have lp : ∀ p : BelowBy wr, Sem.run Try.prog (loadCellsFrom ⟨blk, off + h * k, none⟩ 0 k #[]) p.w1 = .ok cP.toArray p.w1 := fun p => by
     rw [hcP, ← hxp]; exact run_loadCellsFrom_list Try.prog _ _ _ k (HK.out _) (HoldsK.cells (holdsK_kb HW.out p.h hlb2.out) HK.out (by have := HD.out; have := HMD.out; omega))
    obtain ⟨cv, hcv⟩ : ∃ c, c = cf xj xp := ⟨_, rfl⟩
    have hcg : ∀ p : BelowBy wr, Calls Try.prog g #[.agg cJ.toArray, .agg cP.toArray] p.w1 fun e w' => e = .returned (.int .i64 cv) ∧ ∃ q : BelowBy wr, w' = q.w1 := fun p => by
     rw [hcJ, hcP, hcv]; exact calls_below p.h (HC.out _ (Kb.below HB.out p.h) xj xp)
    have hsJ : cJ.length = k := by rw [hcJ]; exact HK.out _
    have hsP : cP.length = k := by rw [hcP]; exact HK.out _
    have CC : Aside0 (cv = cf d[m]! d[h]!) := ⟨by rw [hxj, hxp]; exact hcv⟩
    clear hcJ hcP hcv hxj hxp
    by_cases hlv : cv < 0
    · refine wp_region_quiet_below (by assumption) (by kernel_rfl) ?_
      repeat (quiet_step ((first | (go_at_fn g; refine hcg _))))
      refine wpQuiet_nil ?_
      intro _ hw'
      obtain ⟨pq, hw''⟩ := hw'
      subst hw''
      have HLT : Aside0 (ltOf cf d[m]! d[h]! = true) := ⟨decide_eq_true (by rw [← CC.out]; exact hlv)⟩
      go_wp2_with fail
      go_roundg (h - i)
      case measure => omega
      case rel => exact ⟨i, h, rfl, rfl, ia, hh1, by omega, by omega, ⟨holdsK_kb HW.out pq.h hlb2.out⟩, ⟨Kb.below HB.out pq.h⟩, HL, ⟨fun _ => HLT.out⟩⟩
    · refine wp_region_quiet_below (by assumption) (by kernel_rfl) ?_
      repeat (quiet_step ((first | (go_at_fn g; refine hcg _))))
      refine wpQuiet_nil ?_
      intro _ hw'
      obtain ⟨pq, hw''⟩ := hw'
      subst hw''
      have HLT : Aside0 (ltOf cf d[m]! d[h]! = false) := ⟨decide_eq_false (by rw [← CC.out]; exact hlv)⟩
      go_wp2_with fail
      go_roundg (j - (h + 1))
      case measure => omega
      case rel => exact ⟨h + 1, j, by first | rfl | rw [hwh], rfl, by omega, by omega, jb, by omega, ⟨holdsK_kb HW.out pq.h hlb2.out⟩, ⟨Kb.below HB.out pq.h⟩, ⟨fun _ => HLT.out⟩, HR⟩
  · have hltz : ¬ (i : Int) < (j : Int) := by omega
    obtain rfl : i = j := by omega
    have HLB := Aside0.mk (Nat.lt_of_lt_of_le HBL.out HB.out.size)
    go_wp2_with fail
    go_loopg [17] (m - i) (fun g2 vk wr2 => ∃ (x : Nat) (dk : Array α), vk = .int .i64 x ∧ Aside0 (x = i + g2) ∧ x ≤ m ∧ dk.size = D ∧ Aside0 (HoldsK enc k wr2 blk off dk) ∧ Aside0 (Kb (fun j => j = blk) w wr2) ∧ Aside0 (RotBy d dk x m (m + 1)))
    case atStart => exact ⟨m, d, rfl, ⟨by omega⟩, Nat.le_refl _, HD.out.symm, HW, HB, ⟨RotBy.none_l _ _ _ (by omega)⟩⟩
    case round =>
     obtain ⟨x, dk, rfl, hg2, hxm, hsk, HWK, HBK, HT⟩ := hrel
     by_cases hx : i < x
     · obtain ⟨y, rfl⟩ : ∃ y, x = y + 1 := ⟨x - 1, by omega⟩
       have hxz : (i : Int) < (y : Int) + 1 := by omega
       have hwx : IntKind.i64.wrap ((y : Int) + 1 - 1) = (y : Int) := (i64_w _).trans ((w64 (by omega) (by omega)).trans (by omega))
       have hwp : IntKind.i64.wrap (y : Int) = (y : Int) := (i64_w _).trans (w64 (by omega) (by omega))
       have jx : (y : Int) < (D : Int) := by have := HMD.out; omega
       have jx1 : (y : Int) + 1 < (D : Int) := by have := HMD.out; omega
       have p0 : (0 : Int) ≤ (y : Int) + 1 := by omega
       have e0 : ((y : Int) + 1).toNat = y + 1 := by omega
       have hyD : y + 1 < dk.size := by have := HMD.out; omega
       obtain ⟨xv, hxv⟩ : ∃ v, dk[(y + 1)]! = v := ⟨_, rfl⟩
       obtain ⟨yv, hyv⟩ : ∃ v, dk[y]! = v := ⟨_, rfl⟩
       obtain ⟨cX, hcX⟩ : ∃ c, c = enc xv := ⟨_, rfl⟩
       obtain ⟨cY, hcY⟩ : ∃ c, c = enc yv := ⟨_, rfl⟩
       have hlw : blk < wr.heap.size := Nat.lt_of_lt_of_le HBL.out HBK.out.size
       have HLQ := Aside0.mk hlw
       have hsX : cX.length = k := by rw [hcX]; exact HK.out _
       have hsY : cY.length = k := by rw [hcY]; exact HK.out _
       have hHd : HoldsK enc k wr.drew blk off dk := HWK.out
       have bnd : ∀ z, z < dk.size → z * k + k ≤ dk.size * k := fun z hz => by
        have := Nat.mul_le_mul_right k (show z + 1 ≤ dk.size from hz); rwa [Nat.add_mul, Nat.one_mul] at this
       have lx : Sem.run Try.prog (loadCellsFrom ⟨blk, off + (y + 1) * k, none⟩ 0 k #[]) wr.drew = .ok cX.toArray wr.drew := by rw [hcX, ← hxv]; exact run_loadCellsFrom_list Try.prog _ _ _ k (HK.out _) (HoldsK.cells hHd HK.out (by omega))
       have ly : Sem.run Try.prog (loadCellsFrom ⟨blk, off + y * k, none⟩ 0 k #[]) wr.drew = .ok cY.toArray wr.drew := by rw [hcY, ← hyv]; exact run_loadCellsFrom_list Try.prog _ _ _ k (HK.out _) (HoldsK.cells hHd HK.out (by omega))
       have s1 : Sem.run Try.prog (storeCells ⟨blk, off + (y + 1) * k, none⟩ cY 0) wr.drew = .ok () (wr.drew.setCells blk (off + (y + 1) * k) cY) := stores_of_holds Try.prog hHd ((y + 1) * k) _ (by rw [hsY, size_flatK]; exact bnd (y + 1) (by omega)) (by rw [hcY]; exact H1.out _)
       have s2 : Sem.run Try.prog (storeCells ⟨blk, off + y * k, none⟩ cX 0) (wr.drew.setCells blk (off + (y + 1) * k) cY) = .ok () ((wr.drew.setCells blk (off + (y + 1) * k) cY).setCells blk (off + y * k) cX) :=
        stores_of_holds Try.prog (holds_setCells_c hHd ((y + 1) * k) _ (by rw [hsY, size_flatK]; exact bnd (y + 1) (by omega))) (y * k) _ (by rw [hsX, size_setMany, size_flatK]; exact bnd y (by omega)) (by rw [hcX]; exact H1.out _)
       have hsw : Aside0 (HoldsK enc k ((wr.drew.setCells blk (off + (y + 1) * k) cY).setCells blk (off + y * k) cX) blk off (swp dk (y + 1) y) ∧ Kb (fun j => j = blk) w ((wr.drew.setCells blk (off + (y + 1) * k) cY).setCells blk (off + y * k) cX)) := by
        have h8 : HoldsK enc k (sortWorldK enc k wr blk off 1 (swp dk (y + 1) y) #[]) blk off (swp dk (y + 1) y) ∧ Kb (fun j => j = blk) wr (sortWorldK enc k wr blk off 1 (swp dk (y + 1) y) #[]) := ⟨holdsK_sortWorldK_c enc k wr blk off dk _ _ _ HWK.out HLQ.out (by rw [size_swp]), kb_sortWorld _ _ _ _ _ _ _ _⟩
        have hst : wr = sortWorldK enc k wr blk off 0 dk #[] := by unfold sortWorldK; rw [grow_empty]; exact (putRowK_self enc k wr blk off dk HWK.out).symm
        have h9 := sortWorldK_swp_c enc k wr blk off HK.out 0 dk #[] HLQ.out (y + 1) y (by omega) (by omega)
        rw [← hst, hxv, hyv, ← hcX, ← hcY] at h9
        rw [show (wr.drew.setCells blk (off + (y + 1) * k) cY).setCells blk (off + y * k) cX = sortWorldK enc k wr blk off 1 (swp dk (y + 1) y) #[] from h9]
        exact ⟨⟨h8.1, Kb.trans HBK.out h8.2⟩⟩
       clear hHd bnd hcX hcY hxv hyv hlw
       go_wp2_with fail
       go_big_region_o
       all_goals go_wp2
       go_roundg (y - i)
       case measure => have := hg2.out; omega
       case rel => exact ⟨y, swp dk (y + 1) y, by first | rfl | (congr 1; omega) | rw [hwx], ⟨by omega⟩, by omega, by rw [size_swp]; exact hsk, ⟨hsw.out.1⟩, ⟨hsw.out.2⟩, ⟨HT.out.down hxm (by have := HD.out; have := HMD.out; omega)⟩⟩
     · have hxz : ¬ (i : Int) < (x : Int) := by omega
       have HX := Aside0.mk (show x = i by have := hg2.out; omega)
       go_wp2_with fail
       refine bodyPost_ret (results_none rfl _ _ _) rfl ?_
       have h9 := sm_right HSB.out.2.1 (by have := HD.out; have := HMD.out; omega) HSB.out.1 ia jb HL.out HR.out (by have e := HX.out; have h := HT.out; rwa [e] at h)
       exact ⟨rfl, dk, h9.1, h9.2, HWK.out, HBK.out⟩
theorem rotate_at {α : Type} [Inhabited α] (enc : α → List Value) (k : Nat) (zE : ∀ w, (Go.sizeOf 30).run Try.prog w = .ok k w) (hk : ∀ x, (enc x).length = k) (h1 : ∀ x, ∀ v ∈ enc x, v.oneCell' = true) (g : Nat) (blk off cap a m b : Nat) (d : Array α) (w : World) {za zm zb : Int} {nd : Nat} (end_ : nd = d.size) (ea : za = (a : Int)) (em : zm = (m : Int)) (eb : zb = (b : Int)) (hH : HoldsK enc k w blk off d) (hblk : blk < w.heap.size) (h1m : a < m) (h2m : m < b) (hb : b ≤ d.size) (hsz : d.size < 4611686018427387904) :
 Calls Try.prog 79 #[.slice (some ⟨blk, off, none⟩) nd cap, .int .i64 za, .int .i64 zm, .int .i64 zb, .func (.func g) #[] #[]] w fun e w' =>
  e = .returned (.tuple #[]) ∧ ∃ d', RotBy d d' a m b ∧ HoldsK enc k w' blk off d' ∧ Kb (fun j => j = blk) w w' := by
 subst end_ ea em eb
 exact rotate_calls enc k zE hk h1 g blk off cap a m b d w hH hblk h1m h2m hb hsz
theorem symmerge_step {α : Type} [Inhabited α] (enc : α → List Value) (k : Nat) (zE : ∀ w, (Go.sizeOf 30).run Try.prog w = .ok k w) (hk : ∀ x, (enc x).length = k) (h1 : ∀ x, ∀ v ∈ enc x, v.oneCell' = true) (cf : α → α → Int) (g : Nat) (eg : ∀ args w, (callFunc g args).run Try.prog w = .ok (.enter g args) w) (blk off cap : Nat) (hswo : SWO (ltOf cf)) (n : Nat) (ih : ∀ (a m b : Nat) (d : Array α) (w : World) (hcmp : ∀ W : World, Kb (fun j => j = blk) w W → ∀ x y : α, Calls Try.prog g #[.agg (enc x).toArray, .agg (enc y).toArray] W fun e w' => e = .returned (.int .i64 (cf x y)) ∧ Below W.heap.size W w') (hH : HoldsK enc k w blk off d) (hblk : blk < w.heap.size) (h1m : a < m) (h2m : m < b) (hb : b ≤ d.size) (hsz : d.size < 2305843009213693952) (hA : SortedIn (ltOf cf) a m d) (hB : SortedIn (ltOf cf) m b d) (hn : b - a ≤ n), Calls Try.prog 78 #[.slice (some ⟨blk, off, none⟩) d.size cap, .int .i64 a, .int .i64 m, .int .i64 b, .func (.func g) #[] #[]] w fun e w' => e = .returned (.tuple #[]) ∧ ∃ d', PermIn a b d d' ∧ SortedIn (ltOf cf) a b d' ∧ HoldsK enc k w' blk off d' ∧ Kb (fun j => j = blk) w w')
 (a m b : Nat) (d : Array α) (w : World) (hcmp : ∀ W : World, Kb (fun j => j = blk) w W → ∀ x y : α, Calls Try.prog g #[.agg (enc x).toArray, .agg (enc y).toArray] W fun e w' => e = .returned (.int .i64 (cf x y)) ∧ Below W.heap.size W w') (hH : HoldsK enc k w blk off d) (hblk : blk < w.heap.size) (h1m : a < m) (h2m : m < b) (hb : b ≤ d.size) (hsz : d.size < 2305843009213693952) (hA : SortedIn (ltOf cf) a m d) (hB : SortedIn (ltOf cf) m b d) (hn : b - a ≤ n + 1) : Calls Try.prog 78 #[.slice (some ⟨blk, off, none⟩) d.size cap, .int .i64 a, .int .i64 m, .int .i64 b, .func (.func g) #[] #[]] w fun e w' => e = .returned (.tuple #[]) ∧ ∃ d', PermIn a b d d' ∧ SortedIn (ltOf cf) a b d' ∧ HoldsK enc k w' blk off d' ∧ Kb (fun j => j = blk) w w' := by
 by_cases c1 : m = a + 1
 · exact symmerge_left enc k zE hk h1 cf g eg blk off cap hswo a m b c1 d w hcmp hH hblk (by omega) hb hsz (c1 ▸ hB)
 by_cases c2 : b = m + 1
 · have h9 := symmerge_right enc k zE hk h1 cf g eg blk off cap hswo a m b c2 d w hcmp hH hblk (by omega) hb hsz hA
   rw [← c2] at h9
   exact h9
 have RT := Aside0.mk (fun (D : Nat) (a m b : Nat) (d : Array α) (w : World) (za zm zb : Int) => @rotate_at α _ enc k zE hk h1 g blk off cap a m b d w za zm zb D)
 have IH : Aside0 (∀ (D a m b : Nat) (d : Array α) (w : World) (za zm zb : Int) (e0 : D = d.size) (e1 : za = (a : Int)) (e2 : zm = (m : Int)) (e3 : zb = (b : Int)) (hcmp : ∀ W : World, Kb (fun j => j = blk) w W → ∀ x y : α, Calls Try.prog g #[.agg (enc x).toArray, .agg (enc y).toArray] W fun e w' => e = .returned (.int .i64 (cf x y)) ∧ Below W.heap.size W w') (hH : HoldsK enc k w blk off d) (hblk : blk < w.heap.size) (h1m : a < m) (h2m : m < b) (hb : b ≤ d.size) (hsz : d.size < 2305843009213693952) (hA : SortedIn (ltOf cf) a m d) (hB : SortedIn (ltOf cf) m b d) (hn : b - a ≤ n), Calls Try.prog 78 #[.slice (some ⟨blk, off, none⟩) D cap, .int .i64 za, .int .i64 zm, .int .i64 zb, .func (.func g) #[] #[]] w (fun e w' => e = .returned (.tuple #[]) ∧ ∃ d', PermIn a b d d' ∧ SortedIn (ltOf cf) a b d' ∧ HoldsK enc k w' blk off d' ∧ Kb (fun j => j = blk) w w')) := ⟨by
  intro D a m b d w za zm zb e0 e1 e2 e3 i1 i2 i3 i4 i5 i6 i7 i8 i9 i10
  subst e0 e1 e2 e3
  exact ih a m b d w i1 i2 i3 i4 i5 i6 i7 i8 i9 i10⟩
 clear ih
 have mixed : Try.prog.follows .mixedOrders = true := by kernel_rfl
 have u22 := run_underlying Try.underlying72
 have aE := agg30
 have HH : Aside0 (HoldsK enc k w blk off d) := ⟨hH⟩
 have HK : Aside0 (∀ x, (enc x).length = k) := ⟨hk⟩
 have H1 : Aside0 (∀ x, ∀ v ∈ enc x, v.oneCell' = true) := ⟨h1⟩
 have HBL : Aside0 (blk < w.heap.size) := ⟨hblk⟩
 clear hH hk h1 hblk
 have HC := Aside0.mk hcmp
 obtain ⟨M, hM⟩ : ∃ M, M = (a + b) / 2 := ⟨_, rfl⟩
 obtain ⟨P, hP⟩ : ∃ P, P = M + m - 1 := ⟨_, rfl⟩
 have HSB := Aside0.mk (And.intro hA (And.intro hB (And.intro hswo (And.intro hb (And.intro h1m (And.intro h2m (And.intro hM hP)))))))
 obtain ⟨D, hD⟩ : ∃ D, D = d.size := ⟨_, rfl⟩
 rw [← hD] at hb hsz ⊢
 have HD := Aside0.mk hD
 have HN := Aside0.mk (show b - a ≤ n + 1 ∧ a + 4 ≤ b ∧ a + 2 ≤ M ∧ M + 2 ≤ b ∧ b ≤ D ∧ D < 2305843009213693952 ∧ P + 1 = M + m ∧ 2 * M ≤ a + b ∧ a + b ≤ 2 * M + 1 ∧ a < m ∧ m < b from by omega)
 have hm0 : ((m : Int) - (a : Int) == 1) = false := beq_eq_false_iff_ne.2 (by omega)
 have hm1 : ¬ (m : Int) - (a : Int) = 1 := by omega
 have hm2 : ((b : Int) - (m : Int) == 1) = false := beq_eq_false_iff_ne.2 (by omega)
 have hm3 : ¬ (b : Int) - (m : Int) = 1 := by omega
 have hMz : ((a : Int) + (b : Int)) / 2 = (M : Int) := by omega
 have hPz : (M : Int) + (m : Int) - 1 = (P : Int) := by omega
 have ha0 : a < m := h1m
 have hb0 : m < b := h2m
 have HZ := Aside0.mk (And.intro hMz hPz)
 have hMm : ∀ x : Int, ((a : Int) + (b : Int)) / 2 = x → True := fun _ _ => trivial
 clear hD hMz hPz hM hP hA hB hcmp hswo hn c1 c2 h1m h2m hMm
 by_cases e1 : M < m
 · skip
   have e0 : ((a : Int) + (b : Int)) / 2 < (m : Int) := by have := HZ.out.1; omega
   have HE := Aside0.mk e1
   clear e1
   go_enter Try.func78, Try.ntmps78
   go_wp2_with fail
   rw [HZ.out.1, HZ.out.2]
   clear e0
   go_loopg [20, 21] (b - a) (fun g1 vi vj wr => ∃ (i j : Nat), vi = .int .i64 i ∧ vj = .int .i64 j ∧ (M + m - b) ≤ i ∧ i ≤ j ∧ j ≤ M ∧ j - i ≤ g1 ∧ Aside0 (HoldsK enc k wr blk off d) ∧ Aside0 (Kb (fun j => j = blk) w wr) ∧ Aside0 ((M + m - b) < i → ltOf cf d[P - (i - 1)]! d[i - 1]! = false) ∧ Aside0 (j < M → ltOf cf d[P - j]! d[j]! = true))
   case atStart => exact ⟨(M + m - b), M, by first | rfl | (congr 1; have := HN.out; have := HE.out; omega), rfl, Nat.le_refl _, by have := HN.out; have := HE.out; omega, Nat.le_refl _, by have := HN.out; have := HE.out; omega, HH, ⟨Kb.refl _ _⟩, ⟨fun h => by omega⟩, ⟨fun h => by omega⟩⟩
   case round =>
    obtain ⟨i, j, rfl, rfl, ia, ij, jb, hg1, HW, HB, HL, HR⟩ := hrel
    have hjM : j ≤ M ∧ j ≤ m := by have := HE.out; omega
    by_cases hlt : i < j
    · have hltz : (i : Int) < (j : Int) := by omega
      go_wp2_with fail
      obtain ⟨h, hh⟩ : ∃ h, h = (i + j) / 2 := ⟨_, rfl⟩
      have hhz : ((i : Int) + (j : Int)) / 2 = (h : Int) := by omega
      have hh1 : i ≤ h := by omega
      have hh2 : h < j := by omega
      rw [hhz]
      clear hh hhz
      have jh : (h : Int) < (D : Int) := by have := HN.out; omega
      have hpz : (P : Int) - (h : Int) < (D : Int) := by have := HN.out; have := HE.out; omega
      have hp0 : (0 : Int) ≤ (P : Int) - (h : Int) := by have := HN.out; omega
      have hp2 : (h : Int) ≤ (P : Int) := by have := HN.out; omega
      have hp1 : ((P : Int) - (h : Int)).toNat = P - h := by omega
      have hpw : IntKind.i64.wrap ((P : Int) - (h : Int)) = (P : Int) - (h : Int) := (i64_w _).trans (w64 (by omega) (by have := HN.out; omega))
      have hwh : IntKind.i64.wrap ((h : Int) + 1) = ((h + 1 : Nat) : Int) := (i64_w _).trans ((w64 (by omega) (by have := HN.out; omega)).trans (by omega))
      obtain ⟨xj, hxj⟩ : ∃ x, d[(P - h)]! = x := ⟨_, rfl⟩
      obtain ⟨xp, hxp⟩ : ∃ x, d[h]! = x := ⟨_, rfl⟩
      obtain ⟨cJ, hcJ⟩ : ∃ c, c = enc xj := ⟨_, rfl⟩
      obtain ⟨cP, hcP⟩ : ∃ c, c = enc xp := ⟨_, rfl⟩
      have hlb2 := Aside0.mk (Nat.lt_of_lt_of_le HBL.out HB.out.size)
      have lj : ∀ p : BelowBy wr, Sem.run Try.prog (loadCellsFrom ⟨blk, off + (P - h) * k, none⟩ 0 k #[]) p.w1 = .ok cJ.toArray p.w1 := fun p => by
       rw [hcJ, ← hxj]; exact run_loadCellsFrom_list Try.prog _ _ _ k (HK.out _) (HoldsK.cells (holdsK_kb HW.out p.h hlb2.out) HK.out (by have := HD.out; have := HN.out; have := HE.out; omega))
      have lp : ∀ p : BelowBy wr, Sem.run Try.prog (loadCellsFrom ⟨blk, off + h * k, none⟩ 0 k #[]) p.w1 = .ok cP.toArray p.w1 := fun p => by
       rw [hcP, ← hxp]; exact run_loadCellsFrom_list Try.prog _ _ _ k (HK.out _) (HoldsK.cells (holdsK_kb HW.out p.h hlb2.out) HK.out (by have := HD.out; have := HN.out; have := HE.out; omega))
      obtain ⟨cv, hcv⟩ : ∃ c, c = cf xj xp := ⟨_, rfl⟩
      have hcg : ∀ p : BelowBy wr, Calls Try.prog g #[.agg cJ.toArray, .agg cP.toArray] p.w1 fun e w' => e = .returned (.int .i64 cv) ∧ ∃ q : BelowBy wr, w' = q.w1 := fun p => by
       rw [hcJ, hcP, hcv]; exact calls_below p.h (HC.out _ (Kb.below HB.out p.h) xj xp)
      have hsJ : cJ.length = k := by rw [hcJ]; exact HK.out _
      have hsP : cP.length = k := by rw [hcP]; exact HK.out _
      have CC : Aside0 (cv = cf d[(P - h)]! d[h]!) := ⟨by rw [hxj, hxp]; exact hcv⟩
      clear hcJ hcP hcv hxj hxp
      by_cases hlv : cv < 0
      · refine wp_region_quiet_below (by assumption) (by kernel_rfl) ?_
        repeat (quiet_step ((first | (go_at_fn g; refine hcg _))))
        refine wpQuiet_nil ?_
        intro _ hw'
        obtain ⟨pq, hw''⟩ := hw'
        subst hw''
        have HLT : Aside0 (ltOf cf d[(P - h)]! d[h]! = true) := ⟨decide_eq_true (by rw [← CC.out]; exact hlv)⟩
        go_wp2_with fail
        go_roundg (h - i)
        case measure => omega
        case rel => exact ⟨i, h, rfl, rfl, ia, hh1, by omega, by omega, ⟨holdsK_kb HW.out pq.h hlb2.out⟩, ⟨Kb.below HB.out pq.h⟩, HL, ⟨fun _ => HLT.out⟩⟩
      · refine wp_region_quiet_below (by assumption) (by kernel_rfl) ?_
        repeat (quiet_step ((first | (go_at_fn g; refine hcg _))))
        refine wpQuiet_nil ?_
        intro _ hw'
        obtain ⟨pq, hw''⟩ := hw'
        subst hw''
        have HLT : Aside0 (ltOf cf d[(P - h)]! d[h]! = false) := ⟨decide_eq_false (by rw [← CC.out]; exact hlv)⟩
        go_wp2_with fail
        go_roundg (j - (h + 1))
        case measure => omega
        case rel => exact ⟨h + 1, j, by first | rfl | rw [hwh], rfl, by omega, by omega, jb, by omega, ⟨holdsK_kb HW.out pq.h hlb2.out⟩, ⟨Kb.below HB.out pq.h⟩, ⟨fun _ => HLT.out⟩, HR⟩
    · have hltz : ¬ (i : Int) < (j : Int) := by omega
      obtain rfl : i = j := by omega
      have HLB := Aside0.mk (Nat.lt_of_lt_of_le HBL.out HB.out.size)
      have HCUT := Aside0.mk (show CutAt (ltOf cf) d a m b i from CutAt.hi HSB.out.2.2.2.2.2.2.1 HN.out.2.2.2.2.2.2.1 HE.out ia jb HL.out HR.out)
      obtain ⟨E, hE⟩ : ∃ E, E = M + m - i := ⟨_, rfl⟩
      have HEE := Aside0.mk (show E = M + m - i ∧ i ≤ M ∧ i ≤ m ∧ a ≤ i ∧ E ≤ b from by have := HE.out; have := HN.out; omega)
      have hwE : IntKind.i64.wrap ((M : Int) + (m : Int) - (i : Int)) = (M : Int) + (m : Int) - (i : Int) := (i64_w _).trans (w64 (by omega) (by have := HN.out; omega))
      clear hE hlt HL HR hltz
      have SC := Aside0.mk (fun (d1 : Array α) (hR : RotBy d d1 i m E) => sm_cut HSB.out.2.2.1 HSB.out.2.2.2.1 HSB.out.2.2.2.2.1 HSB.out.2.2.2.2.2.1 HSB.out.1 HSB.out.2.1 HCUT.out (by have := HEE.out; rw [← HSB.out.2.2.2.2.2.2.1, ← this.1]; exact hR))
      by_cases k1 : i < m
      · skip
        by_cases k2 : i < M
        · skip
          by_cases k3 : a < i
          · skip
            by_cases k4 : E < b
            · skip
              have z_sm : (i : Int) < (m : Int) := by have := HN.out; have := HEE.out; omega
              have z_mE : (m : Int) < (M : Int) + (m : Int) - (i : Int) := by have := HN.out; have := HEE.out; omega
              have z_as : (a : Int) < (i : Int) := by have := HN.out; have := HEE.out; omega
              have z_sM : (i : Int) < (M : Int) := by have := HN.out; have := HEE.out; omega
              have z_ME : (M : Int) < (M : Int) + (m : Int) - (i : Int) := by have := HN.out; have := HEE.out; omega
              have z_Eb : (M : Int) + (m : Int) - (i : Int) < (b : Int) := by have := HN.out; have := HEE.out; omega
              go_wp2_with fail
              refine (RT.out D i m E d wr _ _ _ HD.out ?r1_1_1 ?r2_1_1 ?r3_1_1 HW.out HLB.out (by omega) (by have := HN.out; have := HEE.out; omega) (by have := HN.out; have := HEE.out; have := HD.out; omega) (by have := HN.out; have := HD.out; omega)).mono ?_
              case r1_1_1 => first | rfl | omega
              case r2_1_1 => first | rfl | omega
              case r3_1_1 => first | rfl | (have := HEE.out; omega)
              rintro e w1 ⟨rfl, d1, hr, hh, hb1⟩
              have HCD := Aside0.mk (SC.out d1 hr)
              have HW1 := Aside0.mk hh
              have HB1 := Aside0.mk (Kb.trans HB.out hb1)
              have hs1 : d1.size = D := hr.perm.1.trans HD.out.symm
              clear hh hb1 hr HW
              go_wp2_with fail
              have HLB1 := Aside0.mk (Nat.lt_of_lt_of_le HBL.out HB1.out.size)
              refine (IH.out D a i M d1 w1 _ _ _ hs1.symm ?l1_1_1 ?l2_1_1 ?l3_1_1 (fun W hW => HC.out W (Kb.trans HB1.out hW)) HW1.out HLB1.out (by omega) (by omega) (by have := HN.out; omega) (by have := HN.out; omega) HCD.out.q1 (by have h := HCD.out.q2; rwa [← HSB.out.2.2.2.2.2.2.1] at h) (by have := HN.out; omega)).mono ?_
              case l1_1_1 => first | rfl | omega
              case l2_1_1 => first | rfl | omega
              case l3_1_1 => first | rfl | omega
              rintro e w2 ⟨rfl, d2, hp2, hq2, hh, hb1⟩
              have HPQ := Aside0.mk (And.intro hp2 hq2)
              have HW2 := Aside0.mk hh
              have HB2 := Aside0.mk (Kb.trans HB1.out hb1)
              have hs2 : d2.size = D := hp2.1.trans hs1
              clear hh hb1 hp2 hq2 HW1
              go_wp2_with fail
              have HLB2 := Aside0.mk (Nat.lt_of_lt_of_le HBL.out HB2.out.size)
              have HRS := Aside0.mk (sm_rest HSB.out.2.2.2.2.2.2.1 HEE.out.1 HCD.out HPQ.out.1)
              refine (IH.out D M E b d2 w2 _ _ _ hs2.symm ?q1_1_1 ?q2_1_1 ?q3_1_1 (fun W hW => HC.out W (Kb.trans HB2.out hW)) HW2.out HLB2.out (by have := HN.out; have := HEE.out; omega) (by have := HN.out; have := HEE.out; omega) (by have := HN.out; omega) (by have := HN.out; omega) HRS.out.1 HRS.out.2 (by have := HN.out; omega)).mono ?_
              case q1_1_1 => first | rfl | omega
              case q2_1_1 => first | rfl | (have := HEE.out; omega)
              case q3_1_1 => first | rfl | omega
              rintro e w3 ⟨rfl, d3, hp3, hq3, hh, hb1⟩
              have HPR := Aside0.mk (And.intro hp3 hq3)
              have HW3 := Aside0.mk hh
              have HB3 := Aside0.mk (Kb.trans HB2.out hb1)
              clear hh hb1 hp3 hq3 HW2
              go_wp2_with fail
              go_end0
              have h9 := sm_all HSB.out.2.2.2.2.2.2.1 HEE.out.1 HSB.out.2.2.2.1 (by have := HN.out; omega) HCD.out HPQ.out.1 HPQ.out.2 HPR.out.1 HPR.out.2
              exact ⟨rfl, d3, h9.1, h9.2, HW3.out, HB3.out⟩
            · skip
              have z_sm : (i : Int) < (m : Int) := by have := HN.out; have := HEE.out; omega
              have z_mE : (m : Int) < (M : Int) + (m : Int) - (i : Int) := by have := HN.out; have := HEE.out; omega
              have z_as : (a : Int) < (i : Int) := by have := HN.out; have := HEE.out; omega
              have z_sM : (i : Int) < (M : Int) := by have := HN.out; have := HEE.out; omega
              have z_ME : (M : Int) < (M : Int) + (m : Int) - (i : Int) := by have := HN.out; have := HEE.out; omega
              have z_Eb : ¬ (M : Int) + (m : Int) - (i : Int) < (b : Int) := by have := HN.out; have := HEE.out; omega
              go_wp2_with fail
              refine (RT.out D i m E d wr _ _ _ HD.out ?r1_1_2 ?r2_1_2 ?r3_1_2 HW.out HLB.out (by omega) (by have := HN.out; have := HEE.out; omega) (by have := HN.out; have := HEE.out; have := HD.out; omega) (by have := HN.out; have := HD.out; omega)).mono ?_
              case r1_1_2 => first | rfl | omega
              case r2_1_2 => first | rfl | omega
              case r3_1_2 => first | rfl | (have := HEE.out; omega)
              rintro e w1 ⟨rfl, d1, hr, hh, hb1⟩
              have HCD := Aside0.mk (SC.out d1 hr)
              have HW1 := Aside0.mk hh
              have HB1 := Aside0.mk (Kb.trans HB.out hb1)
              have hs1 : d1.size = D := hr.perm.1.trans HD.out.symm
              clear hh hb1 hr HW
              go_wp2_with fail
              have HLB1 := Aside0.mk (Nat.lt_of_lt_of_le HBL.out HB1.out.size)
              refine (IH.out D a i M d1 w1 _ _ _ hs1.symm ?l1_1_2 ?l2_1_2 ?l3_1_2 (fun W hW => HC.out W (Kb.trans HB1.out hW)) HW1.out HLB1.out (by omega) (by omega) (by have := HN.out; omega) (by have := HN.out; omega) HCD.out.q1 (by have h := HCD.out.q2; rwa [← HSB.out.2.2.2.2.2.2.1] at h) (by have := HN.out; omega)).mono ?_
              case l1_1_2 => first | rfl | omega
              case l2_1_2 => first | rfl | omega
              case l3_1_2 => first | rfl | omega
              rintro e w2 ⟨rfl, d2, hp2, hq2, hh, hb1⟩
              have HPQ := Aside0.mk (And.intro hp2 hq2)
              have HW2 := Aside0.mk hh
              have HB2 := Aside0.mk (Kb.trans HB1.out hb1)
              have hs2 : d2.size = D := hp2.1.trans hs1
              clear hh hb1 hp2 hq2 HW1
              go_wp2_with fail
              have HLB2 := Aside0.mk (Nat.lt_of_lt_of_le HBL.out HB2.out.size)
              have HRS := Aside0.mk (sm_rest HSB.out.2.2.2.2.2.2.1 HEE.out.1 HCD.out HPQ.out.1)
              have HPR := Aside0.mk (show PermIn M b d2 d2 ∧ SortedIn (ltOf cf) M b d2 from ⟨permIn_refl _ _ _, by have h := HRS.out.1; have e5 : E = b := (by have := HEE.out; omega); rwa [e5] at h⟩)
              have HW3 := HW2
              have HB3 := HB2
              go_end0
              have h9 := sm_all HSB.out.2.2.2.2.2.2.1 HEE.out.1 HSB.out.2.2.2.1 (by have := HN.out; omega) HCD.out HPQ.out.1 HPQ.out.2 HPR.out.1 HPR.out.2
              exact ⟨rfl, d2, h9.1, h9.2, HW3.out, HB3.out⟩
          · skip
            by_cases k4 : E < b
            · skip
              have z_sm : (i : Int) < (m : Int) := by have := HN.out; have := HEE.out; omega
              have z_mE : (m : Int) < (M : Int) + (m : Int) - (i : Int) := by have := HN.out; have := HEE.out; omega
              have z_as : ¬ (a : Int) < (i : Int) := by have := HN.out; have := HEE.out; omega
              have z_ME : (M : Int) < (M : Int) + (m : Int) - (i : Int) := by have := HN.out; have := HEE.out; omega
              have z_Eb : (M : Int) + (m : Int) - (i : Int) < (b : Int) := by have := HN.out; have := HEE.out; omega
              go_wp2_with fail
              refine (RT.out D i m E d wr _ _ _ HD.out ?r1_1_3 ?r2_1_3 ?r3_1_3 HW.out HLB.out (by omega) (by have := HN.out; have := HEE.out; omega) (by have := HN.out; have := HEE.out; have := HD.out; omega) (by have := HN.out; have := HD.out; omega)).mono ?_
              case r1_1_3 => first | rfl | omega
              case r2_1_3 => first | rfl | omega
              case r3_1_3 => first | rfl | (have := HEE.out; omega)
              rintro e w1 ⟨rfl, d1, hr, hh, hb1⟩
              have HCD := Aside0.mk (SC.out d1 hr)
              have HW1 := Aside0.mk hh
              have HB1 := Aside0.mk (Kb.trans HB.out hb1)
              have hs1 : d1.size = D := hr.perm.1.trans HD.out.symm
              clear hh hb1 hr HW
              go_wp2_with fail
              have HLB1 := Aside0.mk (Nat.lt_of_lt_of_le HBL.out HB1.out.size)
              have HPQ := Aside0.mk (show PermIn a M d1 d1 ∧ SortedIn (ltOf cf) a M d1 from ⟨permIn_refl _ _ _, by have h := HCD.out.q2; have e5 : i = a := (by have := HEE.out; omega); rwa [e5, ← HSB.out.2.2.2.2.2.2.1] at h⟩)
              have HW2 := HW1
              have HB2 := HB1
              have hs2 := hs1
              have HLB2 := Aside0.mk (Nat.lt_of_lt_of_le HBL.out HB2.out.size)
              have HRS := Aside0.mk (sm_rest HSB.out.2.2.2.2.2.2.1 HEE.out.1 HCD.out HPQ.out.1)
              refine (IH.out D M E b d1 w1 _ _ _ hs2.symm ?q1_1_3 ?q2_1_3 ?q3_1_3 (fun W hW => HC.out W (Kb.trans HB2.out hW)) HW2.out HLB2.out (by have := HN.out; have := HEE.out; omega) (by have := HN.out; have := HEE.out; omega) (by have := HN.out; omega) (by have := HN.out; omega) HRS.out.1 HRS.out.2 (by have := HN.out; omega)).mono ?_
              case q1_1_3 => first | rfl | omega
              case q2_1_3 => first | rfl | (have := HEE.out; omega)
              case q3_1_3 => first | rfl | omega
              rintro e w3 ⟨rfl, d3, hp3, hq3, hh, hb1⟩
              have HPR := Aside0.mk (And.intro hp3 hq3)
              have HW3 := Aside0.mk hh
              have HB3 := Aside0.mk (Kb.trans HB2.out hb1)
              clear hh hb1 hp3 hq3 HW2
              go_wp2_with fail
              go_end0
              have h9 := sm_all HSB.out.2.2.2.2.2.2.1 HEE.out.1 HSB.out.2.2.2.1 (by have := HN.out; omega) HCD.out HPQ.out.1 HPQ.out.2 HPR.out.1 HPR.out.2
              exact ⟨rfl, d3, h9.1, h9.2, HW3.out, HB3.out⟩
            · skip
              have z_sm : (i : Int) < (m : Int) := by have := HN.out; have := HEE.out; omega
              have z_mE : (m : Int) < (M : Int) + (m : Int) - (i : Int) := by have := HN.out; have := HEE.out; omega
              have z_as : ¬ (a : Int) < (i : Int) := by have := HN.out; have := HEE.out; omega
              have z_ME : (M : Int) < (M : Int) + (m : Int) - (i : Int) := by have := HN.out; have := HEE.out; omega
              have z_Eb : ¬ (M : Int) + (m : Int) - (i : Int) < (b : Int) := by have := HN.out; have := HEE.out; omega
              go_wp2_with fail
              refine (RT.out D i m E d wr _ _ _ HD.out ?r1_1_4 ?r2_1_4 ?r3_1_4 HW.out HLB.out (by omega) (by have := HN.out; have := HEE.out; omega) (by have := HN.out; have := HEE.out; have := HD.out; omega) (by have := HN.out; have := HD.out; omega)).mono ?_
              case r1_1_4 => first | rfl | omega
              case r2_1_4 => first | rfl | omega
              case r3_1_4 => first | rfl | (have := HEE.out; omega)
              rintro e w1 ⟨rfl, d1, hr, hh, hb1⟩
              have HCD := Aside0.mk (SC.out d1 hr)
              have HW1 := Aside0.mk hh
              have HB1 := Aside0.mk (Kb.trans HB.out hb1)
              have hs1 : d1.size = D := hr.perm.1.trans HD.out.symm
              clear hh hb1 hr HW
              go_wp2_with fail
              have HLB1 := Aside0.mk (Nat.lt_of_lt_of_le HBL.out HB1.out.size)
              have HPQ := Aside0.mk (show PermIn a M d1 d1 ∧ SortedIn (ltOf cf) a M d1 from ⟨permIn_refl _ _ _, by have h := HCD.out.q2; have e5 : i = a := (by have := HEE.out; omega); rwa [e5, ← HSB.out.2.2.2.2.2.2.1] at h⟩)
              have HW2 := HW1
              have HB2 := HB1
              have hs2 := hs1
              have HLB2 := Aside0.mk (Nat.lt_of_lt_of_le HBL.out HB2.out.size)
              have HRS := Aside0.mk (sm_rest HSB.out.2.2.2.2.2.2.1 HEE.out.1 HCD.out HPQ.out.1)
              have HPR := Aside0.mk (show PermIn M b d1 d1 ∧ SortedIn (ltOf cf) M b d1 from ⟨permIn_refl _ _ _, by have h := HRS.out.1; have e5 : E = b := (by have := HEE.out; omega); rwa [e5] at h⟩)
              have HW3 := HW2
              have HB3 := HB2
              go_end0
              have h9 := sm_all HSB.out.2.2.2.2.2.2.1 HEE.out.1 HSB.out.2.2.2.1 (by have := HN.out; omega) HCD.out HPQ.out.1 HPQ.out.2 HPR.out.1 HPR.out.2
              exact ⟨rfl, d1, h9.1, h9.2, HW3.out, HB3.out⟩
        · skip
          have z_sm : (i : Int) < (m : Int) := by have := HN.out; have := HEE.out; omega
          have z_mE : ¬ (m : Int) < (M : Int) + (m : Int) - (i : Int) := by have := HN.out; have := HEE.out; omega
          have z_as : (a : Int) < (i : Int) := by have := HN.out; have := HEE.out; omega
          have z_sM : ¬ (i : Int) < (M : Int) := by have := HN.out; have := HEE.out; omega
          have z_ME : (M : Int) < (M : Int) + (m : Int) - (i : Int) := by have := HN.out; have := HEE.out; omega
          have z_Eb : (M : Int) + (m : Int) - (i : Int) < (b : Int) := by have := HN.out; have := HEE.out; omega
          have HCD := Aside0.mk (SC.out d (by have h5 := HEE.out; have h6 := HN.out; first | (have e5 : i = m := (by omega); subst e5; exact RotBy.none_l _ _ _ (by omega)) | (have e5 : E = m := (by omega); rw [e5]; exact RotBy.none_r _ _ _)))
          have HW1 := HW
          have HB1 := HB
          have hs1 : d.size = D := HD.out.symm
          go_wp2_with fail
          have HLB1 := Aside0.mk (Nat.lt_of_lt_of_le HBL.out HB1.out.size)
          have HPQ := Aside0.mk (show PermIn a M d d ∧ SortedIn (ltOf cf) a M d from ⟨permIn_refl _ _ _, by have h := HCD.out.q1; have e5 : i = M := (by have := HEE.out; omega); rwa [e5] at h⟩)
          have HW2 := HW1
          have HB2 := HB1
          have hs2 := hs1
          have HLB2 := Aside0.mk (Nat.lt_of_lt_of_le HBL.out HB2.out.size)
          have HRS := Aside0.mk (sm_rest HSB.out.2.2.2.2.2.2.1 HEE.out.1 HCD.out HPQ.out.1)
          refine (IH.out D M E b d wr _ _ _ hs2.symm ?q1_1_5 ?q2_1_5 ?q3_1_5 (fun W hW => HC.out W (Kb.trans HB2.out hW)) HW2.out HLB2.out (by have := HN.out; have := HEE.out; omega) (by have := HN.out; have := HEE.out; omega) (by have := HN.out; omega) (by have := HN.out; omega) HRS.out.1 HRS.out.2 (by have := HN.out; omega)).mono ?_
          case q1_1_5 => first | rfl | omega
          case q2_1_5 => first | rfl | (have := HEE.out; omega)
          case q3_1_5 => first | rfl | omega
          rintro e w3 ⟨rfl, d3, hp3, hq3, hh, hb1⟩
          have HPR := Aside0.mk (And.intro hp3 hq3)
          have HW3 := Aside0.mk hh
          have HB3 := Aside0.mk (Kb.trans HB2.out hb1)
          clear hh hb1 hp3 hq3 HW2
          go_wp2_with fail
          go_end0
          have h9 := sm_all HSB.out.2.2.2.2.2.2.1 HEE.out.1 HSB.out.2.2.2.1 (by have := HN.out; omega) HCD.out HPQ.out.1 HPQ.out.2 HPR.out.1 HPR.out.2
          exact ⟨rfl, d3, h9.1, h9.2, HW3.out, HB3.out⟩
      · skip
        by_cases k2 : i < M
        · skip
          have z_sm : ¬ (i : Int) < (m : Int) := by have := HN.out; have := HEE.out; omega
          have z_as : (a : Int) < (i : Int) := by have := HN.out; have := HEE.out; omega
          have z_sM : (i : Int) < (M : Int) := by have := HN.out; have := HEE.out; omega
          have z_ME : ¬ (M : Int) < (M : Int) + (m : Int) - (i : Int) := by have := HN.out; have := HEE.out; omega
          have HCD := Aside0.mk (SC.out d (by have h5 := HEE.out; have h6 := HN.out; first | (have e5 : i = m := (by omega); subst e5; exact RotBy.none_l _ _ _ (by omega)) | (have e5 : E = m := (by omega); rw [e5]; exact RotBy.none_r _ _ _)))
          have HW1 := HW
          have HB1 := HB
          have hs1 : d.size = D := HD.out.symm
          go_wp2_with fail
          have HLB1 := Aside0.mk (Nat.lt_of_lt_of_le HBL.out HB1.out.size)
          refine (IH.out D a i M d wr _ _ _ hs1.symm ?l1_1_6 ?l2_1_6 ?l3_1_6 (fun W hW => HC.out W (Kb.trans HB1.out hW)) HW1.out HLB1.out (by omega) (by omega) (by have := HN.out; omega) (by have := HN.out; omega) HCD.out.q1 (by have h := HCD.out.q2; rwa [← HSB.out.2.2.2.2.2.2.1] at h) (by have := HN.out; omega)).mono ?_
          case l1_1_6 => first | rfl | omega
          case l2_1_6 => first | rfl | omega
          case l3_1_6 => first | rfl | omega
          rintro e w2 ⟨rfl, d2, hp2, hq2, hh, hb1⟩
          have HPQ := Aside0.mk (And.intro hp2 hq2)
          have HW2 := Aside0.mk hh
          have HB2 := Aside0.mk (Kb.trans HB1.out hb1)
          have hs2 : d2.size = D := hp2.1.trans hs1
          clear hh hb1 hp2 hq2 HW1
          go_wp2_with fail
          have HLB2 := Aside0.mk (Nat.lt_of_lt_of_le HBL.out HB2.out.size)
          have HRS := Aside0.mk (sm_rest HSB.out.2.2.2.2.2.2.1 HEE.out.1 HCD.out HPQ.out.1)
          have HPR := Aside0.mk (show PermIn M b d2 d2 ∧ SortedIn (ltOf cf) M b d2 from ⟨permIn_refl _ _ _, by have h := HRS.out.2; have e5 : E = M := (by have := HEE.out; omega); rwa [e5] at h⟩)
          have HW3 := HW2
          have HB3 := HB2
          go_end0
          have h9 := sm_all HSB.out.2.2.2.2.2.2.1 HEE.out.1 HSB.out.2.2.2.1 (by have := HN.out; omega) HCD.out HPQ.out.1 HPQ.out.2 HPR.out.1 HPR.out.2
          exact ⟨rfl, d2, h9.1, h9.2, HW3.out, HB3.out⟩
        · skip
          have z_sm : ¬ (i : Int) < (m : Int) := by have := HN.out; have := HEE.out; omega
          have z_as : (a : Int) < (i : Int) := by have := HN.out; have := HEE.out; omega
          have z_sM : ¬ (i : Int) < (M : Int) := by have := HN.out; have := HEE.out; omega
          have z_ME : ¬ (M : Int) < (M : Int) + (m : Int) - (i : Int) := by have := HN.out; have := HEE.out; omega
          have HCD := Aside0.mk (SC.out d (by have h5 := HEE.out; have h6 := HN.out; first | (have e5 : i = m := (by omega); subst e5; exact RotBy.none_l _ _ _ (by omega)) | (have e5 : E = m := (by omega); rw [e5]; exact RotBy.none_r _ _ _)))
          have HW1 := HW
          have HB1 := HB
          have hs1 : d.size = D := HD.out.symm
          go_wp2_with fail
          have HLB1 := Aside0.mk (Nat.lt_of_lt_of_le HBL.out HB1.out.size)
          have HPQ := Aside0.mk (show PermIn a M d d ∧ SortedIn (ltOf cf) a M d from ⟨permIn_refl _ _ _, by have h := HCD.out.q1; have e5 : i = M := (by have := HEE.out; omega); rwa [e5] at h⟩)
          have HW2 := HW1
          have HB2 := HB1
          have hs2 := hs1
          have HLB2 := Aside0.mk (Nat.lt_of_lt_of_le HBL.out HB2.out.size)
          have HRS := Aside0.mk (sm_rest HSB.out.2.2.2.2.2.2.1 HEE.out.1 HCD.out HPQ.out.1)
          have HPR := Aside0.mk (show PermIn M b d d ∧ SortedIn (ltOf cf) M b d from ⟨permIn_refl _ _ _, by have h := HRS.out.2; have e5 : E = M := (by have := HEE.out; omega); rwa [e5] at h⟩)
          have HW3 := HW2
          have HB3 := HB2
          go_end0
          have h9 := sm_all HSB.out.2.2.2.2.2.2.1 HEE.out.1 HSB.out.2.2.2.1 (by have := HN.out; omega) HCD.out HPQ.out.1 HPQ.out.2 HPR.out.1 HPR.out.2
          exact ⟨rfl, d, h9.1, h9.2, HW3.out, HB3.out⟩
 · skip
   have e0 : ¬ ((a : Int) + (b : Int)) / 2 < (m : Int) := by have := HZ.out.1; omega
   have HE := Aside0.mk e1
   clear e1
   go_enter Try.func78, Try.ntmps78
   go_wp2_with fail
   rw [HZ.out.1, HZ.out.2]
   clear e0
   go_loopg [20, 21] (b - a) (fun g1 vi vj wr => ∃ (i j : Nat), vi = .int .i64 i ∧ vj = .int .i64 j ∧ a ≤ i ∧ i ≤ j ∧ j ≤ m ∧ j - i ≤ g1 ∧ Aside0 (HoldsK enc k wr blk off d) ∧ Aside0 (Kb (fun j => j = blk) w wr) ∧ Aside0 (a < i → ltOf cf d[P - (i - 1)]! d[i - 1]! = false) ∧ Aside0 (j < m → ltOf cf d[P - j]! d[j]! = true))
   case atStart => exact ⟨a, m, by first | rfl | (congr 1; have := HN.out; have := HE.out; omega), rfl, Nat.le_refl _, by have := HN.out; have := HE.out; omega, Nat.le_refl _, by have := HN.out; have := HE.out; omega, HH, ⟨Kb.refl _ _⟩, ⟨fun h => by omega⟩, ⟨fun h => by omega⟩⟩
   case round =>
    obtain ⟨i, j, rfl, rfl, ia, ij, jb, hg1, HW, HB, HL, HR⟩ := hrel
    have hjM : j ≤ M ∧ j ≤ m := by have := HE.out; omega
    by_cases hlt : i < j
    · have hltz : (i : Int) < (j : Int) := by omega
      go_wp2_with fail
      obtain ⟨h, hh⟩ : ∃ h, h = (i + j) / 2 := ⟨_, rfl⟩
      have hhz : ((i : Int) + (j : Int)) / 2 = (h : Int) := by omega
      have hh1 : i ≤ h := by omega
      have hh2 : h < j := by omega
      rw [hhz]
      clear hh hhz
      have jh : (h : Int) < (D : Int) := by have := HN.out; omega
      have hpz : (P : Int) - (h : Int) < (D : Int) := by have := HN.out; have := HE.out; omega
      have hp0 : (0 : Int) ≤ (P : Int) - (h : Int) := by have := HN.out; omega
      have hp2 : (h : Int) ≤ (P : Int) := by have := HN.out; omega
      have hp1 : ((P : Int) - (h : Int)).toNat = P - h := by omega
      have hpw : IntKind.i64.wrap ((P : Int) - (h : Int)) = (P : Int) - (h : Int) := (i64_w _).trans (w64 (by omega) (by have := HN.out; omega))
      have hwh : IntKind.i64.wrap ((h : Int) + 1) = ((h + 1 : Nat) : Int) := (i64_w _).trans ((w64 (by omega) (by have := HN.out; omega)).trans (by omega))
      obtain ⟨xj, hxj⟩ : ∃ x, d[(P - h)]! = x := ⟨_, rfl⟩
      obtain ⟨xp, hxp⟩ : ∃ x, d[h]! = x := ⟨_, rfl⟩
      obtain ⟨cJ, hcJ⟩ : ∃ c, c = enc xj := ⟨_, rfl⟩
      obtain ⟨cP, hcP⟩ : ∃ c, c = enc xp := ⟨_, rfl⟩
      have hlb2 := Aside0.mk (Nat.lt_of_lt_of_le HBL.out HB.out.size)
      have lj : ∀ p : BelowBy wr, Sem.run Try.prog (loadCellsFrom ⟨blk, off + (P - h) * k, none⟩ 0 k #[]) p.w1 = .ok cJ.toArray p.w1 := fun p => by
       rw [hcJ, ← hxj]; exact run_loadCellsFrom_list Try.prog _ _ _ k (HK.out _) (HoldsK.cells (holdsK_kb HW.out p.h hlb2.out) HK.out (by have := HD.out; have := HN.out; have := HE.out; omega))
      have lp : ∀ p : BelowBy wr, Sem.run Try.prog (loadCellsFrom ⟨blk, off + h * k, none⟩ 0 k #[]) p.w1 = .ok cP.toArray p.w1 := fun p => by
       rw [hcP, ← hxp]; exact run_loadCellsFrom_list Try.prog _ _ _ k (HK.out _) (HoldsK.cells (holdsK_kb HW.out p.h hlb2.out) HK.out (by have := HD.out; have := HN.out; have := HE.out; omega))
      obtain ⟨cv, hcv⟩ : ∃ c, c = cf xj xp := ⟨_, rfl⟩
      have hcg : ∀ p : BelowBy wr, Calls Try.prog g #[.agg cJ.toArray, .agg cP.toArray] p.w1 fun e w' => e = .returned (.int .i64 cv) ∧ ∃ q : BelowBy wr, w' = q.w1 := fun p => by
       rw [hcJ, hcP, hcv]; exact calls_below p.h (HC.out _ (Kb.below HB.out p.h) xj xp)
      have hsJ : cJ.length = k := by rw [hcJ]; exact HK.out _
      have hsP : cP.length = k := by rw [hcP]; exact HK.out _
      have CC : Aside0 (cv = cf d[(P - h)]! d[h]!) := ⟨by rw [hxj, hxp]; exact hcv⟩
      clear hcJ hcP hcv hxj hxp
      by_cases hlv : cv < 0
      · refine wp_region_quiet_below (by assumption) (by kernel_rfl) ?_
        repeat (quiet_step ((first | (go_at_fn g; refine hcg _))))
        refine wpQuiet_nil ?_
        intro _ hw'
        obtain ⟨pq, hw''⟩ := hw'
        subst hw''
        have HLT : Aside0 (ltOf cf d[(P - h)]! d[h]! = true) := ⟨decide_eq_true (by rw [← CC.out]; exact hlv)⟩
        go_wp2_with fail
        go_roundg (h - i)
        case measure => omega
        case rel => exact ⟨i, h, rfl, rfl, ia, hh1, by omega, by omega, ⟨holdsK_kb HW.out pq.h hlb2.out⟩, ⟨Kb.below HB.out pq.h⟩, HL, ⟨fun _ => HLT.out⟩⟩
      · refine wp_region_quiet_below (by assumption) (by kernel_rfl) ?_
        repeat (quiet_step ((first | (go_at_fn g; refine hcg _))))
        refine wpQuiet_nil ?_
        intro _ hw'
        obtain ⟨pq, hw''⟩ := hw'
        subst hw''
        have HLT : Aside0 (ltOf cf d[(P - h)]! d[h]! = false) := ⟨decide_eq_false (by rw [← CC.out]; exact hlv)⟩
        go_wp2_with fail
        go_roundg (j - (h + 1))
        case measure => omega
        case rel => exact ⟨h + 1, j, by first | rfl | rw [hwh], rfl, by omega, by omega, jb, by omega, ⟨holdsK_kb HW.out pq.h hlb2.out⟩, ⟨Kb.below HB.out pq.h⟩, ⟨fun _ => HLT.out⟩, HR⟩
    · have hltz : ¬ (i : Int) < (j : Int) := by omega
      obtain rfl : i = j := by omega
      have HLB := Aside0.mk (Nat.lt_of_lt_of_le HBL.out HB.out.size)
      have HCUT := Aside0.mk (show CutAt (ltOf cf) d a m b i from CutAt.low HSB.out.2.2.2.2.2.2.1 HN.out.2.2.2.2.2.2.1 HE.out ia jb HL.out HR.out)
      obtain ⟨E, hE⟩ : ∃ E, E = M + m - i := ⟨_, rfl⟩
      have HEE := Aside0.mk (show E = M + m - i ∧ i ≤ M ∧ i ≤ m ∧ a ≤ i ∧ E ≤ b from by have := HE.out; have := HN.out; omega)
      have hwE : IntKind.i64.wrap ((M : Int) + (m : Int) - (i : Int)) = (M : Int) + (m : Int) - (i : Int) := (i64_w _).trans (w64 (by omega) (by have := HN.out; omega))
      clear hE hlt HL HR hltz
      have SC := Aside0.mk (fun (d1 : Array α) (hR : RotBy d d1 i m E) => sm_cut HSB.out.2.2.1 HSB.out.2.2.2.1 HSB.out.2.2.2.2.1 HSB.out.2.2.2.2.2.1 HSB.out.1 HSB.out.2.1 HCUT.out (by have := HEE.out; rw [← HSB.out.2.2.2.2.2.2.1, ← this.1]; exact hR))
      by_cases k1 : i < m
      · skip
        by_cases k2 : i < M
        · skip
          by_cases k3 : a < i
          · skip
            by_cases k4 : E < b
            · skip
              have z_sm : (i : Int) < (m : Int) := by have := HN.out; have := HEE.out; omega
              have z_mE : (m : Int) < (M : Int) + (m : Int) - (i : Int) := by have := HN.out; have := HEE.out; omega
              have z_as : (a : Int) < (i : Int) := by have := HN.out; have := HEE.out; omega
              have z_sM : (i : Int) < (M : Int) := by have := HN.out; have := HEE.out; omega
              have z_ME : (M : Int) < (M : Int) + (m : Int) - (i : Int) := by have := HN.out; have := HEE.out; omega
              have z_Eb : (M : Int) + (m : Int) - (i : Int) < (b : Int) := by have := HN.out; have := HEE.out; omega
              go_wp2_with fail
              refine (RT.out D i m E d wr _ _ _ HD.out ?r1_0_1 ?r2_0_1 ?r3_0_1 HW.out HLB.out (by omega) (by have := HN.out; have := HEE.out; omega) (by have := HN.out; have := HEE.out; have := HD.out; omega) (by have := HN.out; have := HD.out; omega)).mono ?_
              case r1_0_1 => first | rfl | omega
              case r2_0_1 => first | rfl | omega
              case r3_0_1 => first | rfl | (have := HEE.out; omega)
              rintro e w1 ⟨rfl, d1, hr, hh, hb1⟩
              have HCD := Aside0.mk (SC.out d1 hr)
              have HW1 := Aside0.mk hh
              have HB1 := Aside0.mk (Kb.trans HB.out hb1)
              have hs1 : d1.size = D := hr.perm.1.trans HD.out.symm
              clear hh hb1 hr HW
              go_wp2_with fail
              have HLB1 := Aside0.mk (Nat.lt_of_lt_of_le HBL.out HB1.out.size)
              refine (IH.out D a i M d1 w1 _ _ _ hs1.symm ?l1_0_1 ?l2_0_1 ?l3_0_1 (fun W hW => HC.out W (Kb.trans HB1.out hW)) HW1.out HLB1.out (by omega) (by omega) (by have := HN.out; omega) (by have := HN.out; omega) HCD.out.q1 (by have h := HCD.out.q2; rwa [← HSB.out.2.2.2.2.2.2.1] at h) (by have := HN.out; omega)).mono ?_
              case l1_0_1 => first | rfl | omega
              case l2_0_1 => first | rfl | omega
              case l3_0_1 => first | rfl | omega
              rintro e w2 ⟨rfl, d2, hp2, hq2, hh, hb1⟩
              have HPQ := Aside0.mk (And.intro hp2 hq2)
              have HW2 := Aside0.mk hh
              have HB2 := Aside0.mk (Kb.trans HB1.out hb1)
              have hs2 : d2.size = D := hp2.1.trans hs1
              clear hh hb1 hp2 hq2 HW1
              go_wp2_with fail
              have HLB2 := Aside0.mk (Nat.lt_of_lt_of_le HBL.out HB2.out.size)
              have HRS := Aside0.mk (sm_rest HSB.out.2.2.2.2.2.2.1 HEE.out.1 HCD.out HPQ.out.1)
              refine (IH.out D M E b d2 w2 _ _ _ hs2.symm ?q1_0_1 ?q2_0_1 ?q3_0_1 (fun W hW => HC.out W (Kb.trans HB2.out hW)) HW2.out HLB2.out (by have := HN.out; have := HEE.out; omega) (by have := HN.out; have := HEE.out; omega) (by have := HN.out; omega) (by have := HN.out; omega) HRS.out.1 HRS.out.2 (by have := HN.out; omega)).mono ?_
              case q1_0_1 => first | rfl | omega
              case q2_0_1 => first | rfl | (have := HEE.out; omega)
              case q3_0_1 => first | rfl | omega
              rintro e w3 ⟨rfl, d3, hp3, hq3, hh, hb1⟩
              have HPR := Aside0.mk (And.intro hp3 hq3)
              have HW3 := Aside0.mk hh
              have HB3 := Aside0.mk (Kb.trans HB2.out hb1)
              clear hh hb1 hp3 hq3 HW2
              go_wp2_with fail
              go_end0
              have h9 := sm_all HSB.out.2.2.2.2.2.2.1 HEE.out.1 HSB.out.2.2.2.1 (by have := HN.out; omega) HCD.out HPQ.out.1 HPQ.out.2 HPR.out.1 HPR.out.2
              exact ⟨rfl, d3, h9.1, h9.2, HW3.out, HB3.out⟩
            · skip
              have z_sm : (i : Int) < (m : Int) := by have := HN.out; have := HEE.out; omega
              have z_mE : (m : Int) < (M : Int) + (m : Int) - (i : Int) := by have := HN.out; have := HEE.out; omega
              have z_as : (a : Int) < (i : Int) := by have := HN.out; have := HEE.out; omega
              have z_sM : (i : Int) < (M : Int) := by have := HN.out; have := HEE.out; omega
              have z_ME : (M : Int) < (M : Int) + (m : Int) - (i : Int) := by have := HN.out; have := HEE.out; omega
              have z_Eb : ¬ (M : Int) + (m : Int) - (i : Int) < (b : Int) := by have := HN.out; have := HEE.out; omega
              go_wp2_with fail
              refine (RT.out D i m E d wr _ _ _ HD.out ?r1_0_2 ?r2_0_2 ?r3_0_2 HW.out HLB.out (by omega) (by have := HN.out; have := HEE.out; omega) (by have := HN.out; have := HEE.out; have := HD.out; omega) (by have := HN.out; have := HD.out; omega)).mono ?_
              case r1_0_2 => first | rfl | omega
              case r2_0_2 => first | rfl | omega
              case r3_0_2 => first | rfl | (have := HEE.out; omega)
              rintro e w1 ⟨rfl, d1, hr, hh, hb1⟩
              have HCD := Aside0.mk (SC.out d1 hr)
              have HW1 := Aside0.mk hh
              have HB1 := Aside0.mk (Kb.trans HB.out hb1)
              have hs1 : d1.size = D := hr.perm.1.trans HD.out.symm
              clear hh hb1 hr HW
              go_wp2_with fail
              have HLB1 := Aside0.mk (Nat.lt_of_lt_of_le HBL.out HB1.out.size)
              refine (IH.out D a i M d1 w1 _ _ _ hs1.symm ?l1_0_2 ?l2_0_2 ?l3_0_2 (fun W hW => HC.out W (Kb.trans HB1.out hW)) HW1.out HLB1.out (by omega) (by omega) (by have := HN.out; omega) (by have := HN.out; omega) HCD.out.q1 (by have h := HCD.out.q2; rwa [← HSB.out.2.2.2.2.2.2.1] at h) (by have := HN.out; omega)).mono ?_
              case l1_0_2 => first | rfl | omega
              case l2_0_2 => first | rfl | omega
              case l3_0_2 => first | rfl | omega
              rintro e w2 ⟨rfl, d2, hp2, hq2, hh, hb1⟩
              have HPQ := Aside0.mk (And.intro hp2 hq2)
              have HW2 := Aside0.mk hh
              have HB2 := Aside0.mk (Kb.trans HB1.out hb1)
              have hs2 : d2.size = D := hp2.1.trans hs1
              clear hh hb1 hp2 hq2 HW1
              go_wp2_with fail
              have HLB2 := Aside0.mk (Nat.lt_of_lt_of_le HBL.out HB2.out.size)
              have HRS := Aside0.mk (sm_rest HSB.out.2.2.2.2.2.2.1 HEE.out.1 HCD.out HPQ.out.1)
              have HPR := Aside0.mk (show PermIn M b d2 d2 ∧ SortedIn (ltOf cf) M b d2 from ⟨permIn_refl _ _ _, by have h := HRS.out.1; have e5 : E = b := (by have := HEE.out; omega); rwa [e5] at h⟩)
              have HW3 := HW2
              have HB3 := HB2
              go_end0
              have h9 := sm_all HSB.out.2.2.2.2.2.2.1 HEE.out.1 HSB.out.2.2.2.1 (by have := HN.out; omega) HCD.out HPQ.out.1 HPQ.out.2 HPR.out.1 HPR.out.2
              exact ⟨rfl, d2, h9.1, h9.2, HW3.out, HB3.out⟩
          · skip
            by_cases k4 : E < b
            · skip
              have z_sm : (i : Int) < (m : Int) := by have := HN.out; have := HEE.out; omega
              have z_mE : (m : Int) < (M : Int) + (m : Int) - (i : Int) := by have := HN.out; have := HEE.out; omega
              have z_as : ¬ (a : Int) < (i : Int) := by have := HN.out; have := HEE.out; omega
              have z_ME : (M : Int) < (M : Int) + (m : Int) - (i : Int) := by have := HN.out; have := HEE.out; omega
              have z_Eb : (M : Int) + (m : Int) - (i : Int) < (b : Int) := by have := HN.out; have := HEE.out; omega
              go_wp2_with fail
              refine (RT.out D i m E d wr _ _ _ HD.out ?r1_0_3 ?r2_0_3 ?r3_0_3 HW.out HLB.out (by omega) (by have := HN.out; have := HEE.out; omega) (by have := HN.out; have := HEE.out; have := HD.out; omega) (by have := HN.out; have := HD.out; omega)).mono ?_
              case r1_0_3 => first | rfl | omega
              case r2_0_3 => first | rfl | omega
              case r3_0_3 => first | rfl | (have := HEE.out; omega)
              rintro e w1 ⟨rfl, d1, hr, hh, hb1⟩
              have HCD := Aside0.mk (SC.out d1 hr)
              have HW1 := Aside0.mk hh
              have HB1 := Aside0.mk (Kb.trans HB.out hb1)
              have hs1 : d1.size = D := hr.perm.1.trans HD.out.symm
              clear hh hb1 hr HW
              go_wp2_with fail
              have HLB1 := Aside0.mk (Nat.lt_of_lt_of_le HBL.out HB1.out.size)
              have HPQ := Aside0.mk (show PermIn a M d1 d1 ∧ SortedIn (ltOf cf) a M d1 from ⟨permIn_refl _ _ _, by have h := HCD.out.q2; have e5 : i = a := (by have := HEE.out; omega); rwa [e5, ← HSB.out.2.2.2.2.2.2.1] at h⟩)
              have HW2 := HW1
              have HB2 := HB1
              have hs2 := hs1
              have HLB2 := Aside0.mk (Nat.lt_of_lt_of_le HBL.out HB2.out.size)
              have HRS := Aside0.mk (sm_rest HSB.out.2.2.2.2.2.2.1 HEE.out.1 HCD.out HPQ.out.1)
              refine (IH.out D M E b d1 w1 _ _ _ hs2.symm ?q1_0_3 ?q2_0_3 ?q3_0_3 (fun W hW => HC.out W (Kb.trans HB2.out hW)) HW2.out HLB2.out (by have := HN.out; have := HEE.out; omega) (by have := HN.out; have := HEE.out; omega) (by have := HN.out; omega) (by have := HN.out; omega) HRS.out.1 HRS.out.2 (by have := HN.out; omega)).mono ?_
              case q1_0_3 => first | rfl | omega
              case q2_0_3 => first | rfl | (have := HEE.out; omega)
              case q3_0_3 => first | rfl | omega
              rintro e w3 ⟨rfl, d3, hp3, hq3, hh, hb1⟩
              have HPR := Aside0.mk (And.intro hp3 hq3)
              have HW3 := Aside0.mk hh
              have HB3 := Aside0.mk (Kb.trans HB2.out hb1)
              clear hh hb1 hp3 hq3 HW2
              go_wp2_with fail
              go_end0
              have h9 := sm_all HSB.out.2.2.2.2.2.2.1 HEE.out.1 HSB.out.2.2.2.1 (by have := HN.out; omega) HCD.out HPQ.out.1 HPQ.out.2 HPR.out.1 HPR.out.2
              exact ⟨rfl, d3, h9.1, h9.2, HW3.out, HB3.out⟩
            · skip
              have z_sm : (i : Int) < (m : Int) := by have := HN.out; have := HEE.out; omega
              have z_mE : (m : Int) < (M : Int) + (m : Int) - (i : Int) := by have := HN.out; have := HEE.out; omega
              have z_as : ¬ (a : Int) < (i : Int) := by have := HN.out; have := HEE.out; omega
              have z_ME : (M : Int) < (M : Int) + (m : Int) - (i : Int) := by have := HN.out; have := HEE.out; omega
              have z_Eb : ¬ (M : Int) + (m : Int) - (i : Int) < (b : Int) := by have := HN.out; have := HEE.out; omega
              go_wp2_with fail
              refine (RT.out D i m E d wr _ _ _ HD.out ?r1_0_4 ?r2_0_4 ?r3_0_4 HW.out HLB.out (by omega) (by have := HN.out; have := HEE.out; omega) (by have := HN.out; have := HEE.out; have := HD.out; omega) (by have := HN.out; have := HD.out; omega)).mono ?_
              case r1_0_4 => first | rfl | omega
              case r2_0_4 => first | rfl | omega
              case r3_0_4 => first | rfl | (have := HEE.out; omega)
              rintro e w1 ⟨rfl, d1, hr, hh, hb1⟩
              have HCD := Aside0.mk (SC.out d1 hr)
              have HW1 := Aside0.mk hh
              have HB1 := Aside0.mk (Kb.trans HB.out hb1)
              have hs1 : d1.size = D := hr.perm.1.trans HD.out.symm
              clear hh hb1 hr HW
              go_wp2_with fail
              have HLB1 := Aside0.mk (Nat.lt_of_lt_of_le HBL.out HB1.out.size)
              have HPQ := Aside0.mk (show PermIn a M d1 d1 ∧ SortedIn (ltOf cf) a M d1 from ⟨permIn_refl _ _ _, by have h := HCD.out.q2; have e5 : i = a := (by have := HEE.out; omega); rwa [e5, ← HSB.out.2.2.2.2.2.2.1] at h⟩)
              have HW2 := HW1
              have HB2 := HB1
              have hs2 := hs1
              have HLB2 := Aside0.mk (Nat.lt_of_lt_of_le HBL.out HB2.out.size)
              have HRS := Aside0.mk (sm_rest HSB.out.2.2.2.2.2.2.1 HEE.out.1 HCD.out HPQ.out.1)
              have HPR := Aside0.mk (show PermIn M b d1 d1 ∧ SortedIn (ltOf cf) M b d1 from ⟨permIn_refl _ _ _, by have h := HRS.out.1; have e5 : E = b := (by have := HEE.out; omega); rwa [e5] at h⟩)
              have HW3 := HW2
              have HB3 := HB2
              go_end0
              have h9 := sm_all HSB.out.2.2.2.2.2.2.1 HEE.out.1 HSB.out.2.2.2.1 (by have := HN.out; omega) HCD.out HPQ.out.1 HPQ.out.2 HPR.out.1 HPR.out.2
              exact ⟨rfl, d1, h9.1, h9.2, HW3.out, HB3.out⟩
        · skip
          have z_sm : (i : Int) < (m : Int) := by have := HN.out; have := HEE.out; omega
          have z_mE : ¬ (m : Int) < (M : Int) + (m : Int) - (i : Int) := by have := HN.out; have := HEE.out; omega
          have z_as : (a : Int) < (i : Int) := by have := HN.out; have := HEE.out; omega
          have z_sM : ¬ (i : Int) < (M : Int) := by have := HN.out; have := HEE.out; omega
          have z_ME : (M : Int) < (M : Int) + (m : Int) - (i : Int) := by have := HN.out; have := HEE.out; omega
          have z_Eb : (M : Int) + (m : Int) - (i : Int) < (b : Int) := by have := HN.out; have := HEE.out; omega
          have HCD := Aside0.mk (SC.out d (by have h5 := HEE.out; have h6 := HN.out; first | (have e5 : i = m := (by omega); subst e5; exact RotBy.none_l _ _ _ (by omega)) | (have e5 : E = m := (by omega); rw [e5]; exact RotBy.none_r _ _ _)))
          have HW1 := HW
          have HB1 := HB
          have hs1 : d.size = D := HD.out.symm
          go_wp2_with fail
          have HLB1 := Aside0.mk (Nat.lt_of_lt_of_le HBL.out HB1.out.size)
          have HPQ := Aside0.mk (show PermIn a M d d ∧ SortedIn (ltOf cf) a M d from ⟨permIn_refl _ _ _, by have h := HCD.out.q1; have e5 : i = M := (by have := HEE.out; omega); rwa [e5] at h⟩)
          have HW2 := HW1
          have HB2 := HB1
          have hs2 := hs1
          have HLB2 := Aside0.mk (Nat.lt_of_lt_of_le HBL.out HB2.out.size)
          have HRS := Aside0.mk (sm_rest HSB.out.2.2.2.2.2.2.1 HEE.out.1 HCD.out HPQ.out.1)
          refine (IH.out D M E b d wr _ _ _ hs2.symm ?q1_0_5 ?q2_0_5 ?q3_0_5 (fun W hW => HC.out W (Kb.trans HB2.out hW)) HW2.out HLB2.out (by have := HN.out; have := HEE.out; omega) (by have := HN.out; have := HEE.out; omega) (by have := HN.out; omega) (by have := HN.out; omega) HRS.out.1 HRS.out.2 (by have := HN.out; omega)).mono ?_
          case q1_0_5 => first | rfl | omega
          case q2_0_5 => first | rfl | (have := HEE.out; omega)
          case q3_0_5 => first | rfl | omega
          rintro e w3 ⟨rfl, d3, hp3, hq3, hh, hb1⟩
          have HPR := Aside0.mk (And.intro hp3 hq3)
          have HW3 := Aside0.mk hh
          have HB3 := Aside0.mk (Kb.trans HB2.out hb1)
          clear hh hb1 hp3 hq3 HW2
          go_wp2_with fail
          go_end0
          have h9 := sm_all HSB.out.2.2.2.2.2.2.1 HEE.out.1 HSB.out.2.2.2.1 (by have := HN.out; omega) HCD.out HPQ.out.1 HPQ.out.2 HPR.out.1 HPR.out.2
          exact ⟨rfl, d3, h9.1, h9.2, HW3.out, HB3.out⟩
      · skip
        by_cases k2 : i < M
        · skip
          have z_sm : ¬ (i : Int) < (m : Int) := by have := HN.out; have := HEE.out; omega
          have z_as : (a : Int) < (i : Int) := by have := HN.out; have := HEE.out; omega
          have z_sM : (i : Int) < (M : Int) := by have := HN.out; have := HEE.out; omega
          have z_ME : ¬ (M : Int) < (M : Int) + (m : Int) - (i : Int) := by have := HN.out; have := HEE.out; omega
          have HCD := Aside0.mk (SC.out d (by have h5 := HEE.out; have h6 := HN.out; first | (have e5 : i = m := (by omega); subst e5; exact RotBy.none_l _ _ _ (by omega)) | (have e5 : E = m := (by omega); rw [e5]; exact RotBy.none_r _ _ _)))
          have HW1 := HW
          have HB1 := HB
          have hs1 : d.size = D := HD.out.symm
          go_wp2_with fail
          have HLB1 := Aside0.mk (Nat.lt_of_lt_of_le HBL.out HB1.out.size)
          refine (IH.out D a i M d wr _ _ _ hs1.symm ?l1_0_6 ?l2_0_6 ?l3_0_6 (fun W hW => HC.out W (Kb.trans HB1.out hW)) HW1.out HLB1.out (by omega) (by omega) (by have := HN.out; omega) (by have := HN.out; omega) HCD.out.q1 (by have h := HCD.out.q2; rwa [← HSB.out.2.2.2.2.2.2.1] at h) (by have := HN.out; omega)).mono ?_
          case l1_0_6 => first | rfl | omega
          case l2_0_6 => first | rfl | omega
          case l3_0_6 => first | rfl | omega
          rintro e w2 ⟨rfl, d2, hp2, hq2, hh, hb1⟩
          have HPQ := Aside0.mk (And.intro hp2 hq2)
          have HW2 := Aside0.mk hh
          have HB2 := Aside0.mk (Kb.trans HB1.out hb1)
          have hs2 : d2.size = D := hp2.1.trans hs1
          clear hh hb1 hp2 hq2 HW1
          go_wp2_with fail
          have HLB2 := Aside0.mk (Nat.lt_of_lt_of_le HBL.out HB2.out.size)
          have HRS := Aside0.mk (sm_rest HSB.out.2.2.2.2.2.2.1 HEE.out.1 HCD.out HPQ.out.1)
          have HPR := Aside0.mk (show PermIn M b d2 d2 ∧ SortedIn (ltOf cf) M b d2 from ⟨permIn_refl _ _ _, by have h := HRS.out.2; have e5 : E = M := (by have := HEE.out; omega); rwa [e5] at h⟩)
          have HW3 := HW2
          have HB3 := HB2
          go_end0
          have h9 := sm_all HSB.out.2.2.2.2.2.2.1 HEE.out.1 HSB.out.2.2.2.1 (by have := HN.out; omega) HCD.out HPQ.out.1 HPQ.out.2 HPR.out.1 HPR.out.2
          exact ⟨rfl, d2, h9.1, h9.2, HW3.out, HB3.out⟩
        · skip
          have z_sm : ¬ (i : Int) < (m : Int) := by have := HN.out; have := HEE.out; omega
          have z_as : (a : Int) < (i : Int) := by have := HN.out; have := HEE.out; omega
          have z_sM : ¬ (i : Int) < (M : Int) := by have := HN.out; have := HEE.out; omega
          have z_ME : ¬ (M : Int) < (M : Int) + (m : Int) - (i : Int) := by have := HN.out; have := HEE.out; omega
          have HCD := Aside0.mk (SC.out d (by have h5 := HEE.out; have h6 := HN.out; first | (have e5 : i = m := (by omega); subst e5; exact RotBy.none_l _ _ _ (by omega)) | (have e5 : E = m := (by omega); rw [e5]; exact RotBy.none_r _ _ _)))
          have HW1 := HW
          have HB1 := HB
          have hs1 : d.size = D := HD.out.symm
          go_wp2_with fail
          have HLB1 := Aside0.mk (Nat.lt_of_lt_of_le HBL.out HB1.out.size)
          have HPQ := Aside0.mk (show PermIn a M d d ∧ SortedIn (ltOf cf) a M d from ⟨permIn_refl _ _ _, by have h := HCD.out.q1; have e5 : i = M := (by have := HEE.out; omega); rwa [e5] at h⟩)
          have HW2 := HW1
          have HB2 := HB1
          have hs2 := hs1
          have HLB2 := Aside0.mk (Nat.lt_of_lt_of_le HBL.out HB2.out.size)
          have HRS := Aside0.mk (sm_rest HSB.out.2.2.2.2.2.2.1 HEE.out.1 HCD.out HPQ.out.1)
          have HPR := Aside0.mk (show PermIn M b d d ∧ SortedIn (ltOf cf) M b d from ⟨permIn_refl _ _ _, by have h := HRS.out.2; have e5 : E = M := (by have := HEE.out; omega); rwa [e5] at h⟩)
          have HW3 := HW2
          have HB3 := HB2
          go_end0
          have h9 := sm_all HSB.out.2.2.2.2.2.2.1 HEE.out.1 HSB.out.2.2.2.1 (by have := HN.out; omega) HCD.out HPQ.out.1 HPQ.out.2 HPR.out.1 HPR.out.2
          exact ⟨rfl, d, h9.1, h9.2, HW3.out, HB3.out⟩
theorem symmerge_calls {α : Type} [Inhabited α] (enc : α → List Value) (k : Nat) (zE : ∀ w, (Go.sizeOf 30).run Try.prog w = .ok k w) (hk : ∀ x, (enc x).length = k) (h1 : ∀ x, ∀ v ∈ enc x, v.oneCell' = true) (cf : α → α → Int) (g : Nat) (eg : ∀ args w, (callFunc g args).run Try.prog w = .ok (.enter g args) w) (blk off cap : Nat) (hswo : SWO (ltOf cf)) : ∀ (n a m b : Nat) (d : Array α) (w : World) (hcmp : ∀ W : World, Kb (fun j => j = blk) w W → ∀ x y : α, Calls Try.prog g #[.agg (enc x).toArray, .agg (enc y).toArray] W fun e w' => e = .returned (.int .i64 (cf x y)) ∧ Below W.heap.size W w') (hH : HoldsK enc k w blk off d) (hblk : blk < w.heap.size) (h1m : a < m) (h2m : m < b) (hb : b ≤ d.size) (hsz : d.size < 2305843009213693952) (hA : SortedIn (ltOf cf) a m d) (hB : SortedIn (ltOf cf) m b d) (hn : b - a ≤ n), Calls Try.prog 78 #[.slice (some ⟨blk, off, none⟩) d.size cap, .int .i64 a, .int .i64 m, .int .i64 b, .func (.func g) #[] #[]] w fun e w' => e = .returned (.tuple #[]) ∧ ∃ d', PermIn a b d d' ∧ SortedIn (ltOf cf) a b d' ∧ HoldsK enc k w' blk off d' ∧ Kb (fun j => j = blk) w w' := by
 intro n
 induction n with
 | zero => intro a m b d w _ _ _ h1 h2 _ _ _ _ hn; omega
 | succ n ih => exact symmerge_step enc k zE hk h1 cf g eg blk off cap hswo n ih
theorem insertion_at {α : Type} [Inhabited α] (enc : α → List Value) (k : Nat) (zE : ∀ w, (Go.sizeOf 30).run Try.prog w = .ok k w) (hk : ∀ x, (enc x).length = k) (h1 : ∀ x, ∀ v ∈ enc x, v.oneCell' = true) (cf : α → α → Int) (g : Nat) (eg : ∀ args w, (callFunc g args).run Try.prog w = .ok (.enter g args) w) (blk off cap : Nat) (hswo : SWO (ltOf cf)) (a b : Nat) (d : Array α) (w : World) {za zb : Int} {nd : Nat} (end_ : nd = d.size) (ea : za = (a : Int)) (eb : zb = (b : Int)) (hcmp : ∀ W : World, Kb (fun j => j = blk) w W → ∀ x y : α, Calls Try.prog g #[.agg (enc x).toArray, .agg (enc y).toArray] W fun e w' => e = .returned (.int .i64 (cf x y)) ∧ Below W.heap.size W w') (hH : HoldsK enc k w blk off d) (hblk : blk < w.heap.size) (hab : a ≤ b) (hb : b ≤ d.size) (hsz : d.size < 2305843009213693952) :
 Calls Try.prog 77 #[.slice (some ⟨blk, off, none⟩) nd cap, .int .i64 za, .int .i64 zb, .func (.func g) #[] #[]] w fun e w' => e = .returned (.tuple #[]) ∧ ∃ d', PermIn a b d d' ∧ SortedIn (ltOf cf) a b d' ∧ HoldsK enc k w' blk off d' ∧ Kb (fun j => j = blk) w w' := by
 subst end_ ea eb
 refine (insertion_calls enc k zE hk h1 cf g blk off cap a b d w eg hcmp hH hblk hab hb (by omega)).mono ?_
 rintro e w' ⟨he, hh, hb2⟩
 have h9 := insertionSort_holds hswo d a b hab hb
 exact ⟨he, _, h9.1, h9.2, hh, hb2⟩
theorem symmerge_at {α : Type} [Inhabited α] (enc : α → List Value) (k : Nat) (zE : ∀ w, (Go.sizeOf 30).run Try.prog w = .ok k w) (hk : ∀ x, (enc x).length = k) (h1 : ∀ x, ∀ v ∈ enc x, v.oneCell' = true) (cf : α → α → Int) (g : Nat) (eg : ∀ args w, (callFunc g args).run Try.prog w = .ok (.enter g args) w) (blk off cap : Nat) (hswo : SWO (ltOf cf)) (a m b : Nat) (d : Array α) (w : World) {za zm zb : Int} {nd : Nat} (end_ : nd = d.size) (ea : za = (a : Int)) (em : zm = (m : Int)) (eb : zb = (b : Int)) (hcmp : ∀ W : World, Kb (fun j => j = blk) w W → ∀ x y : α, Calls Try.prog g #[.agg (enc x).toArray, .agg (enc y).toArray] W fun e w' => e = .returned (.int .i64 (cf x y)) ∧ Below W.heap.size W w') (hH : HoldsK enc k w blk off d) (hblk : blk < w.heap.size) (h1m : a < m) (h2m : m < b) (hb : b ≤ d.size) (hsz : d.size < 2305843009213693952) (hA : SortedIn (ltOf cf) a m d) (hB : SortedIn (ltOf cf) m b d) :
 Calls Try.prog 78 #[.slice (some ⟨blk, off, none⟩) nd cap, .int .i64 za, .int .i64 zm, .int .i64 zb, .func (.func g) #[] #[]] w fun e w' => e = .returned (.tuple #[]) ∧ ∃ d', PermIn a b d d' ∧ SortedIn (ltOf cf) a b d' ∧ HoldsK enc k w' blk off d' ∧ Kb (fun j => j = blk) w w' := by
 subst end_ ea em eb
 exact symmerge_calls enc k zE hk h1 cf g eg blk off cap hswo (b - a) a m b d w hcmp hH hblk h1m h2m hb hsz hA hB (Nat.le_refl _)
theorem stable_any {α : Type} [Inhabited α] (enc : α → List Value) (k : Nat) (zE : ∀ w, (Go.sizeOf 30).run Try.prog w = .ok k w) (hk : ∀ x, (enc x).length = k) (h1 : ∀ x, ∀ v ∈ enc x, v.oneCell' = true) (cf : α → α → Int) (g : Nat) (eg : ∀ args w, (callFunc g args).run Try.prog w = .ok (.enter g args) w) (blk off cap : Nat) (hswo : SWO (ltOf cf)) (d : Array α) (w : World) (hcmp : ∀ W : World, Kb (fun j => j = blk) w W → ∀ x y : α, Calls Try.prog g #[.agg (enc x).toArray, .agg (enc y).toArray] W fun e w' => e = .returned (.int .i64 (cf x y)) ∧ Below W.heap.size W w') (hH : HoldsK enc k w blk off d) (hblk : blk < w.heap.size) (hsz : d.size < 1099511627776) :
 Calls Try.prog 72 #[.slice (some ⟨blk, off, none⟩) d.size cap, .int .i64 d.size, .func (.func g) #[] #[]] w fun e w' => e = .returned (.tuple #[]) ∧ ∃ d', PermIn 0 d.size d d' ∧ SortedIn (ltOf cf) 0 d.size d' ∧ HoldsK enc k w' blk off d' ∧ Kb (fun j => j = blk) w w' := by
 have IN := Aside0.mk (fun (D : Nat) (a b : Nat) (d : Array α) (w : World) (za zb : Int) => @insertion_at α _ enc k zE hk h1 cf g eg blk off cap hswo a b d w za zb D)
 have SY := Aside0.mk (fun (D : Nat) (a m b : Nat) (d : Array α) (w : World) (za zm zb : Int) => @symmerge_at α _ enc k zE hk h1 cf g eg blk off cap hswo a m b d w za zm zb D)
 have HH : Aside0 (HoldsK enc k w blk off d) := ⟨hH⟩
 have HBL : Aside0 (blk < w.heap.size) := ⟨hblk⟩
 have HC := Aside0.mk hcmp
 clear hH hk h1 hblk zE hcmp
 obtain ⟨D, hD⟩ : ∃ D, D = d.size := ⟨_, rfl⟩
 rw [← hD] at hsz ⊢
 have HD := Aside0.mk hD
 have HZ := Aside0.mk hsz
 clear hD
 go_enter Try.func72, Try.ntmps72
 go_wp2_with fail
 go_loopg [7, 8] D (fun g1 va vb wr => ∃ (A B : Nat) (dk : Array α), va = .int .i64 A ∧ vb = .int .i64 B ∧ A ≤ D ∧ D ≤ A + g1 ∧ B = A + 20 ∧ Aside0 (∃ t, A = 20 * t) ∧ dk.size = D ∧ Aside0 (HoldsK enc k wr blk off dk) ∧ Aside0 (Kb (fun j => j = blk) w wr) ∧ Aside0 (PermIn 0 D d dk) ∧ Aside0 (BS (ltOf cf) 20 0 A dk))
 case atStart => exact ⟨0, 20, d, rfl, rfl, by omega, by omega, rfl, ⟨0, rfl⟩, HD.out.symm, HH, ⟨Kb.refl _ _⟩, ⟨permIn_refl _ _ _⟩, ⟨BS.nil _ 0⟩⟩
 case round =>
  obtain ⟨A, B, dk, rfl, rfl, hAD, hg1, hBA, HT, hsk, HW, HB, HP, HS⟩ := hrel
  have HBA := Aside0.mk hBA
  clear hBA
  by_cases hlt : B ≤ D
  · have hltz : (B : Int) ≤ (D : Int) := by omega
    have hwB : IntKind.i64.wrap ((B : Int) + 20) = ((B + 20 : Nat) : Int) := (i64_w _).trans ((w64 (by omega) (by have := HZ.out; omega)).trans (by omega))
    have HLB := Aside0.mk (Nat.lt_of_lt_of_le HBL.out HB.out.size)
    go_wp2_with fail
    with_reducible refine (IN.out D A B dk wr _ _ hsk.symm ?i0 ?i1 (fun W hW => HC.out W (Kb.trans HB.out hW)) HW.out HLB.out (by have := HBA.out; omega) (by omega) (by have := HZ.out; omega)).mono ?_
    case i0 => first | rfl | omega
    case i1 => first | rfl | omega
    rintro e w1 ⟨rfl, d2, hp, hq, hh, hb1⟩
    have HPQ := Aside0.mk (And.intro hp hq)
    have HW2 := Aside0.mk hh
    have HB2 := Aside0.mk (Kb.trans HB.out hb1)
    have hs2 : d2.size = D := hp.1.trans hsk
    have HP2 := Aside0.mk (permIn_trans _ _ _ _ _ HP.out (permIn_mono _ _ _ _ _ _ (Nat.zero_le _) (show B ≤ D from hlt) (by have := HD.out; omega) hp))
    clear hh hb1 hp hq
    go_wp2_with fail
    go_roundg (D - B)
    case measure => have := HBA.out; omega
    case rel =>
     refine ⟨B, B + 20, d2, rfl, by first | rfl | rw [hwB] | (congr 1; omega), hlt, by omega, rfl, ⟨?_⟩, hs2, HW2, HB2, HP2, ⟨?_⟩⟩
     · obtain ⟨t, ht⟩ := HT.out
       exact ⟨t + 1, by have := HBA.out; omega⟩
     · obtain ⟨t, ht⟩ := HT.out
       have h := HS.out
       have h2 := HPQ.out
       rw [ht] at h h2
       exact BS.add h h2.1 h2.2 (by have := HBA.out; omega)
  · have hltz : ¬ (B : Int) ≤ (D : Int) := by omega
    have HLB := Aside0.mk (Nat.lt_of_lt_of_le HBL.out HB.out.size)
    go_wp2_with fail
    with_reducible refine (IN.out D A D dk wr _ _ hsk.symm ?j0 ?j1 (fun W hW => HC.out W (Kb.trans HB.out hW)) HW.out HLB.out (by omega) (by omega) (by have := HZ.out; omega)).mono ?_
    case j0 => first | rfl | omega
    case j1 => first | rfl | omega
    rintro e w1 ⟨rfl, d2, hp, hq, hh, hb1⟩
    have HPQ := Aside0.mk (And.intro hp hq)
    have HW2 := Aside0.mk hh
    have HB2 := Aside0.mk (Kb.trans HB.out hb1)
    have hs2 : d2.size = D := hp.1.trans hsk
    have HP2 := Aside0.mk (permIn_trans _ _ _ _ _ HP.out (permIn_mono _ _ _ _ _ _ (Nat.zero_le _) (Nat.le_refl _) (by have := HD.out; omega) hp))
    clear hh hb1 hp hq
    have HS2 : Aside0 (BS (ltOf cf) 20 0 D d2) := ⟨by
     obtain ⟨t, ht⟩ := HT.out
     have h := HS.out
     have h2 := HPQ.out
     rw [ht] at h h2
     exact BS.add h h2.1 h2.2 (by have := HBA.out; omega)⟩
    clear HW HB HP HS HT HPQ HBA hlt hltz HLB hsk hg1 hAD
    go_wp2_with fail
    go_loopg [6] D (fun g2 vs wr => ∃ (s : Nat) (dk : Array α), vs = .int .i64 s ∧ 20 ≤ s ∧ D ≤ s + g2 ∧ Aside0 (s ≤ 2 * D + 20) ∧ dk.size = D ∧ Aside0 (HoldsK enc k wr blk off dk) ∧ Aside0 (Kb (fun j => j = blk) w wr) ∧ Aside0 (PermIn 0 D d dk) ∧ Aside0 (BS (ltOf cf) s 0 D dk))
    case atStart => exact ⟨20, d2, rfl, by omega, by omega, ⟨by omega⟩, hs2, HW2, HB2, HP2, HS2⟩
    case round =>
     obtain ⟨s, dk, rfl, hs20, hg2, HSD, hsk, HW, HB, HP, HS⟩ := hrel
     clear HW2 HB2 HP2 HS2 hs2
     by_cases hlt : s < D
     · have hltz : (s : Int) < (D : Int) := by omega
       have hws : IntKind.i64.wrap (2 * (s : Int)) = 2 * (s : Int) := (i64_w _).trans (w64 (by omega) (by have := HZ.out; omega))
       have hws2 : IntKind.i64.wrap ((s : Int) * 2) = ((s * 2 : Nat) : Int) := (i64_w _).trans ((w64 (by omega) (by have := HZ.out; omega)).trans (by omega))
       have HSS := Aside0.mk (And.intro hs20 (And.intro hg2 hlt))
       clear hs20 hg2
       go_wp2_with fail
       go_loopg [7, 8] D (fun g3 va vb wr => ∃ (A B : Nat) (dk : Array α), va = .int .i64 A ∧ vb = .int .i64 B ∧ A ≤ D ∧ D ≤ A + g3 ∧ Aside0 (B = A + 2 * s) ∧ Aside0 (∃ t, A = 2 * s * t) ∧ dk.size = D ∧ Aside0 (HoldsK enc k wr blk off dk) ∧ Aside0 (Kb (fun j => j = blk) w wr) ∧ Aside0 (PermIn 0 D d dk) ∧ Aside0 (BS (ltOf cf) (2 * s) 0 A dk ∧ BS (ltOf cf) s A D dk))
       case atStart => exact ⟨0, 2 * s, dk, rfl, by first | rfl | (congr 1; omega), by omega, by omega, ⟨by omega⟩, ⟨0, rfl⟩, hsk, HW, HB, HP, ⟨BS.nil _ 0, HS.out⟩⟩
       case round =>
        clear HW HB HP HS hsk
        obtain ⟨A, B, dk, rfl, rfl, hAD, hg3, HBA, HT, hsk, HW, HB, HP, HS⟩ := hrel
        have HQ : Aside0 (∀ y, y ≤ D → y ≤ A + s → SortedIn (ltOf cf) A y dk) := ⟨fun y y1 y2 => by
         obtain ⟨t, ht⟩ := HT.out
         have e : A = s * (2 * t) := by rw [ht, Nat.mul_comm 2 s, Nat.mul_assoc]
         have h := HS.out.2
         have h8 := BS.at (t := 2 * t) (m := y) h (by omega) (by omega) y1
         rwa [← e] at h8⟩
        have HR : Aside0 (∀ y, y ≤ D → y ≤ A + 2 * s → SortedIn (ltOf cf) (A + s) y dk) := ⟨fun y y1 y2 => by
         obtain ⟨t, ht⟩ := HT.out
         have e : A + s = s * (2 * t + 1) := by rw [Nat.mul_add, Nat.mul_one, ht, Nat.mul_comm 2 s, Nat.mul_assoc]
         have h := HS.out.2
         have h8 := BS.at (t := 2 * t + 1) (m := y) h (by omega) (by omega) y1
         rwa [← e] at h8⟩
        have hwA : IntKind.i64.wrap ((A : Int) + (s : Int)) = (A : Int) + (s : Int) := (i64_w _).trans (w64 (by omega) (by have := HZ.out; have := HSS.out; omega))
        by_cases hle : B ≤ D
        · skip
          have HLB := Aside0.mk (Nat.lt_of_lt_of_le HBL.out HB.out.size)
          have hltz : (B : Int) ≤ (D : Int) := by omega
          have hwB : IntKind.i64.wrap ((B : Int) + 2 * (s : Int)) = ((B + 2 * s : Nat) : Int) := (i64_w _).trans ((w64 (by omega) (by have := HZ.out; have := HSS.out; omega)).trans (by omega))
          go_wp2_with fail
          with_reducible refine (SY.out D A (A + s) B dk wr _ _ _ hsk.symm ?k0 ?k1 ?k2 (fun W hW => HC.out W (Kb.trans HB.out hW)) HW.out HLB.out (by have := HSS.out; omega) (by have := HSS.out; have := HBA.out; omega) (by omega) (by have := HZ.out; omega) (HQ.out _ (by have := HBA.out; omega) (Nat.le_refl _)) (HR.out _ hle (by have := HBA.out; omega))).mono ?_
          case k0 => first | rfl | omega
          case k1 => first | rfl | omega
          case k2 => first | rfl | omega
          rintro e w1 ⟨rfl, d2, hp, hq, hh, hb1⟩
          have HPQ := Aside0.mk (And.intro hp hq)
          have HW2 := Aside0.mk hh
          have HB2 := Aside0.mk (Kb.trans HB.out hb1)
          have hs2 : d2.size = D := hp.1.trans hsk
          have HP2 := Aside0.mk (permIn_trans _ _ _ _ _ HP.out (permIn_mono _ _ _ _ _ _ (Nat.zero_le _) (show B ≤ D from hle) (by have := HD.out; omega) hp))
          clear hh hb1 hp hq
          go_wp2_with fail
          go_roundg (D - B)
          case measure => have := HBA.out; have := HSS.out; omega
          case rel =>
           refine ⟨B, B + 2 * s, d2, rfl, by first | rfl | rw [hwB] | (congr 1; omega), hle, by omega, ⟨rfl⟩, ⟨?_⟩, hs2, HW2, HB2, HP2, ⟨?_, ?_⟩⟩
           · obtain ⟨t, ht⟩ := HT.out
             exact ⟨t + 1, by have := HBA.out; rw [Nat.mul_add, Nat.mul_one, ← ht]; exact this⟩
           · obtain ⟨t, ht⟩ := HT.out
             have h := HS.out.1
             have h2 := HPQ.out
             have h3 := HBA.out
             rw [ht] at h h2 h3
             exact BS.add h h2.1 h2.2 (by omega)
           · exact BS.rest HS.out.2 HPQ.out.1 (by have := HBA.out; omega)
        · have hltz : ¬ (B : Int) ≤ (D : Int) := by omega
          by_cases hm : A + s < D
          · skip
            have HLB := Aside0.mk (Nat.lt_of_lt_of_le HBL.out HB.out.size)
            have hmz : (A : Int) + (s : Int) < (D : Int) := by omega
            go_wp2_with fail
            with_reducible refine (SY.out D A (A + s) D dk wr _ _ _ hsk.symm ?m0 ?m1 ?m2 (fun W hW => HC.out W (Kb.trans HB.out hW)) HW.out HLB.out (by have := HSS.out; omega) (by omega) (by omega) (by have := HZ.out; omega) (HQ.out _ (by omega) (Nat.le_refl _)) (HR.out _ (Nat.le_refl _) (by have := HBA.out; omega))).mono ?_
            case m0 => first | rfl | omega
            case m1 => first | rfl | omega
            case m2 => first | rfl | omega
            rintro e w1 ⟨rfl, d2, hp, hq, hh, hb1⟩
            have HPQ := Aside0.mk (And.intro hp hq)
            have HW2 := Aside0.mk hh
            have HB2 := Aside0.mk (Kb.trans HB.out hb1)
            have hs2 : d2.size = D := hp.1.trans hsk
            have HP2 := Aside0.mk (permIn_trans _ _ _ _ _ HP.out (permIn_mono _ _ _ _ _ _ (Nat.zero_le _) (Nat.le_refl _) (by have := HD.out; omega) hp))
            clear hh hb1 hp hq
            go_wp2_with fail
            go_roundg (D - s * 2)
            case measure => have := HSS.out; omega
            case rel =>
             refine ⟨s * 2, d2, by first | rfl | rw [hws2] | (congr 1; omega), by have := HSS.out; omega, by omega, ⟨by have := HSS.out; omega⟩, hs2, HW2, HB2, HP2, ⟨?_⟩⟩
             rw [Nat.mul_comm s 2]
             obtain ⟨t, ht⟩ := HT.out
             have h := HS.out.1
             have h2 := HPQ.out.1
             have h4 := HPQ.out.2
             have h3 := HBA.out
             rw [ht] at h h2 h3 h4
             exact BS.add h h2 h4 (by omega)
          · skip
            have hmz : ¬ (A : Int) + (s : Int) < (D : Int) := by omega
            go_wp2_with fail
            go_roundg (D - s * 2)
            case measure => have := HSS.out; omega
            case rel =>
             refine ⟨s * 2, dk, by first | rfl | rw [hws2] | (congr 1; omega), by have := HSS.out; omega, by omega, ⟨by have := HSS.out; omega⟩, hsk, HW, HB, HP, ⟨?_⟩⟩
             rw [Nat.mul_comm s 2]
             obtain ⟨t, ht⟩ := HT.out
             have h := HS.out.1
             have h2 := (permIn_refl dk A D : PermIn A D dk dk)
             have h4 := HQ.out D (Nat.le_refl _) (by omega)
             have h3 := HBA.out
             rw [ht] at h h2 h3 h4
             exact BS.add h h2 h4 (by omega)
     · have hltz : ¬ (s : Int) < (D : Int) := by omega
       go_wp2_with fail
       go_end0
       exact ⟨rfl, dk, HP.out, BS.all HS.out (by omega), HW.out, HB.out⟩
theorem sortstable_any {α : Type} [Inhabited α] (enc : α → List Value) (k : Nat) (zE : ∀ w, (Go.sizeOf 30).run Try.prog w = .ok k w) (hk : ∀ x, (enc x).length = k) (h1 : ∀ x, ∀ v ∈ enc x, v.oneCell' = true) (cf : α → α → Int) (g : Nat) (eg : ∀ args w, (callFunc g args).run Try.prog w = .ok (.enter g args) w) (blk off cap : Nat) (hswo : SWO (ltOf cf)) (d : Array α) (w : World) (hcmp : ∀ W : World, Kb (fun j => j = blk) w W → ∀ x y : α, Calls Try.prog g #[.agg (enc x).toArray, .agg (enc y).toArray] W fun e w' => e = .returned (.int .i64 (cf x y)) ∧ Below W.heap.size W w') (hH : HoldsK enc k w blk off d) (hblk : blk < w.heap.size) (hsz : d.size < 1099511627776) :
 Calls Try.prog 62 #[.slice (some ⟨blk, off, none⟩) d.size cap, .func (.func g) #[] #[]] w fun e w' => e = .returned (.tuple #[]) ∧ ∃ d', PermIn 0 d.size d d' ∧ SortedIn (ltOf cf) 0 d.size d' ∧ HoldsK enc k w' blk off d' ∧ Kb (fun j => j = blk) w w' := by
 have HC := Aside0.mk (stable_any enc k zE hk h1 cf g eg blk off cap hswo d w hcmp hH hblk hsz)
 clear hH h1 hk hcmp zE
 go_enter Try.func62, Try.ntmps62
 go_wp2_with fail
 refine HC.out.mono ?_
 rintro e w1 ⟨rfl, d', h1, h2, hh, hb⟩
 have HQ := Aside0.mk (And.intro h1 h2)
 have HH := Aside0.mk hh
 have HB := Aside0.mk hb
 clear hh hb HC h1 h2
 go_wp2_with fail
 go_end0
 exact ⟨rfl, d', HQ.out.1, HQ.out.2, HH.out, HB.out⟩
abbrev El (ok : Nat → Prop) (w : World) (g : Nat) : Type := {c : Cs × Rat // IsR (fun j => ok j ∧ j ≠ g) w (.agg c.1.l.toArray) c.2}
def encE {ok : Nat → Prop} {w : World} {g : Nat} (x : El ok w g) : List Value := x.1.1.l
theorem to_holds {ok : Nat → Prop} {w : World} {base n cap : Nat} {A : Option Addr} {qs : List Rat} (h : Kd.N kdR 30 w base ok (.slice A n cap) qs) (hn : 0 < qs.length) :
 ∃ (g : Nat) (i0 : Inhabited (El ok w g)) (d : Array (El ok w g)), A = some ⟨g, 0, none⟩ ∧ base ≤ g ∧ g < w.heap.size ∧ ok g ∧ HoldsK encE 3 w g 0 d ∧ d.toList.map (fun c => c.1.2) = qs ∧ n = qs.length ∧ n ≤ cap := by
 obtain ⟨h0, rows, hl, ⟨hr0, inner, ⟨hlen, ho⟩, hr⟩, hf⟩ := h
 have hsz3 : (Kd.raw kdR.sz).sz = 3 := rfl
 rcases ho with ⟨_, hz⟩ | ⟨g, cap', cur, e, hb, hblk, hle, hcap, hsz, htk⟩
 · omega
 injection e with e1 e2 e3
 subst e1 e3
 rw [hsz3] at hlen hsz htk
 have hr2 := hr.2
 rw [hsz3] at hr2
 have hex : ∀ j : Fin qs.length, ∃ c : El ok w g, c.1.2 = qs[j] ∧ rows[j.1]? = some c.1.1.l := fun j => by
  have hj : j.1 < rows.length := by omega
  obtain ⟨c, hc, hi⟩ := kdR_FK (hf j.1 qs[j] rows[j.1] (List.getElem?_eq_getElem j.2) (List.getElem?_eq_getElem hj))
  refine ⟨⟨(c, qs[j]), IsR.mono hi (fun k hk => ⟨hk.1, fun e => hk.2 (by rw [e]; rfl)⟩)⟩, rfl, ?_⟩
  rw [List.getElem?_eq_getElem hj, hc]
 obtain ⟨f, hf2⟩ := Classical.axiomOfChoice hex
 letI i0 : Inhabited (El ok w g) := ⟨f ⟨0, hn⟩⟩
 refine ⟨g, i0, Array.ofFn f, rfl, hb, blk_lt hblk, h0 g rfl, ?_, ?_, by omega, by omega⟩
 · intro t ht
   rw [size_flatK, Array.size_ofFn] at ht
   refine ⟨?_, by simp [World.frozen?, hblk]⟩
   rw [blk_cell hblk, Nat.zero_add]
   have hj : t / 3 < qs.length := by omega
   have hjr : t / 3 < rows.length := by omega
   have e4 := (hr2 (t / 3) rows[t / 3] (List.getElem?_eq_getElem hjr)).1
   have e5 := (hf2 ⟨t / 3, hj⟩).2
   rw [List.getElem?_eq_getElem hjr] at e5
   have e6 := Option.some.inj e5
   rw [get_flatK encE 3 _ t (by rw [Array.size_ofFn]; exact ht)]
   have e7 : (Array.ofFn f)[t / 3]! = f ⟨t / 3, hj⟩ := by rw [getElem!_pos _ _ (by rw [Array.size_ofFn]; exact hj), Array.getElem_ofFn]
   rw [e7]
   show cur[t]? = some (id ((f ⟨t / 3, hj⟩).1.1.l[t % 3]!))
   rw [← e6, ← e4]
   have e8 : ((inner.drop (t / 3 * 3)).take 3).length = 3 := by rw [e4, e6]; rfl
   rw [getElem!_pos _ _ (by rw [e8]; omega), List.getElem_take, List.getElem_drop]
   have e9 : t / 3 * 3 + t % 3 = t := by omega
   simp only [e9, id]
   have ht2 : t < inner.length := by rw [hlen, hl]; omega
   have e10 : inner[t]? = cur.toList[t]? := by rw [← htk, List.getElem?_take_of_lt (by rw [hl]; omega)]
   rw [← List.getElem?_eq_getElem ht2, e10, Array.getElem?_toList]
 · refine List.ext_getElem (by simp) (fun j h1 h2 => ?_)
   simp only [Array.toList_ofFn, List.getElem_map, List.getElem_ofFn]
   exact (hf2 ⟨j, h2⟩).1
theorem of_holds {ok : Nat → Prop} {w w' : World} {g cap : Nat} [Inhabited (El ok w g)] {d : Array (El ok w g)} (h : HoldsK encE 3 w' g 0 d) (hb : Kb (fun j => j = g) w w') (hg : ok g) (hlt : g < w.heap.size) (hc : d.size ≤ cap) (hsz : d.size ≤ 1000000) :
 RowQ ok w' (.slice (some ⟨g, 0, none⟩) d.size cap) (d.toList.map (fun c => c.1.2)) := by
 refine ⟨some ⟨g, 0, none⟩, cap, by simp, by simpa using hc, fun W hW => ⟨by simp, by simp; omega, fun _ => ⟨⟨g, 0, none⟩, rfl, fun j p hp => ?_⟩⟩⟩
 rw [List.getElem?_map] at hp
 obtain ⟨c, hc1, hc2⟩ := Option.map_eq_some_iff.1 hp
 rw [Array.getElem?_toList] at hc1
 obtain ⟨hj, hc3⟩ := Array.getElem?_eq_some_iff.1 hc1
 refine ⟨c.1.1.l, rfl, ⟨c.1.1, rfl, ?_⟩, fun i u hu => ?_⟩
 · rw [← hc2]
   refine IsR.mono (IsR.step (IsR.kb c.2 hb (fun k hk e => hk.2 e)) (fun k hk hl => hW k hk.1 hl)) (fun _ _ => trivial)
 · rw [Addr.add_lit, Nat.zero_add]
   have hi : i < 3 := by have := (List.getElem?_eq_some_iff.1 hu).1; exact this
   have h1 := (HoldsK.cell h hj hi).1
   have e : d[j]! = c := by rw [getElem!_pos d j hj, hc3]
   rw [e, Nat.zero_add] at h1
   have hW2 := hW g hg (Nat.lt_of_lt_of_le hlt hb.size)
   have h2 : W.cell? ⟨g, j * 3 + i, none⟩ = w'.cell? ⟨g, j * 3 + i, none⟩ := by
    unfold World.cell?
    rw [show (⟨g, j * 3 + i, none⟩ : Addr).block = g from rfl, hW2]
   show W.cell? ⟨g, j * 3 + i, none⟩ = some u
   rw [h2, h1]
   have hl : i < (encE c).length := hi
   rw [getElem!_pos (encE c) i hl]
   have hu2 : (encE c)[i]? = some u := hu
   rw [List.getElem?_eq_getElem hl] at hu2
   exact hu2
def cfE {ok : Nat → Prop} {w : World} {g : Nat} (x y : El ok w g) : Int := if x.1.2 < y.1.2 then -1 else if x.1.2 = y.1.2 then 0 else 1
theorem ltE {ok : Nat → Prop} {w : World} {g : Nat} (x y : El ok w g) : ltOf cfE x y = decide (x.1.2 < y.1.2) := by
 unfold ltOf cfE
 by_cases h1 : x.1.2 < y.1.2
 · simp [h1]
 · by_cases h2 : x.1.2 = y.1.2 <;> simp [h1, h2]
theorem swoE {ok : Nat → Prop} {w : World} {g : Nat} : SWO (ltOf (cfE (ok := ok) (w := w) (g := g))) where
 irrefl x := by rw [ltE]; exact decide_eq_false Rat.lt_irrefl
 trans x y z h1 h2 := by
  rw [ltE] at *
  exact decide_eq_true (Rat.not_le.1 (fun h => Rat.not_le.2 (of_decide_eq_true h2) (Rat.le_trans h (Rat.le_of_lt (of_decide_eq_true h1)))))
 ntrans x y z h1 h2 := by
  rw [ltE] at *
  have a := Rat.not_lt.1 (of_decide_eq_false h1)
  have b := Rat.not_lt.1 (of_decide_eq_false h2)
  exact decide_eq_false (Rat.not_lt.2 (Rat.le_trans b a))
theorem sorted_pairwise {ok : Nat → Prop} {w : World} {g : Nat} [Inhabited (El ok w g)] (d : Array (El ok w g)) (h : SortedIn (ltOf cfE) 0 d.size d) : (d.toList.map (fun c => c.1.2)).Pairwise (· ≤ ·) := by
 rw [List.pairwise_iff_getElem]
 intro i j hi hj hij
 rw [List.length_map, Array.length_toList] at hi hj
 have h1 := h i j (Nat.zero_le _) hij hj
 rw [ltE, getElem!_pos d j hj, getElem!_pos d i hi] at h1
 have h2 := Rat.not_lt.1 (of_decide_eq_false h1)
 simpa using h2
theorem sorted_calls {ok : Nat → Prop} (qs : List Rat) (h0 : 0 < qs.length) (h20 : qs.length ≤ 1000000) (w : World) (vl : Value) (hl : RowQ ok w vl qs) :
 Calls Try.prog 49 #[vl, .func (.func 39) #[] #[]] w fun e w' => (∃ v qs', e = .returned v ∧ qs'.Perm qs ∧ qs'.Pairwise (· ≤ ·) ∧ RowQ (fun k => ok k ∨ w.heap.size ≤ k) w' v qs') ∧ Below w.heap.size w w' := by
 have HC := a0_ (qclone_calls qs h0 (by omega) w vl hl)
 clear hl
 go_enter Try.func49, Try.ntmps49
 go_wp2_with fail
 refine HC.out.mono ?_
 rintro e w1 ⟨⟨v, rfl, hN⟩, hb⟩
 obtain ⟨okN, hokN⟩ : ∃ okN : Nat → Prop, okN = fun k => (ok k ∧ k < w.heap.size) ∨ w.heap.size ≤ k := ⟨_, rfl⟩
 rw [← hokN] at hN
 obtain ⟨A, c, rfl⟩ := Kd.V_slice (Kd.N_V (base' := 0) hN)
 obtain ⟨g, i0, d, rfl, hbg, hlt, hokg, hH, hm, -, hcap⟩ := to_holds hN h0
 have hds : d.size = qs.length := by rw [← hm, List.length_map, Array.length_toList]
 rw [← hds]
 rw [← hds] at hcap h0 h20
 have HS := a0_ (sortstable_any encE 3 size30 (fun x => rfl) (fun x v hv => by
  simp only [encE, Cs.l, List.mem_cons, List.not_mem_nil, or_false] at hv
  rcases hv with rfl | rfl | rfl <;> rfl) cfE 39 (enters_run (enters_of (P := Try.prog) Try.func39 (by kernel_rfl) rfl)) g 0 c swoE d w1 (fun W hW x y => wcompare_calls x.1.2 y.1.2 W _ _ (IsR.kb x.2 hW (fun k hk e => hk.2 e)) (IsR.kb y.2 hW (fun k hk e => hk.2 e))) hH hlt (by omega))
 have HF := a0_ (And.intro hm (And.intro hokN (And.intro hb (And.intro hbg (And.intro hlt (And.intro hokg (And.intro hcap h20)))))))
 clear hm hokN hb hbg hlt hokg hcap hH hN HC h0 h20 hds
 go_wp2_with fail
 refine HS.out.mono ?_
 rintro e w2 ⟨rfl, d', hp, hq, hh, hk⟩
 have HP := a0_ (And.intro hp hq)
 have HH := a0_ hh
 have HK := a0_ hk
 clear hh hk HS hp hq
 go_wp2_with fail
 go_ret
 obtain ⟨⟨hsz, -, hp⟩, hso⟩ := HP.out
 obtain ⟨hm, hokN, hb, hbg, hlt, hokg, hcap, h20⟩ := HF.out
 refine ⟨⟨_, d'.toList.map (fun c => c.1.2), rfl, ?_, ?_, ?_⟩, ?_⟩
 · rw [← hm]
   refine List.Perm.map _ ?_
   have e1 : (d'.extract 0 d.size).toList = d'.toList := by rw [← hsz, Array.extract_size]
   rw [e1, Array.extract_size] at hp
   exact hp
 · exact sorted_pairwise d' (by rw [hsz]; exact hso)
 · have h := of_holds HH.out HK.out hokg hlt (by rw [hsz]; exact hcap) (by rw [hsz]; omega)
   rw [hsz] at h
   exact RowQ.mono h (fun k hk => by rw [hokN] at hk; exact hk.elim (fun h => .inl h.1) .inr)
 · exact Kb.to_below (Kb.then_ (Kb.of_below (S := fun _ => False) hb) HK.out (fun i hi => .inr (by rw [hi]; exact hbg))) (fun _ h => h.elim)
end Go.Proofs.Ytgdkgahbmfhgcaa.PN
