/- VaryKnown: readers that are none. -/
import Derived.Test.YtmjedmiaebbjaaaVF
import Derived.Test.YtmjedmiaebbjaaaVE
import Derived.Test.YtmjedmiaebbjaaaPureVaryWrites
import Derived.Deep.QuietTactic
import Derived.BigQuiet
import Derived.RegionTactic
import Derived.Deep.RegionHeld3
import Derived.MapKept
namespace Go.Proofs.Ytmjedmiaebbjaaa.VG
open Go.RowKit Go.Proofs.Ytmjedmiaebbjaaa.PV Go.Proofs.Ytmjedmiaebbjaaa.VA Go.Proofs.Ytmjedmiaebbjaaa.H Go.Proofs.YtmjedmiaebbjaaaW.PrintWords Go.Proofs.YtmjedmiaebbjaaaW.PrintLast Go.Proofs.YtmjedmiaebbjaaaW.PrintMore
set_option linter.unusedVariables false
set_option linter.unusedSimpArgs false

/-- A pointer that is no reader: nil, or one that New did not make. -/
def Nil (w : World) (p : Option Addr) : Prop := p = none ∨ ∃ g, p = some ⟨g, 0, none⟩ ∧ w.cell? ⟨g, 0, none⟩ = some (.bool false)
theorem Nil.drewN {w : World} {p : Option Addr} (h : Nil w p) (n : Nat) : Nil (w.drewN n) p := h
theorem none_calls (w : World) (p : Option Addr) (h : Nil w p) : Calls Try.prog 37 #[.pointer p] w fun x w' => x = .returned (.bool true) ∧ w' = w := by
  rcases h with rfl | ⟨g, rfl, c0⟩
  · go_enter Try.func37, Try.ntmps37
    go_wp2
    go_ret
    exact ⟨rfl, rfl⟩
  · go_enter Try.func37, Try.ntmps37
    go_wp2
    go_ret
    exact ⟨rfl, rfl⟩
theorem nil_U (w : World) (p : Option Addr) (h : Nil w p) : Calls Try.prog 25 #[.pointer p] w fun x w' => x = .returned (.int .i64 0) ∧ w' = w := by
  have HN := Aside0.mk h
  clear h
  go_enter Try.func25, Try.ntmps25
  go_wp2_with (go_at_call 37; (with_reducible refine (none_calls _ _ HN.out).mono ?_); rintro x w' ⟨rfl, rfl⟩)
  go_ret
  exact ⟨rfl, rfl⟩
theorem nil_Err (w : World) (p : Option Addr) (h : Nil w p) : Calls Try.prog 31 #[.pointer p] w fun x w' => x = .returned (.int .i64 1) ∧ w' = w := by
  have HN := Aside0.mk h
  clear h
  go_enter Try.func31, Try.ntmps31
  go_wp2_with (go_at_call 37; (with_reducible refine (none_calls _ _ HN.out).mono ?_); rintro x w' ⟨rfl, rfl⟩)
  go_ret
  exact ⟨rfl, rfl⟩
theorem nil_Left (w : World) (p : Option Addr) (h : Nil w p) : Calls Try.prog 32 #[.pointer p] w fun x w' => x = .returned (.int .i64 0) ∧ w' = w := by
  have HN := Aside0.mk h
  clear h
  go_enter Try.func32, Try.ntmps32
  go_wp2_with (go_at_call 31; (with_reducible refine (nil_Err _ _ HN.out).mono ?_); rintro x w' ⟨rfl, rfl⟩)
  go_ret
  exact ⟨rfl, rfl⟩
theorem nil_S (w : World) (p : Option Addr) (h : Nil w p) : Calls Try.prog 27 #[.pointer p] w fun x w' => x = .returned (.int .i64 0) ∧ w' = w := by
  have HN := Aside0.mk h
  have hz := VA.sOf_eq 0 (by decide) (by decide)
  rw [show (0 : Int) / 2 = 0 by decide, show VA.sOf 0 = 0 by decide] at hz
  have HZ := Aside0.mk hz
  clear h hz
  go_enter Try.func27, Try.ntmps27
  go_wp2_with (go_at_call 25; (with_reducible refine (nil_U _ _ HN.out).mono ?_); rintro x w' ⟨rfl, rfl⟩)
  go_ret
  exact ⟨ret_i64 HZ.out, rfl⟩
theorem nil_Text (w : World) (p : Option Addr) (m : Int) (h : Nil w p) : Calls Try.prog 29 #[.pointer p, .int .i64 m] w fun x w' => x = .returned (.string ⟨#[]⟩) ∧ w' = w := by
  have HN := Aside0.mk h
  clear h
  go_enter Try.func29, Try.ntmps29
  go_wp2_with (first | (go_at_call 25; (with_reducible refine (nil_U _ _ HN.out).mono ?_); rintro x w' ⟨rfl, rfl⟩) | (go_at_call 31; (with_reducible refine (nil_Err _ _ HN.out).mono ?_); rintro x w' ⟨rfl, rfl⟩))
  go_ret
  exact ⟨rfl, rfl⟩

theorem C_lit {kd : IntKind} {w : World} {b : Nat} {ty : TypeId} {cs : Array Value} (l : List Int) (hl : l.length ≤ 9223372036854775807) (h : w.heap[b]? = some (.cells cs ty (0, 0))) (he : cs = (l.map (Value.int kd)).toArray) : Kd.C (Kd.int kd) w (some ⟨b, 0, none⟩) l.length l := by
  refine Kd.C_of_reads (d := (0 : Int)) (h1 := fun _ => rfl) ⟨rfl, hl, fun hn => ⟨_, rfl, fun j hj => ?_⟩⟩
  rw [add_plain, blk_cell h, he]
  simp [hj]
theorem writes_call (n : Int) (s : ByteArray) (A : Option Addr) (m c : Nat) (l : List Int) (w : World) (hr : Kd.C (Kd.int .i64) w A m l) (hm : l.length = m) (hc : m ≤ c) (hn : (Lit.int .i64 n).wf = true) (hs : s.size ≤ 140737488351232) (hl : l.length * 8 ≤ 140737488351232) (hw : ∀ x ∈ l, (Lit.int .i64 x).wf = true) :
    Calls Try.prog 4 #[.int .i64 n, .string s, .slice A m c] w fun e w' => e = .returned (.bool true) ∧ Below w.heap.size w w' := by
  subst hm
  obtain ⟨k, hk⟩ := Pure.VaryWrites n s l hn hs (by unfold maxLen; omega) hl hw
  exact driftnetlaw06_VaryWrites.calls k n s A c l true w hr hc hk
theorem back_call (v : Int) (W : World) : Calls Try.prog 6 #[.int .i64 v, .string ⟨#[120]⟩, .slice (some ⟨W.heap.size, 0, none⟩) 1 1] (W.alloc (.cells #[.int .u8 128] 5)) fun e w' => e = .returned (.bool true) ∧ Below (W.alloc (.cells #[.int .u8 128] 5)).heap.size (W.alloc (.cells #[.int .u8 128] 5)) w' :=
  VE.walk v _ _ 1 [128] _ (C_lit [128] (by decide) (ty := 5) (MapKept.heap_alloc _ _).1 rfl) (by decide) (by decide) (by decide) (by simp)
theorem u8_wrap (x : Int) : 0 ≤ IntKind.u8.wrap x ∧ IntKind.u8.wrap x < 256 := by
  unfold IntKind.wrap
  simp [IntKind.bits, IntKind.signed]
  omega
theorem reads_call (l q : List Int) (W : World) (hl : l.length ≤ 140737488351232) (hq : q.length ≤ 140737488351232) (hwf : ∀ x ∈ l, 0 ≤ x ∧ x < 256) :
    Calls Try.prog 5 #[.slice (some ⟨W.heap.size, 0, none⟩) l.length l.length, .slice (some ⟨W.heap.size + 1, 0, none⟩) q.length q.length] ((W.alloc (.cells (l.map (Value.int .u8)).toArray 5)).alloc (.cells (q.map (Value.int .i64)).toArray 3)) fun e w' => e = .returned (.bool true) ∧ Below ((W.alloc (.cells (l.map (Value.int .u8)).toArray 5)).alloc (.cells (q.map (Value.int .i64)).toArray 3)).heap.size ((W.alloc (.cells (l.map (Value.int .u8)).toArray 5)).alloc (.cells (q.map (Value.int .i64)).toArray 3)) w' := by
  have e1 : (W.alloc (.cells (l.map (Value.int .u8)).toArray 5)).heap.size = W.heap.size + 1 := by simp
  have h1 := C_lit (kd := .u8) (w := W.alloc (.cells (l.map (Value.int .u8)).toArray 5)) l (by omega) (ty := 5) (MapKept.heap_alloc _ _).1 rfl
  have h2 := C_lit (kd := .i64) (w := (W.alloc (.cells (l.map (Value.int .u8)).toArray 5)).alloc (.cells (q.map (Value.int .i64)).toArray 3)) q (by omega) (ty := 3) (MapKept.heap_alloc _ _).1 rfl
  rw [e1] at h2
  exact VF.walk _ _ l _ _ q _ (Kd.C_alloc h1 _) (Nat.le_refl _) hl hwf h2 (Nat.le_refl _) hq
theorem reads_at (k k2 : Int) (W : World) : Calls Try.prog 5 #[.slice (some ⟨W.heap.size, 0, none⟩) 11 11, .slice (some ⟨W.heap.size + 1, 0, none⟩) 4 4] ((W.alloc (.cells #[.int .u8 (IntKind.u8.wrap k), .int .u8 128, .int .u8 (IntKind.u8.wrap k2), .int .u8 255, .int .u8 255, .int .u8 255, .int .u8 255, .int .u8 255, .int .u8 255, .int .u8 255, .int .u8 (IntKind.u8.wrap k2)] 5)).alloc (.cells #[.int .i64 0, .int .i64 (IntKind.i64.wrap (IntKind.i64.wrap (3 * k2) + 2)), .int .i64 1, .int .i64 0] 3)) fun e w' => e = .returned (.bool true) ∧ Below ((W.alloc (.cells #[.int .u8 (IntKind.u8.wrap k), .int .u8 128, .int .u8 (IntKind.u8.wrap k2), .int .u8 255, .int .u8 255, .int .u8 255, .int .u8 255, .int .u8 255, .int .u8 255, .int .u8 255, .int .u8 (IntKind.u8.wrap k2)] 5)).alloc (.cells #[.int .i64 0, .int .i64 (IntKind.i64.wrap (IntKind.i64.wrap (3 * k2) + 2)), .int .i64 1, .int .i64 0] 3)).heap.size ((W.alloc (.cells #[.int .u8 (IntKind.u8.wrap k), .int .u8 128, .int .u8 (IntKind.u8.wrap k2), .int .u8 255, .int .u8 255, .int .u8 255, .int .u8 255, .int .u8 255, .int .u8 255, .int .u8 255, .int .u8 (IntKind.u8.wrap k2)] 5)).alloc (.cells #[.int .i64 0, .int .i64 (IntKind.i64.wrap (IntKind.i64.wrap (3 * k2) + 2)), .int .i64 1, .int .i64 0] 3)) w' := by
  refine reads_call [IntKind.u8.wrap k, 128, IntKind.u8.wrap k2, 255, 255, 255, 255, 255, 255, 255, IntKind.u8.wrap k2] [0, IntKind.i64.wrap (IntKind.i64.wrap (3 * k2) + 2), 1, 0] W (by simp) (by simp) (fun x hx => ?_)
  have h1 := u8_wrap k
  have h2 := u8_wrap k2
  simp only [List.mem_cons, List.not_mem_nil, or_false] at hx
  omega
theorem reads_call' (l q : List Int) (W : World) (hl : l.length ≤ 140737488351232) (hq : q.length ≤ 140737488351232) (hwf : ∀ x ∈ l, 0 ≤ x ∧ x < 256) :
    Calls Try.prog 5 #[.slice (some ⟨W.heap.size + 1, 0, none⟩) l.length l.length, .slice (some ⟨W.heap.size, 0, none⟩) q.length q.length] ((W.alloc (.cells (q.map (Value.int .i64)).toArray 3)).alloc (.cells (l.map (Value.int .u8)).toArray 5)) fun e w' => e = .returned (.bool true) ∧ Below ((W.alloc (.cells (q.map (Value.int .i64)).toArray 3)).alloc (.cells (l.map (Value.int .u8)).toArray 5)).heap.size ((W.alloc (.cells (q.map (Value.int .i64)).toArray 3)).alloc (.cells (l.map (Value.int .u8)).toArray 5)) w' := by
  have e1 : (W.alloc (.cells (q.map (Value.int .i64)).toArray 3)).heap.size = W.heap.size + 1 := by simp
  have h1 := C_lit (kd := .i64) (w := W.alloc (.cells (q.map (Value.int .i64)).toArray 3)) q (by omega) (ty := 3) (MapKept.heap_alloc _ _).1 rfl
  have h2 := C_lit (kd := .u8) (w := ((W.alloc (.cells (q.map (Value.int .i64)).toArray 3)).alloc (.cells (l.map (Value.int .u8)).toArray 5))) l (by omega) (ty := 5) (MapKept.heap_alloc _ _).1 rfl
  rw [e1] at h2
  exact VF.walk _ _ l _ _ q _ h2 (Nat.le_refl _) hl hwf (Kd.C_alloc h1 _) (Nat.le_refl _) hq
theorem reads_at' (k k2 : Int) (W : World) : Calls Try.prog 5 #[.slice (some ⟨W.heap.size + 1, 0, none⟩) 11 11, .slice (some ⟨W.heap.size, 0, none⟩) 4 4] ((W.alloc (.cells #[.int .i64 0, .int .i64 (IntKind.i64.wrap (IntKind.i64.wrap (3 * k2) + 2)), .int .i64 1, .int .i64 0] 3)).alloc (.cells #[.int .u8 (IntKind.u8.wrap k), .int .u8 128, .int .u8 (IntKind.u8.wrap k2), .int .u8 255, .int .u8 255, .int .u8 255, .int .u8 255, .int .u8 255, .int .u8 255, .int .u8 255, .int .u8 (IntKind.u8.wrap k2)] 5)) fun e w' => e = .returned (.bool true) ∧ Below ((W.alloc (.cells #[.int .i64 0, .int .i64 (IntKind.i64.wrap (IntKind.i64.wrap (3 * k2) + 2)), .int .i64 1, .int .i64 0] 3)).alloc (.cells #[.int .u8 (IntKind.u8.wrap k), .int .u8 128, .int .u8 (IntKind.u8.wrap k2), .int .u8 255, .int .u8 255, .int .u8 255, .int .u8 255, .int .u8 255, .int .u8 255, .int .u8 255, .int .u8 (IntKind.u8.wrap k2)] 5)).heap.size ((W.alloc (.cells #[.int .i64 0, .int .i64 (IntKind.i64.wrap (IntKind.i64.wrap (3 * k2) + 2)), .int .i64 1, .int .i64 0] 3)).alloc (.cells #[.int .u8 (IntKind.u8.wrap k), .int .u8 128, .int .u8 (IntKind.u8.wrap k2), .int .u8 255, .int .u8 255, .int .u8 255, .int .u8 255, .int .u8 255, .int .u8 255, .int .u8 255, .int .u8 (IntKind.u8.wrap k2)] 5)) w' := by
  refine reads_call' [IntKind.u8.wrap k, 128, IntKind.u8.wrap k2, 255, 255, 255, 255, 255, 255, 255, IntKind.u8.wrap k2] [0, IntKind.i64.wrap (IntKind.i64.wrap (3 * k2) + 2), 1, 0] W (by simp) (by simp) (fun x hx => ?_)
  have h1 := u8_wrap k
  have h2 := u8_wrap k2
  simp only [List.mem_cons, List.not_mem_nil, or_false] at hx
  omega
theorem made_zeros (n : Nat) : madeCells #[.int .u8 0] n = ((List.replicate n (0 : Int)).map (Value.int .u8)).toArray := by
  unfold madeCells
  apply Array.ext
  · simp
  · intro i h1 h2
    simp
    rw [Nat.mod_one]
    rfl
theorem long_facts : ∃ (made : Array Value) (long : ByteArray), long.size = 65536 ∧ (∀ W : World, (Instr.makeSlice 22 (.int .i64 65536) (.int .i64 65536)).run Try.prog W = .ok (.slice (some ⟨W.heap.size, 0, none⟩) 65536 65536) (W.alloc (.cells made 5))) ∧
    (∀ W : World, (convert 22 9 (.slice (some ⟨W.heap.size, 0, none⟩) 65536 65536)).run Try.prog (W.alloc (.cells made 5)) = .ok (.string long) (W.alloc (.cells made 5))) := by
  obtain ⟨n, hn⟩ : ∃ n : Nat, n = 65536 := ⟨_, rfl⟩
  refine ⟨madeCells #[.int .u8 0] n, strOfNums (List.replicate n 0), by rw [VD.str_size, List.length_replicate, hn], ?_, fun W => ?_⟩
  · have h := print_make (P := Try.prog) 22 5 .u8 1 Try.underlying22 hinfo5 (by decide) n (by omega)
    rw [show (n : Int) = 65536 by omega] at h
    intro W
    rw [h W, hn]
  · have h := C_lit (kd := .u8) (w := W.alloc (.cells (madeCells #[.int .u8 0] n) 5)) (List.replicate n (0 : Int)) (by rw [List.length_replicate]; omega) (ty := 5) (MapKept.heap_alloc _ _).1 (made_zeros n)
    rw [List.length_replicate] at h
    rw [← hn]
    exact Kd.C_string Try.underlying22 Try.underlying5 Try.underlying9 h
theorem C_nil (kd : IntKind) (w : World) : Kd.C (Kd.int kd) w none 0 [] := Kd.C_of_reads (d := (0 : Int)) (h1 := fun _ => rfl) ⟨rfl, by decide, fun h => absurd h (by decide)⟩
theorem writes_nil (s : ByteArray) (hs : s.size ≤ 65536) (w : World) : Calls Try.prog 4 #[.int .i64 0, .string s, .slice none 0 0] w fun e w' => e = .returned (.bool true) ∧ Below w.heap.size w w' :=
  writes_call 0 s none 0 0 [] w (C_nil _ _) rfl (Nat.le_refl _) (by decide) (by omega) (by decide) (by simp)
theorem reads_nil (W : World) : Calls Try.prog 5 #[.slice none 0 0, .slice (some ⟨W.heap.size, 0, none⟩) 1 1] (W.alloc (.cells #[.int .i64 (-1)] 3)) fun e w' => e = .returned (.bool true) ∧ Below (W.alloc (.cells #[.int .i64 (-1)] 3)).heap.size (W.alloc (.cells #[.int .i64 (-1)] 3)) w' :=
  VF.walk none 0 [] _ 1 [-1] _ (C_nil _ _) (Nat.le_refl _) (by decide) (by simp) (C_lit [-1] (by decide) (ty := 3) (MapKept.heap_alloc _ _).1 rfl) (by decide) (by decide)
/-- The numbers of the statement. -/
def endsL : List Int := [-1, 0, 1, 127, 128, 16383, 16384, 9007199254740991, 9007199254740992, 18014398509481982, 18014398509481983, -9007199254740991, -9007199254740992, 4611686018427387904, -9223372036854775808]
theorem endsL_wf : ∀ x ∈ endsL, (Lit.int .i64 x).wf = true := by decide
theorem rd_mem (l : List Int) (i : Int) (h0 : 0 ≤ i) (h1 : i < l.length) : rd l i ∈ l := by
  unfold rd
  rw [List.getD_eq_getElem?_getD, List.getElem?_eq_getElem (by omega)]
  exact List.getElem_mem _
theorem hinfo3 : (Try.prog.info? 3).map (fun i => (i.zero, i.size, i.bytes)) = some (some (.int .i64 0), 1, 8) := by kernel_rfl
set_option maxHeartbeats 6400000 in
set_option maxRecDepth 100000 in
theorem walk (w : World) : Calls Try.prog 8 #[] w fun e w' => e = .returned (.bool true) ∧ Below w.heap.size w w' := by
  go_enter Try.func8, Try.ntmps8
  go_wp2_with fail
  go_loopw [1, 2] (fun p i wr => ∃ (k : Nat) (pa : Option Addr), k ≤ 2 ∧ i = .int .i64 k ∧ p = .pointer pa ∧ Aside0 (Nil wr pa) ∧ Aside0 (Below w.heap.size w wr)) (fun _ i _ => 2 - (intOf i).toNat)
  case atStart => exact ⟨0, none, by decide, rfl, rfl, ⟨Or.inl rfl⟩, ⟨Below.refl _ _⟩⟩
  case round =>
    obtain ⟨k, pa, hk, rfl, rfl, HN, HB⟩ := hrel
    by_cases hlt : k < 2
    · have hki : (k : Int) < 2 := by omega
      go_wp2_with (first | (go_at_call 25; (with_reducible refine (nil_U _ _ HN.out).mono ?_); rintro x w' ⟨rfl, rfl⟩) | (go_at_call 27; (with_reducible refine (nil_S _ _ HN.out).mono ?_); rintro x w' ⟨rfl, rfl⟩) | (go_at_call 29; (with_reducible refine (nil_Text _ _ _ HN.out).mono ?_); rintro x w' ⟨rfl, rfl⟩) | (go_at_call 31; (with_reducible refine (nil_Err _ _ HN.out).mono ?_); rintro x w' ⟨rfl, rfl⟩) | (go_at_call 32; (with_reducible refine (nil_Left _ _ HN.out).mono ?_); rintro x w' ⟨rfl, rfl⟩))
      go_roundw
      case rel => exact ⟨k + 1, _, by omega, by go_num, rfl, ⟨Or.inr ⟨_, rfl, by simp⟩⟩, ⟨below_alloc HB.out _⟩⟩
      case measure => simp [intOf]; omega
    · have hki : ¬ ((k : Int) < 2) := by omega
      go_wp2_with fail
      obtain ⟨w1, hw1⟩ : ∃ w1, w1 = wr.alloc (.cells (endsL.map (Value.int .i64)).toArray 3) := ⟨_, rfl⟩
      obtain ⟨be, hbe⟩ : ∃ be, be = wr.heap.size := ⟨_, rfl⟩
      have HC : Aside0 (Kd.C (Kd.int .i64) w1 (some ⟨be, 0, none⟩) 15 endsL) := ⟨C_lit endsL (by decide) (ty := 3) (by rw [hw1, hbe]; exact (MapKept.heap_alloc _ _).1) rfl⟩
      have HB1 : Aside0 (Below w.heap.size w w1) := ⟨by rw [hw1]; exact below_alloc HB.out _⟩
      have hw2 := hw1
      simp only [endsL, List.map_cons, List.map_nil] at hw2
      rw [← hbe, ← hw2]
      clear hw1 hw2 HB HN hbe
      go_loopw [4] (fun i wr => ∃ (k : Nat), k ≤ 15 ∧ i = .int .i64 k ∧ Aside0 (Kd.C (Kd.int .i64) wr (some ⟨be, 0, none⟩) 15 endsL) ∧ Aside0 (Below w.heap.size w wr)) (fun i _ => 15 - (intOf i).toNat)
      case atStart => exact ⟨0, by decide, rfl, HC, HB1⟩
      case round =>
        clear HC HB1
        obtain ⟨k, hk, rfl, HC, HB⟩ := hrel
        by_cases hlt : k < 15
        · have hki : (k : Int) < 15 := by omega
          have hk0 : (0 : Int) ≤ k := by omega
          go_wp2_with fail
          obtain ⟨aq, eq, hv⟩ := Kd.at_int HC.out (k : Int) hk0 hki
          obtain rfl := Option.some.inj eq
          rw [show ((k : Int)).toNat = k from rfl, add_plain] at hv
          obtain ⟨v, hv1⟩ : ∃ v, v = rd endsL (k : Int) := ⟨_, rfl⟩
          rw [← hv1] at hv
          have HV1 : Aside0 (v ∈ endsL) := ⟨by rw [hv1]; exact rd_mem _ _ hk0 (by change (k : Int) < 15; exact hki)⟩
          obtain ⟨i0, hi0, _, hsz, _⟩ := info_parts hinfo3
          have hct := cut_to (P := Try.prog) 29 3 .i64 Try.underlying29 hi0 (some ⟨be, 0, none⟩) 15 15 (k : Int) hk0 (by omega) (Nat.le_refl _)
          rw [show ((k : Int)).toNat = k from rfl] at hct
          clear hv1 hi0 hsz
          have hrt := Kd.C_take (m := k) (show Kd.C (Kd.int .i64) wr (some ⟨be, 0, none⟩) endsL.length endsL from HC.out) (by change k ≤ 15; omega)
          have hlen : (endsL.take k).length = k := by rw [List.length_take]; exact Nat.min_eq_left (by change k ≤ 15; omega)
          rw [hlen] at hrt
          have HT := Aside0.mk hrt
          have HLEN := Aside0.mk hlen
          have HLT : Aside0 (k < 15) := ⟨hlt⟩
          have HV2 := Aside0.mk (endsL_wf v HV1.out)
          have HTW : Aside0 (∀ x ∈ endsL.take k, (Lit.int .i64 x).wf = true) := ⟨fun x hx => endsL_wf x (List.mem_of_mem_take hx)⟩
          clear hrt hlen
          go_wp2_with fail
          go_region_held3 (fun w' => w'.cell? ⟨be, k, none⟩ = some (.int .i64 v)) (first | assumption | go_keep) ((first | (go_at_call 4; (with_reducible refine (writes_call v _ _ k 15 (endsL.take k) _ (Kd.C_drew HT.out) HLEN.out (by have := HLT.out; omega) HV2.out (by decide) (by rw [HLEN.out]; have := HLT.out; omega) HTW.out).mono ?_); rintro y w2 ⟨rfl, hb⟩; have hv2 : w2.cell? ⟨be, k, none⟩ = some (.int .i64 v) := (pw_cell_below hb (by with_unfolding_all exact hv)); have HC2 := Aside0.mk (Kd.C_below (Kd.C_drew HC.out) hb); have HB2 := Aside0.mk (below_step (below_drew1 HB.out) hb); clear hb) | (go_at_call 6; (with_reducible refine (back_call v _).mono ?_); rintro y w4 ⟨rfl, hb⟩; have HC4 := Aside0.mk (Kd.C_below (Kd.C_alloc HC2.out _) hb); have HB4 := Aside0.mk (below_step (below_alloc HB2.out _) hb); have hv4 := (pw_cell_below hb (pw_cell_below (below_alloc (Below.refl _ _) _) hv2)); clear hb)))
          clear HC HB HC2 HB2 hv hv2 HT hct HTW HLEN
          go_wp2_with fail
          go_loopw [5] (fun i wr => ∃ (k2 : Nat), k2 ≤ 15 ∧ i = .int .i64 k2 ∧ wr.cell? ⟨be, k, none⟩ = some (.int .i64 v) ∧ Aside0 (Kd.C (Kd.int .i64) wr (some ⟨be, 0, none⟩) 15 endsL) ∧ Aside0 (Below w.heap.size w wr)) (fun i _ => 15 - (intOf i).toNat)
          case atStart => exact ⟨0, by decide, rfl, hv4, HC4, HB4⟩
          case round =>
            clear HC4 HB4 hv4
            obtain ⟨k2, hk2, rfl, hv, HC, HB⟩ := hrel
            by_cases hlt2 : k2 < 15
            · have hki2 : (k2 : Int) < 15 := by omega
              have hk20 : (0 : Int) ≤ k2 := by omega
              obtain ⟨aq, eq, hu⟩ := Kd.at_int HC.out (k2 : Int) hk20 hki2
              obtain rfl := Option.some.inj eq
              rw [show ((k2 : Int)).toNat = k2 from rfl, add_plain] at hu
              obtain ⟨u, hu1⟩ : ∃ u, u = rd endsL (k2 : Int) := ⟨_, rfl⟩
              rw [← hu1] at hu
              clear hu1
              go_wp2_with fail
              go_region_held3 (fun w' => w'.cell? ⟨be, k, none⟩ = some (.int .i64 v) ∧ w'.cell? ⟨be, k2, none⟩ = some (.int .i64 u)) (first | exact ⟨by assumption, by assumption⟩ | go_keep) ((first | (go_at_call 3; (with_reducible refine (VS.walk v u _).mono ?_); rintro y w2 ⟨rfl, hb⟩; have hv2 : w2.cell? ⟨be, k, none⟩ = some (.int .i64 v) := (pw_cell_below hb (by with_unfolding_all exact hv)); have hu2 : w2.cell? ⟨be, k2, none⟩ = some (.int .i64 u) := (pw_cell_below hb (by with_unfolding_all exact hu)); have HC2 := Aside0.mk (Kd.C_below (Kd.C_drew HC.out) hb); have HB2 := Aside0.mk (below_step (below_drew1 HB.out) hb); clear hb) | (go_at_call 5; (with_reducible (first | refine (reads_at (k : Int) (k2 : Int) w2).mono ?_ | refine (reads_at' (k : Int) (k2 : Int) w2).mono ?_)); rintro y w4 ⟨rfl, hb⟩; have HC4 := Aside0.mk (Kd.C_below (Kd.C_alloc (Kd.C_alloc HC2.out _) _) hb); have HB4 := Aside0.mk (below_step (below_alloc (below_alloc HB2.out _) _) hb); have hv4 := (pw_cell_below hb (pw_cell_below (below_alloc (below_alloc (Below.refl _ _) _) _) hv2)); have hu4 := (pw_cell_below hb (pw_cell_below (below_alloc (below_alloc (Below.refl _ _) _) _) hu2)); clear hb)))
              all_goals clear hv hu hv2 hu2 HC HB HC2 HB2 hu4
              all_goals go_wp2_with fail
              all_goals exact ⟨⟨k2 + 1, by omega, by go_num, hv4, HC4, HB4⟩, by simp [intOf]; omega⟩
            · have hki2 : ¬ ((k2 : Int) < 15) := by omega
              go_wp2_with fail
              go_roundw
              case rel => exact ⟨k + 1, by omega, by go_num, HC, HB⟩
              case measure => simp [intOf]; omega
        · have hki : ¬ ((k : Int) < 15) := by omega
          obtain ⟨made, long, hls, hmk, hst⟩ := long_facts
          have HLS := Aside0.mk hls
          have hst1 := hst wr
          clear hst
          go_wp2_with fail
          refine (VS.awake_calls _).mono ?_
          rintro y w2 ⟨rfl, hb⟩
          have HB2 := Aside0.mk (below_step (below_alloc HB.out _) hb)
          clear hb HB HC hst1 hmk
          go_wp2_with fail
          refine (writes_nil long (Nat.le_of_eq HLS.out) _).mono ?_
          rintro y w3 ⟨rfl, hb⟩
          have HB3 := Aside0.mk (below_step HB2.out hb)
          clear hb HB2
          go_wp2_with fail
          refine (writes_nil (long.extract 1 65536) (by rw [ByteArray.size_extract]; have := HLS.out; omega) _).mono ?_
          rintro y w4 ⟨rfl, hb⟩
          have HB4 := Aside0.mk (below_step HB3.out hb)
          clear hb HB3
          go_wp2_with fail
          refine (reads_call [3, 65, 66] [8] w4 (by simp) (by simp) (by simp)).mono ?_
          rintro y w5 ⟨rfl, hb⟩
          have HB5 := Aside0.mk (below_step (below_alloc (below_alloc HB4.out _) _) hb)
          clear hb HB4
          go_wp2_with fail
          refine (reads_call [3, 65, 66, 67] [11, 0] w5 (by simp) (by simp) (by simp)).mono ?_
          rintro y w6 ⟨rfl, hb⟩
          have HB6 := Aside0.mk (below_step (below_alloc (below_alloc HB5.out _) _) hb)
          clear hb HB5
          go_wp2_with fail
          refine (reads_nil w6).mono ?_
          rintro y w7 ⟨rfl, hb⟩
          have HB7 := Aside0.mk (below_step (below_alloc HB6.out _) hb)
          clear hb HB6
          go_wp2_with fail
          go_ret
          exact ⟨rfl, HB7.out⟩
#print axioms walk
end Go.Proofs.Ytmjedmiaebbjaaa.VG
