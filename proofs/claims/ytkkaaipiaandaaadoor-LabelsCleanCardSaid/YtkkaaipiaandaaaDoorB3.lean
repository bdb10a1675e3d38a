/- The builder of strings: WriteByte, WriteString, String; labels.Key, of short labels. -/
import Derived.Test.YtkkaaipiaandaaaDoorB2
import Derived.Lib.ItoaNum
import Derived.Lib.AppendIntMem
namespace Go.Proofs
open Go.Shelf
def Tryd.lays167_ren : Go.Shelf.Ren := ⟨fun | 167 => 53 | 240 => 56 | 276 => 75 | n => n, fun | 31 => 32 | 9 => 9 | 3 => 3 | 4 => 4 | 0 => 0 | 20 => 20 | 72 => 58 | 76 => 61 | 70 => 56 | 37 => 37 | 75 => 60 | 127 => 80 | 164 => 96 | 5 => 5 | 80 => 64 | n => n, fun | n => n⟩
theorem Tryd.lays167 : Go.Proofs.Lays.n167 Tryd.prog Tryd.lays167_ren := {
  mixed := by kernel_rfl
  f167 := Tryd.func53.trans (congrArg some (by kernel_rfl))
  f240 := Tryd.func56.trans (congrArg some (by kernel_rfl))
  f276 := Tryd.func75.trans (congrArg some (by kernel_rfl))
  t0 := Tryd.underlying0
  a0 := Tryd.isAgg0
  z0 := Tryd.sizeOf0
  v0 := Tryd.zeroValue0
  t4 := Tryd.underlying4
  a4 := Tryd.isAgg4
  z4 := Tryd.sizeOf4
  v4 := Tryd.zeroValue4
  t5 := Tryd.underlying5
  a5 := Tryd.isAgg5
  z5 := Tryd.sizeOf5
  v5 := Tryd.zeroValue5
  t9 := Tryd.underlying9
  a9 := Tryd.isAgg9
  z9 := Tryd.sizeOf9
  v9 := Tryd.zeroValue9
  t20 := Tryd.underlying20
  a20 := Tryd.isAgg20
  z20 := Tryd.sizeOf20
  v20 := Tryd.zeroValue20
  t37 := Tryd.underlying37
  a37 := Tryd.isAgg37
  z37 := Tryd.sizeOf37
  v37 := Tryd.zeroValue37
  t70 := Tryd.underlying56
  a70 := Tryd.isAgg56
  z70 := Tryd.sizeOf56
  v70 := Tryd.zeroValue56
  t72 := Tryd.underlying58
  a72 := Tryd.isAgg58
  z72 := Tryd.sizeOf58
  v72 := Tryd.zeroValue58
  t75 := Tryd.underlying60
  a75 := Tryd.isAgg60
  z75 := Tryd.sizeOf60
  v75 := Tryd.zeroValue60
  t164 := Tryd.underlying96
  a164 := Tryd.isAgg96
  z164 := Tryd.sizeOf96
  v164 := Tryd.zeroValue96 }
theorem Tryd.Builder_Extra_167 : Builder.Extra Tryd.prog Tryd.lays167_ren := {
  sizeBuilder := by kernel_rfl
  liesBuilder := by kernel_rfl
  t5 := Tryd.underlying5
  a5 := Tryd.isAgg5
  z5 := Tryd.sizeOf5
  v5 := Tryd.zeroValue5
  infoByte := by kernel_rfl
  cellsByte := by kernel_rfl
  sizeByte := by kernel_rfl
  neB5 := by decide }
open Go.RowKit in
theorem Tryd.Builder_WriteByte_k (B b : Nat) (bs : List Value) (c : Int) (w : World) (h : Lib.IsBuilderF 58 5 B b bs w) (hlen : bs.length + 1 ≤ 140737488355328) (hBw : B ≤ w.heap.size) :
    Calls Tryd.prog 53 #[.pointer (some ⟨b, 0, none⟩), .int .u8 c] w fun e w' => e = .returned .nilIface ∧ (Lib.BuilderAtF 58 5 B b (.pointer (some ⟨b, 0, none⟩)) (bs ++ [.int .u8 c]) w' ∧ Below B w w' ∧ Lib.OthersKept 5 (some b) w w') := Any.Builder_WriteByte_k Tryd.lays167 Tryd.Builder_Extra_167 B b bs c w h hlen hBw
open Go.RowKit in
theorem Tryd.Builder_WriteString_k (B b : Nat) (bs : List Value) (s : ByteArray) (w : World) (h : Lib.IsBuilderF 58 5 B b bs w) (hlen : bs.length + s.size ≤ 140737488355328) (hBw : B ≤ w.heap.size) :
    Calls Tryd.prog 37 #[.pointer (some ⟨b, 0, none⟩), .string s] w fun e w' => e = .returned (.tuple #[.int .i64 s.size, .nilIface]) ∧ (Lib.BuilderAtF 58 5 B b (.pointer (some ⟨b, 0, none⟩)) (bs ++ Lib.strCells s) w' ∧ Below B w w' ∧ Lib.OthersKept 5 (some b) w w') := Any.Builder_WriteString_k { Tryd.lays156 with } Tryd.Builder_Extra_156 B b bs s w h hlen hBw
end Go.Proofs
namespace Go.Proofs.YtkkaaipiaandaaaDoor.PC
open Go.RowKit Go.Lib Go.Shelf Go.Maps Go.Proofs.YtkkaaipiaandaaaDoorW.PrintWords Go.Proofs.YtkkaaipiaandaaaDoorW.PrintLast Go.Proofs.YtkkaaipiaandaaaDoorW.PrintMore
set_option linter.unusedVariables false
set_option linter.unusedSimpArgs false
theorem Kb.of_below_base {B : Nat} {w w' : World} (h : Below B w w') : Kb (fun k => B ≤ k) w w' :=
  ⟨h.os, h.tape, h.output, h.size, fun k hk hs => h.block k (Nat.lt_of_not_le hs)⟩
theorem bld_new {W : World} {b : Nat} (h : W.heap[b]? = some (.cells #[.pointer none, .slice none 0 0] 58 (0, 0))) : Lib.IsBuilderF 58 5 b b [] W :=
  .inl ⟨Nat.le_refl _, _, h, World.ownsRowF_nil _ _ _ _, by intro h; cases h⟩
theorem bld_kb {W W' : World} {B b : Nat} {bs : List Value} (h : Lib.IsBuilderF 58 5 B b bs W) (hk : Kb (fun _ => False) W W') : Lib.IsBuilderF 58 5 B b bs W' := by
  have key : ∀ p, Lib.BuilderAtF 58 5 B b p bs W → Lib.BuilderAtF 58 5 B b p bs W' := by
    rintro p ⟨hB, v, hb, ⟨h1, h2⟩, hne⟩
    refine ⟨hB, v, Kb.blk hb hk (fun h => h), ⟨h1, ?_⟩, hne⟩
    rcases h2 with h2 | ⟨g, cap, cur, fz, e1, e2, e3, e4⟩
    · exact .inl h2
    · exact .inr ⟨g, cap, cur, fz, e1, e2, by rw [hk.block g (blk_lt_any e3) (fun h => h)]; exact e3, e4⟩
  rcases h with h | h
  · exact .inl (key _ h)
  · exact .inr (key _ h)
/-- A text behind how many bytes it has. -/
def cntP (b : ByteArray) : List UInt8 := Lib.decDigits b.size ++ [58] ++ b.data.toList
/-- labels.Key, plainly. -/
def keyP (l : List PB) : List UInt8 := l.flatMap (fun p => cntP p.1 ++ cntP p.2)
theorem dig_len : ∀ u, u < 100 → (Lib.decDigits u).length ≤ 2 := by decide +kernel
theorem cnt_len {b : ByteArray} (h : b.size < 100) : (cntP b).length ≤ 102 := by
  unfold cntP
  rw [List.length_append, List.length_append, lk_size]
  have := dig_len _ h
  show _ + 1 + _ ≤ _
  omega
theorem key_len : ∀ (l : List PB), (∀ p ∈ l, p.1.size < 100 ∧ p.2.size < 100) → (keyP l).length ≤ l.length * 204
  | [], _ => Nat.zero_le _
  | p :: l, h => by
    show ((cntP p.1 ++ cntP p.2) ++ keyP l).length ≤ _
    have h1 := cnt_len (h p List.mem_cons_self).1
    have h2 := cnt_len (h p List.mem_cons_self).2
    have h3 := key_len l (fun q hq => h q (List.mem_cons_of_mem _ hq))
    rw [List.length_append, List.length_append, List.length_cons]
    omega
theorem key_take {l : List PB} {i : Nat} {p : PB} (h : l[i]? = some p) : keyP (l.take (i + 1)) = keyP (l.take i) ++ (cntP p.1 ++ cntP p.2) := by
  unfold keyP
  rw [List.take_add_one, h, List.flatMap_append]
  simp
theorem cells_cat (K : List UInt8) (t : ByteArray) : Lib.byteCells K ++ Lib.strCells t = Lib.byteCells (K ++ t.data.toList) := by
  unfold Lib.byteCells Lib.strCells
  rw [List.map_append]
set_option maxHeartbeats 16000000 in
set_option maxRecDepth 100000 in
theorem key_calls (l : List PB) (B : Nat) (v : Value) (w : World) (hr : RowP B w 36 v l) (hl : l.length ≤ 1000) (hz : ∀ p ∈ l, p.1.size < 100 ∧ p.2.size < 100) : Calls Tryd.prog 14 #[v] w fun e w' => (∃ t : ByteArray, e = .returned (.string t) ∧ t.data.toList = keyP l) ∧ Below w.heap.size w w' := by
  obtain ⟨A, c, rfl, hcl⟩ := own_slice hr
  obtain ⟨nl, hnl⟩ : ∃ nl, nl = l.length := ⟨_, rfl⟩
  rw [← hnl] at hcl hl hr ⊢
  have HR := Aside0.mk (show RowP B w 36 (.slice A nl c) l from by rw [hnl] at hr ⊢; exact hr)
  have HN := Aside0.mk hnl
  have HZ := Aside0.mk hz
  have hu25 := Tryd.underlying36
  obtain ⟨b, hb⟩ : ∃ b, b = w.heap.size := ⟨_, rfl⟩
  have HBQ := Aside0.mk hb
  have hnew := World.alloc_heap_new w (.cells #[.pointer none, .slice none 0 0] 58)
  rw [← hb] at hnew
  have HB0 := Aside0.mk (show Below b w (w.alloc (.cells #[.pointer none, .slice none 0 0] 58)) by rw [hb]; exact below_alloc (Below.refl _ _) _)
  have HBD0 := Aside0.mk (bld_new hnew)
  rw [← hb]
  clear hr hnl hz hnew
  go_enter Tryd.func14, Tryd.ntmps14
  go_wp2_with fail
  rw [← hb]
  clear hb
  go_loopg [10] nl (fun g1 v10 wr => ∃ i : Nat, v10 = .int .i64 i ∧ i ≤ nl ∧ Aside0 (i + g1 = nl) ∧ Aside0 (Lib.IsBuilderF 58 5 b b (Lib.byteCells (keyP (l.take i))) wr) ∧ Aside0 (Below b w wr))
  case atStart => exact ⟨0, rfl, Nat.zero_le _, ⟨by omega⟩, HBD0, HB0⟩
  case round =>
    obtain ⟨i, rfl, hin, HI, HBD, HB⟩ := hrel
    by_cases hlt : i < nl
    · have hz1 : (i : Int) < (nl : Int) := by omega
      have hwi : IntKind.i64.wrap ((i : Int) + 1) = ((i + 1 : Nat) : Int) := (i64_w _).trans ((w64 (by omega) (by omega)).trans (by omega))
      obtain ⟨p, hp⟩ : ∃ p, l[i]? = some p := ⟨l[i]'(by rw [← HN.out]; exact hlt), List.getElem?_eq_getElem _⟩
      obtain ⟨r, rfl, -, -, hr0, hr1⟩ := rowP_get HR.out hp
      have c0 := cell_bl (by rw [← HBQ.out]; exact HB.out) hr0
      have c1 := cell_bl (by rw [← HBQ.out]; exact HB.out) hr1
      have HKT := Aside0.mk (key_take hp)
      have HPZ := Aside0.mk (HZ.out p (List.mem_of_getElem? hp))
      have HKL := Aside0.mk (show (keyP (l.take i)).length ≤ 1000 * 204 by
        have := key_len (l.take i) (fun q hq => HZ.out q (List.mem_of_mem_take hq))
        rw [List.length_take] at this
        have := HN.out
        omega)
      obtain ⟨K, hK⟩ : ∃ K, K = keyP (l.take i) := ⟨_, rfl⟩
      rw [← hK] at HBD HKT HKL
      obtain ⟨w1, hw1⟩ : ∃ w1, w1 = (wr.alloc (.cells #[.string p.1, .string p.2] 36)).alloc (.cells #[.string p.1, .string p.2] 9) := ⟨_, rfl⟩
      have hnew9 : w1.heap[wr.heap.size + 1]? = some (.cells #[.string p.1, .string p.2] 9 (0, 0)) := by
        rw [hw1]
        have := World.alloc_heap_new (wr.alloc (.cells #[.string p.1, .string p.2] 36)) (.cells #[.string p.1, .string p.2] 9)
        rwa [World.size_alloc] at this
      have HBD1 := Aside0.mk (show Lib.IsBuilderF 58 5 b b (Lib.byteCells K) w1 by rw [hw1]; exact bld_kb HBD.out (((Kb.refl (fun _ => False) wr).alloc _).alloc _))
      have HB1 := Aside0.mk (show Below b w w1 by
        have h1 := HB.out
        rw [HBQ.out] at h1 ⊢
        rw [hw1]
        exact below_alloc (below_alloc h1 _) _)
      obtain ⟨g9, hg9⟩ : ∃ g9, g9 = wr.heap.size + 1 := ⟨_, rfl⟩
      have HG9 := Aside0.mk (show b < wr.heap.size by
        rcases HBD.out with h | h
        · exact h.lt
        · exact h.lt)
      rw [← hg9] at hnew9
      have HS1 := Aside0.mk hnew9
      clear hr0 hr1 hp hK hnew9 HBD HB
      go_wp2_with fail
      rw [← hw1, ← hg9]
      have HGB := Aside0.mk (show b ≠ g9 by have := HG9.out; omega)
      clear hw1 hg9 c0 c1
      go_loopg [20] 2 (fun g2 v20 ws => ∃ k : Nat, v20 = .int .i64 k ∧ k ≤ 2 ∧ Aside0 (k + g2 = 2) ∧ Aside0 (Lib.IsBuilderF 58 5 b b (Lib.byteCells (K ++ (if k = 0 then [] else if k = 1 then cntP p.1 else cntP p.1 ++ cntP p.2))) ws) ∧ Aside0 (ws.heap[g9]? = some (.cells #[.string p.1, .string p.2] 9 (0, 0))) ∧ Aside0 (Below b w ws))
      case atStart => exact ⟨0, rfl, by omega, ⟨rfl⟩, ⟨by simpa using HBD1.out⟩, HS1, HB1⟩
      case round =>
        obtain ⟨k, rfl, hk2, HI2, HBD, HS, HB⟩ := hrel
        clear HBD1 HS1 HB1
        by_cases h2 : k < 2
        · have hz2 : (k : Int) < 2 := by omega
          have hwk : IntKind.i64.wrap ((k : Int) + 1) = ((k + 1 : Nat) : Int) := (i64_w _).trans ((w64 (by omega) (by omega)).trans (by omega))
          obtain ⟨x, hx⟩ : ∃ x : ByteArray, x = if k = 0 then p.1 else p.2 := ⟨_, rfl⟩
          have hcell : wr.cell? ⟨g9, k, none⟩ = some (.string x) := by
            refine (blk_cell HS.out k).trans ?_
            have : k = 0 ∨ k = 1 := by omega
            rcases this with rfl | rfl
            · rw [hx]; rfl
            · rw [hx]; rfl
          have hxz : x.size < 100 := by
            rw [hx]
            split
            · exact HPZ.out.1
            · exact HPZ.out.2
          obtain ⟨M, hM⟩ : ∃ M, M = K ++ (if k = 0 then [] else if k = 1 then cntP p.1 else cntP p.1 ++ cntP p.2) := ⟨_, rfl⟩
          rw [← hM] at HBD
          have HML := Aside0.mk (show M.length ≤ 1000000 by
            have h1 := HKL.out
            have h3 := cnt_len HPZ.out.1
            have h4 := cnt_len HPZ.out.2
            rw [hM, List.length_append]
            split
            · simp; omega
            · split
              · omega
              · rw [List.length_append]; omega)
          have HNX := Aside0.mk (show K ++ (if k + 1 = 0 then [] else if k + 1 = 1 then cntP p.1 else cntP p.1 ++ cntP p.2) = M ++ cntP x by
            rw [hM, hx, if_neg (Nat.succ_ne_zero k)]
            have : k = 0 ∨ k = 1 := by omega
            rcases this with rfl | rfl
            · simp
            · simp)
          obtain ⟨y, hy⟩ : ∃ y : ByteArray, y = ⟨(Lib.decDigits x.size).toArray⟩ := ⟨_, rfl⟩
          have hit : ∀ W : World, Calls Tryd.prog 38 #[.int .i64 (x.size : Int)] W fun e w' => e = .returned (.string y) ∧ w' = W := fun W => by rw [hy]; exact Tryd.strconv_Itoa_small x.size hxz W
          obtain ⟨z, hz⟩ : ∃ z : ByteArray, z = (y ++ (⟨#[58]⟩ : ByteArray)) ++ x := ⟨_, rfl⟩
          have HZE := Aside0.mk (show z.data.toList = cntP x by
            rw [hz, lk_app, lk_app, hy]
            rfl)
          have hzs : z.size ≤ 1000 := by
            rw [← lk_size, HZE.out]
            have := cnt_len hxz
            omega
          have hys : y.size ≤ 2 := by rw [← lk_size, hy]; exact dig_len _ hxz
          have HZZ := Aside0.mk hz
          have hws := fun (W : World) (h : Lib.IsBuilderF 58 5 b b (Lib.byteCells M) W) (h2 : b ≤ W.heap.size) => Tryd.Builder_WriteString_k b b (Lib.byteCells M) z W h (by unfold Lib.byteCells; rw [List.length_map]; have := HML.out; omega) h2
          have HWS := Aside0.mk hws
          have HIT := Aside0.mk hit
          clear hx hM hy hit hz hws
          go_wp2_with fail
          refine (HIT.out _).mono ?_
          rintro e w2 ⟨rfl, rfl⟩
          go_wp2_with fail
          (try rw [← HZZ.out])
          refine (HWS.out _ HBD.out (by have := HB.out.size; have := HBQ.out; omega)).mono ?_
          rintro e w3 ⟨rfl, hbd, hbb, hok⟩
          have HBD3 := Aside0.mk (show Lib.IsBuilderF 58 5 b b (Lib.byteCells (M ++ cntP x)) w3 by
            rw [cells_cat, HZE.out] at hbd
            exact .inr hbd)
          have HS3 := Aside0.mk (hok g9 _ HS.out (fun h => HGB.out (Option.some.inj h).symm) (fun c fz h => by cases h))
          have HB3 := Aside0.mk (show Below b w w3 by
            have h1 := HB.out
            rw [HBQ.out] at h1 hbb ⊢
            exact below_kb h1 (Kb.of_below_base hbb))
          clear hbd hbb hok
          go_wp2_with fail
          go_roundg (2 - (k + 1))
          case measure => have := HI2.out; omega
          case rel => exact ⟨k + 1, by first | rfl | rw [hwk], by omega, ⟨by have := HI2.out; omega⟩, ⟨by rw [HNX.out]; exact HBD3.out⟩, HS3, HB3⟩
        · have hz2 : ¬ (k : Int) < 2 := by omega
          obtain rfl : k = 2 := by omega
          have HBD4 := Aside0.mk (show Lib.IsBuilderF 58 5 b b (Lib.byteCells (keyP (l.take (i + 1)))) wr by
            rw [HKT.out]
            simpa using HBD.out)
          go_wp2_with fail
          go_roundg (nl - (i + 1))
          case measure => have := HI.out; omega
          case rel => exact ⟨i + 1, by first | rfl | rw [hwi], hlt, ⟨by have := HI.out; omega⟩, HBD4, HB⟩
    · have hz1 : ¬ (i : Int) < (nl : Int) := by omega
      have HE := Aside0.mk (show keyP (l.take i) = keyP l by rw [List.take_of_length_le (by rw [← HN.out]; omega)])
      have hst := Tryd.Builder_String_any_k b b (keyP (l.take i)) wr HBD.out (by have := HB.out.size; have := HBQ.out; omega)
      rw [HE.out] at hst
      go_wp2_with fail
      refine hst.mono ?_
      rintro e w2 ⟨rfl, -, hbb, -⟩
      have HB2 := Aside0.mk (show Below b w w2 by
        have h1 := HB.out
        rw [HBQ.out] at h1 hbb ⊢
        exact below_kb h1 (Kb.of_below_base hbb))
      clear hbb hst
      go_wp2_with fail
      go_ret
      exact ⟨⟨_, rfl, rfl⟩, HB2.out⟩
end Go.Proofs.YtkkaaipiaandaaaDoor.PC
