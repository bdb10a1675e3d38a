/- Literal rows, as what is read of them. -/
import Derived.Test.YtoihjhpabccigaaSR
import Derived.MapKept
import Derived.Test.YtoihjhpabccigaaWRepsOne
namespace Go.Proofs.Ytoihjhpabccigaa.OF
open Go.RowKit Go.Proofs.Ytoihjhpabccigaa.PR Go.Proofs.YtoihjhpabccigaaW.PrintWords
theorem Reps_c1 {α : Type} {R : α → List Value → Prop} {ps : List α} {cs : List Value} {p : α} {va : Value} (hp : R p [va]) (h : Reps R 1 ps cs) : Reps R 1 (p :: ps) (va :: cs) := Reps.front hp rfl h rfl
theorem C_lit {α : Type} (d : Kd α) (W : World) (xs : List α) (cells : Array Value) (e : Nat) (hn : xs.length ≤ 1000000) (hr : Reps (d.K (W.alloc (.cells cells e))) d.sz xs cells.toList) :
    d.C (W.alloc (.cells cells e)) (some ⟨W.heap.size, 0, none⟩) xs.length xs := by
  refine ⟨rfl, by omega, fun _ => ⟨_, rfl, fun j p hj => ⟨_, d.K_len (hr.2 j p hj), hr.2 j p hj, fun i u hu => ?_⟩⟩⟩
  have hl : i < d.sz := by
    have h1 := (List.getElem?_eq_some_iff.1 hu).1
    rw [d.K_len (hr.2 j p hj)] at h1
    exact h1
  rw [List.getElem?_take_of_lt hl, List.getElem?_drop] at hu
  obtain ⟨q, hq⟩ : ∃ q, q = j * d.sz + i := ⟨_, rfl⟩
  rw [← hq] at hu ⊢
  have e1 : Addr.add ⟨W.heap.size, 0, none⟩ q = ⟨W.heap.size, q, none⟩ := by
    simp [Addr.add]
    omega
  rw [e1, blk_cell (MapKept.heap_alloc W (.cells cells e)).1]
  rw [Array.getElem?_toList] at hu
  exact hu
theorem C_s1 (a b : Int) (W : World) : Kd.C k38 (W.alloc (.cells #[.int .i64 a, .int .i64 b] 38)) (some ⟨W.heap.size, 0, none⟩) 1 [⟨a, b⟩] :=
  C_lit k38 W [⟨a, b⟩] _ 38 (by simp) (Reps.c2 (k38_mk _ ⟨a, b⟩) (Reps.none _ _))
theorem C_s2 (a b c d : Int) (W : World) : Kd.C k38 (W.alloc (.cells #[.int .i64 a, .int .i64 b, .int .i64 c, .int .i64 d] 38)) (some ⟨W.heap.size, 0, none⟩) 2 [⟨a, b⟩, ⟨c, d⟩] :=
  C_lit k38 W [⟨a, b⟩, ⟨c, d⟩] _ 38 (by simp) (Reps.c2 (k38_mk _ ⟨a, b⟩) (Reps.c2 (k38_mk _ ⟨c, d⟩) (Reps.none _ _)))
theorem C_s4 (a b c d e f g h : Int) (W : World) : Kd.C k38 (W.alloc (.cells #[.int .i64 a, .int .i64 b, .int .i64 c, .int .i64 d, .int .i64 e, .int .i64 f, .int .i64 g, .int .i64 h] 38)) (some ⟨W.heap.size, 0, none⟩) 4 [⟨a, b⟩, ⟨c, d⟩, ⟨e, f⟩, ⟨g, h⟩] :=
  C_lit k38 W [⟨a, b⟩, ⟨c, d⟩, ⟨e, f⟩, ⟨g, h⟩] _ 38 (by simp) (Reps.c2 (k38_mk _ ⟨a, b⟩) (Reps.c2 (k38_mk _ ⟨c, d⟩) (Reps.c2 (k38_mk _ ⟨e, f⟩) (Reps.c2 (k38_mk _ ⟨g, h⟩) (Reps.none _ _)))))
theorem C_i2 (a b : Int) (W : World) : Kd.C (Kd.int .i64) (W.alloc (.cells #[.int .i64 a, .int .i64 b] 3)) (some ⟨W.heap.size, 0, none⟩) 2 [a, b] :=
  C_lit (Kd.int .i64) W [a, b] _ 3 (by simp) (Reps_c1 (rfl : (Kd.int .i64).K _ a [.int .i64 a]) (Reps_c1 (rfl : (Kd.int .i64).K _ b [.int .i64 b]) (Reps.none _ _)))
theorem C_i4 (a b c d : Int) (W : World) : Kd.C (Kd.int .i64) (W.alloc (.cells #[.int .i64 a, .int .i64 b, .int .i64 c, .int .i64 d] 3)) (some ⟨W.heap.size, 0, none⟩) 4 [a, b, c, d] :=
  C_lit (Kd.int .i64) W [a, b, c, d] _ 3 (by simp) (Reps_c1 (rfl : (Kd.int .i64).K _ a [.int .i64 a]) (Reps_c1 (rfl : (Kd.int .i64).K _ b [.int .i64 b]) (Reps_c1 (rfl : (Kd.int .i64).K _ c [.int .i64 c]) (Reps_c1 (rfl : (Kd.int .i64).K _ d [.int .i64 d]) (Reps.none _ _)))))
theorem K_row {A : Option Addr} {c : Nat} {l : List S38} {W : World} (h : Kd.C k38 W A l.length l) (hc : l.length ≤ c) (o : Obj) : (Kd.slice 38 k38).K (W.alloc o) l [.slice A l.length c] := ⟨A, c, rfl, hc, Kd.C_alloc h o⟩
theorem C_l2 {A0 A1 : Option Addr} {c0 c1 : Nat} {l0 l1 : List S38} {W : World} (h0 : Kd.C k38 W A0 l0.length l0) (g0 : l0.length ≤ c0) (h1 : Kd.C k38 W A1 l1.length l1) (g1 : l1.length ≤ c1) :
    Kd.C (Kd.slice 38 k38) (W.alloc (.cells #[.slice A0 l0.length c0, .slice A1 l1.length c1] 24)) (some ⟨W.heap.size, 0, none⟩) 2 [l0, l1] :=
  C_lit (Kd.slice 38 k38) W [l0, l1] _ 24 (by simp) (Reps_c1 (K_row h0 g0 _) (Reps_c1 (K_row h1 g1 _) (Reps.none _ _)))
theorem C_l3 {A0 A1 A2 : Option Addr} {c0 c1 c2 : Nat} {l0 l1 l2 : List S38} {W : World} (h0 : Kd.C k38 W A0 l0.length l0) (g0 : l0.length ≤ c0) (h1 : Kd.C k38 W A1 l1.length l1) (g1 : l1.length ≤ c1) (h2 : Kd.C k38 W A2 l2.length l2) (g2 : l2.length ≤ c2) :
    Kd.C (Kd.slice 38 k38) (W.alloc (.cells #[.slice A0 l0.length c0, .slice A1 l1.length c1, .slice A2 l2.length c2] 24)) (some ⟨W.heap.size, 0, none⟩) 3 [l0, l1, l2] :=
  C_lit (Kd.slice 38 k38) W [l0, l1, l2] _ 24 (by simp) (Reps_c1 (K_row h0 g0 _) (Reps_c1 (K_row h1 g1 _) (Reps_c1 (K_row h2 g2 _) (Reps.none _ _))))
end Go.Proofs.Ytoihjhpabccigaa.OF
