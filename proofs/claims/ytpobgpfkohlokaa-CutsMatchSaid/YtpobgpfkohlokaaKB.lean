/- What has been kept since: every block but those of S. -/
import Derived.Test.YtpobgpfkohlokaaPCx0
import Derived.Test.YtpobgpfkohlokaaShelf
namespace Go.Proofs.Ytpobgpfkohlokaa.PC
open Go.RowKit Go.Lib Go.Proofs.YtpobgpfkohlokaaW.PrintWords Go.Proofs.YtpobgpfkohlokaaW.PrintLast Go.Proofs.YtpobgpfkohlokaaW.PrintMore
set_option linter.unusedVariables false
set_option linter.unusedSimpArgs false
theorem w64 {x : Int} (h0 : -9223372036854775808 ≤ x) (h1 : x ≤ 9223372036854775807) : wrap64 x = x := by unfold wrap64; omega
/-- From w to w': the streams stay, and every block but those of S. -/
structure Kb (S : Nat → Prop) (w w' : World) : Prop where
  os : w'.os = w.os
  tape : w'.tape = w.tape
  output : w'.output = w.output
  size : w.heap.size ≤ w'.heap.size
  block : ∀ k, k < w.heap.size → ¬ S k → w'.heap[k]? = w.heap[k]?
namespace Kb
variable {S S' : Nat → Prop} {w w1 w2 : World}
theorem refl (S : Nat → Prop) (w : World) : Kb S w w := ⟨rfl, rfl, rfl, Nat.le_refl _, fun _ _ _ => rfl⟩
theorem of_below (h : Below w.heap.size w w1) : Kb S w w1 := ⟨h.os, h.tape, h.output, h.size, fun k hk _ => h.block k hk⟩
theorem then_ (h : Kb S w w1) (k : Kb S' w1 w2) (hs : ∀ i, S' i → S i ∨ w.heap.size ≤ i) : Kb S w w2 :=
  ⟨k.os.trans h.os, k.tape.trans h.tape, k.output.trans h.output, Nat.le_trans h.size k.size, fun i hi hn => (k.block i (Nat.lt_of_lt_of_le hi h.size) (fun h2 => (hs i h2).elim hn (fun h3 => by omega))).trans (h.block i hi hn)⟩
theorem trans (h : Kb S w w1) (k : Kb S w1 w2) : Kb S w w2 := h.then_ k (fun _ h => .inl h)
theorem below (h : Kb S w w1) (k : Below w1.heap.size w1 w2) : Kb S w w2 := h.then_ (Kb.of_below (S := fun _ => False) k) (fun _ h => h.elim)
theorem alloc (h : Kb S w w1) (o : Obj) : Kb S w (w1.alloc o) := h.below (below_alloc (Below.refl _ _) o)
theorem drew (h : Kb S w w1) : Kb S w w1.drew := h.below (below_drew1 (Below.refl _ _))
theorem drewN (h : Kb S w w1) (n : Nat) : Kb S w (w1.drewN n) := h.below (pw_below_drewN (Below.refl _ _) n)
theorem setCell (h : Kb S w w1) {p : Addr} (hp : S p.block ∨ w.heap.size ≤ p.block) (u : Value) : Kb S w (w1.setCell p u) :=
  h.then_ (S' := fun k => k = p.block) ⟨rfl, rfl, rfl, by simp [World.setCell], fun i _ hn => Below.heap_setCell w1 p u i hn⟩ (fun k hk => by rw [hk]; exact hp)
theorem mono (h : Kb S w w1) (hs : ∀ k, S k → S' k) : Kb S' w w1 := ⟨h.os, h.tape, h.output, h.size, fun k hk hn => h.block k hk (fun h2 => hn (hs k h2))⟩
theorem shrink (h : Kb S w w1) (hs : ∀ k, k < w.heap.size → S k → S' k) : Kb S' w w1 := ⟨h.os, h.tape, h.output, h.size, fun k hk hn => h.block k hk (fun h2 => hn (hs k hk h2))⟩
theorem to_below (h : Kb S w w1) (hs : ∀ k, S k → w.heap.size ≤ k) : Below w.heap.size w w1 := ⟨h.os, h.tape, h.output, h.size, fun k hk => h.block k hk (fun h2 => by have := hs k h2; omega)⟩
theorem grown (h : Kb S w w1) {row : Option Nat} (hg : w1.grownBy w2 row) (hr : ∀ k, row = some k → S k ∨ w.heap.size ≤ k) : Kb S w w2 :=
  h.then_ (S' := fun k => row = some k) ⟨hg.os, hg.tape, hg.output, hg.size, fun i hi hn => hg.block i hi (fun he => hn he.symm)⟩ hr
theorem blk {g : Nat} {o : Obj} (hb : w.heap[g]? = some o) (hk : Kb S w w1) (hne : ¬ S g) : w1.heap[g]? = some o := (hk.block g (blk_lt hb) hne).trans hb
theorem cell {a : Addr} {v : Value} (hc : w.cell? a = some v) (hk : Kb S w w1) (hne : ¬ S a.block) : w1.cell? a = some v := by
  have := hk.block a.block (World.block_lt_of_cell? w a hc) hne
  simpa [World.cell?, this] using hc
end Kb
end Go.Proofs.Ytpobgpfkohlokaa.PC
