/- What came in, opened by kinds: from the reading of an argument as data to what the printed walks ask of it. -/
import Derived.OpenShut
import Derived.SizedLaws
import Derived.Lib.SmallJoins
import Derived.ChangeMaps5
import Derived.Test.YtpobgpfkohlokaaWWords
namespace Go.Proofs.Ytpobgpfkohlokaa.OP
open Go.ChangeShapes Go.WideShapes Go.RowKit Go.Proofs.YtpobgpfkohlokaaW.PrintWords
set_option linter.unusedVariables false
/-- Data of type t reads as something of kind K that is W. -/
def Opens (P : Program) (w : World) {α : Type} (K : Kd α) (t : TypeId) (W : α → Prop) : Prop :=
  ∀ (H : Type) (enc : TypeId × Value → H) (spare : Nat → Bool) (held : Bool) (fuel : Nat) (cs : List Value) (x : DataW H × List MemPlace),
    DataW.trod enc P w 0 spare held fuel t cs = some x → (∀ n ∈ x.1.weights P t, n ≤ reachBytes) → ∃ y, K.K w y cs ∧ W y
section
variable {P : Program} {w : World}
theorem opens_int {t : TypeId} {k : IntKind} (ht : P.underlying t = some (.int k)) : Opens P w (Kd.int k) t (fun n => (Lit.int k n).wf = true) := by
  intro H enc spare held fuel cs x h _
  obtain ⟨m, rfl, rfl, hw⟩ := DataW.trod_int ht h
  exact ⟨m, rfl, hw⟩
theorem opens_bool {t : TypeId} (ht : P.underlying t = some .bool) : Opens P w Kd.bool t (fun _ => True) := by
  intro H enc spare held fuel cs x h _
  obtain ⟨m, rfl, rfl⟩ := DataW.trod_bool ht h
  exact ⟨m, rfl, trivial⟩
theorem opens_string {t : TypeId} (ht : P.underlying t = some .string) : Opens P w Kd.string t (fun s => s.size ≤ 140737488351232) := by
  intro H enc spare held fuel cs x h hz
  obtain ⟨s, rfl, rfl, _⟩ := DataW.trod_string ht h
  refine ⟨s, rfl, ?_⟩
  have := hz s.data.toList.length (by simp [DataW.weights])
  rw [Array.length_toList] at this
  exact this
theorem opens_iso {α β : Type} {K : Kd α} {t : TypeId} {W : α → Prop} (h : Opens P w K t W) (f : β → α) (g : α → β) (hfg : ∀ x, f (g x) = x) : Opens P w (Kd.iso K f) t (fun y => W (f y)) := by
  intro H enc spare held fuel cs x hx hz
  obtain ⟨y, hk, hw⟩ := h H enc spare held fuel cs x hx hz
  exact ⟨g y, by show K.K w (f (g y)) cs; rw [hfg]; exact hk, by show W (f (g y)); rw [hfg]; exact hw⟩
/-- A struct's fields from one on. -/
def OpensFs (P : Program) (w : World) {α : Type} (K : Kd α) (fs : List Field) (off : Nat) (W : α → Prop) : Prop :=
  ∀ (H : Type) (enc : TypeId × Value → H) (spare : Nat → Bool) (held : Bool) (m : Nat) (cs : List Value) (xs : List (DataW H × List MemPlace)),
    xs.length = fs.length → (∀ (i : Nat) f, fs[i]? = some f → DataW.trod enc P w 0 spare held m f.type ((cs.drop f.offset).take (P.cellsOf f.type)) = xs[i]?) →
    (∀ n ∈ DataW.weightsEach P (fs.map (·.type)) (xs.map (·.1)), n ≤ reachBytes) → ∃ y, K.K w y ((cs.drop off).take K.sz) ∧ W y
theorem opens_last {α : Type} {K : Kd α} {f : Field} {off : Nat} {W : α → Prop} (h : Opens P w K f.type W) (ho : f.offset = off) (hc : P.cellsOf f.type = K.sz) : OpensFs P w K [f] off W := by
  intro H enc spare held m cs xs hl hx hz
  match xs, hl with
  | [x], _ =>
    have h0 := hx 0 f rfl
    rw [ho, hc] at h0
    exact h H enc spare held m _ x h0 (fun n hn => hz n (by simp only [List.map_cons, List.map_nil, DataW.weightsEach, List.append_nil]; exact hn))
theorem opens_field {α β : Type} {A : Kd α} {B : Kd β} {f : Field} {fs : List Field} {off : Nat} {WA : α → Prop} {WB : β → Prop} (h : Opens P w A f.type WA) (ho : f.offset = off) (hc : P.cellsOf f.type = A.sz) (hr : OpensFs P w B fs (off + A.sz) WB) :
    OpensFs P w (Kd.pair A B) (f :: fs) off (fun p => WA p.1 ∧ WB p.2) := by
  intro H enc spare held m cs xs hl hx hz
  match xs, hl with
  | x :: xs, hl =>
    have h0 := hx 0 f rfl
    rw [ho, hc] at h0
    obtain ⟨y, hy, wy⟩ := h H enc spare held m _ x h0 (fun n hn => hz n (by simp only [List.map_cons, DataW.weightsEach, List.mem_append]; exact Or.inl hn))
    obtain ⟨z, hz1, wz⟩ := hr H enc spare held m cs xs (by simpa using hl) (fun i g hg => hx (i + 1) g hg) (fun n hn => hz n (by simp only [List.map_cons, DataW.weightsEach, List.mem_append]; exact Or.inr hn))
    refine ⟨(y, z), ⟨_, _, ?_, hy, hz1⟩, wy, wz⟩
    show (cs.drop off).take (A.sz + B.sz) = _
    rw [List.take_add, List.drop_drop]
theorem opens_struct {α : Type} {K : Kd α} {t : TypeId} {fs : Array Field} {W : α → Prop} (ht : P.underlying t = some (.struct fs)) (h : OpensFs P w K fs.toList 0 W) (hc : P.cellsOf t = K.sz) : Opens P w K t W := by
  intro H enc spare held fuel cs x hx hz
  obtain ⟨xs, m, rfl, rfl, hl, hn, hf⟩ := DataW.trod_struct ht hx
  simp only [DataW.weights, ht] at hz
  obtain ⟨y, hy, wy⟩ := h H enc spare held m cs xs (by simpa using hn) (fun i f hi => hf i f (by simpa using hi)) hz
  refine ⟨y, ?_, wy⟩
  rw [List.drop_zero, List.take_of_length_le (by rw [hl, hc]; exact Nat.le_refl _)] at hy
  exact hy
theorem weightsAll_mem {H : Type} {e : TypeId} : ∀ {l : List (DataW H)} {d : DataW H}, d ∈ l → ∀ n ∈ d.weights P e, n ∈ DataW.weightsAll P e l
  | x :: l, d, hd, n, hn => by
    simp only [DataW.weightsAll, List.mem_append]
    rcases List.mem_cons.1 hd with rfl | hd
    · exact Or.inl hn
    · exact Or.inr (weightsAll_mem hd n hn)
/-- What a row in memory is, of elements that are W. -/
def RowOf {α : Type} (K : Kd α) (B : Nat) (W : α → Prop) (w : World) (A : Option Addr) (len cap : Nat) (l : List α) : Prop :=
  l.length = len ∧ len ≤ cap ∧ K.C w A l.length l ∧ l.length * B ≤ 140737488351232 ∧ l.length ≤ maxLen ∧ ∀ y ∈ l, W y
theorem opens_row {α : Type} {K : Kd α} {t e : TypeId} {W : α → Prop} (z : α) (ht : P.underlying t = some (.slice e)) (h : Opens P w K e W) (hc : P.cellsOf e = K.sz) {B : Nat} (hB : P.bytesOf e = B)
    {H : Type} {enc : TypeId × Value → H} {spare : Nat → Bool} {held : Bool} {fuel : Nat} {cs : List Value} {x : DataW H × List MemPlace} (hx : DataW.trod enc P w 0 spare held fuel t cs = some x) (hz : ∀ n ∈ x.1.weights P t, n ≤ reachBytes) :
    ∃ A len cap l, cs = [.slice A len cap] ∧ RowOf K B W w A len cap l := by
  rcases DataW.trod_slice ht hx with ⟨rfl, rfl⟩ | ⟨a, len, cap, elems, rest, n, rfl, rfl, rfl, hb, hl, hm, hlen, hel, hsp, hns⟩
  · exact ⟨none, 0, 0, [], rfl, rfl, Nat.le_refl _, ⟨rfl, by simp, fun hn => absurd hn (by simp)⟩, by simp, by simp, by simp⟩
  · simp only [DataW.weights, ht] at hz
    have hw := hz ((elems.map (·.1)).length + (rest.map (·.1)).length |> (· * P.bytesOf e)) (by simp)
    have each : ∀ i, i < len → ∃ y cs', w.cells? 0 (a.add (i * K.sz)) K.sz = some cs' ∧ K.K w y cs' ∧ W y := by
      intro i hi
      have h1 := hel i hi
      obtain ⟨y, hy⟩ : ∃ y, elems[i]? = some y := ⟨_, List.getElem?_eq_getElem (by omega)⟩
      rw [hy, hc, Option.bind_eq_some_iff] at h1
      obtain ⟨cs', hcs, hy'⟩ := h1
      obtain ⟨v, hv, wv⟩ := h H enc spare held n cs' y hy' (fun m hm => hz m (by
        simp only [List.mem_cons, List.mem_append]
        exact Or.inr (Or.inl (weightsAll_mem (List.mem_map.2 ⟨y, List.mem_of_getElem? hy, rfl⟩) m hm))))
      exact ⟨v, cs', hcs, hv, wv⟩
    obtain ⟨f, hf⟩ : ∃ f : Nat → α, ∀ i, i < len → ∃ cs', w.cells? 0 (a.add (i * K.sz)) K.sz = some cs' ∧ K.K w (f i) cs' ∧ W (f i) := by
      classical
      refine ⟨fun i => if h : i < len then (each i h).choose else z, fun i hi => ?_⟩
      simp only [dif_pos hi]
      exact (each i hi).choose_spec
    refine ⟨some a, len, cap, (List.range len).map f, rfl, by simp, hl, ⟨rfl, ?_, fun hn => ⟨a, rfl, fun j p hp => ?_⟩⟩, ?_, ?_, ?_⟩
    · simp only [List.length_map, List.length_range]
      unfold maxLen at hm
      omega
    · rw [List.getElem?_map, Option.map_eq_some_iff] at hp
      obtain ⟨j', hj', rfl⟩ := hp
      obtain ⟨hj, rfl⟩ := List.getElem?_eq_some_iff.1 hj'
      rw [List.getElem_range]
      rw [List.length_range] at hj
      obtain ⟨cs', hcs, hk, _⟩ := hf j hj
      refine ⟨cs', K.K_len hk, hk, fun i u hu => ?_⟩
      have h2 := World.cells?_some hcs
      obtain ⟨hi, rfl⟩ := List.getElem?_eq_some_iff.1 hu
      have h3 := h2.2.2 i (by rw [← K.K_len hk]; exact hi)
      rw [hu] at h3
      rw [← h3, add_add]
    · simp only [List.length_map, List.length_range]
      rw [hB] at hw
      simp only [List.length_map] at hw
      refine Nat.le_trans (Nat.mul_le_mul_right _ (?_ : len ≤ elems.length + rest.length)) hw
      omega
    · simp only [List.length_map, List.length_range]; omega
    · intro y hy
      obtain ⟨i, hi, rfl⟩ := List.mem_map.1 hy
      obtain ⟨_, _, _, hw⟩ := hf i (List.mem_range.1 hi)
      exact hw
theorem opens_slice {α : Type} {K : Kd α} {t e : TypeId} {W : α → Prop} (z : α) (ht : P.underlying t = some (.slice e)) (h : Opens P w K e W) (hc : P.cellsOf e = K.sz) {B : Nat} (hB : P.bytesOf e = B) :
    Opens P w (Kd.slice e K) t (fun l => l.length * B ≤ 140737488351232 ∧ l.length ≤ maxLen ∧ ∀ y ∈ l, W y) := by
  intro H enc spare held fuel cs x hx hz
  obtain ⟨A, len, cap, l, rfl, rfl, h1, h2, h3⟩ := opens_row z ht h hc hB hx hz
  exact ⟨l, ⟨A, cap, rfl, h1, h2⟩, h3⟩
end
theorem weights_at {H : Type} {P : Program} {ts : List TypeId} {ds : List (DataW H)} (hsz : (DataW.weightsEach P ts ds).all (· ≤ reachBytes) = true) {j : Nat} {t : TypeId} {d : DataW H} (ht : ts[j]? = some t) (hd : ds[j]? = some d) : ∀ n ∈ d.weights P t, n ≤ reachBytes := by
  intro n hn
  have := List.all_eq_true.1 hsz n (DataW.weights_mem_each ht hd n hn)
  simpa using this
end Go.Proofs.Ytpobgpfkohlokaa.OP
