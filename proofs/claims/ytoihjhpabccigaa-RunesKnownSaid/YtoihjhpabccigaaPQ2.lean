/- What the document's functions of chapter 9 come to, plainly. -/
import Derived.Test.YtoihjhpabccigaaPQ
namespace Go.Proofs.Ytoihjhpabccigaa.PQ
open Go.RowKit Go.Proofs.Ytoihjhpabccigaa.PR Go.Proofs.Ytoihjhpabccigaa.OF Go.Proofs.YtoihjhpabccigaaW.PrintWords
set_option linter.unusedVariables false
def P (L : List S41) (n : Int) : Bool := hasL (L.map t38) n
theorem P_iff (L : List S41) (n : Int) : P L n = true ↔ 0 ≤ n ∧ n ≤ 1114111 ∧ ∃ x ∈ L, x.f0 ≤ n ∧ n ≤ x.f1 := by
  unfold P
  rw [hasL_iff]
  unfold mem
  constructor
  · rintro ⟨a, b, y, hy, h⟩
    obtain ⟨x, hx, rfl⟩ := List.mem_map.1 hy
    exact ⟨a, b, x, hx, h⟩
  · rintro ⟨a, b, x, hx, h⟩
    exact ⟨a, b, t38 x, List.mem_map.2 ⟨x, hx, rfl⟩, h⟩
theorem bneg {b : Bool} (h : ¬ b = true) : b = false := by simpa using h
/-- The loop of next, where what is in is looked for. -/
theorem loop_true (L : List S41) (hL : L.length ≤ 1000000) (r : Int) : ∀ (d i : Nat) (b : Int), i + d = L.length → r < b → b ≤ 1114112 → (b = 1114112 ∨ ∃ x ∈ L, x.f0 = b) → (∀ x ∈ L.take i, r < x.f0 → b ≤ x.f0) →
    ∃ b' : Int, r < b' ∧ b' ≤ 1114112 ∧ (∀ x ∈ L, r < x.f0 → b' ≤ x.f0) ∧ ∀ n, Ev (fun k => driftnetref09_next.l0 k L r true b' (L.length : Int)) n → Ev (fun k => driftnetref09_next.l0 k L r true b (i : Int)) n := by
  intro d
  induction d with
  | zero =>
    intro i b hi h0 h1 h2 h3
    refine ⟨b, h0, h1, ?_, fun n h => ?_⟩
    · rw [List.take_of_length_le (by omega)] at h3
      exact h3
    · rw [show (i : Int) = (L.length : Int) by omega]
      exact h
  | succ d ih =>
    intro i b hi h0 h1 h2 h3
    have hx : L[i] ∈ L := List.getElem_mem _
    have tk : L.take (i + 1) = L.take i ++ [L[i]] := List.take_succ_eq_append_getElem (by omega)
    have hr := rd41 L i (by omega)
    have hw : wrap64 ((i : Int) + 1) = ((i + 1 : Nat) : Int) := by rw [w64 (by omega) (by omega)]; rfl
    have stay : ∀ b2 n, Ev (fun k => driftnetref09_next.l0 k L r true b2 ((i + 1 : Nat) : Int)) n → Ev (fun k => driftnetref09_next.j3 k L r true b2 (i : Int)) n := by
      intro b2 n h
      refine Ev.succ ?_
      simp only [driftnetref09_next.j3]
      refine Ev.pos (by simp) (Ev.succ ?_)
      simp only [driftnetref09_next.j4]
      refine Ev.neg (by simp) ?_
      rw [hw]
      exact h
    by_cases c : r < L[i].f0 ∧ L[i].f0 < b
    · obtain ⟨b', q1, q2, q3, q4⟩ := ih (i + 1) L[i].f0 (by omega) c.1 (by omega) (Or.inr ⟨_, hx, rfl⟩) (fun x hx2 hr2 => by
        rw [tk] at hx2
        rcases List.mem_append.1 hx2 with h | h
        · have := h3 x h hr2; omega
        · rw [List.mem_singleton] at h; subst h; exact Int.le_refl _)
      refine ⟨b', q1, q2, q3, fun n h => ?_⟩
      refine Ev.succ ?_
      simp only [driftnetref09_next.l0]
      rw [hr]
      refine Ev.pos (by omega) (Ev.pos (by omega) (Ev.pos c.1 (Ev.pos c.2 (Ev.succ ?_))))
      simp only [driftnetref09_next.j2]
      rw [hr]
      exact Ev.pos (by simp) (Ev.pos (by omega) (Ev.pos (by omega) (stay _ n (q4 n h))))
    · obtain ⟨b', q1, q2, q3, q4⟩ := ih (i + 1) b (by omega) h0 h1 h2 (fun x hx2 hr2 => by
        rw [tk] at hx2
        rcases List.mem_append.1 hx2 with h | h
        · exact h3 x h hr2
        · rw [List.mem_singleton] at h; subst h
          rcases Int.lt_or_le (L[i].f0) b with h5 | h5
          · exact absurd ⟨hr2, h5⟩ c
          · exact h5)
      refine ⟨b', q1, q2, q3, fun n h => ?_⟩
      have fin : Ev (fun k => driftnetref09_next.j2 k L r true b (i : Int) false) n := by
        refine Ev.succ ?_
        simp only [driftnetref09_next.j2]
        exact Ev.neg (by simp) (stay _ n (q4 n h))
      refine Ev.succ ?_
      simp only [driftnetref09_next.l0]
      rw [hr]
      refine Ev.pos (by omega) (Ev.pos (by omega) ?_)
      by_cases c1 : L[i].f0 > r
      · exact Ev.pos c1 (Ev.neg (fun h5 => c ⟨c1, h5⟩) fin)
      · exact Ev.neg c1 fin
/-- .. and where what is not in is looked for: one that holds r is found. -/
theorem loop_false (L : List S41) (hL : L.length ≤ 1000000) (r : Int) : ∀ (d i : Nat), i + d = L.length → (∃ x ∈ L.drop i, x.f0 ≤ r ∧ r ≤ x.f1) →
    ∃ x ∈ L, x.f0 ≤ r ∧ r ≤ x.f1 ∧ ∀ n, (1114111 ≤ x.f1 → n = 1114112) → (x.f1 < 1114111 → Ev (fun k => driftnetref09_next.f k L (wrap64 (x.f1 + 1)) false) n) → Ev (fun k => driftnetref09_next.l0 k L r false 1114112 (i : Int)) n := by
  intro d
  induction d with
  | zero =>
    intro i hi ⟨x, hx, _⟩
    rw [List.drop_of_length_le (by omega)] at hx
    simp at hx
  | succ d ih =>
    intro i hi hex
    have hx : L[i] ∈ L := List.getElem_mem _
    have hr := rd41 L i (by omega)
    have hw : wrap64 ((i : Int) + 1) = ((i + 1 : Nat) : Int) := by rw [w64 (by omega) (by omega)]; rfl
    have head : ∀ n, Ev (fun k => driftnetref09_next.j3 k L r false 1114112 (i : Int)) n → Ev (fun k => driftnetref09_next.l0 k L r false 1114112 (i : Int)) n := by
      intro n h
      have fin : Ev (fun k => driftnetref09_next.j2 k L r false 1114112 (i : Int) false) n := by
        refine Ev.succ ?_
        simp only [driftnetref09_next.j2]
        exact Ev.neg (by simp) h
      refine Ev.succ ?_
      simp only [driftnetref09_next.l0]
      rw [hr]
      refine Ev.pos (by omega) (Ev.pos (by omega) ?_)
      by_cases c1 : L[i].f0 > r
      · refine Ev.pos c1 ?_
        by_cases c2 : L[i].f0 < 1114112
        · exact Ev.pos c2 fin
        · exact Ev.neg c2 fin
      · exact Ev.neg c1 fin
    by_cases c : L[i].f0 ≤ r ∧ r ≤ L[i].f1
    · refine ⟨L[i], hx, c.1, c.2, fun n h1 h2 => head n ?_⟩
      refine Ev.succ ?_
      simp only [driftnetref09_next.j3]
      rw [hr]
      refine Ev.neg (by simp) (Ev.pos (by omega) (Ev.pos (by omega) (Ev.pos c.1 (Ev.succ ?_))))
      simp only [driftnetref09_next.j4]
      rw [hr]
      refine Ev.pos (by simpa using c.2) (Ev.pos (by omega) (Ev.pos (by omega) ?_))
      by_cases c3 : L[i].f1 ≥ 1114111
      · exact Ev.pos c3 (Ev.some_ _ (h1 c3).symm)
      · exact Ev.neg c3 (Ev.bind (h2 (by omega)) (Ev.now _))
    · obtain ⟨x, hxl, q1, q2, q3⟩ := ih (i + 1) (by omega) (by
        obtain ⟨x, hx2, h⟩ := hex
        rw [List.drop_eq_getElem_cons (by omega)] at hx2
        rcases List.mem_cons.1 hx2 with h6 | h5
        · rw [h6] at h; exact absurd h c
        · exact ⟨x, h5, h⟩)
      refine ⟨x, hxl, q1, q2, fun n h1 h2 => head n ?_⟩
      have go : Ev (fun k => driftnetref09_next.j4 k L r false 1114112 (i : Int) false) n := by
        refine Ev.succ ?_
        simp only [driftnetref09_next.j4]
        refine Ev.neg (by simp) ?_
        rw [hw]
        exact q3 n h1 h2
      refine Ev.succ ?_
      simp only [driftnetref09_next.j3]
      rw [hr]
      refine Ev.neg (by simp) (Ev.pos (by omega) (Ev.pos (by omega) ?_))
      by_cases c1 : L[i].f0 ≤ r
      · refine Ev.pos c1 ?_
        rw [decide_eq_false (fun h => c ⟨c1, h⟩)]
        exact go
      · exact Ev.neg c1 go
theorem next_ev (L : List S41) (hL : L.length ≤ 1000000) : ∀ (d : Nat) (r : Int) (b : Bool), 0 ≤ r → r ≤ 1114112 → 1114112 - r ≤ d →
    ∃ n : Int, Ev (fun k => driftnetref09_next.f k L r b) n ∧ r ≤ n ∧ n ≤ 1114112 ∧ (n ≤ 1114111 → P L n = b) ∧ ∀ m, r ≤ m → m < n → P L m = !b := by
  intro d
  induction d using Nat.strongRecOn with
  | _ d ih =>
  intro r b h0 h1 hd
  by_cases hm : r > 1114111
  · refine ⟨r, ?_, Int.le_refl _, h1, fun h => by omega, fun m _ _ => by omega⟩
    refine Ev.succ ?_
    simp only [driftnetref09_next.f]
    refine Ev.pos hm (Ev.succ ?_)
    simp only [driftnetref09_next.j0]
    exact Ev.pos (by simp) (Ev.now _)
  · have hhas := refHas_ev L r hL
    change Ev _ (P L r) at hhas
    by_cases hp : P L r = b
    · refine ⟨r, ?_, Int.le_refl _, h1, fun _ => hp, fun m _ _ => by omega⟩
      refine Ev.succ ?_
      simp only [driftnetref09_next.f]
      refine Ev.neg hm (Ev.bind hhas (Ev.succ ?_))
      simp only [driftnetref09_next.j0]
      exact Ev.pos (by simp [hp]) (Ev.now _)
    · have start : ∀ n, Ev (fun k => driftnetref09_next.l0 k L r b 1114112 0) n → Ev (fun k => driftnetref09_next.f k L r b) n := by
        intro n h
        refine Ev.succ ?_
        simp only [driftnetref09_next.f]
        refine Ev.neg hm (Ev.bind hhas (Ev.succ ?_))
        simp only [driftnetref09_next.j0]
        exact Ev.neg (by simp [hp]) h
      cases b with
      | true =>
        have hpf : P L r = false := bneg hp
        obtain ⟨b', q1, q2, q3, q4⟩ := loop_true L hL r L.length 0 1114112 (by omega) (by omega) (by omega) (Or.inl rfl) (by simp)
        have none1 : ∀ m, r ≤ m → m < b' → P L m = false := by
          intro m hm1 hm2
          by_cases hc : P L m = true
          · obtain ⟨a1, a2, x, hx, a3, a4⟩ := (P_iff L m).1 hc
            by_cases hr : r < x.f0
            · have := q3 x hx hr; omega
            · have : P L r = true := (P_iff L r).2 ⟨by omega, by omega, x, hx, by omega, by omega⟩
              rw [hpf] at this; cases this
          · exact bneg hc
        by_cases hb : b' ≤ 1114111
        · by_cases hpb : P L b' = true
          · refine ⟨b', start _ (q4 _ ?_), by omega, q2, fun _ => hpb, fun m a c => by rw [none1 m a c]; rfl⟩
            refine Ev.succ ?_
            simp only [driftnetref09_next.l0]
            have hh := refHas_ev L b' hL
            change Ev _ (P L b') at hh
            rw [hpb] at hh
            exact Ev.neg (by omega) (Ev.pos hb (Ev.bind hh (Ev.pos (by simp) (Ev.now _))))
          · obtain ⟨n, p1, p2, p3, p4, p5⟩ := ih (1114112 - (b' + 1)).toNat (by omega) (b' + 1) true (by omega) (by omega) (by omega)
            refine ⟨n, start _ (q4 _ ?_), by omega, p3, p4, fun m a c => ?_⟩
            · refine Ev.succ ?_
              simp only [driftnetref09_next.l0]
              have hh := refHas_ev L b' hL
              change Ev _ (P L b') at hh
              rw [bneg hpb] at hh
              refine Ev.neg (by omega) (Ev.pos hb (Ev.bind hh (Ev.neg (by simp) (Ev.bind ?_ (Ev.now _)))))
              rw [w64 (by omega) (by omega)]
              exact p1
            · by_cases c1 : m < b'
              · rw [none1 m a c1]; rfl
              · by_cases c2 : m = b'
                · subst c2; rw [bneg hpb]; rfl
                · exact p5 m (by omega) c
        · refine ⟨b', start _ (q4 _ ?_), by omega, q2, fun h => absurd h hb, fun m a c => by rw [none1 m a c]; rfl⟩
          refine Ev.succ ?_
          simp only [driftnetref09_next.l0]
          exact Ev.neg (by omega) (Ev.neg hb (Ev.now _))
      | false =>
        have hpt : P L r = true := by simpa using hp
        obtain ⟨_, _, x0, hx0, a0, a1⟩ := (P_iff L r).1 hpt
        obtain ⟨x, hx, q1, q2, q3⟩ := loop_false L hL r L.length 0 (by omega) ⟨x0, hx0, a0, a1⟩
        by_cases c : 1114111 ≤ x.f1
        · refine ⟨1114112, start _ (q3 _ (fun _ => rfl) (fun h => by omega)), h1, Int.le_refl _, fun h => by omega, fun m hm1 hm2 => ?_⟩
          exact (P_iff L m).2 ⟨by omega, by omega, x, hx, by omega, by omega⟩
        · obtain ⟨n, p1, p2, p3, p4, p5⟩ := ih (1114112 - (x.f1 + 1)).toNat (by omega) (x.f1 + 1) false (by omega) (by omega) (by omega)
          refine ⟨n, start _ (q3 _ (fun h => absurd h c) (fun _ => ?_)), by omega, p3, p4, fun m hm1 hm2 => ?_⟩
          · rw [w64 (by omega) (by omega)]; exact p1
          · by_cases c1 : m ≤ x.f1
            · exact (P_iff L m).2 ⟨by omega, by omega, x, hx, by omega, c1⟩
            · exact p5 m (by omega) hm2
/-- The loop of Of, and of Not: what begins where 'b' does. -/
theorem run_ev (L : List S41) (hL : L.length ≤ 1000000) (b : Bool) (F : Nat → List S41 → Int → Option (List S41))
    (hF : ∀ k x3 x4, F (k + 1) x3 x4 = if x4 ≤ 1114111 then ((driftnetref09_next.f k L x4 (!b)).bind fun t => (if x3.length < 8796093022208 then ((driftnetref09_next.f k L t b).bind fun u => (F k (x3 ++ [(⟨x4, wrap64 (t - 1)⟩ : S41)]) u)) else (none))) else (some x3)) :
    ∀ (d : Nat) (out : List S41) (f : Int), 1114112 - f ≤ d → 0 ≤ f → f ≤ 1114112 → (out.length : Int) ≤ f → Canon (out.map t38) → (∀ m, mem (out.map t38) m ↔ 0 ≤ m ∧ m < f ∧ P L m = b) → (f ≤ 1114111 → P L f = b ∧ ∀ x ∈ out, x.f1 + 1 < f) →
    ∃ r : List S41, Ev (fun k => F k out f) r ∧ Canon (r.map t38) ∧ ∀ m, mem (r.map t38) m ↔ 0 ≤ m ∧ m ≤ 1114111 ∧ P L m = b := by
  intro d
  induction d using Nat.strongRecOn with
  | _ d ih =>
  intro out f hd h0 h1 hl hc hm hf
  by_cases c : f ≤ 1114111
  · obtain ⟨hpf, hgap⟩ := hf c
    obtain ⟨t, p1, p2, p3, p4, p5⟩ := next_ev L hL 1114112 f (!b) h0 h1 (by omega)
    have htf : f < t := by
      rcases Int.lt_or_eq_of_le p2 with h | h
      · exact h
      · subst h
        have := p4 c
        rw [hpf] at this
        cases b <;> cases this
    obtain ⟨u, q1, q2, q3, q4, q5⟩ := next_ev L hL 1114112 t b (by omega) p3 (by omega)
    have hb : (!!b) = b := Bool.not_not b
    have hu : u ≤ 1114111 → t < u := by
      intro hu
      rcases Int.lt_or_eq_of_le q2 with h | h
      · exact h
      · subst h
        have a1 := q4 hu
        have a2 := p4 hu
        rw [a1] at a2
        cases b <;> cases a2
    obtain ⟨r, s1, s2, s3⟩ := ih (1114112 - u).toNat (by omega) (out ++ [⟨f, t - 1⟩]) u (by omega) (by omega) q3 (by simp; omega)
      (by
        rw [List.map_append]
        refine ⟨fun x hx => ?_, List.pairwise_append.2 ⟨hc.2, List.pairwise_singleton _ _, fun x hx y hy => ?_⟩⟩
        · rcases List.mem_append.1 hx with h | h
          · exact hc.1 x h
          · rw [List.map_cons, List.map_nil, List.mem_singleton] at h
            subst h
            exact ⟨h0, by show f ≤ t - 1; omega, by show t - 1 ≤ _; omega⟩
        · rw [List.map_cons, List.map_nil, List.mem_singleton] at hy
          subst hy
          obtain ⟨z, hz, rfl⟩ := List.mem_map.1 hx
          exact hgap z hz)
      (by
        intro m
        rw [List.map_append, mem_append, hm, List.map_cons, List.map_nil, mem_cons]
        have hnil : ¬ mem [] m := mem_nil m
        constructor
        · rintro (⟨a1, a2, a3⟩ | ⟨a1, a2⟩ | h)
          · exact ⟨a1, by omega, a3⟩
          · have a1' : f ≤ m := a1
            have a2' : m ≤ t - 1 := a2
            have := p5 m a1' (by omega)
            rw [hb] at this
            exact ⟨by omega, by omega, this⟩
          · exact absurd h hnil
        · rintro ⟨a1, a2, a3⟩
          by_cases c1 : m < f
          · exact Or.inl ⟨a1, c1, a3⟩
          · by_cases c2 : m < t
            · exact Or.inr (Or.inl ⟨by show f ≤ m; omega, by show m ≤ t - 1; omega⟩)
            · have := q5 m (by omega) a2
              rw [a3] at this
              cases b <;> cases this)
      (fun hu2 => ⟨q4 hu2, fun x hx => by
        have := hu hu2
        rcases List.mem_append.1 hx with h | h
        · have := hgap x h; omega
        · rw [List.mem_singleton] at h; subst h; show t - 1 + 1 < u; omega⟩)
    refine ⟨r, Ev.succ ?_, s2, s3⟩
    simp only [hF]
    refine Ev.pos c (Ev.bind p1 (Ev.pos (by omega) (Ev.bind q1 ?_)))
    rw [w64 (by omega) (by omega)]
    exact s1
  · refine ⟨out, Ev.succ ?_, hc, fun m => ?_⟩
    · simp only [hF]
      exact Ev.neg c (Ev.now _)
    · rw [hm]
      constructor
      · rintro ⟨a1, a2, a3⟩; exact ⟨a1, by omega, a3⟩
      · rintro ⟨a1, a2, a3⟩; exact ⟨a1, by omega, a3⟩
theorem start_ev (L : List S41) (hL : L.length ≤ 1000000) (b : Bool) (F : Nat → List S41 → Int → Option (List S41))
    (hF : ∀ k x3 x4, F (k + 1) x3 x4 = if x4 ≤ 1114111 then ((driftnetref09_next.f k L x4 (!b)).bind fun t => (if x3.length < 8796093022208 then ((driftnetref09_next.f k L t b).bind fun u => (F k (x3 ++ [(⟨x4, wrap64 (t - 1)⟩ : S41)]) u)) else (none))) else (some x3)) :
    ∃ r : List S41, Ev (fun k => (driftnetref09_next.f k L 0 b).bind fun t => F k [] t) r ∧ Canon (r.map t38) ∧ ∀ m, mem (r.map t38) m ↔ 0 ≤ m ∧ m ≤ 1114111 ∧ P L m = b := by
  obtain ⟨t, p1, p2, p3, p4, p5⟩ := next_ev L hL 1114112 0 b (by omega) (by omega) (by omega)
  obtain ⟨r, s1, s2, s3⟩ := run_ev L hL b F hF 1114112 [] t (by omega) p2 p3 (by simpa using p2) ⟨by simp, List.Pairwise.nil⟩ (fun m => by
    simp only [List.map_nil, mem_nil, false_iff]
    rintro ⟨a1, a2, a3⟩
    have := p5 m a1 a2
    rw [a3] at this
    cases b <;> cases this) (fun h => ⟨p4 h, by simp⟩)
  exact ⟨r, Ev.bind p1 s1, s2, s3⟩
theorem refOf_ev (L : List S41) (hL : L.length ≤ 1000000) : Ev (fun k => driftnetref09_Of.f k L) ((norm (L.map t38)).map t41) := by
  obtain ⟨r, h1, h2, h3⟩ := start_ev L hL true (fun k x t => driftnetref09_Of.l0 k L x t) (fun k x3 x4 => by rw [driftnetref09_Of.l0]; rfl)
  have e : norm (L.map t38) = r.map t38 := norm_eq h2 (fun n => by
    rw [h3]
    unfold P
    rw [hasL_iff]
    constructor
    · rintro ⟨_, _, h⟩; exact h
    · intro h; exact ⟨h.1, h.2.1, h⟩)
  rw [e, map_41_38]
  exact h1
theorem refNot_ev (L : List S41) (hL : L.length ≤ 1000000) : Ev (fun k => driftnetref09_Not.f k L) ((neg (L.map t38)).map t41) := by
  obtain ⟨r, h1, h2, h3⟩ := start_ev L hL false (fun k x t => driftnetref09_Not.l0 k L x t) (fun k x3 x4 => by rw [driftnetref09_Not.l0]; rfl)
  have e : neg (L.map t38) = r.map t38 := Canon.unique (neg_canon _).1 h2 (fun n => by
    rw [h3, (neg_canon _).2.1]
    exact Iff.rfl)
  rw [e, map_41_38]
  exact h1
theorem refBoth_ev (L M : List S41) (hL : L.length ≤ 100000) (hM : M.length ≤ 100000) : Ev (fun k => driftnetref09_Both.f k L M) ((both (L.map t38) (M.map t38)).map t41) := by
  have h1 := (neg_canon (L.map t38)).2.2
  have h2 := (neg_canon (M.map t38)).2.2
  rw [List.length_map] at h1 h2
  unfold driftnetref09_Both.f
  refine Ev.bind (refNot_ev L (by omega)) (Ev.pos (by simp; omega) (Ev.bindS (Ev.bind (refNot_ev M (by omega)) (Ev.pos (by simp; omega) (Ev.bind ?_ (Ev.now _))))))
  have h := refNot_ev ([] ++ (neg (L.map t38)).map t41 ++ (neg (M.map t38)).map t41) (by simp; omega)
  rw [List.nil_append, List.map_append, map_38_41, map_38_41] at h
  exact h
theorem refSize_ev (L : List S41) (hL : L.length ≤ 1000000) : Ev (fun k => driftnetref09_Size.f k L) (size (norm (L.map t38))) := by
  unfold driftnetref09_Size.f
  refine Ev.bind (refOf_ev L hL) ?_
  have hn := norm_len (L.map t38)
  rw [List.length_map] at hn
  have hc := (norm_canon (L.map t38)).1
  generalize norm (L.map t38) = c at hn hc ⊢
  have key : ∀ d i : Nat, i + d = c.length → Ev (fun k => driftnetref09_Size.l0 k (size (c.take i)) (c.map t41) (i : Int)) (size c) := by
    intro d
    induction d with
    | zero =>
      intro i hi
      refine Ev.succ ?_
      simp only [driftnetref09_Size.l0]
      refine Ev.neg (by rw [List.length_map]; omega) ?_
      rw [List.take_of_length_le (by omega)]
      exact Ev.now _
    | succ d ih =>
      intro i hi
      refine Ev.succ ?_
      simp only [driftnetref09_Size.l0]
      refine Ev.pos (by rw [List.length_map]; omega) (Ev.pos (by omega) ?_)
      have h := ih (i + 1) (by omega)
      have hb := size_bd0 (take_canon hc i)
      obtain ⟨a, b, e⟩ := hc.1 c[i] (List.getElem_mem _)
      rw [List.take_succ_eq_append_getElem (by omega), size_append] at h
      simp only [size] at h
      have hr : rd_T41 (c.map t41) (i : Int) = t41 c[i] := by rw [rd41 _ i (by rw [List.length_map]; omega), List.getElem_map]
      have e0 : (t41 c[i]).f0 = c[i].f0 := rfl
      have e1 : (t41 c[i]).f1 = c[i].f1 := rfl
      rw [hr, e0, e1, w64 (x := (i : Int) + 1) (by omega) (by omega), w64 (x := size (c.take i) + c[i].f1) (by omega) (by omega), w64 (x := size (c.take i) + c[i].f1 - c[i].f0) (by omega) (by omega), w64 (by omega) (by omega)]
      rw [show size (c.take i) + (c[i].f1 - c[i].f0 + 1 + 0) = size (c.take i) + c[i].f1 - c[i].f0 + 1 by omega] at h
      exact h
  exact key c.length 0 (by omega)
theorem inj41 {l m : List S38} : l.map t41 = m.map t41 ↔ l = m := by
  constructor
  · intro h
    have := congrArg (List.map t38) h
    rwa [map_38_41, map_38_41] at this
  · rintro rfl; rfl
theorem refCheck_ev (L : List S41) (hL : L.length ≤ 1000000) : Ev (fun k => driftnetref09_Check.f k L) (decide (L.map t38 = norm (L.map t38))) := by
  unfold driftnetref09_Check.f
  refine Ev.bind (refOf_ev L hL) (Ev.bind (Equal_ev _ _ hL) (Ev.some_ _ ?_))
  refine decide_eq_decide.2 ?_
  constructor
  · intro h
    have := congrArg (List.map t38) h
    rwa [map_38_41] at this
  · intro h
    have := congrArg (List.map t41) h
    rwa [map_41_38] at this
theorem Check_ev (l : List S38) (hl : l.length ≤ 1000000) : Ev (fun k => runes_Check.f k l) (decide (l = norm l)) := by
  unfold runes_Check.f
  exact Ev.one (Of_ev l hl) (Ev.bind (Range_ev _ _ hl) (Ev.now _))
theorem Same_ev (l m : List S38) (hl : l.length ≤ 1000000) (hm : m.length ≤ 1000000) : Ev (fun k => runes_Same.f k l m) (decide (norm l = norm m)) := by
  unfold runes_Same.f
  exact Ev.one (Of_ev l hl) (Ev.one (Of_ev m hm) (Ev.bind (Range_ev _ _ (Nat.le_trans (norm_len l) hl)) (Ev.now _)))
end Go.Proofs.Ytoihjhpabccigaa.PQ
