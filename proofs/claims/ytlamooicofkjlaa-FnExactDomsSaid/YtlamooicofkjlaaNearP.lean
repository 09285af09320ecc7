import Derived.Test.YtlamooicofkjlaaBfsP
/- Plain theory: the chain's next place is the nearest block on all ways. No program is spoken of. -/
namespace Go.Proofs.Ytlamooicofkjlaa.NearP
open Go.Proofs.Ytlamooicofkjlaa.DomP Go.Proofs.Ytlamooicofkjlaa.DfsP Go.Proofs.Ytlamooicofkjlaa.BfsP
set_option linter.unusedVariables false
set_option linter.unusedSectionVars false

/-- d is another block, on all ways to v. -/
def SD (E : Nat → List Nat) (v d : Nat) : Prop := d ≠ v ∧ Rc E v ∧ ¬ Ro E (d : Int) v
structure Near (E : Nat → List Nat) (v t : Nat) : Prop where
  sd : SD E v t
  up : ∀ d, SD E v d → d ≠ t → SD E t d ∧ ∀ e, SD E d e → SD E t e
/-- Edges between places of an order. -/
def re (E : Nat → List Nat) (L : List Nat) (p y : Nat) : Prop := ∃ hp : p < L.length, ∃ hy : y < L.length, L[y] ∈ E L[p]
theorem Ro.rc {E : Nat → List Nat} {wo : Int} {v : Nat} (h : Ro E wo v) : Rc E v := by
  induction h with
  | root _ => exact .root (fun h => h)
  | step _ he _ ih => exact .step ih he (fun h => h)
theorem rc_ro {E : Nat → List Nat} {d v : Nat} (h : Rc E v) (hd : ¬ Rc E d) : Ro E (d : Int) v := by
  induction h with
  | root _ => exact .root (fun h => hd (by have : d = 0 := by omega
                                           subst this; exact .root (fun h => h)))
  | @step u v hu he _ ih => exact .step ih he (fun h => hd (by have : d = v := by omega
                                                               subst this; exact .step hu he (fun h => h)))
section
variable {E : Nat → List Nat} {n : Nat} {L : List Nat} (O : Ord E n L)
include O
theorem inj {i j : Nat} (hi : i < L.length) (hj : j < L.length) (e : L[i] = L[j]) : i = j := by
  have hp := List.pairwise_iff_getElem.1 O.nd
  rcases Nat.lt_trichotomy i j with h | h | h
  · exact absurd e (hp i j hi hj h)
  · exact h
  · exact absurd e.symm (hp j i hj hi h)
theorem ra_ro {d : Nat} (hd : d < L.length) {y : Nat} (h : RA (re E L) d y) : ∀ hy : y < L.length, Ro E (L[d] : Int) L[y] := by
  induction h with
  | root h0 =>
    intro hy
    have e := O.hd hy
    rw [e]
    exact .root (fun h => h0 (inj O hy hd (by omega)))
  | @step u v hu he hn ih =>
    intro hy
    obtain ⟨hp, _, he⟩ := he
    exact .step (ih hp) he (fun h => hn (inj O hy hd (by omega)))
theorem ro_ra {d : Nat} (hd : d < L.length) {v : Nat} (h : Ro E (L[d] : Int) v) : ∀ y, ∀ hy : y < L.length, L[y] = v → RA (re E L) d y := by
  induction h with
  | root h0 =>
    intro y hy e
    have e0 := O.hd (by omega)
    obtain rfl : y = 0 := inj O hy (by omega) (by omega)
    exact .root (fun h => by subst h; exact h0 (by omega))
  | @step u v hu he hn ih =>
    intro y hy e
    have hr := (Ro.rc hu)
    have hn0 : 0 < n := by have := O.lt L[y] (List.getElem_mem hy); omega
    obtain ⟨p, hp, ep⟩ := List.getElem_of_mem ((O.rc u).2 ⟨hn0, hr⟩)
    exact .step (ih p hp ep) ⟨hp, hy, by rw [ep, e]; exact he⟩ (fun h => hn (by subst h; omega))
variable {o : Nat → Nat} (hT : Tree o L.length) (hA : ∀ y, y < L.length → ∀ d, Anc o d y ↔ ¬ RA (re E L) d y)
include hT hA
theorem sd_iff {e y : Nat} (he : e < L.length) (hy : y < L.length) : SD E L[y] L[e] ↔ e ≠ y ∧ Anc o e y := by
  unfold SD
  rw [hA y hy e]
  constructor
  · rintro ⟨h1, _, h3⟩
    exact ⟨fun h => h1 (by subst h; rfl), fun h => h3 (ra_ro O he h hy)⟩
  · rintro ⟨h1, h2⟩
    exact ⟨fun h => h1 (inj O he hy h), ((O.rc _).1 (List.getElem_mem hy)).2, fun h => h2 (ro_ra O he h y hy rfl)⟩
theorem sd_at {y d : Nat} (hy : y < L.length) (h : SD E L[y] d) : ∃ e, ∃ he : e < L.length, d = L[e] := by
  have hn : 0 < n := by have := O.lt L[y] (List.getElem_mem hy); omega
  by_cases hr : Rc E d
  · obtain ⟨e, he, ee⟩ := List.getElem_of_mem ((O.rc d).2 ⟨hn, hr⟩)
    exact ⟨e, he, ee.symm⟩
  · exact absurd (rc_ro h.2.1 hr) h.2.2
theorem near {y : Nat} (h0 : 0 < y) (hy : y < L.length) : ∃ ho : o y < L.length, Near E L[y] L[o y] := by
  have hlt := hT y h0 hy
  refine ⟨by omega, (sd_iff O hT hA (by omega) hy).2 ⟨by omega, .step (by omega) .refl⟩, fun d hd hn => ?_⟩
  obtain ⟨e, he, rfl⟩ := sd_at O hT hA hy hd
  obtain ⟨h1, h2⟩ := (sd_iff O hT hA he hy).1 hd
  have h3 := (h2.up h1).2
  have h4 : e ≠ o y := fun h => hn (by subst h; rfl)
  refine ⟨(sd_iff O hT hA he (by omega)).2 ⟨h4, h3⟩, fun f hf => ?_⟩
  obtain ⟨g, hg, rfl⟩ := sd_at O hT hA he hf
  obtain ⟨h5, h6⟩ := (sd_iff O hT hA hg he).1 hf
  have h7 := Anc.le hT he h6
  have h8 := Anc.le hT (show o y < L.length by omega) h3
  exact (sd_iff O hT hA hg (by omega)).2 ⟨by omega, h6.trans h3⟩
end
/-- How many of those below n. -/
def cnt (p : Nat → Bool) : Nat → Nat
  | 0 => 0
  | n + 1 => cnt p n + if p n then 1 else 0
theorem cnt_le {p q : Nat → Bool} (h : ∀ d, p d = true → q d = true) : ∀ n, cnt p n ≤ cnt q n := by
  intro n
  induction n with
  | zero => exact Nat.le_refl _
  | succ n ih =>
    have h1 := h n
    unfold cnt
    cases hp : p n with
    | false => simp; omega
    | true => rw [h1 hp]; simp; omega
theorem cnt_lt {p q : Nat → Bool} (h : ∀ d, p d = true → q d = true) {x : Nat} (hx : q x = true) (hn : p x = false) : ∀ n, x < n → cnt p n < cnt q n := by
  intro n
  induction n with
  | zero => intro h; omega
  | succ n ih =>
    intro hlt
    unfold cnt
    by_cases e : x = n
    · subst e
      have := cnt_le h x
      rw [hx, hn]; simp; omega
    · have := ih (by omega)
      have h1 := h n
      cases hp : p n with
      | false => simp; omega
      | true => rw [h1 hp]; simp; omega
theorem cnt_bound (p : Nat → Bool) : ∀ n, cnt p n ≤ n := by
  intro n
  induction n with
  | zero => exact Nat.le_refl _
  | succ n ih => unfold cnt; split <;> omega
end Go.Proofs.Ytlamooicofkjlaa.NearP
