import Derived.Test.YtlamooicofkjlaaDfsP
/- Plain theory: what is reached without one block, as a list that is gone through while it grows finds it. -/
namespace Go.Proofs.Ytlamooicofkjlaa.BfsP
open Go.Proofs.Ytlamooicofkjlaa.DomP Go.Proofs.Ytlamooicofkjlaa.DfsP
set_option linter.unusedVariables false

/-- Reached without wo; -1 is none. -/
abbrev Ro (E : Nat → List Nat) (wo : Int) (v : Nat) : Prop := Rch (edg E) (fun x => (x : Int) = wo) v

structure BInv (E : Nat → List Nat) (n : Nat) (wo : Int) (seen : Nat → Bool) (l : List Nat) (i k : Nat) : Prop where
  sn : ∀ v, seen v = true ↔ v ∈ l
  nd : l.Nodup
  lt : ∀ v ∈ l, v < n
  rc : ∀ v ∈ l, Ro E wo v
  rt : 0 ∈ l
  dn : ∀ q, q < i → ∀ u, l[q]? = some u → ∀ w ∈ E u, (w : Int) ≠ wo → seen w = true
  nw : ∀ u, l[i]? = some u → ∀ j, j < k → ∀ w, (E u)[j]? = some w → (w : Int) ≠ wo → seen w = true
theorem BInv.start {E : Nat → List Nat} {n : Nat} {wo : Int} (hn : 0 < n) (h0 : wo ≠ 0) : BInv E n wo (fun v => v == 0) [0] 0 0 where
  sn := fun v => by simp
  nd := by simp
  lt := fun v h => by have : v = 0 := by simpa using h
                      omega
  rc := fun v h => by
    have : v = 0 := by simpa using h
    subst this; exact .root (fun h => h0 h.symm)
  rt := by simp
  dn := fun q h => absurd h (Nat.not_lt_zero _)
  nw := fun u h j hj => absurd hj (Nat.not_lt_zero _)
theorem BInv.skip {E : Nat → List Nat} {n : Nat} {wo : Int} {seen : Nat → Bool} {l : List Nat} {i k u w : Nat} (I : BInv E n wo seen l i k) (hu : l[i]? = some u) (hw : (E u)[k]? = some w) (hs : (w : Int) = wo ∨ seen w = true) : BInv E n wo seen l i (k + 1) where
  sn := I.sn
  nd := I.nd
  lt := I.lt
  rc := I.rc
  rt := I.rt
  dn := I.dn
  nw := fun x hx j hj v hv hn => by
    by_cases e : j = k
    · subst e
      rw [hu] at hx; cases hx
      rw [hw] at hv; cases hv
      exact hs.resolve_left hn
    · exact I.nw x hx j (by omega) v hv hn
theorem BInv.push {E : Nat → List Nat} {n : Nat} {wo : Int} {seen : Nat → Bool} {l : List Nat} {i k u w : Nat} (I : BInv E n wo seen l i k) (hu : l[i]? = some u) (hw : (E u)[k]? = some w) (hn : (w : Int) ≠ wo) (hs : seen w = false) (hl : w < n) : BInv E n wo (fun v => if v = w then true else seen v) (l ++ [w]) i (k + 1) := by
  have up : ∀ v, seen v = true → (if v = w then true else seen v) = true := fun v h => by
    by_cases e : v = w
    · rw [if_pos e]
    · rw [if_neg e]; exact h
  have hil : i < l.length := (List.getElem?_eq_some_iff.1 hu).1
  have low : ∀ q, q ≤ i → (l ++ [w])[q]? = l[q]? := fun q hq => List.getElem?_append_left (by omega)
  have hw' : w ∉ l := fun h => by have := (I.sn w).2 h; rw [hs] at this; cases this
  exact {
    sn := fun v => by
      by_cases e : v = w
      · subst e; simp
      · simp only [if_neg e]; rw [I.sn v]; simp [e]
    nd := by
      rw [List.nodup_append]
      refine ⟨I.nd, by simp, fun a ha b hb e => ?_⟩
      have : b = w := by simpa using hb
      subst this; subst e; exact hw' ha
    lt := fun v h => by
      rcases List.mem_append.1 h with h | h
      · exact I.lt v h
      · have : v = w := by simpa using h
        subst this; exact hl
    rc := fun v h => by
      rcases List.mem_append.1 h with h | h
      · exact I.rc v h
      · have : v = w := by simpa using h
        subst this
        exact .step (I.rc u (List.mem_of_getElem? hu)) (List.mem_of_getElem? hw) hn
    rt := List.mem_append_left _ I.rt
    dn := fun q hq x hx v hv h => by
      rw [low q (by omega)] at hx
      exact up v (I.dn q hq x hx v hv h)
    nw := fun x hx j hj v hv h => by
      rw [low i (Nat.le_refl _)] at hx
      by_cases e : j = k
      · subst e
        rw [hu] at hx; cases hx
        rw [hw] at hv; cases hv
        exact if_pos rfl
      · exact up v (I.nw x hx j (by omega) v hv h) }
theorem BInv.up {E : Nat → List Nat} {n : Nat} {wo : Int} {seen : Nat → Bool} {l : List Nat} {i k u : Nat} (I : BInv E n wo seen l i k) (hu : l[i]? = some u) (hk : (E u).length ≤ k) : BInv E n wo seen l (i + 1) 0 where
  sn := I.sn
  nd := I.nd
  lt := I.lt
  rc := I.rc
  rt := I.rt
  dn := fun q hq x hx v hv h => by
    by_cases e : q = i
    · subst e
      rw [hu] at hx; cases hx
      obtain ⟨j, hj, e⟩ := List.getElem_of_mem hv
      exact I.nw u hu j (by omega) v (by rw [List.getElem?_eq_getElem hj, e]) h
    · exact I.dn q (by omega) x hx v hv h
  nw := fun x hx j hj => absurd hj (Nat.not_lt_zero _)
theorem BInv.done {E : Nat → List Nat} {n : Nat} {wo : Int} {seen : Nat → Bool} {l : List Nat} {i k : Nat} (I : BInv E n wo seen l i k) (hi : l.length ≤ i) (v : Nat) : seen v = true ↔ Ro E wo v := by
  constructor
  · exact fun h => I.rc v ((I.sn v).1 h)
  · intro h
    induction h with
    | root _ => exact (I.sn 0).2 I.rt
    | @step u v _ he hn ih =>
      have hu := (I.sn u).1 ih
      obtain ⟨q, hq, e⟩ := List.getElem_of_mem hu
      exact I.dn q (by omega) u (by rw [List.getElem?_eq_getElem hq, e]) v he hn
/-- The list is never longer than the blocks are. -/
theorem nodup_le : ∀ (n : Nat) (l : List Nat), l.Nodup → (∀ v ∈ l, v < n) → l.length ≤ n := by
  intro n
  induction n with
  | zero =>
    intro l _ h
    cases l with
    | nil => exact Nat.le_refl _
    | cons a l => exact absurd (h a (by simp)) (Nat.not_lt_zero _)
  | succ n ih =>
    intro l hn h
    have h2 : (l.erase n).length ≤ n := ih _ (hn.erase n) (fun v hv => by
      have h1 := h v (List.mem_of_mem_erase hv)
      have h3 : v ≠ n := fun e => by
        subst e
        exact (hn.mem_erase_iff.1 hv).1 rfl
      omega)
    rw [List.length_erase] at h2
    split at h2 <;> omega
end Go.Proofs.Ytlamooicofkjlaa.BfsP
