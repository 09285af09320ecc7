import Derived.Test.YtlamooicofkjlaaQFnExactDomsx3
import Derived.Test.YtlamooicofkjlaaAid
import Derived.Test.YtlamooicofkjlaaBfsP
/- Plain law: spec.l6reach tells what is reached without one block. -/
namespace Go.Proofs.Ytlamooicofkjlaa.SrFnExactDoms
open Go.RowKit Go.Proofs.YtlamooicofkjlaaW.PrintWords Go.Proofs.Ytlamooicofkjlaa.Aid Go.Proofs.Ytlamooicofkjlaa.QFnExactDoms Go.Proofs.Ytlamooicofkjlaa.DomP Go.Proofs.Ytlamooicofkjlaa.DfsP Go.Proofs.Ytlamooicofkjlaa.BfsP
set_option linter.unusedVariables false
set_option linter.unusedSectionVars false

/-- The edges of a block. -/
def eds (B : List S70) (u : Nat) : List S72 := (B.getD u z70).f4
def E (B : List S70) (u : Nat) : List Nat := (eds B u).map (fun e => e.f0.toNat)
/-- All edges lead to blocks; and the sizes. -/
structure EdgesIn (B : List S70) : Prop where
  le : B.length ≤ 400
  len : ∀ u, (eds B u).length ≤ 1099511627776
  ok : ∀ u, ∀ e ∈ eds B u, 0 ≤ e.f0 ∧ e.f0 < (B.length : Int)
theorem E_len (B : List S70) (u : Nat) : (E B u).length = (eds B u).length := List.length_map ..
theorem E_at (B : List S70) (u k : Nat) (h : k < (eds B u).length) : (E B u)[k]? = some (eds B u)[k].f0.toNat := by
  unfold E; rw [List.getElem?_map, List.getElem?_eq_getElem h]; rfl
theorem rd72 (l : List S72) (k : Nat) (h : k < l.length) : rd_T72 l (k : Int) = l[k] := by
  unfold rd_T72
  rw [Int.toNat_natCast, List.getD_eq_getElem?_getD, List.getElem?_eq_getElem h]; rfl
theorem rd70 (B : List S70) (u : Nat) : (rd_T70 B (u : Int)).f4 = eds B u := by
  unfold rd_T70 eds; rw [Int.toNat_natCast]
/-- What a list of bools tells. -/
def sn (s : List Bool) (v : Nat) : Bool := s.getD v false
theorem sn_set (s : List Bool) (w : Nat) (h : w < s.length) : sn (s.set w true) = fun v => if v = w then true else sn s v := by
  funext v
  unfold sn
  simp only [List.getD_eq_getElem?_getD, List.getElem?_set]
  by_cases e : v = w
  · subst e; simp [h]
  · have e2 : ¬ w = v := fun h => e h.symm
    simp [e, e2]
def ints (l : List Nat) : List Int := l.map (fun (v : Nat) => (v : Int))
theorem ints_get (l : List Nat) (i u : Nat) (h : l[i]? = some u) : rd (ints l) (i : Int) = u := by
  have hi := (List.getElem?_eq_some_iff.1 h).1
  rw [rd_eq _ _ (by unfold ints; simpa using hi)]
  unfold ints
  rw [List.getElem_map]
  rw [List.getElem?_eq_getElem hi] at h
  cases h; rfl

section
variable (a : List S33) (b c : Int) (d : List S77) (B : List S70) (wo : Int) (hB : EdgesIn B) (P : List Bool → Prop)
include hB
theorem inner {i u : Nat} (hi : i ≤ 400) (H : ∀ s l, s.length = B.length → BInv (E B) B.length wo (sn s) l (i + 1) 0 → Tells (fun k => spec_l6reach.l0 k wo s (ints l) ((i + 1 : Nat) : Int) a b c d B) P) :
    ∀ (g : Nat) (s : List Bool) (l : List Nat) (k : Nat), s.length = B.length → BInv (E B) B.length wo (sn s) l i k → l[i]? = some u → (eds B u).length - k = g → k ≤ (eds B u).length → Tells (fun m => spec_l6reach.l1 m wo s (ints l) i (eds B u) k a b c d B) P := by
  intro g
  induction g with
  | zero =>
    intro s l k hs I hu hg hk
    refine Tells.step (fun m => by rw [spec_l6reach.l1]) ?_
    refine Tells.neg (by omega) ?_
    rw [wrap64_id (x := (i : Int) + 1) (by omega) (by omega)]
    exact H s l hs (I.up hu (by rw [E_len]; omega))
  | succ g ih =>
    intro s l k hs I hu hg hk
    have hl := hB.len u
    have hk2 : k < (eds B u).length := by omega
    have hE := E_at B u k hk2
    obtain ⟨o1, o2⟩ := hB.ok u (eds B u)[k] (List.getElem_mem hk2)
    have ew : ((eds B u)[k].f0.toNat : Int) = (eds B u)[k].f0 := Int.toNat_of_nonneg o1
    have next : wrap64 ((k : Int) + 1) = ((k + 1 : Nat) : Int) := by rw [wrap64_id (by omega) (by omega)]; rfl
    refine Tells.step (fun m => by rw [spec_l6reach.l1]) ?_
    rw [rd72 _ k hk2]
    generalize (eds B u)[k].f0 = w at hE o1 o2 ew ⊢
    refine Tells.pos (by omega) (Tells.pos (by omega) (Tells.ite (fun h => ?_) (fun h => ?_)))
    · rw [next]
      exact ih s l (k + 1) hs (I.skip hu hE (.inl (by rw [ew]; exact h))) hu (by omega) (by omega)
    · refine Tells.pos o1 (Tells.pos (by rw [hs]; exact o2) (Tells.ite (fun h2 => ?_) (fun h2 => ?_)))
      · rw [next]
        exact ih s l (k + 1) hs (I.skip hu hE (.inr h2)) hu (by omega) (by omega)
      · have hll := nodup_le B.length l I.nd I.lt
        have hB1 := hB.le
        refine Tells.pos (by unfold ints; rw [List.length_map]; omega) ?_
        rw [next]
        have e : ints l ++ [w] = ints (l ++ [w.toNat]) := by unfold ints; rw [List.map_append]; simp [ew]
        rw [e]
        have hlt : w.toNat < B.length := by omega
        have hi2 := (List.getElem?_eq_some_iff.1 hu).1
        refine ih (s.set w.toNat true) (l ++ [w.toNat]) (k + 1) (by simpa using hs) ?_ (by rw [List.getElem?_append_left hi2]; exact hu) (by omega) (by omega)
        rw [sn_set _ _ (by omega)]
        exact I.push hu hE (by rw [ew]; exact h) (by unfold sn; exact Bool.eq_false_iff.2 h2) hlt
theorem outer (HP : ∀ s l i, s.length = B.length → BInv (E B) B.length wo (sn s) l i 0 → l.length ≤ i → P s) : ∀ (g : Nat) (i : Nat) (s : List Bool) (l : List Nat), i ≤ l.length → B.length - i = g → s.length = B.length → BInv (E B) B.length wo (sn s) l i 0 → Tells (fun k => spec_l6reach.l0 k wo s (ints l) (i : Int) a b c d B) P := by
  intro g
  have hB1 := hB.le
  induction g with
  | zero =>
    intro i s l hi hg hs I
    have hll := nodup_le B.length l I.nd I.lt
    refine Tells.step (fun m => by rw [spec_l6reach.l0]) ?_
    refine Tells.neg (by unfold ints; rw [List.length_map]; omega) (Tells.now (HP s l i hs I (by omega)))
  | succ g ih =>
    intro i s l hi hg hs I
    have hll := nodup_le B.length l I.nd I.lt
    refine Tells.step (fun m => by rw [spec_l6reach.l0]) ?_
    by_cases h : i < l.length
    · have hu : l[i]? = some l[i] := List.getElem?_eq_getElem h
      have hlt := I.lt l[i] (List.getElem_mem h)
      rw [ints_get l i _ hu]
      refine Tells.pos (by unfold ints; rw [List.length_map]; omega) (Tells.pos (by omega) (Tells.pos (by omega) (Tells.pos (by omega) ?_)))
      rw [rd70]
      refine inner a b c d B wo hB P (by omega) (fun s' l' hs' I' => ?_) _ s l 0 hs I hu rfl (Nat.zero_le _)
      have hll' := nodup_le B.length l' I'.nd I'.lt
      by_cases hi' : i + 1 ≤ l'.length
      · exact ih (i + 1) s' l' hi' (by omega) hs' I'
      · refine Tells.step (fun m => by rw [spec_l6reach.l0]) ?_
        refine Tells.neg (by unfold ints; rw [List.length_map]; omega) (Tells.now (HP s' l' (i + 1) hs' I' (by omega)))
    · refine Tells.neg (by unfold ints; rw [List.length_map]; omega) (Tells.now (HP s l i hs I (by omega)))
omit P in
theorem reach : Tells (fun k => spec_l6reach.f k a b c d B wo) (fun s => s.length = B.length ∧ ∀ v, v < B.length → (sn s v = true ↔ Ro (E B) wo v)) := by
  have hB1 := hB.le
  unfold spec_l6reach.f
  refine Tells.pos (by omega) (Tells.pos (by omega) ?_)
  show Tells (fun k => if wo = 0 then _ else _) _
  have fl : ∀ v, sn (List.replicate B.length false) v = false := fun v => by
    unfold sn; rw [List.getD_eq_getElem?_getD, List.getElem?_replicate]; split <;> rfl
  refine Tells.ite (fun h => ?_) (fun h => ?_)
  · refine Tells.step (fun m => by rw [spec_l6reach.j0]) ?_
    refine Tells.pos rfl (Tells.now ⟨by simp, fun v hv => ?_⟩)
    rw [Int.toNat_natCast, fl]
    refine ⟨fun h => absurd h (by simp), fun k => ?_⟩
    exfalso
    clear hv
    induction k with
    | root n0 => exact n0 h.symm
    | step _ _ _ ih => exact ih
  · by_cases hn : B.length = 0
    · refine Tells.step (fun m => by rw [spec_l6reach.j0]) ?_
      refine Tells.pos (by simp [hn]) (Tells.now ⟨by simp, fun v hv => by omega⟩)
    · refine Tells.step (fun m => by rw [spec_l6reach.j0]) ?_
      refine Tells.neg (by simp [hn]) (Tells.pos (by simp; omega) ?_)
      have e : sn ((List.replicate B.length false).set 0 true) = fun v => v == 0 := by
        rw [sn_set _ _ (by simp; omega)]
        funext v
        by_cases e : v = 0
        · simp [e]
        · rw [if_neg e, fl]; simp [e]
      refine outer a b c d B wo hB _ (fun s l i hs I hi => ⟨hs, fun v hv => I.done hi v⟩) B.length 0 _ [0] (by simp) rfl (by simp) ?_
      simp only [Int.toNat_natCast, Int.toNat_zero]
      rw [e]
      exact BInv.start (by omega) h
end
end Go.Proofs.Ytlamooicofkjlaa.SrFnExactDoms
