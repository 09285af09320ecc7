/- Plain law of the printed spec.Doms. -/
import Derived.Test.YtlamooicofkjlaaQFnExactDomsx
import Derived.Test.YtlamooicofkjlaaSrbFnExactDoms
import Derived.Test.YtlamooicofkjlaaDmcFnExactDoms
import Derived.Test.YtlamooicofkjlaaFnEFnExactDoms
namespace Go.Proofs.Ytlamooicofkjlaa.SpDFnExactDoms
open Go.RowKit Go.Proofs.Ytlamooicofkjlaa.QFnExactDoms Go.Proofs.YtlamooicofkjlaaW.PrintWords Go.Proofs.YtlamooicofkjlaaW.PrintLast Go.Proofs.Ytlamooicofkjlaa.Aid Go.Proofs.Ytlamooicofkjlaa.SrFnExactDoms
open Go.Proofs.Ytlamooicofkjlaa.DmFnExactDoms (EOk bad bad_iff)
open Go.Proofs.Ytlamooicofkjlaa.FnEFnExactDoms (Short' ShortB')
set_option linter.unusedVariables false
set_option linter.unusedSectionVars false

theorem eds_mem {B : List S70} {u : Nat} {e : S72} (h : e ∈ eds B u) : u < B.length := by
  by_cases hu : u < B.length
  · exact hu
  · unfold eds at h
    rw [List.getD_eq_getElem?_getD, List.getElem?_eq_none (by omega)] at h
    cases h
theorem eds_len {L0 : List S33} {L3 : List S77} {B : List S70} (hs : Short' L0 L3 B) (u : Nat) : (eds B u).length ≤ 1048576 := by
  by_cases hu : u < B.length
  · have := (hs.bs B[u] (List.getElem_mem hu)).2.2.2.1
    unfold eds
    rw [List.getD_eq_getElem?_getD, List.getElem?_eq_getElem hu]
    exact this
  · unfold eds
    rw [List.getD_eq_getElem?_getD, List.getElem?_eq_none (by omega)]
    exact Nat.zero_le _
theorem edges_of {L0 : List S33} {L3 : List S77} {B : List S70} (hs : Short' L0 L3 B) (h : EOk B) : EdgesIn B where
  le := h.1
  len := fun u => by have := eds_len hs u; omega
  ok := fun u e he => by
    have hu := eds_mem he
    have h1 := h.2 u hu
    rw [List.any_eq_false] at h1
    have h2 := h1 e he
    have h3 : bad B.length e.f0 = false := by cases hb : bad B.length e.f0 <;> simp_all
    exact (bad_iff _ _).1 h3
section
variable (a : List S33) (b c : Int) (d : List S77) (B : List S70) (hl : B.length ≤ 1048576) (he : ∀ u, (eds B u).length ≤ 1048576)
include hl he
/-- All edges lead to blocks. -/
def AllIn (B : List S70) : Prop := ∀ u, u < B.length → (eds B u).any (fun s => bad B.length s.f0) = false
theorem in_row (i : Nat) (hi : i < B.length) (hb : ∀ u, u < i → (eds B u).any (fun s => bad B.length s.f0) = false)
    (H : (eds B i).any (fun s => bad B.length s.f0) = false → Tells (fun k => spec_l6edgesOk.l0 k ((i + 1 : Nat) : Int) a b c d B) (fun r => r = true ↔ AllIn B)) :
    ∀ g j : Nat, (eds B i).length - j = g → j ≤ (eds B i).length → (∀ q (h : q < (eds B i).length), q < j → bad B.length (eds B i)[q].f0 = false) → Tells (fun k => spec_l6edgesOk.l1 k (i : Int) (j : Int) a b c d B) (fun r => r = true ↔ AllIn B) := by
  have hei := he i
  intro g
  induction g with
  | zero =>
    intro j hg hj hq
    refine Tells.step (fun k => by rw [spec_l6edgesOk.l1]) ?_
    refine Tells.pos (by omega) (Tells.pos (by omega) ?_)
    rw [rd70]
    refine Tells.neg (by omega) ?_
    rw [wrap64_id (x := (i : Int) + 1) (by omega) (by omega)]
    refine H ?_
    rw [List.any_eq_false]
    intro e hm
    obtain ⟨q, hq1, rfl⟩ := List.getElem_of_mem hm
    rw [hq q hq1 (by omega)]; decide
  | succ g ih =>
    intro j hg hj hq
    have hjl : j < (eds B i).length := by omega
    refine Tells.step (fun k => by rw [spec_l6edgesOk.l1]) ?_
    refine Tells.pos (by omega) (Tells.pos (by omega) ?_)
    rw [rd70]
    refine Tells.pos (by omega) (Tells.pos (by omega) ?_)
    rw [rd72 _ _ hjl]
    have hno : ¬ (0 ≤ (eds B i)[j].f0 ∧ (eds B i)[j].f0 < (B.length : Int)) → ¬ AllIn B := fun hx hA => by
      have h1 := hA i hi
      rw [List.any_eq_false] at h1
      have h2 := h1 _ (List.getElem_mem hjl)
      have h3 : bad B.length (eds B i)[j].f0 = false := by cases hb : bad B.length (eds B i)[j].f0 <;> simp_all
      exact hx ((bad_iff _ _).1 h3)
    refine Tells.ite (fun c1 => Tells.now ?_) (fun c1 => Tells.ite (fun c2 => Tells.now ?_) (fun c2 => ?_))
    · exact ⟨(fun h => by cases h), fun h => absurd h (hno (by omega))⟩
    · exact ⟨(fun h => by cases h), fun h => absurd h (hno (by omega))⟩
    · rw [wrap64_id (x := (j : Int) + 1) (by omega) (by omega)]
      refine ih (j + 1) (by omega) (by omega) (fun q h1 h2 => ?_)
      by_cases e : q = j
      · subst e; exact (bad_iff _ _).2 (by omega)
      · exact hq q h1 (by omega)
theorem all_rows : ∀ g i : Nat, B.length - i = g → i ≤ B.length → (∀ u, u < i → (eds B u).any (fun s => bad B.length s.f0) = false) → Tells (fun k => spec_l6edgesOk.l0 k (i : Int) a b c d B) (fun r => r = true ↔ AllIn B) := by
  intro g
  induction g with
  | zero =>
    intro i hg hi hb
    refine Tells.step (fun k => by rw [spec_l6edgesOk.l0]) ?_
    refine Tells.neg (by omega) (Tells.now ⟨fun _ u hu => hb u (by omega), fun _ => rfl⟩)
  | succ g ih =>
    intro i hg hi hb
    refine Tells.step (fun k => by rw [spec_l6edgesOk.l0]) ?_
    refine Tells.pos (by omega) ?_
    refine in_row a b c d B hl he i (by omega) hb (fun h => ih (i + 1) (by omega) (by omega) (fun u hu => ?_)) (eds B i).length 0 (by omega) (by omega) (fun q _ h => by omega)
    by_cases e : u = i
    · subst e; exact h
    · exact hb u (by omega)
end
theorem spec_tells (L0 : List S33) (a1 a2 : Int) (L3 : List S77) (B : List S70) (hs : Short' L0 L3 B) : Tells (fun k => spec_Doms.f k L0 a1 a2 L3 B) (fun r => (EOk B → IsDoms (E B) B.length r) ∧ (¬ EOk B → r = [])) := by
  unfold spec_Doms.f
  refine Tells.ite (fun c1 => Tells.now ⟨fun h => by have := h.1; omega, fun _ => rfl⟩) (fun c1 => ?_)
  have hall := all_rows L0 a1 a2 L3 B hs.b (eds_len hs) B.length 0 (by omega) (by omega) (fun u hu => by omega)
  refine Tells.bind (g := fun k => spec_l6edgesOk.f k L0 a1 a2 L3 B) hall fun t ht => ?_
  refine Tells.ite (fun c2 => ?_) (fun c2 => Tells.now ⟨fun h => absurd (ht.2 h.2) c2, fun _ => rfl⟩)
  have hE : EOk B := ⟨by omega, ht.1 c2⟩
  have hd := doms L0 a1 a2 L3 B (edges_of hs hE)
  refine Tells.bind hd fun r hr => Tells.now ⟨fun _ => hr, fun h => absurd hE h⟩
end Go.Proofs.Ytlamooicofkjlaa.SpDFnExactDoms
