/- Plain law: the specification's test of an instruction answers by the same conditions as the walk of impl.ImageOk. -/
import Derived.Test.YtkfeoilnhpfknaaQFnExactImageReadx5
import Derived.Test.YtkfeoilnhpfknaaAid
import Derived.Test.YtkfeoilnhpfknaaImfFnExactImageRead
namespace Go.Proofs.Ytkfeoilnhpfknaa.ImgTFnExactImageRead
open Go.RowKit Go.Proofs.Ytkfeoilnhpfknaa.QFnExactImageRead Go.Proofs.YtkfeoilnhpfknaaW.PrintWords Go.Proofs.YtkfeoilnhpfknaaW.PrintLast Go.Proofs.Ytkfeoilnhpfknaa.Aid
open Go.Proofs.Ytkfeoilnhpfknaa.ImFnExactImageRead (inB numOk InsOk)

theorem inB_iff (a b c : Int) : inB a b c = true ↔ b ≤ a ∧ a ≤ c := by
  unfold inB
  by_cases h : b ≤ a
  · rw [if_pos h, decide_eq_true_iff]; exact ⟨fun g => ⟨h, g⟩, fun g => g.2⟩
  · rw [if_neg h]; exact ⟨fun g => (by cases g), fun g => absurd g.1 h⟩
theorem in_eq (a n : Int) : spec_l11in.f a n = some (inB a 0 (n - 1)) := by
  unfold spec_l11in.f inB
  by_cases h : 0 ≤ a
  · rw [if_pos h, if_pos h]; congr 1; exact decide_eq_decide.2 (by omega)
  · rw [if_neg h, if_neg h]

theorem num_tells (l0 : List (List Bool)) (l1 : List S53) (a2 : Int) (c : S53) (f0 f1 f2 f3 f4 : Int) (hc : 3 ≤ c.f0 ∧ c.f0 ≤ 1000) (h0 : l0.length ≤ 1099511627776) (h1 : l1.length ≤ 1099511627776) (h2 : c.f2.length ≤ 1099511627776) :
    Tells (fun k => spec_l11insOk.j0 k false l0 l1 a2 c.f0 c.f1 c.f2 c.f3 f0 f1 f2 f3 f4) (fun r => r = numOk f0 f4 c.f0 c.f2.length l0.length l1.length) := by
  have w0 : wrap64 (c.f0 - 1) = c.f0 - 1 := wrap64_id (by omega) (by omega)
  have w1 : wrap64 ((l0.length : Int) - 1) = (l0.length : Int) - 1 := wrap64_id (by omega) (by omega)
  have w2 : wrap64 ((l1.length : Int) - 1) = (l1.length : Int) - 1 := wrap64_id (by omega) (by omega)
  have w3 : wrap64 ((c.f2.length : Int) - 1) = (c.f2.length : Int) - 1 := wrap64_id (by omega) (by omega)
  have fr : (if f4 ≥ 3 then some (decide (f4 < c.f0)) else some false) = some (inB f4 3 (c.f0 - 1)) := by
    unfold inB
    by_cases h : 3 ≤ f4
    · rw [if_pos h, if_pos h]; congr 1; exact decide_eq_decide.2 (by omega)
    · rw [if_neg h, if_neg h]
  refine ⟨_, rfl, 4, fun k hk => ?_⟩
  obtain ⟨m, rfl⟩ : ∃ m, k = m + 4 := ⟨k - 4, by omega⟩
  unfold numOk
  rw [w0, w1, w2, w3]
  simp only [spec_l11insOk.j0, spec_l11insOk.j1, spec_l11insOk.j2, spec_l11insOk.j3, in_eq, Option.bind_some, fr, Bool.false_eq_true, if_false]
  by_cases e0 : f0 = 0
  · subst e0; rfl
  by_cases e2 : f0 = 2
  · subst e2; rfl
  by_cases e3 : f0 = 3
  · subst e3; rfl
  by_cases e4 : f0 = 4
  · subst e4; rfl
  by_cases e5 : f0 = 5
  · subst e5; rfl
  by_cases e10 : f0 = 10
  · subst e10; rfl
  by_cases e11 : f0 = 11
  · subst e11; rfl
  by_cases e16 : f0 = 16
  · subst e16; rfl
  by_cases e17 : f0 = 17
  · subst e17; rfl
  by_cases e21 : f0 = 21
  · subst e21; rfl
  by_cases e24 : f0 = 24
  · subst e24; rfl
  by_cases e22 : f0 = 22
  · subst e22; rfl
  by_cases e23 : f0 = 23
  · subst e23; rfl
  by_cases e26 : f0 = 26
  · subst e26; rfl
  by_cases e27 : f0 = 27
  · subst e27; rfl
  have b3 : (f0 == 3) = false := beq_eq_false_iff_ne.2 e3
  have b17 : (f0 == 17) = false := beq_eq_false_iff_ne.2 e17
  have b24 : (f0 == 24) = false := beq_eq_false_iff_ne.2 e24
  simp only [if_neg e0, if_neg e2, if_neg e3, if_neg e4, if_neg e5, if_neg e10, if_neg e11, if_neg e16, if_neg e17, if_neg e21, if_neg e24, if_neg e22, if_neg e23, if_neg e26, if_neg e27, b3, b17, b24, Bool.false_eq_true, if_false]

theorem ins_no (l0 : List (List Bool)) (l1 : List S53) (a2 a10 a11 : Int) (l2 : List S68) (l3 : List S72) (f0 f1 f2 f3 f4 : Int) : Tells (fun k => spec_l11insOk.j0 k true l0 l1 a2 a10 a11 l2 l3 f0 f1 f2 f3 f4) (fun r => r = false) :=
  Tells.step (fun k => by rw [spec_l11insOk.j0]) (Tells.pos rfl (Tells.now rfl))

theorem ins_tells (l0 : List (List Bool)) (l1 : List S53) (a2 : Int) (c : S53) (x : S68) (hc : 3 ≤ c.f0 ∧ c.f0 ≤ 1000) (h0 : l0.length ≤ 1099511627776) (h1 : l1.length ≤ 1099511627776) (h2 : c.f2.length ≤ 1099511627776) :
    Tells (fun k => spec_l11insOk.f k l0 l1 a2 c.f0 c.f1 c.f2 c.f3 x.f0 x.f1 x.f2 x.f3 x.f4) (fun r => r = true ↔ InsOk l0.length l1.length c x) := by
  unfold spec_l11insOk.f
  simp only [in_eq, Option.bind_some]
  have no : ∀ {r : Bool}, ¬ InsOk l0.length l1.length c x → r = false → (r = true ↔ InsOk l0.length l1.length c x) := fun h e => ⟨fun g => (by rw [e] at g; cases g), fun g => absurd g h⟩
  refine Tells.ite (fun c0 => ?_) (fun c0 => (ins_no ..).mono fun r hr => no (fun h => c0 h.1) hr)
  refine Tells.ite (fun c1 => ?_) (fun c1 => (ins_no ..).mono fun r hr => no (fun h => c1 h.2.1) hr)
  refine Tells.ite (fun c2 => ?_) (fun c2 => (ins_no ..).mono fun r hr => no (fun h => c2 h.2.2.1) hr)
  cases c3 : inB x.f3 0 (16 - 1)
  · exact (ins_no ..).mono fun r hr => no (fun h => by have h3 := h.2.2.2.1; rw [show (15 : Int) = 16 - 1 from rfl, c3] at h3; cases h3) hr
  · refine (num_tells l0 l1 a2 c x.f0 x.f1 x.f2 x.f3 x.f4 hc h0 h1 h2).mono fun r hr => ?_
    rw [hr]
    exact ⟨fun h => ⟨c0, c1, c2, c3, h⟩, fun h => h.2.2.2.2⟩

end Go.Proofs.Ytkfeoilnhpfknaa.ImgTFnExactImageRead
