/- The contracts of impl.ImageOk and spec.l11bytes as functions that answer. -/
import Derived.Test.YtkfeoilnhpfknaaImpFnExactImageRead
namespace Go.Proofs.Ytkfeoilnhpfknaa.ImFnExactImageRead
open Go.RowKit Go.Proofs.Ytkfeoilnhpfknaa.QFnExactImageRead Go.Proofs.YtkfeoilnhpfknaaW.PrintWords Go.Proofs.YtkfeoilnhpfknaaW.PrintLast

def sbytesF (l0 : List (List Bool)) (l1 : List S53) (a2 : Int) : Option (List Int) := if (imgS l0 l1 a2).length ≤ 1099511627 then some (imgS l0 l1 a2) else none
open Classical in
noncomputable def okF (l0 : List (List Bool)) (l1 : List S53) (a2 : Int) : Option Bool := if (imgB l0 l1 a2).length ≤ 1099511627 then some (decide (ImgOk l0 l1 a2)) else none
theorem sbytesF_some {l0 : List (List Bool)} {l1 : List S53} {a2 : Int} {r : List Int} (h : sbytesF l0 l1 a2 = some r) : (imgS l0 l1 a2).length ≤ 1099511627 ∧ imgS l0 l1 a2 = r := by
  unfold sbytesF at h
  by_cases c : (imgS l0 l1 a2).length ≤ 1099511627
  · rw [if_pos c] at h; exact ⟨c, Option.some.inj h⟩
  · rw [if_neg c] at h; cases h
open Classical in
theorem okF_some {l0 : List (List Bool)} {l1 : List S53} {a2 : Int} {r : Bool} (h : okF l0 l1 a2 = some r) : (imgB l0 l1 a2).length ≤ 1099511627 ∧ (r = true ↔ ImgOk l0 l1 a2) := by
  unfold okF at h
  by_cases c : (imgB l0 l1 a2).length ≤ 1099511627
  · rw [if_pos c] at h
    have h2 := Option.some.inj h
    exact ⟨c, by rw [← h2]; exact decide_eq_true_iff⟩
  · rw [if_neg c] at h; cases h
open Classical in
theorem okF_is {l0 : List (List Bool)} {l1 : List S53} {a2 : Int} (hs : (imgB l0 l1 a2).length ≤ 1099511627) {r : Bool} (h : r = true ↔ ImgOk l0 l1 a2) : okF l0 l1 a2 = some r := by
  unfold okF
  rw [if_pos hs]
  congr 1
  cases r
  · exact decide_eq_false (fun hp => by have := h.2 hp; cases this)
  · exact decide_eq_true (h.1 rfl)

theorem sbytes_calls (A0_0 : Option Addr) (c0_0 : Nat) (l0_0 : List (List Bool)) (A0_1 : Option Addr) (c0_1 : Nat) (l0_1 : List (S53)) (a0_2 : Int) (r : List Int) (w : World) (hr0_0 : Kd.C (Kd.slice 4 Kd.bool) w A0_0 l0_0.length l0_0) (hr0_1 : Kd.C k53 w A0_1 l0_1.length l0_1) (h : sbytesF l0_0 l0_1 a0_2 = some r) :
    Calls Try.prog 24 #[.agg #[.slice A0_0 l0_0.length c0_0, .slice A0_1 l0_1.length c0_1, .int .i64 a0_2]] w fun e w' => ∃ v0_ : Value, e = .returned (v0_) ∧ Kd.R (Kd.int .u8) 5 w' w.heap.size (fun _ => True) v0_ r ∧ Below w.heap.size w w' := by
  obtain ⟨hs, rfl⟩ := sbytesF_some h
  refine (sbytes_c A0_0 c0_0 l0_0 A0_1 c0_1 l0_1 a0_2 w hr0_0 hr0_1 hs).mono ?_
  rintro e w' ⟨v, rfl, h1, h2⟩
  exact ⟨v, rfl, h1.long (by simp only [imgS, headS, List.length_append, twosB_len, List.length_cons, List.length_nil]; omega), h2⟩
theorem image_calls (A0_0 : Option Addr) (c0_0 : Nat) (l0_0 : List (List Bool)) (A0_1 : Option Addr) (c0_1 : Nat) (l0_1 : List (S53)) (a0_2 : Int) (r : Bool) (w : World) (hr0_0 : Kd.C (Kd.slice 4 Kd.bool) w A0_0 l0_0.length l0_0) (hr0_1 : Kd.C k53 w A0_1 l0_1.length l0_1) (h : okF l0_0 l0_1 a0_2 = some r) :
    Calls Try.prog 9 #[.agg #[.slice A0_0 l0_0.length c0_0, .slice A0_1 l0_1.length c0_1, .int .i64 a0_2]] w fun e w' => e = .returned (.bool r) ∧ Below w.heap.size w w' := by
  obtain ⟨hs, hr⟩ := okF_some h
  refine (image_c A0_0 c0_0 l0_0 A0_1 c0_1 l0_1 a0_2 w hr0_0 hr0_1 hs).mono ?_
  rintro e w' ⟨b, rfl, h1, h2⟩
  have e2 : b = r := by
    cases b <;> cases r <;> first | rfl | (exfalso; have h3 := h1.1; have h4 := h1.2; have h5 := hr.1; have h6 := hr.2; first | exact absurd (h4 (h5 rfl)) (by decide) | exact absurd (h6 (h3 rfl)) (by decide))
  subst e2
  exact ⟨rfl, h2⟩

end Go.Proofs.Ytkfeoilnhpfknaa.ImFnExactImageRead
