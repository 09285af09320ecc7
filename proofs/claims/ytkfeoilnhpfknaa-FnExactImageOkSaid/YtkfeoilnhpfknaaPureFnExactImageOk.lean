/- Plain law: with enough rounds the printed law FnExactImageOk answers true. -/
import Derived.Test.YtkfeoilnhpfknaaImgEFnExactImageOk
import Derived.Test.YtkfeoilnhpfknaaImgSFnExactImageOk
namespace Go.Proofs.Ytkfeoilnhpfknaa.Pure
open Go.RowKit Go.Proofs.Ytkfeoilnhpfknaa.QFnExactImageOk Go.Proofs.YtkfeoilnhpfknaaW.PrintWords Go.Proofs.YtkfeoilnhpfknaaW.PrintLast Go.Proofs.Ytkfeoilnhpfknaa.Aid Go.Proofs.Ytkfeoilnhpfknaa.Loops Go.Proofs.Ytkfeoilnhpfknaa.ImgEFnExactImageOk Go.Proofs.Ytkfeoilnhpfknaa.ImgSFnExactImageOk
open Go.Proofs.Ytkfeoilnhpfknaa.ImFnExactImageOk (imgB structB mapB codeB insB headB putB_len lowB_len okF okF_is ImgOk)

theorem flat_most {α : Type} (l : List α) (f : α → List Int) (sz : α → Nat) (a b : Nat) (h : ∀ x, (f x).length ≤ a + b * sz x) : (l.flatMap f).length ≤ a * l.length + b * sumOf sz l := by
  induction l with
  | nil => simp [sumOf]
  | cons x l ih =>
    have := h x
    rw [List.flatMap_cons, List.length_append, List.length_cons, sumOf, Nat.mul_add, Nat.mul_add]
    omega
theorem ins_len (l : List S68) : (l.flatMap insB).length = 12 * l.length := by
  induction l with
  | nil => rfl
  | cons x l ih => rw [List.flatMap_cons, List.length_append, ih, List.length_cons]; simp only [insB, List.length_append, lowB_len, List.length_cons, List.length_nil]; omega
theorem img_most (l0 : List (List Bool)) (l1 : List S83) (a2 : Int) : (imgB l0 (l1.map toC) a2).length ≤ 8 + 12 * szAll l0 l1 := by
  have e0 := flat_most l0 structB List.length 2 1 (fun s => by simp only [structB, List.length_append, putB_len, List.length_map, List.length_cons, List.length_nil]; omega)
  have e1 := flat_most l1 (fun c => codeB (toC c)) szC 8 12 (fun c => by
    have e2 := flat_most c.f3 (fun m => mapB (toM m)) szM 4 2 (fun m => by simp only [mapB, toM, szM, List.length_append, putB_len, List.length_cons, List.length_nil]; omega)
    have e3 := ins_len (c.f2.map toI)
    rw [List.flatMap_map, List.length_map] at e3
    simp only [codeB, toC, szC, List.length_append, putB_len, List.length_map, List.flatMap_map, List.length_cons, List.length_nil]
    omega)
  unfold szAll
  simp only [imgB, headB, List.length_append, putB_len, List.flatMap_map, List.length_cons, List.length_nil]
  omega

theorem FnExactImageOk (l0 : List (List Bool)) (l1 : List S83) (a2 : Int) (hf : Fits l0 l1) : ∃ k, laws_FnExactImageOk.f k l0 l1 a2 = some true := by
  refine Tells.rounds (r := true) ?_
  unfold laws_FnExactImageOk.f
  refine Tells.bind (szImage_tells l0 l1 a2 hf) fun t ht => ?_
  refine Tells.ite (fun _ => Tells.now rfl) (fun c => ?_)
  rcases ht with ht | ⟨h0, h1⟩
  · exact absurd ht c
  have hs := short_of (l0 := l0) (l1 := l1) (by omega)
  have hm := img_most l0 l1 a2
  have hsz : (imgB l0 (l1.map toC) a2).length ≤ 1099511627 := by omega
  refine Tells.bind (toImage_tells l0 l1 a2 hs) fun b hb => ?_
  subst hb
  refine Tells.bind (spec_tells l0 (l1.map toC) a2 hsz) fun r hr => ?_
  refine Tells.bind (toImage_tells l0 l1 a2 hs) fun b hb => ?_
  subst hb
  have e : impl_ImageOk.f l0 (l1.map toC) a2 = some r := okF_is hsz hr
  simp only [e, Option.bind_some, bne_self_eq_false, Bool.false_eq_true, if_false]
  refine Tells.bind (toImage_tells l0 l1 a2 hs) fun b hb => ?_
  subst hb
  exact Tells.bind (eqImage_tells l0 l1 a2 hs) fun t ht => Tells.pos ht (Tells.now rfl)

end Go.Proofs.Ytkfeoilnhpfknaa.Pure
