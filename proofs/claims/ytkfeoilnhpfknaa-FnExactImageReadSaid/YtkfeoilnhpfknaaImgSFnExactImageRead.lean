/- Plain law: the specification's test of an image answers by the same conditions as the walk of impl.ImageOk. -/
import Derived.Test.YtkfeoilnhpfknaaQFnExactImageReadx0
import Derived.Test.YtkfeoilnhpfknaaQFnExactImageReadx1
import Derived.Test.YtkfeoilnhpfknaaQFnExactImageReadx2
import Derived.Test.YtkfeoilnhpfknaaQFnExactImageReadx3
import Derived.Test.YtkfeoilnhpfknaaQFnExactImageReadx4
import Derived.Test.YtkfeoilnhpfknaaQFnExactImageReadx5
import Derived.Test.YtkfeoilnhpfknaaQFnExactImageReadx6
import Derived.Test.YtkfeoilnhpfknaaQFnExactImageReadx7
import Derived.Test.YtkfeoilnhpfknaaQFnExactImageReadx8
import Derived.Test.YtkfeoilnhpfknaaQFnExactImageReadx9
import Derived.Test.YtkfeoilnhpfknaaImgTFnExactImageRead
namespace Go.Proofs.Ytkfeoilnhpfknaa.ImgSFnExactImageRead
open Go.RowKit Go.Proofs.Ytkfeoilnhpfknaa.QFnExactImageRead Go.Proofs.YtkfeoilnhpfknaaW.PrintWords Go.Proofs.YtkfeoilnhpfknaaW.PrintLast Go.Proofs.Ytkfeoilnhpfknaa.Aid Go.Proofs.Ytkfeoilnhpfknaa.ImgTFnExactImageRead
open Go.Proofs.Ytkfeoilnhpfknaa.ImFnExactImageRead (inB CodeOk ImgOk imgB imgS imgS_len codeB lenC lenI lenM lenS len0 len1 okF okF_is codeF codeF_is SmallC)

theorem code_tells (l0 : List (List Bool)) (l1 : List S53) (a2 : Int) (c : S53) (h : SmallC l0.length l1.length c) :
    Tells (fun _ => spec_l11codeOk.f l0 l1 a2 c.f0 c.f1 c.f2 c.f3) (fun r => r = true ↔ CodeOk l0.length l1.length c) := by
  obtain ⟨r, hr, hi⟩ := codeF_is h
  exact Tells.eq (show codeF l0.length l1.length ⟨c.f0, c.f1, c.f2, c.f3⟩ = some r from hr) hi

/-! ### An image -/
theorem ok_codes (l0 : List (List Bool)) (l1 : List S53) (a2 : Int) (hsz : (imgB l0 l1 a2).length ≤ 1099511627) (ha : 0 ≤ a2 ∧ a2 < (l1.length : Int)) (d : Nat) :
    ∀ i : Nat, i ≤ l1.length → l1.length - i = d → (∀ j : Nat, j < i → CodeOk l0.length l1.length (rd_T53 l1 j)) → Tells (fun k => spec_l11ok.l1 k (i : Int) l0 l1 a2) (fun r => r = true ↔ (∀ j : Nat, j < l1.length → CodeOk l0.length l1.length (rd_T53 l1 j)) ∧ (rd_T53 l1 a2).f1 = 0) := by
  have h0 := len0 hsz
  have h1 := len1 hsz
  induction d with
  | zero =>
    intro i hi hd hF
    refine Tells.step (fun k => by rw [spec_l11ok.l1]) ?_
    refine Tells.neg (by omega) (Tells.pos (by omega) (Tells.pos (by omega) (Tells.now ?_)))
    rw [beq_iff_eq]
    exact ⟨fun h => ⟨fun j hj => hF j (by omega), h⟩, fun h => h.2⟩
  | succ d ih =>
    intro i hi hd hF
    refine Tells.step (fun k => by rw [spec_l11ok.l1]) ?_
    refine Tells.pos (by omega) (Tells.pos (by omega) ?_)
    have hlc := lenC hsz (j := i) (by omega)
    refine Tells.bind (code_tells l0 l1 a2 (rd_T53 l1 i) ⟨by omega, by omega, by have := lenI hlc; omega, by have := lenM hlc; omega, fun j hj => by have := lenS hlc hj; omega⟩) fun t ht => ?_
    refine Tells.ite (fun c0 => ?_) (fun c0 => Tells.now ⟨fun g => (by cases g), fun g => absurd (ht.2 (g.1 i (by omega))) c0⟩)
    rw [show wrap64 ((i : Int) + 1) = ((i + 1 : Nat) : Int) from by rw [wrap64_id (by omega) (by omega)]; omega]
    refine ih (i + 1) (by omega) (by omega) fun j hj => ?_
    by_cases e : j = i
    · subst e; exact ht.1 c0
    · exact hF j (by omega)

theorem ok_structs (l0 : List (List Bool)) (l1 : List S53) (a2 : Int) (hsz : (imgB l0 l1 a2).length ≤ 1099511627) (P : Bool → Prop) (hno : ¬ (∀ j : Nat, j < l0.length → ¬ 5 < (rd_L1 l0 j).length) → P false) (hyes : (∀ j : Nat, j < l0.length → ¬ 5 < (rd_L1 l0 j).length) → Tells (fun k => spec_l11ok.l1 k 0 l0 l1 a2) P) (d : Nat) :
    ∀ i : Nat, i ≤ l0.length → l0.length - i = d → (∀ j : Nat, j < i → ¬ 5 < (rd_L1 l0 j).length) → Tells (fun k => spec_l11ok.l0 k (i : Int) l0 l1 a2) P := by
  have h0 := len0 hsz
  induction d with
  | zero =>
    intro i hi hd hF
    refine Tells.step (fun k => by rw [spec_l11ok.l0]) ?_
    exact Tells.neg (by omega) (hyes fun j hj => hF j (by omega))
  | succ d ih =>
    intro i hi hd hF
    refine Tells.step (fun k => by rw [spec_l11ok.l0]) ?_
    refine Tells.pos (by omega) (Tells.pos (by omega) ?_)
    refine Tells.ite (fun c0 => Tells.now (hno fun h => h i (by omega) (by omega))) (fun c0 => ?_)
    rw [show wrap64 ((i : Int) + 1) = ((i + 1 : Nat) : Int) from by rw [wrap64_id (by omega) (by omega)]; omega]
    refine ih (i + 1) (by omega) (by omega) fun j hj => ?_
    by_cases e : j = i
    · subst e; omega
    · exact hF j (by omega)

theorem any_is (l : List (List Bool)) : l.any (fun s => decide (5 < s.length)) = false ↔ ∀ j : Nat, j < l.length → ¬ 5 < (rd_L1 l j).length := by
  have e : ∀ (j : Nat) (h : j < l.length), rd_L1 l j = l[j] := fun j h => by
    unfold rd_L1; rw [Int.toNat_natCast, List.getD_eq_getElem?_getD, List.getElem?_eq_getElem h]; rfl
  rw [List.any_eq_false]
  constructor
  · intro h j hj
    have := h _ (List.getElem_mem hj)
    rw [e j hj]
    simpa using this
  · intro h s hs
    obtain ⟨j, hj, rfl⟩ := List.getElem_of_mem hs
    have := h j hj
    rw [e j hj] at this
    simpa using this

theorem ok_tells (l0 : List (List Bool)) (l1 : List S53) (a2 : Int) (hsz : (imgB l0 l1 a2).length ≤ 1099511627) :
    Tells (fun k => spec_l11ok.f k l0 l1 a2) (fun r => r = true ↔ ((l0.length : Int) ≤ 6 ∧ (l1.length : Int) ≤ 8 ∧ inB a2 0 ((l1.length : Int) - 1) = true ∧ (rd_T53 l1 a2).f1 = 0) ∧ l0.any (fun s => decide (5 < s.length)) = false ∧ (∀ j : Nat, j < l1.length → CodeOk l0.length l1.length (rd_T53 l1 j))) := by
  have jno : ∀ {X : Prop}, ¬ X → Tells (fun k => spec_l11ok.j0 k true l0 l1 a2) (fun r => r = true ↔ X) := fun h =>
    Tells.step (fun k => by rw [spec_l11ok.j0]) (Tells.pos rfl (Tells.now ⟨fun g => (by cases g), fun g => absurd g h⟩))
  unfold spec_l11ok.f
  simp only [in_eq, Option.bind_some]
  refine Tells.ite (fun c0 => jno fun h => ?_) (fun c0 => ?_)
  · have := h.1.1; omega
  refine Tells.ite (fun c1 => jno fun h => ?_) (fun c1 => ?_)
  · have := h.1.2.1; omega
  cases c2 : inB a2 0 ((l1.length : Int) - 1)
  · exact jno fun h => by have := h.1.2.2.1; cases this
  · have hb := (inB_iff _ _ _).1 c2
    refine Tells.step (fun k => by rw [spec_l11ok.j0]) (Tells.neg (by decide) ?_)
    refine ok_structs l0 l1 a2 hsz _ (fun h => ?_) (fun h => ?_) l0.length 0 (by omega) (by omega) (fun j hj => absurd hj (by omega))
    · exact ⟨fun g => (by cases g), fun g => absurd ((any_is l0).1 g.2.1) h⟩
    · refine (ok_codes l0 l1 a2 hsz (by omega) l1.length 0 (by omega) (by omega) (fun j hj => absurd hj (by omega))).mono fun r hr => ?_
      rw [hr]
      exact ⟨fun g => ⟨⟨by omega, by omega, rfl, g.2⟩, (any_is l0).2 h, g.1⟩, fun g => ⟨g.2.2, g.1.2.2.2⟩⟩

theorem spec_tells (l0 : List (List Bool)) (l1 : List S53) (a2 : Int) (hsz : (imgB l0 l1 a2).length ≤ 1099511627) : Tells (fun k => spec_ImageOk.f k l0 l1 a2) (fun r => r = true ↔ ImgOk l0 l1 a2) := by
  unfold spec_ImageOk.f
  refine Tells.bind (ok_tells l0 l1 a2 hsz) fun t ht => ?_
  refine Tells.ite (fun c0 => ?_) (fun c0 => Tells.now ⟨fun g => (by cases g), fun g => absurd (ht.2 ⟨g.1, g.2.1, g.2.2.1⟩) c0⟩)
  have e : spec_l11bytes.f l0 l1 a2 = some (imgS l0 l1 a2) := by
    show (if (imgS l0 l1 a2).length ≤ 1099511627 then some (imgS l0 l1 a2) else none) = _
    rw [if_pos (by rw [imgS_len]; exact hsz)]
  rw [e, Option.bind_some, imgS_len]
  refine Tells.now ?_
  rw [decide_eq_true_iff]
  have h := ht.1 c0
  exact ⟨fun g => ⟨h.1, h.2.1, h.2.2, g⟩, fun g => g.2.2.2⟩

end Go.Proofs.Ytkfeoilnhpfknaa.ImgSFnExactImageRead
