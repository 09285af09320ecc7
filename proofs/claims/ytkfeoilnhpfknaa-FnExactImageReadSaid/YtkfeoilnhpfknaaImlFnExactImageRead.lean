/- The bytes of an image as lists, and small facts for the walk of bytes. -/
import Derived.Test.YtkfeoilnhpfknaaImkFnExactImageRead
namespace Go.Proofs.Ytkfeoilnhpfknaa.ImFnExactImageRead
open Go.RowKit Go.Proofs.Ytkfeoilnhpfknaa.QFnExactImageRead Go.Proofs.YtkfeoilnhpfknaaW.PrintWords Go.Proofs.YtkfeoilnhpfknaaW.PrintLast

def boolI (b : Bool) : Int := if b then 1 else 0
def structB (s : List Bool) : List Int := putB [(s.length : Int)] ++ s.map boolI
def insB (x : S68) : List Int := [x.f0 % 256, x.f1 % 256, x.f2 % 256, x.f3 % 256] ++ lowB x.f4 8
def mapB (p : S72) : List Int := putB [p.f0, (p.f1.length : Int)] ++ putB p.f1
def codeB (c : S53) : List Int := putB [c.f0, c.f1, (c.f2.length : Int), (c.f3.length : Int)] ++ c.f2.flatMap insB ++ c.f3.flatMap mapB
def headB (l0 : List (List Bool)) (l1 : List S53) (a2 : Int) : List Int := [71, 73] ++ putB [(l0.length : Int), (l1.length : Int), a2]
def imgB (l0 : List (List Bool)) (l1 : List S53) (a2 : Int) : List Int := headB l0 l1 a2 ++ l0.flatMap structB ++ l1.flatMap codeB

theorem take_succ_d {α : Type} (l : List α) (d : α) {i : Nat} (h : i < l.length) : l.take (i + 1) = l.take i ++ [l.getD i d] := by
  rw [List.take_succ_eq_append_getElem h, List.getD_eq_getElem?_getD, List.getElem?_eq_getElem h]; rfl
theorem flat_succ {α : Type} (l : List α) (d : α) (f : α → List Int) {i : Nat} (h : i < l.length) : (l.take (i + 1)).flatMap f = (l.take i).flatMap f ++ f (l.getD i d) := by
  rw [take_succ_d l d h, List.flatMap_append]; simp
theorem flat_le {α : Type} (l : List α) (f : α → List Int) (i : Nat) : ((l.take i).flatMap f).length ≤ (l.flatMap f).length := by
  have e : l.flatMap f = (l.take i).flatMap f ++ (l.drop i).flatMap f := by rw [← List.flatMap_append, List.take_append_drop]
  rw [e, List.length_append]; omega
theorem flat_lt {α : Type} (l : List α) (d : α) (f : α → List Int) {i : Nat} (h : i < l.length) : ((l.take i).flatMap f).length + (f (l.getD i d)).length ≤ (l.flatMap f).length := by
  have := flat_le l f (i + 1)
  rw [flat_succ l d f h, List.length_append] at this
  exact this

theorem truth_c (b : Bool) (w : World) : Calls Try.prog 59 #[.bool b] w fun e w' => e = .returned (.int .i64 (boolI b)) ∧ w = w' := by
  cases b
  · go_enter Try.func59, Try.ntmps59
    go_wp2
    go_ret
    exact ⟨rfl, rfl⟩
  · go_enter Try.func59, Try.ntmps59
    go_wp2
    go_ret
    exact ⟨rfl, rfl⟩

/-- The box of 'out' at gb holds an own row with these bytes. -/
def Out (w w' : World) (gb : Nat) (ys : List Int) : Prop := ∃ v, w'.heap[gb]? = some (.cells #[v] 34 (0, 0)) ∧ OwnB w' w.heap.size v ys ∧ Below w.heap.size w w'

theorem OwnB.far {w : World} {base : Nat} {v : Value} {xs : List Int} (h : OwnB w base v xs) {k t : Nat} {cs : Array Value} (hb : w.heap[k]? = some (.cells cs t (0, 0))) (ht : 5 ≠ t) : some k ≠ v.ownBlock := by
  rcases h with h | ⟨_, g, rfl, _, _, h3⟩
  · exact Kd.R_ne h hb ht
  · intro e
    have e2 : k = g := by injection e
    subst e2
    rw [hb] at h3
    injection h3 with h3
    injection h3 with _ h4
    exact ht h4.symm
/-- What a put leaves as it was. -/
theorem FrameB.blk {w w' : World} {base : Nat} {v : Value} {xs : List Int} {gb k t : Nat} {cs cs' : Array Value} (h : FrameB w w' v gb) (hO : OwnB w base v xs) (hg : w.heap[gb]? = some (.cells cs' 34 (0, 0))) (hb : w.heap[k]? = some (.cells cs t (0, 0))) (h5 : 5 ≠ t) (h34 : 34 ≠ t) : w'.heap[k]? = some (.cells cs t (0, 0)) := by
  rw [h.2 k (blk_lt hb) (hO.far hb h5) (fun e => by
    subst e
    rw [hb] at hg
    injection hg with hg
    injection hg with _ h4
    exact h34 h4.symm)]
  exact hb

end Go.Proofs.Ytkfeoilnhpfknaa.ImFnExactImageRead
