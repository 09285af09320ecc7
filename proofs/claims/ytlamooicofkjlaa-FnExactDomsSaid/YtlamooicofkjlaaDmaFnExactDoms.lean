/- Contracts of impl.in, the closure of edgesOk, slices.IndexFunc and ContainsFunc over it. -/
import Derived.Test.YtlamooicofkjlaaQFnExactDomsx0
import Derived.Test.YtlamooicofkjlaaSraFnExactDoms
import Derived.Lib.Hide
import Derived.WalkKit
import Derived.Deep.QuietTactic
namespace Go.Proofs.Ytlamooicofkjlaa.DmFnExactDoms
open Go.RowKit Go.Proofs.Ytlamooicofkjlaa.QFnExactDoms Go.Proofs.YtlamooicofkjlaaW.PrintWords Go.Proofs.YtlamooicofkjlaaW.PrintLast Go.Proofs.Ytlamooicofkjlaa.SrFnExactDoms
set_option linter.unusedVariables false

/-- The blocks of a function in memory, at block gb. -/
def MemB (w : World) (gb : Nat) (B : List S70) : Prop := ∃ A c, w.cell? ⟨gb, 4, none⟩ = some (.slice A B.length c) ∧ Kd.C k70 w A B.length B
theorem MemB.below {w w1 : World} {g : Nat} {B : List S70} (h : MemB w g B) (hb : Below w.heap.size w w1) : MemB w1 g B := by
  obtain ⟨A, c, h1, h2⟩ := h
  exact ⟨A, c, pw_cell_below hb h1, Kd.C_below h2 hb⟩
/-- .. and a pointer to it, at block gp. -/
def MemP (w : World) (gp gb : Nat) (B : List S70) : Prop := w.cell? ⟨gp, 0, none⟩ = some (.pointer (some ⟨gb, 0, none⟩)) ∧ MemB w gb B
theorem MemP.below {w w1 : World} {p g : Nat} {B : List S70} (h : MemP w p g B) (hb : Below w.heap.size w w1) : MemP w1 p g B := ⟨pw_cell_below hb h.1, h.2.below hb⟩

/-- impl.in. -/
def inB (a b c : Int) : Bool := if b ≤ a then decide (a ≤ c) else false
theorem in_c (a b c : Int) (w : World) : Calls Try.prog 38 #[.int .i64 a, .int .i64 b, .int .i64 c] w fun e w' => e = .returned (.bool (inB a b c)) ∧ w = w' := by
  by_cases h : b ≤ a
  · have e : inB a b c = decide (a ≤ c) := if_pos h
    rw [e]
    clear e
    go_enter Try.func38, Try.ntmps38
    go_wp2
    go_ret
    exact ⟨rfl, rfl⟩
  · have e : inB a b c = false := if_neg h
    rw [e]
    clear e
    go_enter Try.func38, Try.ntmps38
    go_wp2
    go_ret
    exact ⟨rfl, rfl⟩
theorem in_q (a b c : Int) (w : World) : Calls Try.prog 38 #[.int .i64 a, .int .i64 b, .int .i64 c] w fun e w' => e = .returned (.bool (inB a b c)) ∧ w' = w := (in_c a b c w).mono fun _ _ ⟨he, hw⟩ => ⟨he, hw.symm⟩

/-- An edge that leads to no block. -/
def bad (n : Nat) (t : Int) : Bool := !inB t 0 ((n : Int) - 1)
theorem bad_iff (n : Nat) (t : Int) : bad n t = false ↔ 0 ≤ t ∧ t < (n : Int) := by
  unfold bad inB
  by_cases h : 0 ≤ t
  · rw [if_pos h]; simp; omega
  · rw [if_neg h]; simp; omega
def Says (b : Bool) (w : World) (e : Ending) (w' : World) : Prop := e = .returned (.bool b) ∧ Below w.heap.size w w'

set_option maxHeartbeats 2000000 in
theorem edge_c (gp gb : Nat) (B : List S70) (t : Int) (v1 : Value) (w : World) (hM : MemP w gp gb B) (hl : B.length ≤ 1099511627776) : Calls Try.prog 37 #[.agg #[.int .i64 t, v1], .pointer (some ⟨gp, 0, none⟩)] w (Says (bad B.length t) w) := by
  have HM := Lib.hid hM
  have hu72 := Try.underlying72
  have hu37 := Try.underlying37
  clear hM
  go_enter Try.func37, Try.ntmps37
  go_wp2_with ((with_reducible refine gate_dst (N := 2) rfl ?_); refine box_event ?hg (N := 2) ?hd (cs := #[.int .i64 t, v1]) (t := 72) ?hr ?_; (case hd => rfl); (case hg => rfl); (case hr => first | (go_simp; done) | (go_simp; rfl)); intro g2 hg w6 hbox hb; have HB := Lib.hid hb; have z0 := (blk_cell hbox 0).trans rfl; obtain ⟨y0, A, c, y4, _⟩ := HM.out.below hb; clear hg hbox hb HM)
  go_quiet (first | (go_at_call 38; refine Calls.quiet_of_same (in_q _ _ _ _)))
  go_wp2
  go_ret
  exact ⟨rfl, by repeat (first | exact HB.out | apply pw_below_drewN)⟩
