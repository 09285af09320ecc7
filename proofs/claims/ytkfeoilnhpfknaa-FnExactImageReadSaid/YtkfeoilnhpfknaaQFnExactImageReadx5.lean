-- Laid by a program of this session (wip/myprint) out of the translation, after print.sh's manner.
import Derived.Test.YtkfeoilnhpfknaaQFnExactImageReadx0
import Derived.Test.YtkfeoilnhpfknaaQFnExactImageReadx4
namespace Go.Proofs.Ytkfeoilnhpfknaa.QFnExactImageRead
open Go.RowKit Go.Proofs.YtkfeoilnhpfknaaW.PrintWords Go.Proofs.YtkfeoilnhpfknaaW.PrintLast Go.Proofs.YtkfeoilnhpfknaaW.PrintMore
attribute [local go_sem] max2_int min2_int max_two min_two max_three min_three max_four min_four   -- for this text's walks alone
set_option linter.unusedVariables false
set_option linter.unusedSimpArgs false

/-! ### spec_l11insOk: function 70 -/
mutual
def spec_l11insOk.j0 : Nat → Bool → List (List Bool) → List (S53) → Int → Int → Int → List (S68) → List (S72) → Int → Int → Int → Int → Int → Option (Bool)
  | 0, _, _, _, _, _, _, _, _, _, _, _, _, _ => none
  | k + 1, x28, x143000, x143001, x143002, x144000, x144001, x144002, x144003, x145000, x145001, x145002, x145003, x145004 => if x28 = true then (some false) else (if x145000 = 0 then (some true) else (if x145000 = 2 then (spec_l11insOk.j1 k x145000 (x145000 == 2) x143000 x143001 x143002 x144000 x144001 x144002 x144003 x145000 x145001 x145002 x145003 x145004) else (spec_l11insOk.j1 k x145000 (x145000 == 3) x143000 x143001 x143002 x144000 x144001 x144002 x144003 x145000 x145001 x145002 x145003 x145004)))
def spec_l11insOk.j1 : Nat → Int → Bool → List (List Bool) → List (S53) → Int → Int → Int → List (S68) → List (S72) → Int → Int → Int → Int → Int → Option (Bool)
  | 0, _, _, _, _, _, _, _, _, _, _, _, _, _, _ => none
  | k + 1, x30, x33, x143000, x143001, x143002, x144000, x144001, x144002, x144003, x145000, x145001, x145002, x145003, x145004 => if x33 = true then (if x145004 ≥ 3 then (some (decide (x145004 < x144000))) else (some false)) else (if x30 = 4 then ((spec_l11in.f x145004 7).bind fun t149 => (some t149)) else (if x30 = 5 then ((spec_l11in.f x145004 6).bind fun t150 => (some t150)) else (if x30 = 10 then ((spec_l11in.f x145004 (x143000.length : Int)).bind fun t151 => (some t151)) else (if x30 = 11 then ((spec_l11in.f x145004 3).bind fun t152 => (some t152)) else (if x30 = 16 then (spec_l11insOk.j2 k x30 (x30 == 16) x143000 x143001 x143002 x144000 x144001 x144002 x144003 x145000 x145001 x145002 x145003 x145004) else (spec_l11insOk.j2 k x30 (x30 == 17) x143000 x143001 x143002 x144000 x144001 x144002 x144003 x145000 x145001 x145002 x145003 x145004))))))
def spec_l11insOk.j2 : Nat → Int → Bool → List (List Bool) → List (S53) → Int → Int → Int → List (S68) → List (S72) → Int → Int → Int → Int → Int → Option (Bool)
  | 0, _, _, _, _, _, _, _, _, _, _, _, _, _, _ => none
  | k + 1, x30, x69, x143000, x143001, x143002, x144000, x144001, x144002, x144003, x145000, x145001, x145002, x145003, x145004 => if x69 = true then ((spec_l11in.f x145004 5).bind fun t153 => (some t153)) else (if x30 = 21 then (spec_l11insOk.j3 k x30 (x30 == 21) x143000 x143001 x143002 x144000 x144001 x144002 x144003 x145000 x145001 x145002 x145003 x145004) else (spec_l11insOk.j3 k x30 (x30 == 24) x143000 x143001 x143002 x144000 x144001 x144002 x144003 x145000 x145001 x145002 x145003 x145004))
def spec_l11insOk.j3 : Nat → Int → Bool → List (List Bool) → List (S53) → Int → Int → Int → List (S68) → List (S72) → Int → Int → Int → Int → Int → Option (Bool)
  | 0, _, _, _, _, _, _, _, _, _, _, _, _, _, _ => none
  | k + 1, x30, x75, x143000, x143001, x143002, x144000, x144001, x144002, x144003, x145000, x145001, x145002, x145003, x145004 => if x75 = true then ((spec_l11in.f x145004 2).bind fun t154 => (some t154)) else (if x30 = 22 then ((spec_l11in.f x145004 4).bind fun t155 => (some t155)) else (if x30 = 23 then ((spec_l11in.f x145004 (x143001.length : Int)).bind fun t156 => (some t156)) else (if x30 = 26 then ((spec_l11in.f x145004 (x144002.length : Int)).bind fun t157 => (some t157)) else (if x30 = 27 then ((spec_l11in.f x145004 (x144002.length : Int)).bind fun t158 => (some t158)) else (some (x145004 == 0))))))
end
def spec_l11insOk.f (k : Nat) (l0_0 : List (List Bool)) (l0_1 : List (S53)) (a0_2 : Int) (a1_0 : Int) (a1_1 : Int) (l1_2 : List (S68)) (l1_3 : List (S72)) (a2_0 : Int) (a2_1 : Int) (a2_2 : Int) (a2_3 : Int) (a2_4 : Int) : Option (Bool) := (spec_l11in.f a2_0 28).bind fun t145 => (if t145 = true then ((spec_l11in.f a2_1 16).bind fun t146 => (if t146 = true then ((spec_l11in.f a2_2 16).bind fun t147 => (if t147 = true then ((spec_l11in.f a2_3 16).bind fun t148 => (spec_l11insOk.j0 k (!t148) l0_0 l0_1 a0_2 a1_0 a1_1 l1_2 l1_3 a2_0 a2_1 a2_2 a2_3 a2_4)) else (spec_l11insOk.j0 k true l0_0 l0_1 a0_2 a1_0 a1_1 l1_2 l1_3 a2_0 a2_1 a2_2 a2_3 a2_4))) else (spec_l11insOk.j0 k true l0_0 l0_1 a0_2 a1_0 a1_1 l1_2 l1_3 a2_0 a2_1 a2_2 a2_3 a2_4))) else (spec_l11insOk.j0 k true l0_0 l0_1 a0_2 a1_0 a1_1 l1_2 l1_3 a2_0 a2_1 a2_2 a2_3 a2_4))
set_option maxHeartbeats 8000000 in
set_option maxRecDepth 100000 in
theorem spec_l11insOk.calls (k : Nat) (A0_0 : Option Addr) (c0_0 : Nat) (l0_0 : List (List Bool)) (A0_1 : Option Addr) (c0_1 : Nat) (l0_1 : List (S53)) (a0_2 : Int) (a1_0 : Int) (a1_1 : Int) (A1_2 : Option Addr) (c1_2 : Nat) (l1_2 : List (S68)) (A1_3 : Option Addr) (c1_3 : Nat) (l1_3 : List (S72)) (a2_0 : Int) (a2_1 : Int) (a2_2 : Int) (a2_3 : Int) (a2_4 : Int) (r : Bool) (w : World) (hr0_0 : Kd.C (Kd.slice 4 Kd.bool) w A0_0 l0_0.length l0_0) (hc0_0 : l0_0.length ≤ c0_0) (hr0_1 : Kd.C k53 w A0_1 l0_1.length l0_1) (hc0_1 : l0_1.length ≤ c0_1) (hr1_2 : Kd.C k68 w A1_2 l1_2.length l1_2) (hc1_2 : l1_2.length ≤ c1_2) (hr1_3 : Kd.C k72 w A1_3 l1_3.length l1_3) (hc1_3 : l1_3.length ≤ c1_3) (h : spec_l11insOk.f k l0_0 l0_1 a0_2 a1_0 a1_1 l1_2 l1_3 a2_0 a2_1 a2_2 a2_3 a2_4 = some r) :
    Calls Try.prog 70 #[.agg #[.slice A0_0 l0_0.length c0_0, .slice A0_1 l0_1.length c0_1, .int .i64 a0_2], .agg #[.int .i64 a1_0, .int .i64 a1_1, .slice A1_2 l1_2.length c1_2, .slice A1_3 l1_3.length c1_3], .agg #[.int .i64 a2_0, .int .i64 a2_1, .int .i64 a2_2, .int .i64 a2_3, .int .i64 a2_4]] w fun e w' => e = .returned (.bool r) ∧ Below w.heap.size w w' := by
  have hu30 := Try.underlying30
  have hu53 := Try.underlying53
  have hu68 := Try.underlying68
  have HR0_0 := Aside0.mk hr0_0
  have HC0_0 := Aside0.mk hc0_0
  clear hr0_0 hc0_0
  have HR0_1 := Aside0.mk hr0_1
  have HC0_1 := Aside0.mk hc0_1
  clear hr0_1 hc0_1
  have HR1_2 := Aside0.mk hr1_2
  have HC1_2 := Aside0.mk hc1_2
  clear hr1_2 hc1_2
  have HR1_3 := Aside0.mk hr1_3
  have HC1_3 := Aside0.mk hc1_3
  clear hr1_3 hc1_3
  have HB := Aside0.mk (Below.refl w.heap.size w)
  have H : ((spec_l11in.f a2_0 28).bind fun t145 => (if t145 = true then ((spec_l11in.f a2_1 16).bind fun t146 => (if t146 = true then ((spec_l11in.f a2_2 16).bind fun t147 => (if t147 = true then ((spec_l11in.f a2_3 16).bind fun t148 => (spec_l11insOk.j0 k (!t148) l0_0 l0_1 a0_2 a1_0 a1_1 l1_2 l1_3 a2_0 a2_1 a2_2 a2_3 a2_4)) else (spec_l11insOk.j0 k true l0_0 l0_1 a0_2 a1_0 a1_1 l1_2 l1_3 a2_0 a2_1 a2_2 a2_3 a2_4))) else (spec_l11insOk.j0 k true l0_0 l0_1 a0_2 a1_0 a1_1 l1_2 l1_3 a2_0 a2_1 a2_2 a2_3 a2_4))) else (spec_l11insOk.j0 k true l0_0 l0_1 a0_2 a1_0 a1_1 l1_2 l1_3 a2_0 a2_1 a2_2 a2_3 a2_4))) = some r := h
  clear h
  have HC4 := Aside0.mk H
  clear H
  go_enter Try.func70, Try.ntmps70
  go_upto_region 1 with (first | ((with_reducible refine gate_dst (N := 3) rfl ?_); refine box_event ?hg (N := 3) ?hd (cs := #[.slice A0_0 l0_0.length c0_0, .slice A0_1 l0_1.length c0_1, .int .i64 a0_2]) (t := 30) ?hr ?_; (case hd => rfl); (case hg => rfl); (case hr => first | (go_simp; done) | (go_simp; rfl)); intro gb142 hg w5 hbox hb; have n0_ := Aside0.mk (below_step (by repeat (first | (with_reducible first | exact HB.out | apply below_alloc | apply pw_below_drewN | apply below_drew1) | exact HB.out)) hb); have n1_ := Aside0.mk (hbox); have n2_ := Aside0.mk ((by rw [hg]; exact (below_size (by repeat (first | (with_reducible first | exact HB.out | apply below_alloc | apply pw_below_drewN | apply below_drew1) | exact HB.out))) : w.heap.size ≤ gb142)); have n3_ := Aside0.mk ((by rw [hg]; exact (below_size (by repeat (first | (with_reducible first | exact HB.out | apply below_alloc | apply pw_below_drewN | apply below_drew1) | exact HB.out))) : w.heap.size ≤ gb142)); clear HB; have HB := n0_; have BK142 := n1_; have GW142 := n2_; have GE142 := n3_; clear n0_ n1_ n2_ n3_; clear hb hbox hg) | ((with_reducible refine gate_dst (N := 4) rfl ?_); refine box_event ?hg (N := 4) ?hd (cs := #[.int .i64 a1_0, .int .i64 a1_1, .slice A1_2 l1_2.length c1_2, .slice A1_3 l1_3.length c1_3]) (t := 53) ?hr ?_; (case hd => rfl); (case hg => rfl); (case hr => first | (go_simp; done) | (go_simp; rfl)); intro gb143 hg w6 hbox hb; have n0_ := Aside0.mk (blk_below (g := gb142) (o := .cells #[.slice A0_0 l0_0.length c0_0, .slice A0_1 l0_1.length c0_1, .int .i64 a0_2] 30 (0, 0)) (by (with_reducible repeat (first | refine blk_drewN ?_ _ | refine blk_drew ?_ | refine blk_alloc ?_ _)); exact BK142.out) hb); have n1_ := Aside0.mk (below_step (by repeat (first | (with_reducible first | exact HB.out | apply below_alloc | apply pw_below_drewN | apply below_drew1 | refine below_set ?_ GE142.out) | exact HB.out)) hb); have n2_ := Aside0.mk (hbox); have n3_ := Aside0.mk ((by rw [hg]; exact (below_size (by repeat (first | (with_reducible first | exact HB.out | apply below_alloc | apply pw_below_drewN | apply below_drew1 | refine below_set ?_ GE142.out) | exact HB.out))) : w.heap.size ≤ gb143)); have n4_ := Aside0.mk ((by rw [hg]; exact (below_size (by repeat (first | (with_reducible first | exact HB.out | apply below_alloc | apply pw_below_drewN | apply below_drew1 | refine below_set ?_ GE142.out) | exact HB.out))) : w.heap.size ≤ gb143)); have n5_ := Aside0.mk ((by rw [hg]; exact Nat.ne_of_lt (blk_lt (g := gb142) (o := .cells #[.slice A0_0 l0_0.length c0_0, .slice A0_1 l0_1.length c0_1, .int .i64 a0_2] 30 (0, 0)) (by (with_reducible repeat (first | refine blk_drewN ?_ _ | refine blk_drew ?_ | refine blk_alloc ?_ _)); exact BK142.out)) : gb142 ≠ gb143)); have n6_ := Aside0.mk ((by rw [hg]; exact Nat.ne_of_gt (blk_lt (g := gb142) (o := .cells #[.slice A0_0 l0_0.length c0_0, .slice A0_1 l0_1.length c0_1, .int .i64 a0_2] 30 (0, 0)) (by (with_reducible repeat (first | refine blk_drewN ?_ _ | refine blk_drew ?_ | refine blk_alloc ?_ _)); exact BK142.out)) : gb143 ≠ gb142)); clear BK142; clear HB; have BK142 := n0_; have HB := n1_; have BK143 := n2_; have GW143 := n3_; have GE143 := n4_; have NB142_143 := n5_; have NB143_142 := n6_; clear n0_ n1_ n2_ n3_ n4_ n5_ n6_; clear hb hbox hg) | ((with_reducible refine gate_dst (N := 5) rfl ?_); refine box_event ?hg (N := 5) ?hd (cs := #[.int .i64 a2_0, .int .i64 a2_1, .int .i64 a2_2, .int .i64 a2_3, .int .i64 a2_4]) (t := 68) ?hr ?_; (case hd => rfl); (case hg => rfl); (case hr => first | (go_simp; done) | (go_simp; rfl)); intro gb144 hg w7 hbox hb; have n0_ := Aside0.mk (blk_below (g := gb142) (o := .cells #[.slice A0_0 l0_0.length c0_0, .slice A0_1 l0_1.length c0_1, .int .i64 a0_2] 30 (0, 0)) (by (with_reducible repeat (first | refine blk_drewN ?_ _ | refine blk_drew ?_ | refine blk_alloc ?_ _)); exact BK142.out) hb); have n1_ := Aside0.mk (blk_below (g := gb143) (o := .cells #[.int .i64 a1_0, .int .i64 a1_1, .slice A1_2 l1_2.length c1_2, .slice A1_3 l1_3.length c1_3] 53 (0, 0)) (by (with_reducible repeat (first | refine blk_drewN ?_ _ | refine blk_drew ?_ | refine blk_alloc ?_ _)); exact BK143.out) hb); have n2_ := Aside0.mk (below_step (by repeat (first | (with_reducible first | exact HB.out | apply below_alloc | apply pw_below_drewN | apply below_drew1 | refine below_set ?_ GE142.out | refine below_set ?_ GE143.out) | exact HB.out)) hb); have n3_ := Aside0.mk (hbox); have n4_ := Aside0.mk ((by rw [hg]; exact (below_size (by repeat (first | (with_reducible first | exact HB.out | apply below_alloc | apply pw_below_drewN | apply below_drew1 | refine below_set ?_ GE142.out | refine below_set ?_ GE143.out) | exact HB.out))) : w.heap.size ≤ gb144)); have n5_ := Aside0.mk ((by rw [hg]; exact (below_size (by repeat (first | (with_reducible first | exact HB.out | apply below_alloc | apply pw_below_drewN | apply below_drew1 | refine below_set ?_ GE142.out | refine below_set ?_ GE143.out) | exact HB.out))) : w.heap.size ≤ gb144)); have n6_ := Aside0.mk ((by rw [hg]; exact Nat.ne_of_lt (blk_lt (g := gb142) (o := .cells #[.slice A0_0 l0_0.length c0_0, .slice A0_1 l0_1.length c0_1, .int .i64 a0_2] 30 (0, 0)) (by (with_reducible repeat (first | refine blk_drewN ?_ _ | refine blk_drew ?_ | refine blk_alloc ?_ _)); exact BK142.out)) : gb142 ≠ gb144)); have n7_ := Aside0.mk ((by rw [hg]; exact Nat.ne_of_gt (blk_lt (g := gb142) (o := .cells #[.slice A0_0 l0_0.length c0_0, .slice A0_1 l0_1.length c0_1, .int .i64 a0_2] 30 (0, 0)) (by (with_reducible repeat (first | refine blk_drewN ?_ _ | refine blk_drew ?_ | refine blk_alloc ?_ _)); exact BK142.out)) : gb144 ≠ gb142)); have n8_ := Aside0.mk ((by rw [hg]; exact Nat.ne_of_lt (blk_lt (g := gb143) (o := .cells #[.int .i64 a1_0, .int .i64 a1_1, .slice A1_2 l1_2.length c1_2, .slice A1_3 l1_3.length c1_3] 53 (0, 0)) (by (with_reducible repeat (first | refine blk_drewN ?_ _ | refine blk_drew ?_ | refine blk_alloc ?_ _)); exact BK143.out)) : gb143 ≠ gb144)); have n9_ := Aside0.mk ((by rw [hg]; exact Nat.ne_of_gt (blk_lt (g := gb143) (o := .cells #[.int .i64 a1_0, .int .i64 a1_1, .slice A1_2 l1_2.length c1_2, .slice A1_3 l1_3.length c1_3] 53 (0, 0)) (by (with_reducible repeat (first | refine blk_drewN ?_ _ | refine blk_drew ?_ | refine blk_alloc ?_ _)); exact BK143.out)) : gb144 ≠ gb143)); clear BK142; clear BK143; clear HB; have BK142 := n0_; have BK143 := n1_; have HB := n2_; have BK144 := n3_; have GW144 := n4_; have GE144 := n5_; have NB142_144 := n6_; have NB144_142 := n7_; have NB143_144 := n8_; have NB144_143 := n9_; clear n0_ n1_ n2_ n3_ n4_ n5_ n6_ n7_ n8_ n9_; clear hb hbox hg))
  (try simp only [Act.put, List.setIfInBounds_toArray, List.set_cons_zero, List.set_cons_succ])
  go_cut [28] (fun v28 wc => ∃ (kq : Nat) (x28_3 : Bool), v28 = .bool x28_3 ∧ Aside0 (spec_l11insOk.j0 kq x28_3 l0_0 l0_1 a0_2 a1_0 a1_1 l1_2 l1_3 a2_0 a2_1 a2_2 a2_3 a2_4 = some r) ∧ Aside0 (kq ≤ k) ∧ Aside0 (wc.heap[gb142]? = some (.cells #[(.slice A0_0 l0_0.length c0_0), (.slice A0_1 l0_1.length c0_1), .int .i64 a0_2] 30 (0, 0))) ∧ Aside0 (wc.heap[gb143]? = some (.cells #[.int .i64 a1_0, .int .i64 a1_1, (.slice A1_2 l1_2.length c1_2), (.slice A1_3 l1_3.length c1_3)] 53 (0, 0))) ∧ Aside0 (wc.heap[gb144]? = some (.cells #[.int .i64 a2_0, .int .i64 a2_1, .int .i64 a2_2, .int .i64 a2_3, .int .i64 a2_4] 68 (0, 0))) ∧ Aside0 (Below w.heap.size w wc))
  case first =>
    have H := HC4.out
    clear HC4
    replace H := Option.bind_eq_some_iff.mp H
    obtain ⟨t145, A80, H⟩ := H
    replace H : (if t145 = true then ((spec_l11in.f a2_1 16).bind fun t146 => (if t146 = true then ((spec_l11in.f a2_2 16).bind fun t147 => (if t147 = true then ((spec_l11in.f a2_3 16).bind fun t148 => (spec_l11insOk.j0 k (!t148) l0_0 l0_1 a0_2 a1_0 a1_1 l1_2 l1_3 a2_0 a2_1 a2_2 a2_3 a2_4)) else (spec_l11insOk.j0 k true l0_0 l0_1 a0_2 a1_0 a1_1 l1_2 l1_3 a2_0 a2_1 a2_2 a2_3 a2_4))) else (spec_l11insOk.j0 k true l0_0 l0_1 a0_2 a1_0 a1_1 l1_2 l1_3 a2_0 a2_1 a2_2 a2_3 a2_4))) else (spec_l11insOk.j0 k true l0_0 l0_1 a0_2 a1_0 a1_1 l1_2 l1_3 a2_0 a2_1 a2_2 a2_3 a2_4)) = some r := H
    have A8 := Aside0.mk A80
    clear A80
    by_cases c9 : t145 = true
    · subst c9
      have H1 : ((spec_l11in.f a2_1 16).bind fun t146 => (if t146 = true then ((spec_l11in.f a2_2 16).bind fun t147 => (if t147 = true then ((spec_l11in.f a2_3 16).bind fun t148 => (spec_l11insOk.j0 k (!t148) l0_0 l0_1 a0_2 a1_0 a1_1 l1_2 l1_3 a2_0 a2_1 a2_2 a2_3 a2_4)) else (spec_l11insOk.j0 k true l0_0 l0_1 a0_2 a1_0 a1_1 l1_2 l1_3 a2_0 a2_1 a2_2 a2_3 a2_4))) else (spec_l11insOk.j0 k true l0_0 l0_1 a0_2 a1_0 a1_1 l1_2 l1_3 a2_0 a2_1 a2_2 a2_3 a2_4))) = some r := by rw [if_pos rfl] at H; exact H
      clear H
      have H := H1
      clear H1
      replace H := Option.bind_eq_some_iff.mp H
      obtain ⟨t146, A100, H⟩ := H
      replace H : (if t146 = true then ((spec_l11in.f a2_2 16).bind fun t147 => (if t147 = true then ((spec_l11in.f a2_3 16).bind fun t148 => (spec_l11insOk.j0 k (!t148) l0_0 l0_1 a0_2 a1_0 a1_1 l1_2 l1_3 a2_0 a2_1 a2_2 a2_3 a2_4)) else (spec_l11insOk.j0 k true l0_0 l0_1 a0_2 a1_0 a1_1 l1_2 l1_3 a2_0 a2_1 a2_2 a2_3 a2_4))) else (spec_l11insOk.j0 k true l0_0 l0_1 a0_2 a1_0 a1_1 l1_2 l1_3 a2_0 a2_1 a2_2 a2_3 a2_4)) = some r := H
      have A10 := Aside0.mk A100
      clear A100
      by_cases c11 : t146 = true
      · subst c11
        have H1 : ((spec_l11in.f a2_2 16).bind fun t147 => (if t147 = true then ((spec_l11in.f a2_3 16).bind fun t148 => (spec_l11insOk.j0 k (!t148) l0_0 l0_1 a0_2 a1_0 a1_1 l1_2 l1_3 a2_0 a2_1 a2_2 a2_3 a2_4)) else (spec_l11insOk.j0 k true l0_0 l0_1 a0_2 a1_0 a1_1 l1_2 l1_3 a2_0 a2_1 a2_2 a2_3 a2_4))) = some r := by rw [if_pos rfl] at H; exact H
        clear H
        have H := H1
        clear H1
        replace H := Option.bind_eq_some_iff.mp H
        obtain ⟨t147, A120, H⟩ := H
        replace H : (if t147 = true then ((spec_l11in.f a2_3 16).bind fun t148 => (spec_l11insOk.j0 k (!t148) l0_0 l0_1 a0_2 a1_0 a1_1 l1_2 l1_3 a2_0 a2_1 a2_2 a2_3 a2_4)) else (spec_l11insOk.j0 k true l0_0 l0_1 a0_2 a1_0 a1_1 l1_2 l1_3 a2_0 a2_1 a2_2 a2_3 a2_4)) = some r := H
        have A12 := Aside0.mk A120
        clear A120
        by_cases c13 : t147 = true
        · subst c13
          have H1 : ((spec_l11in.f a2_3 16).bind fun t148 => (spec_l11insOk.j0 k (!t148) l0_0 l0_1 a0_2 a1_0 a1_1 l1_2 l1_3 a2_0 a2_1 a2_2 a2_3 a2_4)) = some r := by rw [if_pos rfl] at H; exact H
          clear H
          have H := H1
          clear H1
          replace H := Option.bind_eq_some_iff.mp H
          obtain ⟨t148, A140, H⟩ := H
          replace H : (spec_l11insOk.j0 k (!t148) l0_0 l0_1 a0_2 a1_0 a1_1 l1_2 l1_3 a2_0 a2_1 a2_2 a2_3 a2_4) = some r := H
          have A14 := Aside0.mk A140
          clear A140
          have H' := Aside0.mk H
          clear H
          have hnb15 := NB144_142.out
          have hnc15 := NB142_144.out
          have hnb16 := NB144_143.out
          have hnc16 := NB143_144.out
          have hcz17_0 : w7.cell? ⟨gb144, 0, none⟩ = some (.int .i64 a2_0) := (blk_cell BK144.out 0).trans rfl
          have hcz17_1 : w7.cell? ⟨gb144, 1, none⟩ = some (.int .i64 a2_1) := (blk_cell BK144.out 1).trans rfl
          have hcz17_2 : w7.cell? ⟨gb144, 2, none⟩ = some (.int .i64 a2_2) := (blk_cell BK144.out 2).trans rfl
          have hcz17_3 : w7.cell? ⟨gb144, 3, none⟩ = some (.int .i64 a2_3) := (blk_cell BK144.out 3).trans rfl
          have hcz17_4 : w7.cell? ⟨gb144, 4, none⟩ = some (.int .i64 a2_4) := (blk_cell BK144.out 4).trans rfl
          have hfz17_0 := blk_frozen BK144.out 0
          have hfz17_1 := blk_frozen BK144.out 1
          have hfz17_2 := blk_frozen BK144.out 2
          have hfz17_3 := blk_frozen BK144.out 3
          have hfz17_4 := blk_frozen BK144.out 4
          go_wp2_with (first | ((with_reducible refine gate_callee (f := 47) rfl ?_); refine goesL_ (some 9) rfl rfl Try.func47 (by kernel_rfl) rfl #[.int .i64 a2_0, .int .i64 28] rfl (by (try simp only [List.map_toArray, List.map_cons, List.map_nil]); first | done | rfl | (simp only [List.length_drop, List.length_take]; rfl)) ?_; (with_reducible refine (spec_l11in.calls a2_0 28 true _ A8.out).mono ?_); rintro e w' ⟨rfl, ⟨nd, rfl⟩⟩; refine ⟨_, rfl, ?_⟩) | (go_at_call 47; (with_reducible refine (spec_l11in.calls a2_1 16 true _ A10.out).mono ?_); rintro e w' ⟨rfl, ⟨nd, rfl⟩⟩) | (go_at_call 47; (with_reducible refine (spec_l11in.calls a2_2 16 true _ A12.out).mono ?_); rintro e w' ⟨rfl, ⟨nd, rfl⟩⟩) | (go_at_call 47; (with_reducible refine (spec_l11in.calls a2_3 16 t148 _ A14.out).mono ?_); rintro e w' ⟨rfl, ⟨nd, rfl⟩⟩))
          go_meet
          case rel => exact ⟨_, (!t148), (by first | rfl | (simp; done) | (simp [*]; done)), H', ⟨by first | omega | exact Nat.le_refl _⟩, ⟨by (with_reducible repeat (first | refine blk_drewN ?_ _ | refine blk_drew ?_ | refine blk_alloc ?_ _)); exact BK142.out⟩, ⟨by (with_reducible repeat (first | refine blk_drewN ?_ _ | refine blk_drew ?_ | refine blk_alloc ?_ _)); exact BK143.out⟩, ⟨by (with_reducible repeat (first | refine blk_drewN ?_ _ | refine blk_drew ?_ | refine blk_alloc ?_ _)); exact BK144.out⟩, ⟨by repeat (first | (with_reducible first | exact HB.out | apply below_alloc | apply pw_below_drewN | apply below_drew1 | refine below_set ?_ GE142.out | refine below_set ?_ GE143.out | refine below_set ?_ GE144.out) | exact HB.out)⟩⟩
        · replace c13 := Bool.eq_false_iff.mpr c13
          subst c13
          have H1 : (spec_l11insOk.j0 k true l0_0 l0_1 a0_2 a1_0 a1_1 l1_2 l1_3 a2_0 a2_1 a2_2 a2_3 a2_4) = some r := by rw [if_neg (show ¬ (false = true) by decide)] at H; exact H
          clear H
          have H := H1
          clear H1
          have H' := Aside0.mk H
          clear H
          have hnb18 := NB144_142.out
          have hnc18 := NB142_144.out
          have hnb19 := NB144_143.out
          have hnc19 := NB143_144.out
          have hcz20_0 : w7.cell? ⟨gb144, 0, none⟩ = some (.int .i64 a2_0) := (blk_cell BK144.out 0).trans rfl
          have hcz20_1 : w7.cell? ⟨gb144, 1, none⟩ = some (.int .i64 a2_1) := (blk_cell BK144.out 1).trans rfl
          have hcz20_2 : w7.cell? ⟨gb144, 2, none⟩ = some (.int .i64 a2_2) := (blk_cell BK144.out 2).trans rfl
          have hcz20_3 : w7.cell? ⟨gb144, 3, none⟩ = some (.int .i64 a2_3) := (blk_cell BK144.out 3).trans rfl
          have hcz20_4 : w7.cell? ⟨gb144, 4, none⟩ = some (.int .i64 a2_4) := (blk_cell BK144.out 4).trans rfl
          have hfz20_0 := blk_frozen BK144.out 0
          have hfz20_1 := blk_frozen BK144.out 1
          have hfz20_2 := blk_frozen BK144.out 2
          have hfz20_3 := blk_frozen BK144.out 3
          have hfz20_4 := blk_frozen BK144.out 4
          go_wp2_with (first | ((with_reducible refine gate_callee (f := 47) rfl ?_); refine goesL_ (some 9) rfl rfl Try.func47 (by kernel_rfl) rfl #[.int .i64 a2_0, .int .i64 28] rfl (by (try simp only [List.map_toArray, List.map_cons, List.map_nil]); first | done | rfl | (simp only [List.length_drop, List.length_take]; rfl)) ?_; (with_reducible refine (spec_l11in.calls a2_0 28 true _ A8.out).mono ?_); rintro e w' ⟨rfl, ⟨nd, rfl⟩⟩; refine ⟨_, rfl, ?_⟩) | (go_at_call 47; (with_reducible refine (spec_l11in.calls a2_1 16 true _ A10.out).mono ?_); rintro e w' ⟨rfl, ⟨nd, rfl⟩⟩) | (go_at_call 47; (with_reducible refine (spec_l11in.calls a2_2 16 false _ A12.out).mono ?_); rintro e w' ⟨rfl, ⟨nd, rfl⟩⟩))
          go_meet
          case rel => exact ⟨_, (true), (by first | rfl | (simp; done) | (simp [*]; done)), H', ⟨by first | omega | exact Nat.le_refl _⟩, ⟨by (with_reducible repeat (first | refine blk_drewN ?_ _ | refine blk_drew ?_ | refine blk_alloc ?_ _)); exact BK142.out⟩, ⟨by (with_reducible repeat (first | refine blk_drewN ?_ _ | refine blk_drew ?_ | refine blk_alloc ?_ _)); exact BK143.out⟩, ⟨by (with_reducible repeat (first | refine blk_drewN ?_ _ | refine blk_drew ?_ | refine blk_alloc ?_ _)); exact BK144.out⟩, ⟨by repeat (first | (with_reducible first | exact HB.out | apply below_alloc | apply pw_below_drewN | apply below_drew1 | refine below_set ?_ GE142.out | refine below_set ?_ GE143.out | refine below_set ?_ GE144.out) | exact HB.out)⟩⟩
      · replace c11 := Bool.eq_false_iff.mpr c11
        subst c11
        have H1 : (spec_l11insOk.j0 k true l0_0 l0_1 a0_2 a1_0 a1_1 l1_2 l1_3 a2_0 a2_1 a2_2 a2_3 a2_4) = some r := by rw [if_neg (show ¬ (false = true) by decide)] at H; exact H
        clear H
        have H := H1
        clear H1
        have H' := Aside0.mk H
        clear H
        have hnb21 := NB144_142.out
        have hnc21 := NB142_144.out
        have hnb22 := NB144_143.out
        have hnc22 := NB143_144.out
        have hcz23_0 : w7.cell? ⟨gb144, 0, none⟩ = some (.int .i64 a2_0) := (blk_cell BK144.out 0).trans rfl
        have hcz23_1 : w7.cell? ⟨gb144, 1, none⟩ = some (.int .i64 a2_1) := (blk_cell BK144.out 1).trans rfl
        have hcz23_2 : w7.cell? ⟨gb144, 2, none⟩ = some (.int .i64 a2_2) := (blk_cell BK144.out 2).trans rfl
        have hcz23_3 : w7.cell? ⟨gb144, 3, none⟩ = some (.int .i64 a2_3) := (blk_cell BK144.out 3).trans rfl
        have hcz23_4 : w7.cell? ⟨gb144, 4, none⟩ = some (.int .i64 a2_4) := (blk_cell BK144.out 4).trans rfl
        have hfz23_0 := blk_frozen BK144.out 0
        have hfz23_1 := blk_frozen BK144.out 1
        have hfz23_2 := blk_frozen BK144.out 2
        have hfz23_3 := blk_frozen BK144.out 3
        have hfz23_4 := blk_frozen BK144.out 4
        go_wp2_with (first | ((with_reducible refine gate_callee (f := 47) rfl ?_); refine goesL_ (some 9) rfl rfl Try.func47 (by kernel_rfl) rfl #[.int .i64 a2_0, .int .i64 28] rfl (by (try simp only [List.map_toArray, List.map_cons, List.map_nil]); first | done | rfl | (simp only [List.length_drop, List.length_take]; rfl)) ?_; (with_reducible refine (spec_l11in.calls a2_0 28 true _ A8.out).mono ?_); rintro e w' ⟨rfl, ⟨nd, rfl⟩⟩; refine ⟨_, rfl, ?_⟩) | (go_at_call 47; (with_reducible refine (spec_l11in.calls a2_1 16 false _ A10.out).mono ?_); rintro e w' ⟨rfl, ⟨nd, rfl⟩⟩))
        go_meet
        case rel => exact ⟨_, (true), (by first | rfl | (simp; done) | (simp [*]; done)), H', ⟨by first | omega | exact Nat.le_refl _⟩, ⟨by (with_reducible repeat (first | refine blk_drewN ?_ _ | refine blk_drew ?_ | refine blk_alloc ?_ _)); exact BK142.out⟩, ⟨by (with_reducible repeat (first | refine blk_drewN ?_ _ | refine blk_drew ?_ | refine blk_alloc ?_ _)); exact BK143.out⟩, ⟨by (with_reducible repeat (first | refine blk_drewN ?_ _ | refine blk_drew ?_ | refine blk_alloc ?_ _)); exact BK144.out⟩, ⟨by repeat (first | (with_reducible first | exact HB.out | apply below_alloc | apply pw_below_drewN | apply below_drew1 | refine below_set ?_ GE142.out | refine below_set ?_ GE143.out | refine below_set ?_ GE144.out) | exact HB.out)⟩⟩
    · replace c9 := Bool.eq_false_iff.mpr c9
      subst c9
      have H1 : (spec_l11insOk.j0 k true l0_0 l0_1 a0_2 a1_0 a1_1 l1_2 l1_3 a2_0 a2_1 a2_2 a2_3 a2_4) = some r := by rw [if_neg (show ¬ (false = true) by decide)] at H; exact H
      clear H
      have H := H1
      clear H1
      have H' := Aside0.mk H
      clear H
      have hnb24 := NB144_142.out
      have hnc24 := NB142_144.out
      have hnb25 := NB144_143.out
      have hnc25 := NB143_144.out
      have hcz26_0 : w7.cell? ⟨gb144, 0, none⟩ = some (.int .i64 a2_0) := (blk_cell BK144.out 0).trans rfl
      have hcz26_1 : w7.cell? ⟨gb144, 1, none⟩ = some (.int .i64 a2_1) := (blk_cell BK144.out 1).trans rfl
      have hcz26_2 : w7.cell? ⟨gb144, 2, none⟩ = some (.int .i64 a2_2) := (blk_cell BK144.out 2).trans rfl
      have hcz26_3 : w7.cell? ⟨gb144, 3, none⟩ = some (.int .i64 a2_3) := (blk_cell BK144.out 3).trans rfl
      have hcz26_4 : w7.cell? ⟨gb144, 4, none⟩ = some (.int .i64 a2_4) := (blk_cell BK144.out 4).trans rfl
      have hfz26_0 := blk_frozen BK144.out 0
      have hfz26_1 := blk_frozen BK144.out 1
      have hfz26_2 := blk_frozen BK144.out 2
      have hfz26_3 := blk_frozen BK144.out 3
      have hfz26_4 := blk_frozen BK144.out 4
      go_wp2_with (first | ((with_reducible refine gate_callee (f := 47) rfl ?_); refine goesL_ (some 9) rfl rfl Try.func47 (by kernel_rfl) rfl #[.int .i64 a2_0, .int .i64 28] rfl (by (try simp only [List.map_toArray, List.map_cons, List.map_nil]); first | done | rfl | (simp only [List.length_drop, List.length_take]; rfl)) ?_; (with_reducible refine (spec_l11in.calls a2_0 28 false _ A8.out).mono ?_); rintro e w' ⟨rfl, ⟨nd, rfl⟩⟩; refine ⟨_, rfl, ?_⟩))
      go_meet
      case rel => exact ⟨_, (true), (by first | rfl | (simp; done) | (simp [*]; done)), H', ⟨by first | omega | exact Nat.le_refl _⟩, ⟨by (with_reducible repeat (first | refine blk_drewN ?_ _ | refine blk_drew ?_ | refine blk_alloc ?_ _)); exact BK142.out⟩, ⟨by (with_reducible repeat (first | refine blk_drewN ?_ _ | refine blk_drew ?_ | refine blk_alloc ?_ _)); exact BK143.out⟩, ⟨by (with_reducible repeat (first | refine blk_drewN ?_ _ | refine blk_drew ?_ | refine blk_alloc ?_ _)); exact BK144.out⟩, ⟨by repeat (first | (with_reducible first | exact HB.out | apply below_alloc | apply pw_below_drewN | apply below_drew1 | refine below_set ?_ GE142.out | refine below_set ?_ GE143.out | refine below_set ?_ GE144.out) | exact HB.out)⟩⟩
  case rest =>
    clear HC4
    try clear c1
    try clear c2
    try clear p2
    try clear c4
    try clear c7
    try clear c9
    try clear c11
    try clear c13
    try clear c15
    try clear c16
    try clear c18
    try clear c19
    try clear c21
    try clear c22
    try clear c24
    try clear c25
    try clear hcz17_0
    try clear hcz17_1
    try clear hcz17_2
    try clear hcz17_3
    try clear hcz17_4
    try clear hcz20_0
    try clear hcz20_1
    try clear hcz20_2
    try clear hcz20_3
    try clear hcz20_4
    try clear hcz23_0
    try clear hcz23_1
    try clear hcz23_2
    try clear hcz23_3
    try clear hcz23_4
    try clear hcz26_0
    try clear hcz26_1
    try clear hcz26_2
    try clear hcz26_3
    try clear hcz26_4
    try clear hfz17_0
    try clear hfz17_1
    try clear hfz17_2
    try clear hfz17_3
    try clear hfz17_4
    try clear hfz20_0
    try clear hfz20_1
    try clear hfz20_2
    try clear hfz20_3
    try clear hfz20_4
    try clear hfz23_0
    try clear hfz23_1
    try clear hfz23_2
    try clear hfz23_3
    try clear hfz23_4
    try clear hfz26_0
    try clear hfz26_1
    try clear hfz26_2
    try clear hfz26_3
    try clear hfz26_4
    obtain ⟨kq, x28_3, rfl, HA, HJ3, BK142, BK143, BK144, HB⟩ := hcut
    cases kq with
    | zero => exact absurd HA.out (by simp [spec_l11insOk.j0])
    | succ kj3 =>
      have H := HA.out
      clear HA
      simp only [spec_l11insOk.j0] at H
      by_cases c27 : x28_3 = true
      · subst c27
        have H1 : (some false) = some r := by rw [if_pos rfl] at H; exact H
        clear H
        have H := H1
        clear H1
        obtain rfl := Option.some.inj H
        go_wp2
        go_ret
        exact ⟨by first | rfl | (simp [errW_none, errW_some] <;> rfl) | (simp [*, errW_none, errW_some] <;> rfl), by repeat (first | (with_reducible first | exact HB.out | apply below_alloc | apply pw_below_drewN | apply below_drew1 | refine below_set ?_ GE142.out | refine below_set ?_ GE143.out | refine below_set ?_ GE144.out) | exact HB.out)⟩
      · replace c27 := Bool.eq_false_iff.mpr c27
        subst c27
        have H1 : (if a2_0 = 0 then (some true) else (if a2_0 = 2 then (spec_l11insOk.j1 kj3 a2_0 (a2_0 == 2) l0_0 l0_1 a0_2 a1_0 a1_1 l1_2 l1_3 a2_0 a2_1 a2_2 a2_3 a2_4) else (spec_l11insOk.j1 kj3 a2_0 (a2_0 == 3) l0_0 l0_1 a0_2 a1_0 a1_1 l1_2 l1_3 a2_0 a2_1 a2_2 a2_3 a2_4))) = some r := by rw [if_neg (show ¬ (false = true) by decide)] at H; exact H
        clear H
        have H := H1
        clear H1
        by_cases c28 : a2_0 = 0
        · rw [if_pos c28] at H
          have c28b0 : (a2_0 == 0) = true := beq_iff_eq.mpr c28
          have c28b1 : (a2_0 != 0) = false := bne_eq_false_iff_eq.mpr c28
          clear c28
          obtain rfl := Option.some.inj H
          have hnb29 := NB144_142.out
          have hnc29 := NB142_144.out
          have hnb30 := NB144_143.out
          have hnc30 := NB143_144.out
          have hcz31_0 : wc.cell? ⟨gb144, 0, none⟩ = some (.int .i64 a2_0) := (blk_cell BK144.out 0).trans rfl
          have hcz31_1 : wc.cell? ⟨gb144, 1, none⟩ = some (.int .i64 a2_1) := (blk_cell BK144.out 1).trans rfl
          have hcz31_2 : wc.cell? ⟨gb144, 2, none⟩ = some (.int .i64 a2_2) := (blk_cell BK144.out 2).trans rfl
          have hcz31_3 : wc.cell? ⟨gb144, 3, none⟩ = some (.int .i64 a2_3) := (blk_cell BK144.out 3).trans rfl
          have hcz31_4 : wc.cell? ⟨gb144, 4, none⟩ = some (.int .i64 a2_4) := (blk_cell BK144.out 4).trans rfl
          have hfz31_0 := blk_frozen BK144.out 0
          have hfz31_1 := blk_frozen BK144.out 1
          have hfz31_2 := blk_frozen BK144.out 2
          have hfz31_3 := blk_frozen BK144.out 3
          have hfz31_4 := blk_frozen BK144.out 4
          go_wp2
          go_ret
          exact ⟨by first | rfl | (simp [errW_none, errW_some] <;> rfl) | (simp [*, errW_none, errW_some] <;> rfl), by repeat (first | (with_reducible first | exact HB.out | apply below_alloc | apply pw_below_drewN | apply below_drew1 | refine below_set ?_ GE142.out | refine below_set ?_ GE143.out | refine below_set ?_ GE144.out) | exact HB.out)⟩
        · rw [if_neg c28] at H
          have c28b0 : (a2_0 == 0) = false := beq_eq_false_iff_ne.mpr c28
          have c28b1 : (a2_0 != 0) = true := bne_iff_ne.mpr c28
          have HC32 := Aside0.mk H
          clear H
          have hnb33 := NB144_142.out
          have hnc33 := NB142_144.out
          have hnb34 := NB144_143.out
          have hnc34 := NB143_144.out
          have hcz35_0 : wc.cell? ⟨gb144, 0, none⟩ = some (.int .i64 a2_0) := (blk_cell BK144.out 0).trans rfl
          have hcz35_1 : wc.cell? ⟨gb144, 1, none⟩ = some (.int .i64 a2_1) := (blk_cell BK144.out 1).trans rfl
          have hcz35_2 : wc.cell? ⟨gb144, 2, none⟩ = some (.int .i64 a2_2) := (blk_cell BK144.out 2).trans rfl
          have hcz35_3 : wc.cell? ⟨gb144, 3, none⟩ = some (.int .i64 a2_3) := (blk_cell BK144.out 3).trans rfl
          have hcz35_4 : wc.cell? ⟨gb144, 4, none⟩ = some (.int .i64 a2_4) := (blk_cell BK144.out 4).trans rfl
          have hfz35_0 := blk_frozen BK144.out 0
          have hfz35_1 := blk_frozen BK144.out 1
          have hfz35_2 := blk_frozen BK144.out 2
          have hfz35_3 := blk_frozen BK144.out 3
          have hfz35_4 := blk_frozen BK144.out 4
          go_upto_if 33 with (fail)
          go_cut [33] (fun v33 wc => ∃ (kq : Nat) (x33_31 : Bool), v33 = .bool x33_31 ∧ Aside0 (spec_l11insOk.j1 kq a2_0 x33_31 l0_0 l0_1 a0_2 a1_0 a1_1 l1_2 l1_3 a2_0 a2_1 a2_2 a2_3 a2_4 = some r) ∧ Aside0 (kq ≤ kj3) ∧ Aside0 (wc.heap[gb142]? = some (.cells #[(.slice A0_0 l0_0.length c0_0), (.slice A0_1 l0_1.length c0_1), .int .i64 a0_2] 30 (0, 0))) ∧ Aside0 (wc.heap[gb143]? = some (.cells #[.int .i64 a1_0, .int .i64 a1_1, (.slice A1_2 l1_2.length c1_2), (.slice A1_3 l1_3.length c1_3)] 53 (0, 0))) ∧ Aside0 (wc.heap[gb144]? = some (.cells #[.int .i64 a2_0, .int .i64 a2_1, .int .i64 a2_2, .int .i64 a2_3, .int .i64 a2_4] 68 (0, 0))) ∧ Aside0 (Below w.heap.size w wc))
          case first =>
            have H := HC32.out
            clear HC32
            by_cases c36 : a2_0 = 2
            · rw [if_pos c36] at H
              have c36b0 : (a2_0 == 2) = true := beq_iff_eq.mpr c36
              have c36b1 : (a2_0 != 2) = false := bne_eq_false_iff_eq.mpr c36
              clear c36
              (first | rw [c36b0] | (simp only [i64_w, i32_w]; rw [c36b0]) | skip)
              have H' := Aside0.mk H
              clear H
              go_wp2
              go_meet
              case rel => exact ⟨_, ((a2_0 == 2)), (by first | rfl | (simp; done) | (simp [*]; done)), H', ⟨by have := HJ3.out; first | omega | exact Nat.le_refl _⟩, ⟨by (with_reducible repeat (first | refine blk_drewN ?_ _ | refine blk_drew ?_ | refine blk_alloc ?_ _)); exact BK142.out⟩, ⟨by (with_reducible repeat (first | refine blk_drewN ?_ _ | refine blk_drew ?_ | refine blk_alloc ?_ _)); exact BK143.out⟩, ⟨by (with_reducible repeat (first | refine blk_drewN ?_ _ | refine blk_drew ?_ | refine blk_alloc ?_ _)); exact BK144.out⟩, ⟨by repeat (first | (with_reducible first | exact HB.out | apply below_alloc | apply pw_below_drewN | apply below_drew1 | refine below_set ?_ GE142.out | refine below_set ?_ GE143.out | refine below_set ?_ GE144.out) | exact HB.out)⟩⟩
            · rw [if_neg c36] at H
              have c36b0 : (a2_0 == 2) = false := beq_eq_false_iff_ne.mpr c36
              have c36b1 : (a2_0 != 2) = true := bne_iff_ne.mpr c36
              (first | rw [c36b0] | (simp only [i64_w, i32_w]; rw [c36b0]) | skip)
              have H' := Aside0.mk H
              clear H
              go_wp2
              go_meet
              case rel => exact ⟨_, ((a2_0 == 3)), (by first | rfl | (simp; done) | (simp [*]; done)), H', ⟨by have := HJ3.out; first | omega | exact Nat.le_refl _⟩, ⟨by (with_reducible repeat (first | refine blk_drewN ?_ _ | refine blk_drew ?_ | refine blk_alloc ?_ _)); exact BK142.out⟩, ⟨by (with_reducible repeat (first | refine blk_drewN ?_ _ | refine blk_drew ?_ | refine blk_alloc ?_ _)); exact BK143.out⟩, ⟨by (with_reducible repeat (first | refine blk_drewN ?_ _ | refine blk_drew ?_ | refine blk_alloc ?_ _)); exact BK144.out⟩, ⟨by repeat (first | (with_reducible first | exact HB.out | apply below_alloc | apply pw_below_drewN | apply below_drew1 | refine below_set ?_ GE142.out | refine below_set ?_ GE143.out | refine below_set ?_ GE144.out) | exact HB.out)⟩⟩
          case rest =>
            clear HC32
            try clear c1
            try clear c2
            try clear p2
            try clear c3
            try clear c4
            try clear c7
            try clear c9
            try clear c11
            try clear c13
            try clear c15
            try clear c16
            try clear c18
            try clear c19
            try clear c21
            try clear c22
            try clear c24
            try clear c25
            try clear c27
            try clear c28
            try clear c28b0
            try clear c28b1
            try clear c29
            try clear c30
            try clear c33
            try clear c34
            try clear c36
            try clear c36b0
            try clear c36b1
            try clear hcz17_0
            try clear hcz17_1
            try clear hcz17_2
            try clear hcz17_3
            try clear hcz17_4
            try clear hcz20_0
            try clear hcz20_1
            try clear hcz20_2
            try clear hcz20_3
            try clear hcz20_4
            try clear hcz23_0
            try clear hcz23_1
            try clear hcz23_2
            try clear hcz23_3
            try clear hcz23_4
            try clear hcz26_0
            try clear hcz26_1
            try clear hcz26_2
            try clear hcz26_3
            try clear hcz26_4
            try clear hcz31_0
            try clear hcz31_1
            try clear hcz31_2
            try clear hcz31_3
            try clear hcz31_4
            try clear hcz35_0
            try clear hcz35_1
            try clear hcz35_2
            try clear hcz35_3
            try clear hcz35_4
            try clear hfz17_0
            try clear hfz17_1
            try clear hfz17_2
            try clear hfz17_3
            try clear hfz17_4
            try clear hfz20_0
            try clear hfz20_1
            try clear hfz20_2
            try clear hfz20_3
            try clear hfz20_4
            try clear hfz23_0
            try clear hfz23_1
            try clear hfz23_2
            try clear hfz23_3
            try clear hfz23_4
            try clear hfz26_0
            try clear hfz26_1
            try clear hfz26_2
            try clear hfz26_3
            try clear hfz26_4
            try clear hfz31_0
            try clear hfz31_1
            try clear hfz31_2
            try clear hfz31_3
            try clear hfz31_4
            try clear hfz35_0
            try clear hfz35_1
            try clear hfz35_2
            try clear hfz35_3
            try clear hfz35_4
            try clear p2
            obtain ⟨kq, x33_31, rfl, HA, HJ31, BK142, BK143, BK144, HB⟩ := hcut
            cases kq with
            | zero => exact absurd HA.out (by simp [spec_l11insOk.j1])
            | succ kj31 =>
              have H := HA.out
              clear HA
              simp only [spec_l11insOk.j1] at H
              by_cases c37 : x33_31 = true
              · subst c37
                have H1 : (if a2_4 ≥ 3 then (some (decide (a2_4 < a1_0))) else (some false)) = some r := by rw [if_pos rfl] at H; exact H
                clear H
                have H := H1
                clear H1
                by_cases c38 : a2_4 ≥ 3
                · rw [if_pos c38] at H
                  have c38b0 : decide (3 ≤ a2_4) = true := decide_eq_true c38
                  clear c38
                  obtain rfl := Option.some.inj H
                  have hnb39 := NB144_142.out
                  have hnc39 := NB142_144.out
                  have hnb40 := NB144_143.out
                  have hnc40 := NB143_144.out
                  have hcz41_0 : wc.cell? ⟨gb144, 0, none⟩ = some (.int .i64 a2_0) := (blk_cell BK144.out 0).trans rfl
                  have hcz41_1 : wc.cell? ⟨gb144, 1, none⟩ = some (.int .i64 a2_1) := (blk_cell BK144.out 1).trans rfl
                  have hcz41_2 : wc.cell? ⟨gb144, 2, none⟩ = some (.int .i64 a2_2) := (blk_cell BK144.out 2).trans rfl
                  have hcz41_3 : wc.cell? ⟨gb144, 3, none⟩ = some (.int .i64 a2_3) := (blk_cell BK144.out 3).trans rfl
                  have hcz41_4 : wc.cell? ⟨gb144, 4, none⟩ = some (.int .i64 a2_4) := (blk_cell BK144.out 4).trans rfl
                  have hfz41_0 := blk_frozen BK144.out 0
                  have hfz41_1 := blk_frozen BK144.out 1
                  have hfz41_2 := blk_frozen BK144.out 2
                  have hfz41_3 := blk_frozen BK144.out 3
                  have hfz41_4 := blk_frozen BK144.out 4
                  have hnb42 := NB143_142.out
                  have hnc42 := NB142_143.out
                  have hcz43_0 : wc.cell? ⟨gb143, 0, none⟩ = some (.int .i64 a1_0) := (blk_cell BK143.out 0).trans rfl
                  have hcz43_1 : wc.cell? ⟨gb143, 1, none⟩ = some (.int .i64 a1_1) := (blk_cell BK143.out 1).trans rfl
                  have hcz43_2 : wc.cell? ⟨gb143, 2, none⟩ = some (.slice A1_2 l1_2.length c1_2) := (blk_cell BK143.out 2).trans rfl
                  have hcz43_3 : wc.cell? ⟨gb143, 3, none⟩ = some (.slice A1_3 l1_3.length c1_3) := (blk_cell BK143.out 3).trans rfl
                  have hfz43_0 := blk_frozen BK143.out 0
                  have hfz43_1 := blk_frozen BK143.out 1
                  have hfz43_2 := blk_frozen BK143.out 2
                  have hfz43_3 := blk_frozen BK143.out 3
                  go_wp2
                  go_ret
                  exact ⟨by first | rfl | (simp [errW_none, errW_some] <;> rfl) | (simp [*, errW_none, errW_some] <;> rfl), by repeat (first | (with_reducible first | exact HB.out | apply below_alloc | apply pw_below_drewN | apply below_drew1 | refine below_set ?_ GE142.out | refine below_set ?_ GE143.out | refine below_set ?_ GE144.out) | exact HB.out)⟩
                · rw [if_neg c38] at H
                  have c38b0 : decide (3 ≤ a2_4) = false := decide_eq_false c38
                  clear c38
                  obtain rfl := Option.some.inj H
                  have hnb44 := NB144_142.out
                  have hnc44 := NB142_144.out
                  have hnb45 := NB144_143.out
                  have hnc45 := NB143_144.out
                  have hcz46_0 : wc.cell? ⟨gb144, 0, none⟩ = some (.int .i64 a2_0) := (blk_cell BK144.out 0).trans rfl
                  have hcz46_1 : wc.cell? ⟨gb144, 1, none⟩ = some (.int .i64 a2_1) := (blk_cell BK144.out 1).trans rfl
                  have hcz46_2 : wc.cell? ⟨gb144, 2, none⟩ = some (.int .i64 a2_2) := (blk_cell BK144.out 2).trans rfl
                  have hcz46_3 : wc.cell? ⟨gb144, 3, none⟩ = some (.int .i64 a2_3) := (blk_cell BK144.out 3).trans rfl
                  have hcz46_4 : wc.cell? ⟨gb144, 4, none⟩ = some (.int .i64 a2_4) := (blk_cell BK144.out 4).trans rfl
                  have hfz46_0 := blk_frozen BK144.out 0
                  have hfz46_1 := blk_frozen BK144.out 1
                  have hfz46_2 := blk_frozen BK144.out 2
                  have hfz46_3 := blk_frozen BK144.out 3
                  have hfz46_4 := blk_frozen BK144.out 4
                  go_wp2
                  go_ret
                  exact ⟨by first | rfl | (simp [errW_none, errW_some] <;> rfl) | (simp [*, errW_none, errW_some] <;> rfl), by repeat (first | (with_reducible first | exact HB.out | apply below_alloc | apply pw_below_drewN | apply below_drew1 | refine below_set ?_ GE142.out | refine below_set ?_ GE143.out | refine below_set ?_ GE144.out) | exact HB.out)⟩
              · replace c37 := Bool.eq_false_iff.mpr c37
                subst c37
                have H1 : (if a2_0 = 4 then ((spec_l11in.f a2_4 7).bind fun t149 => (some t149)) else (if a2_0 = 5 then ((spec_l11in.f a2_4 6).bind fun t150 => (some t150)) else (if a2_0 = 10 then ((spec_l11in.f a2_4 (l0_0.length : Int)).bind fun t151 => (some t151)) else (if a2_0 = 11 then ((spec_l11in.f a2_4 3).bind fun t152 => (some t152)) else (if a2_0 = 16 then (spec_l11insOk.j2 kj31 a2_0 (a2_0 == 16) l0_0 l0_1 a0_2 a1_0 a1_1 l1_2 l1_3 a2_0 a2_1 a2_2 a2_3 a2_4) else (spec_l11insOk.j2 kj31 a2_0 (a2_0 == 17) l0_0 l0_1 a0_2 a1_0 a1_1 l1_2 l1_3 a2_0 a2_1 a2_2 a2_3 a2_4)))))) = some r := by rw [if_neg (show ¬ (false = true) by decide)] at H; exact H
                clear H
                have H := H1
                clear H1
                by_cases c47 : a2_0 = 4
                · rw [if_pos c47] at H
                  have c47b0 : (a2_0 == 4) = true := beq_iff_eq.mpr c47
                  have c47b1 : (a2_0 != 4) = false := bne_eq_false_iff_eq.mpr c47
                  clear c47
                  replace H := Option.bind_eq_some_iff.mp H
                  obtain ⟨t149, A480, H⟩ := H
                  replace H : (some t149) = some r := H
                  have A48 := Aside0.mk A480
                  clear A480
                  obtain rfl := Option.some.inj H
                  have hnb49 := NB144_142.out
                  have hnc49 := NB142_144.out
                  have hnb50 := NB144_143.out
                  have hnc50 := NB143_144.out
                  have hcz51_0 : wc.cell? ⟨gb144, 0, none⟩ = some (.int .i64 a2_0) := (blk_cell BK144.out 0).trans rfl
                  have hcz51_1 : wc.cell? ⟨gb144, 1, none⟩ = some (.int .i64 a2_1) := (blk_cell BK144.out 1).trans rfl
                  have hcz51_2 : wc.cell? ⟨gb144, 2, none⟩ = some (.int .i64 a2_2) := (blk_cell BK144.out 2).trans rfl
                  have hcz51_3 : wc.cell? ⟨gb144, 3, none⟩ = some (.int .i64 a2_3) := (blk_cell BK144.out 3).trans rfl
                  have hcz51_4 : wc.cell? ⟨gb144, 4, none⟩ = some (.int .i64 a2_4) := (blk_cell BK144.out 4).trans rfl
                  have hfz51_0 := blk_frozen BK144.out 0
                  have hfz51_1 := blk_frozen BK144.out 1
                  have hfz51_2 := blk_frozen BK144.out 2
                  have hfz51_3 := blk_frozen BK144.out 3
                  have hfz51_4 := blk_frozen BK144.out 4
                  go_wp2_with (first | ((with_reducible refine gate_callee (f := 47) rfl ?_); refine goesL_ (some 50) rfl rfl Try.func47 (by kernel_rfl) rfl #[.int .i64 a2_4, .int .i64 7] rfl (by (try simp only [List.map_toArray, List.map_cons, List.map_nil]); first | done | rfl | (simp only [List.length_drop, List.length_take]; rfl)) ?_; (with_reducible refine (spec_l11in.calls a2_4 7 t149 _ A48.out).mono ?_); rintro e w' ⟨rfl, ⟨nd, rfl⟩⟩; refine ⟨_, rfl, ?_⟩))
                  go_ret
                  exact ⟨by first | rfl | (simp [errW_none, errW_some] <;> rfl) | (simp [*, errW_none, errW_some] <;> rfl), by repeat (first | (with_reducible first | exact HB.out | apply below_alloc | apply pw_below_drewN | apply below_drew1 | refine below_set ?_ GE142.out | refine below_set ?_ GE143.out | refine below_set ?_ GE144.out) | exact HB.out)⟩
                · rw [if_neg c47] at H
                  have c47b0 : (a2_0 == 4) = false := beq_eq_false_iff_ne.mpr c47
                  have c47b1 : (a2_0 != 4) = true := bne_iff_ne.mpr c47
                  by_cases c52 : a2_0 = 5
                  · rw [if_pos c52] at H
                    have c52b0 : (a2_0 == 5) = true := beq_iff_eq.mpr c52
                    have c52b1 : (a2_0 != 5) = false := bne_eq_false_iff_eq.mpr c52
                    clear c52
                    replace H := Option.bind_eq_some_iff.mp H
                    obtain ⟨t150, A530, H⟩ := H
                    replace H : (some t150) = some r := H
                    have A53 := Aside0.mk A530
                    clear A530
                    obtain rfl := Option.some.inj H
                    have hnb54 := NB144_142.out
                    have hnc54 := NB142_144.out
                    have hnb55 := NB144_143.out
                    have hnc55 := NB143_144.out
                    have hcz56_0 : wc.cell? ⟨gb144, 0, none⟩ = some (.int .i64 a2_0) := (blk_cell BK144.out 0).trans rfl
                    have hcz56_1 : wc.cell? ⟨gb144, 1, none⟩ = some (.int .i64 a2_1) := (blk_cell BK144.out 1).trans rfl
                    have hcz56_2 : wc.cell? ⟨gb144, 2, none⟩ = some (.int .i64 a2_2) := (blk_cell BK144.out 2).trans rfl
                    have hcz56_3 : wc.cell? ⟨gb144, 3, none⟩ = some (.int .i64 a2_3) := (blk_cell BK144.out 3).trans rfl
                    have hcz56_4 : wc.cell? ⟨gb144, 4, none⟩ = some (.int .i64 a2_4) := (blk_cell BK144.out 4).trans rfl
                    have hfz56_0 := blk_frozen BK144.out 0
                    have hfz56_1 := blk_frozen BK144.out 1
                    have hfz56_2 := blk_frozen BK144.out 2
                    have hfz56_3 := blk_frozen BK144.out 3
                    have hfz56_4 := blk_frozen BK144.out 4
                    go_wp2_with (first | ((with_reducible refine gate_callee (f := 47) rfl ?_); refine goesL_ (some 55) rfl rfl Try.func47 (by kernel_rfl) rfl #[.int .i64 a2_4, .int .i64 6] rfl (by (try simp only [List.map_toArray, List.map_cons, List.map_nil]); first | done | rfl | (simp only [List.length_drop, List.length_take]; rfl)) ?_; (with_reducible refine (spec_l11in.calls a2_4 6 t150 _ A53.out).mono ?_); rintro e w' ⟨rfl, ⟨nd, rfl⟩⟩; refine ⟨_, rfl, ?_⟩))
                    go_ret
                    exact ⟨by first | rfl | (simp [errW_none, errW_some] <;> rfl) | (simp [*, errW_none, errW_some] <;> rfl), by repeat (first | (with_reducible first | exact HB.out | apply below_alloc | apply pw_below_drewN | apply below_drew1 | refine below_set ?_ GE142.out | refine below_set ?_ GE143.out | refine below_set ?_ GE144.out) | exact HB.out)⟩
                  · rw [if_neg c52] at H
                    have c52b0 : (a2_0 == 5) = false := beq_eq_false_iff_ne.mpr c52
                    have c52b1 : (a2_0 != 5) = true := bne_iff_ne.mpr c52
                    by_cases c57 : a2_0 = 10
                    · rw [if_pos c57] at H
                      have c57b0 : (a2_0 == 10) = true := beq_iff_eq.mpr c57
                      have c57b1 : (a2_0 != 10) = false := bne_eq_false_iff_eq.mpr c57
                      clear c57
                      replace H := Option.bind_eq_some_iff.mp H
                      obtain ⟨t151, A580, H⟩ := H
                      replace H : (some t151) = some r := H
                      have A58 := Aside0.mk A580
                      clear A580
                      obtain rfl := Option.some.inj H
                      have hnb59 := NB144_142.out
                      have hnc59 := NB142_144.out
                      have hnb60 := NB144_143.out
                      have hnc60 := NB143_144.out
                      have hcz61_0 : wc.cell? ⟨gb144, 0, none⟩ = some (.int .i64 a2_0) := (blk_cell BK144.out 0).trans rfl
                      have hcz61_1 : wc.cell? ⟨gb144, 1, none⟩ = some (.int .i64 a2_1) := (blk_cell BK144.out 1).trans rfl
                      have hcz61_2 : wc.cell? ⟨gb144, 2, none⟩ = some (.int .i64 a2_2) := (blk_cell BK144.out 2).trans rfl
                      have hcz61_3 : wc.cell? ⟨gb144, 3, none⟩ = some (.int .i64 a2_3) := (blk_cell BK144.out 3).trans rfl
                      have hcz61_4 : wc.cell? ⟨gb144, 4, none⟩ = some (.int .i64 a2_4) := (blk_cell BK144.out 4).trans rfl
                      have hfz61_0 := blk_frozen BK144.out 0
                      have hfz61_1 := blk_frozen BK144.out 1
                      have hfz61_2 := blk_frozen BK144.out 2
                      have hfz61_3 := blk_frozen BK144.out 3
                      have hfz61_4 := blk_frozen BK144.out 4
                      have hnb62 := NB142_143.out
                      have hnc62 := NB143_142.out
                      have hcz63_0 : wc.cell? ⟨gb142, 0, none⟩ = some (.slice A0_0 l0_0.length c0_0) := (blk_cell BK142.out 0).trans rfl
                      have hcz63_1 : wc.cell? ⟨gb142, 1, none⟩ = some (.slice A0_1 l0_1.length c0_1) := (blk_cell BK142.out 1).trans rfl
                      have hcz63_2 : wc.cell? ⟨gb142, 2, none⟩ = some (.int .i64 a0_2) := (blk_cell BK142.out 2).trans rfl
                      have hfz63_0 := blk_frozen BK142.out 0
                      have hfz63_1 := blk_frozen BK142.out 1
                      have hfz63_2 := blk_frozen BK142.out 2
                      go_wp2_with (first | ((with_reducible refine gate_callee (f := 47) rfl ?_); refine goesL_ (some 63) rfl rfl Try.func47 (by kernel_rfl) rfl #[.int .i64 a2_4, .int .i64 (l0_0.length : Int)] rfl (by (try simp only [List.map_toArray, List.map_cons, List.map_nil]); first | done | rfl | (simp only [List.length_drop, List.length_take]; rfl)) ?_; (with_reducible refine (spec_l11in.calls a2_4 (l0_0.length : Int) t151 _ A58.out).mono ?_); rintro e w' ⟨rfl, ⟨nd, rfl⟩⟩; refine ⟨_, rfl, ?_⟩))
                      go_ret
                      exact ⟨by first | rfl | (simp [errW_none, errW_some] <;> rfl) | (simp [*, errW_none, errW_some] <;> rfl), by repeat (first | (with_reducible first | exact HB.out | apply below_alloc | apply pw_below_drewN | apply below_drew1 | refine below_set ?_ GE142.out | refine below_set ?_ GE143.out | refine below_set ?_ GE144.out) | exact HB.out)⟩
                    · rw [if_neg c57] at H
                      have c57b0 : (a2_0 == 10) = false := beq_eq_false_iff_ne.mpr c57
                      have c57b1 : (a2_0 != 10) = true := bne_iff_ne.mpr c57
                      by_cases c64 : a2_0 = 11
                      · rw [if_pos c64] at H
                        have c64b0 : (a2_0 == 11) = true := beq_iff_eq.mpr c64
                        have c64b1 : (a2_0 != 11) = false := bne_eq_false_iff_eq.mpr c64
                        clear c64
                        replace H := Option.bind_eq_some_iff.mp H
                        obtain ⟨t152, A650, H⟩ := H
                        replace H : (some t152) = some r := H
                        have A65 := Aside0.mk A650
                        clear A650
                        obtain rfl := Option.some.inj H
                        have hnb66 := NB144_142.out
                        have hnc66 := NB142_144.out
                        have hnb67 := NB144_143.out
                        have hnc67 := NB143_144.out
                        have hcz68_0 : wc.cell? ⟨gb144, 0, none⟩ = some (.int .i64 a2_0) := (blk_cell BK144.out 0).trans rfl
                        have hcz68_1 : wc.cell? ⟨gb144, 1, none⟩ = some (.int .i64 a2_1) := (blk_cell BK144.out 1).trans rfl
                        have hcz68_2 : wc.cell? ⟨gb144, 2, none⟩ = some (.int .i64 a2_2) := (blk_cell BK144.out 2).trans rfl
                        have hcz68_3 : wc.cell? ⟨gb144, 3, none⟩ = some (.int .i64 a2_3) := (blk_cell BK144.out 3).trans rfl
                        have hcz68_4 : wc.cell? ⟨gb144, 4, none⟩ = some (.int .i64 a2_4) := (blk_cell BK144.out 4).trans rfl
                        have hfz68_0 := blk_frozen BK144.out 0
                        have hfz68_1 := blk_frozen BK144.out 1
                        have hfz68_2 := blk_frozen BK144.out 2
                        have hfz68_3 := blk_frozen BK144.out 3
                        have hfz68_4 := blk_frozen BK144.out 4
                        go_wp2_with (first | ((with_reducible refine gate_callee (f := 47) rfl ?_); refine goesL_ (some 68) rfl rfl Try.func47 (by kernel_rfl) rfl #[.int .i64 a2_4, .int .i64 3] rfl (by (try simp only [List.map_toArray, List.map_cons, List.map_nil]); first | done | rfl | (simp only [List.length_drop, List.length_take]; rfl)) ?_; (with_reducible refine (spec_l11in.calls a2_4 3 t152 _ A65.out).mono ?_); rintro e w' ⟨rfl, ⟨nd, rfl⟩⟩; refine ⟨_, rfl, ?_⟩))
                        go_ret
                        exact ⟨by first | rfl | (simp [errW_none, errW_some] <;> rfl) | (simp [*, errW_none, errW_some] <;> rfl), by repeat (first | (with_reducible first | exact HB.out | apply below_alloc | apply pw_below_drewN | apply below_drew1 | refine below_set ?_ GE142.out | refine below_set ?_ GE143.out | refine below_set ?_ GE144.out) | exact HB.out)⟩
                      · rw [if_neg c64] at H
                        have c64b0 : (a2_0 == 11) = false := beq_eq_false_iff_ne.mpr c64
                        have c64b1 : (a2_0 != 11) = true := bne_iff_ne.mpr c64
                        have HC69 := Aside0.mk H
                        clear H
                        go_upto_if 69 with (fail)
                        go_cut [69] (fun v69 wc => ∃ (kq : Nat) (x69_68 : Bool), v69 = .bool x69_68 ∧ Aside0 (spec_l11insOk.j2 kq a2_0 x69_68 l0_0 l0_1 a0_2 a1_0 a1_1 l1_2 l1_3 a2_0 a2_1 a2_2 a2_3 a2_4 = some r) ∧ Aside0 (kq ≤ kj31) ∧ Aside0 (wc.heap[gb142]? = some (.cells #[(.slice A0_0 l0_0.length c0_0), (.slice A0_1 l0_1.length c0_1), .int .i64 a0_2] 30 (0, 0))) ∧ Aside0 (wc.heap[gb143]? = some (.cells #[.int .i64 a1_0, .int .i64 a1_1, (.slice A1_2 l1_2.length c1_2), (.slice A1_3 l1_3.length c1_3)] 53 (0, 0))) ∧ Aside0 (wc.heap[gb144]? = some (.cells #[.int .i64 a2_0, .int .i64 a2_1, .int .i64 a2_2, .int .i64 a2_3, .int .i64 a2_4] 68 (0, 0))) ∧ Aside0 (Below w.heap.size w wc))
                        case first =>
                          have H := HC69.out
                          clear HC69
                          by_cases c70 : a2_0 = 16
                          · rw [if_pos c70] at H
                            have c70b0 : (a2_0 == 16) = true := beq_iff_eq.mpr c70
                            have c70b1 : (a2_0 != 16) = false := bne_eq_false_iff_eq.mpr c70
                            clear c70
                            (first | rw [c70b0] | (simp only [i64_w, i32_w]; rw [c70b0]) | skip)
                            have H' := Aside0.mk H
                            clear H
                            go_wp2
                            go_meet
                            case rel => exact ⟨_, ((a2_0 == 16)), (by first | rfl | (simp; done) | (simp [*]; done)), H', ⟨by have := HJ3.out; have := HJ31.out; first | omega | exact Nat.le_refl _⟩, ⟨by (with_reducible repeat (first | refine blk_drewN ?_ _ | refine blk_drew ?_ | refine blk_alloc ?_ _)); exact BK142.out⟩, ⟨by (with_reducible repeat (first | refine blk_drewN ?_ _ | refine blk_drew ?_ | refine blk_alloc ?_ _)); exact BK143.out⟩, ⟨by (with_reducible repeat (first | refine blk_drewN ?_ _ | refine blk_drew ?_ | refine blk_alloc ?_ _)); exact BK144.out⟩, ⟨by repeat (first | (with_reducible first | exact HB.out | apply below_alloc | apply pw_below_drewN | apply below_drew1 | refine below_set ?_ GE142.out | refine below_set ?_ GE143.out | refine below_set ?_ GE144.out) | exact HB.out)⟩⟩
                          · rw [if_neg c70] at H
                            have c70b0 : (a2_0 == 16) = false := beq_eq_false_iff_ne.mpr c70
                            have c70b1 : (a2_0 != 16) = true := bne_iff_ne.mpr c70
                            (first | rw [c70b0] | (simp only [i64_w, i32_w]; rw [c70b0]) | skip)
                            have H' := Aside0.mk H
                            clear H
                            go_wp2
                            go_meet
                            case rel => exact ⟨_, ((a2_0 == 17)), (by first | rfl | (simp; done) | (simp [*]; done)), H', ⟨by have := HJ3.out; have := HJ31.out; first | omega | exact Nat.le_refl _⟩, ⟨by (with_reducible repeat (first | refine blk_drewN ?_ _ | refine blk_drew ?_ | refine blk_alloc ?_ _)); exact BK142.out⟩, ⟨by (with_reducible repeat (first | refine blk_drewN ?_ _ | refine blk_drew ?_ | refine blk_alloc ?_ _)); exact BK143.out⟩, ⟨by (with_reducible repeat (first | refine blk_drewN ?_ _ | refine blk_drew ?_ | refine blk_alloc ?_ _)); exact BK144.out⟩, ⟨by repeat (first | (with_reducible first | exact HB.out | apply below_alloc | apply pw_below_drewN | apply below_drew1 | refine below_set ?_ GE142.out | refine below_set ?_ GE143.out | refine below_set ?_ GE144.out) | exact HB.out)⟩⟩
                        case rest =>
                          clear HC69
                          try clear c1
                          try clear c2
                          try clear p2
                          try clear c3
                          try clear c4
                          try clear c5
                          try clear c6
                          try clear c7
                          try clear c9
                          try clear c11
                          try clear c13
                          try clear c15
                          try clear c16
                          try clear c18
                          try clear c19
                          try clear c21
                          try clear c22
                          try clear c24
                          try clear c25
                          try clear c27
                          try clear c28
                          try clear c28b0
                          try clear c28b1
                          try clear c29
                          try clear c30
                          try clear c33
                          try clear c34
                          try clear c36
                          try clear c36b0
                          try clear c36b1
                          try clear c37
                          try clear c38
                          try clear c38b0
                          try clear c39
                          try clear c40
                          try clear c42
                          try clear c44
                          try clear c45
                          try clear c47
                          try clear c47b0
                          try clear c47b1
                          try clear c49
                          try clear c50
                          try clear c52
                          try clear c52b0
                          try clear c52b1
                          try clear c54
                          try clear c55
                          try clear c57
                          try clear c57b0
                          try clear c57b1
                          try clear c59
                          try clear c60
                          try clear c62
                          try clear c64
                          try clear c64b0
                          try clear c64b1
                          try clear c66
                          try clear c67
                          try clear c70
                          try clear c70b0
                          try clear c70b1
                          try clear hcz17_0
                          try clear hcz17_1
                          try clear hcz17_2
                          try clear hcz17_3
                          try clear hcz17_4
                          try clear hcz20_0
                          try clear hcz20_1
                          try clear hcz20_2
                          try clear hcz20_3
                          try clear hcz20_4
                          try clear hcz23_0
                          try clear hcz23_1
                          try clear hcz23_2
                          try clear hcz23_3
                          try clear hcz23_4
                          try clear hcz26_0
                          try clear hcz26_1
                          try clear hcz26_2
                          try clear hcz26_3
                          try clear hcz26_4
                          try clear hcz31_0
                          try clear hcz31_1
                          try clear hcz31_2
                          try clear hcz31_3
                          try clear hcz31_4
                          try clear hcz35_0
                          try clear hcz35_1
                          try clear hcz35_2
                          try clear hcz35_3
                          try clear hcz35_4
                          try clear hcz41_0
                          try clear hcz41_1
                          try clear hcz41_2
                          try clear hcz41_3
                          try clear hcz41_4
                          try clear hcz43_0
                          try clear hcz43_1
                          try clear hcz43_2
                          try clear hcz43_3
                          try clear hcz46_0
                          try clear hcz46_1
                          try clear hcz46_2
                          try clear hcz46_3
                          try clear hcz46_4
                          try clear hcz51_0
                          try clear hcz51_1
                          try clear hcz51_2
                          try clear hcz51_3
                          try clear hcz51_4
                          try clear hcz56_0
                          try clear hcz56_1
                          try clear hcz56_2
                          try clear hcz56_3
                          try clear hcz56_4
                          try clear hcz61_0
                          try clear hcz61_1
                          try clear hcz61_2
                          try clear hcz61_3
                          try clear hcz61_4
                          try clear hcz63_0
                          try clear hcz63_1
                          try clear hcz63_2
                          try clear hcz68_0
                          try clear hcz68_1
                          try clear hcz68_2
                          try clear hcz68_3
                          try clear hcz68_4
                          try clear hfz17_0
                          try clear hfz17_1
                          try clear hfz17_2
                          try clear hfz17_3
                          try clear hfz17_4
                          try clear hfz20_0
                          try clear hfz20_1
                          try clear hfz20_2
                          try clear hfz20_3
                          try clear hfz20_4
                          try clear hfz23_0
                          try clear hfz23_1
                          try clear hfz23_2
                          try clear hfz23_3
                          try clear hfz23_4
                          try clear hfz26_0
                          try clear hfz26_1
                          try clear hfz26_2
                          try clear hfz26_3
                          try clear hfz26_4
                          try clear hfz31_0
                          try clear hfz31_1
                          try clear hfz31_2
                          try clear hfz31_3
                          try clear hfz31_4
                          try clear hfz35_0
                          try clear hfz35_1
                          try clear hfz35_2
                          try clear hfz35_3
                          try clear hfz35_4
                          try clear hfz41_0
                          try clear hfz41_1
                          try clear hfz41_2
                          try clear hfz41_3
                          try clear hfz41_4
                          try clear hfz43_0
                          try clear hfz43_1
                          try clear hfz43_2
                          try clear hfz43_3
                          try clear hfz46_0
                          try clear hfz46_1
                          try clear hfz46_2
                          try clear hfz46_3
                          try clear hfz46_4
                          try clear hfz51_0
                          try clear hfz51_1
                          try clear hfz51_2
                          try clear hfz51_3
                          try clear hfz51_4
                          try clear hfz56_0
                          try clear hfz56_1
                          try clear hfz56_2
                          try clear hfz56_3
                          try clear hfz56_4
                          try clear hfz61_0
                          try clear hfz61_1
                          try clear hfz61_2
                          try clear hfz61_3
                          try clear hfz61_4
                          try clear hfz63_0
                          try clear hfz63_1
                          try clear hfz63_2
                          try clear hfz68_0
                          try clear hfz68_1
                          try clear hfz68_2
                          try clear hfz68_3
                          try clear hfz68_4
                          try clear p2
                          obtain ⟨kq, x69_68, rfl, HA, HJ68, BK142, BK143, BK144, HB⟩ := hcut
                          cases kq with
                          | zero => exact absurd HA.out (by simp [spec_l11insOk.j2])
                          | succ kj68 =>
                            have H := HA.out
                            clear HA
                            simp only [spec_l11insOk.j2] at H
                            by_cases c71 : x69_68 = true
                            · subst c71
                              have H1 : ((spec_l11in.f a2_4 5).bind fun t153 => (some t153)) = some r := by rw [if_pos rfl] at H; exact H
                              clear H
                              have H := H1
                              clear H1
                              replace H := Option.bind_eq_some_iff.mp H
                              obtain ⟨t153, A720, H⟩ := H
                              replace H : (some t153) = some r := H
                              have A72 := Aside0.mk A720
                              clear A720
                              obtain rfl := Option.some.inj H
                              have hnb73 := NB144_142.out
                              have hnc73 := NB142_144.out
                              have hnb74 := NB144_143.out
                              have hnc74 := NB143_144.out
                              have hcz75_0 : wc.cell? ⟨gb144, 0, none⟩ = some (.int .i64 a2_0) := (blk_cell BK144.out 0).trans rfl
                              have hcz75_1 : wc.cell? ⟨gb144, 1, none⟩ = some (.int .i64 a2_1) := (blk_cell BK144.out 1).trans rfl
                              have hcz75_2 : wc.cell? ⟨gb144, 2, none⟩ = some (.int .i64 a2_2) := (blk_cell BK144.out 2).trans rfl
                              have hcz75_3 : wc.cell? ⟨gb144, 3, none⟩ = some (.int .i64 a2_3) := (blk_cell BK144.out 3).trans rfl
                              have hcz75_4 : wc.cell? ⟨gb144, 4, none⟩ = some (.int .i64 a2_4) := (blk_cell BK144.out 4).trans rfl
                              have hfz75_0 := blk_frozen BK144.out 0
                              have hfz75_1 := blk_frozen BK144.out 1
                              have hfz75_2 := blk_frozen BK144.out 2
                              have hfz75_3 := blk_frozen BK144.out 3
                              have hfz75_4 := blk_frozen BK144.out 4
                              go_wp2_with (first | ((with_reducible refine gate_callee (f := 47) rfl ?_); refine goesL_ (some 74) rfl rfl Try.func47 (by kernel_rfl) rfl #[.int .i64 a2_4, .int .i64 5] rfl (by (try simp only [List.map_toArray, List.map_cons, List.map_nil]); first | done | rfl | (simp only [List.length_drop, List.length_take]; rfl)) ?_; (with_reducible refine (spec_l11in.calls a2_4 5 t153 _ A72.out).mono ?_); rintro e w' ⟨rfl, ⟨nd, rfl⟩⟩; refine ⟨_, rfl, ?_⟩))
                              go_ret
                              exact ⟨by first | rfl | (simp [errW_none, errW_some] <;> rfl) | (simp [*, errW_none, errW_some] <;> rfl), by repeat (first | (with_reducible first | exact HB.out | apply below_alloc | apply pw_below_drewN | apply below_drew1 | refine below_set ?_ GE142.out | refine below_set ?_ GE143.out | refine below_set ?_ GE144.out) | exact HB.out)⟩
                            · replace c71 := Bool.eq_false_iff.mpr c71
                              subst c71
                              have H1 : (if a2_0 = 21 then (spec_l11insOk.j3 kj68 a2_0 (a2_0 == 21) l0_0 l0_1 a0_2 a1_0 a1_1 l1_2 l1_3 a2_0 a2_1 a2_2 a2_3 a2_4) else (spec_l11insOk.j3 kj68 a2_0 (a2_0 == 24) l0_0 l0_1 a0_2 a1_0 a1_1 l1_2 l1_3 a2_0 a2_1 a2_2 a2_3 a2_4)) = some r := by rw [if_neg (show ¬ (false = true) by decide)] at H; exact H
                              clear H
                              have H := H1
                              clear H1
                              have HC76 := Aside0.mk H
                              clear H
                              go_upto_if 75 with (fail)
                              go_cut [75] (fun v75 wc => ∃ (kq : Nat) (x75_75 : Bool), v75 = .bool x75_75 ∧ Aside0 (spec_l11insOk.j3 kq a2_0 x75_75 l0_0 l0_1 a0_2 a1_0 a1_1 l1_2 l1_3 a2_0 a2_1 a2_2 a2_3 a2_4 = some r) ∧ Aside0 (kq ≤ kj68) ∧ Aside0 (wc.heap[gb142]? = some (.cells #[(.slice A0_0 l0_0.length c0_0), (.slice A0_1 l0_1.length c0_1), .int .i64 a0_2] 30 (0, 0))) ∧ Aside0 (wc.heap[gb143]? = some (.cells #[.int .i64 a1_0, .int .i64 a1_1, (.slice A1_2 l1_2.length c1_2), (.slice A1_3 l1_3.length c1_3)] 53 (0, 0))) ∧ Aside0 (wc.heap[gb144]? = some (.cells #[.int .i64 a2_0, .int .i64 a2_1, .int .i64 a2_2, .int .i64 a2_3, .int .i64 a2_4] 68 (0, 0))) ∧ Aside0 (Below w.heap.size w wc))
                              case first =>
                                have H := HC76.out
                                clear HC76
                                by_cases c77 : a2_0 = 21
                                · rw [if_pos c77] at H
                                  have c77b0 : (a2_0 == 21) = true := beq_iff_eq.mpr c77
                                  have c77b1 : (a2_0 != 21) = false := bne_eq_false_iff_eq.mpr c77
                                  clear c77
                                  (first | rw [c77b0] | (simp only [i64_w, i32_w]; rw [c77b0]) | skip)
                                  have H' := Aside0.mk H
                                  clear H
                                  go_wp2
                                  go_meet
                                  case rel => exact ⟨_, ((a2_0 == 21)), (by first | rfl | (simp; done) | (simp [*]; done)), H', ⟨by have := HJ3.out; have := HJ31.out; have := HJ68.out; first | omega | exact Nat.le_refl _⟩, ⟨by (with_reducible repeat (first | refine blk_drewN ?_ _ | refine blk_drew ?_ | refine blk_alloc ?_ _)); exact BK142.out⟩, ⟨by (with_reducible repeat (first | refine blk_drewN ?_ _ | refine blk_drew ?_ | refine blk_alloc ?_ _)); exact BK143.out⟩, ⟨by (with_reducible repeat (first | refine blk_drewN ?_ _ | refine blk_drew ?_ | refine blk_alloc ?_ _)); exact BK144.out⟩, ⟨by repeat (first | (with_reducible first | exact HB.out | apply below_alloc | apply pw_below_drewN | apply below_drew1 | refine below_set ?_ GE142.out | refine below_set ?_ GE143.out | refine below_set ?_ GE144.out) | exact HB.out)⟩⟩
                                · rw [if_neg c77] at H
                                  have c77b0 : (a2_0 == 21) = false := beq_eq_false_iff_ne.mpr c77
                                  have c77b1 : (a2_0 != 21) = true := bne_iff_ne.mpr c77
                                  (first | rw [c77b0] | (simp only [i64_w, i32_w]; rw [c77b0]) | skip)
                                  have H' := Aside0.mk H
                                  clear H
                                  go_wp2
                                  go_meet
                                  case rel => exact ⟨_, ((a2_0 == 24)), (by first | rfl | (simp; done) | (simp [*]; done)), H', ⟨by have := HJ3.out; have := HJ31.out; have := HJ68.out; first | omega | exact Nat.le_refl _⟩, ⟨by (with_reducible repeat (first | refine blk_drewN ?_ _ | refine blk_drew ?_ | refine blk_alloc ?_ _)); exact BK142.out⟩, ⟨by (with_reducible repeat (first | refine blk_drewN ?_ _ | refine blk_drew ?_ | refine blk_alloc ?_ _)); exact BK143.out⟩, ⟨by (with_reducible repeat (first | refine blk_drewN ?_ _ | refine blk_drew ?_ | refine blk_alloc ?_ _)); exact BK144.out⟩, ⟨by repeat (first | (with_reducible first | exact HB.out | apply below_alloc | apply pw_below_drewN | apply below_drew1 | refine below_set ?_ GE142.out | refine below_set ?_ GE143.out | refine below_set ?_ GE144.out) | exact HB.out)⟩⟩
                              case rest =>
                                clear HC76
                                try clear c1
                                try clear c2
                                try clear p2
                                try clear c3
                                try clear c4
                                try clear c5
                                try clear c6
                                try clear c7
                                try clear c9
                                try clear c11
                                try clear c13
                                try clear c15
                                try clear c16
                                try clear c18
                                try clear c19
                                try clear c21
                                try clear c22
                                try clear c24
                                try clear c25
                                try clear c27
                                try clear c28
                                try clear c28b0
                                try clear c28b1
                                try clear c29
                                try clear c30
                                try clear c33
                                try clear c34
                                try clear c36
                                try clear c36b0
                                try clear c36b1
                                try clear c37
                                try clear c38
                                try clear c38b0
                                try clear c39
                                try clear c40
                                try clear c42
                                try clear c44
                                try clear c45
                                try clear c47
                                try clear c47b0
                                try clear c47b1
                                try clear c49
                                try clear c50
                                try clear c52
                                try clear c52b0
                                try clear c52b1
                                try clear c54
                                try clear c55
                                try clear c57
                                try clear c57b0
                                try clear c57b1
                                try clear c59
                                try clear c60
                                try clear c62
                                try clear c64
                                try clear c64b0
                                try clear c64b1
                                try clear c66
                                try clear c67
                                try clear c70
                                try clear c70b0
                                try clear c70b1
                                try clear c71
                                try clear c73
                                try clear c74
                                try clear c77
                                try clear c77b0
                                try clear c77b1
                                try clear hcz17_0
                                try clear hcz17_1
                                try clear hcz17_2
                                try clear hcz17_3
                                try clear hcz17_4
                                try clear hcz20_0
                                try clear hcz20_1
                                try clear hcz20_2
                                try clear hcz20_3
                                try clear hcz20_4
                                try clear hcz23_0
                                try clear hcz23_1
                                try clear hcz23_2
                                try clear hcz23_3
                                try clear hcz23_4
                                try clear hcz26_0
                                try clear hcz26_1
                                try clear hcz26_2
                                try clear hcz26_3
                                try clear hcz26_4
                                try clear hcz31_0
                                try clear hcz31_1
                                try clear hcz31_2
                                try clear hcz31_3
                                try clear hcz31_4
                                try clear hcz35_0
                                try clear hcz35_1
                                try clear hcz35_2
                                try clear hcz35_3
                                try clear hcz35_4
                                try clear hcz41_0
                                try clear hcz41_1
                                try clear hcz41_2
                                try clear hcz41_3
                                try clear hcz41_4
                                try clear hcz43_0
                                try clear hcz43_1
                                try clear hcz43_2
                                try clear hcz43_3
                                try clear hcz46_0
                                try clear hcz46_1
                                try clear hcz46_2
                                try clear hcz46_3
                                try clear hcz46_4
                                try clear hcz51_0
                                try clear hcz51_1
                                try clear hcz51_2
                                try clear hcz51_3
                                try clear hcz51_4
                                try clear hcz56_0
                                try clear hcz56_1
                                try clear hcz56_2
                                try clear hcz56_3
                                try clear hcz56_4
                                try clear hcz61_0
                                try clear hcz61_1
                                try clear hcz61_2
                                try clear hcz61_3
                                try clear hcz61_4
                                try clear hcz63_0
                                try clear hcz63_1
                                try clear hcz63_2
                                try clear hcz68_0
                                try clear hcz68_1
                                try clear hcz68_2
                                try clear hcz68_3
                                try clear hcz68_4
                                try clear hcz75_0
                                try clear hcz75_1
                                try clear hcz75_2
                                try clear hcz75_3
                                try clear hcz75_4
                                try clear hfz17_0
                                try clear hfz17_1
                                try clear hfz17_2
                                try clear hfz17_3
                                try clear hfz17_4
                                try clear hfz20_0
                                try clear hfz20_1
                                try clear hfz20_2
                                try clear hfz20_3
                                try clear hfz20_4
                                try clear hfz23_0
                                try clear hfz23_1
                                try clear hfz23_2
                                try clear hfz23_3
                                try clear hfz23_4
                                try clear hfz26_0
                                try clear hfz26_1
                                try clear hfz26_2
                                try clear hfz26_3
                                try clear hfz26_4
                                try clear hfz31_0
                                try clear hfz31_1
                                try clear hfz31_2
                                try clear hfz31_3
                                try clear hfz31_4
                                try clear hfz35_0
                                try clear hfz35_1
                                try clear hfz35_2
                                try clear hfz35_3
                                try clear hfz35_4
                                try clear hfz41_0
                                try clear hfz41_1
                                try clear hfz41_2
                                try clear hfz41_3
                                try clear hfz41_4
                                try clear hfz43_0
                                try clear hfz43_1
                                try clear hfz43_2
                                try clear hfz43_3
                                try clear hfz46_0
                                try clear hfz46_1
                                try clear hfz46_2
                                try clear hfz46_3
                                try clear hfz46_4
                                try clear hfz51_0
                                try clear hfz51_1
                                try clear hfz51_2
                                try clear hfz51_3
                                try clear hfz51_4
                                try clear hfz56_0
                                try clear hfz56_1
                                try clear hfz56_2
                                try clear hfz56_3
                                try clear hfz56_4
                                try clear hfz61_0
                                try clear hfz61_1
                                try clear hfz61_2
                                try clear hfz61_3
                                try clear hfz61_4
                                try clear hfz63_0
                                try clear hfz63_1
                                try clear hfz63_2
                                try clear hfz68_0
                                try clear hfz68_1
                                try clear hfz68_2
                                try clear hfz68_3
                                try clear hfz68_4
                                try clear hfz75_0
                                try clear hfz75_1
                                try clear hfz75_2
                                try clear hfz75_3
                                try clear hfz75_4
                                try clear p2
                                obtain ⟨kq, x75_75, rfl, HA, HJ75, BK142, BK143, BK144, HB⟩ := hcut
                                cases kq with
                                | zero => exact absurd HA.out (by simp [spec_l11insOk.j3])
                                | succ kj75 =>
                                  have H := HA.out
                                  clear HA
                                  simp only [spec_l11insOk.j3] at H
                                  by_cases c78 : x75_75 = true
                                  · subst c78
                                    have H1 : ((spec_l11in.f a2_4 2).bind fun t154 => (some t154)) = some r := by rw [if_pos rfl] at H; exact H
                                    clear H
                                    have H := H1
                                    clear H1
                                    replace H := Option.bind_eq_some_iff.mp H
                                    obtain ⟨t154, A790, H⟩ := H
                                    replace H : (some t154) = some r := H
                                    have A79 := Aside0.mk A790
                                    clear A790
                                    obtain rfl := Option.some.inj H
                                    have hnb80 := NB144_142.out
                                    have hnc80 := NB142_144.out
                                    have hnb81 := NB144_143.out
                                    have hnc81 := NB143_144.out
                                    have hcz82_0 : wc.cell? ⟨gb144, 0, none⟩ = some (.int .i64 a2_0) := (blk_cell BK144.out 0).trans rfl
                                    have hcz82_1 : wc.cell? ⟨gb144, 1, none⟩ = some (.int .i64 a2_1) := (blk_cell BK144.out 1).trans rfl
                                    have hcz82_2 : wc.cell? ⟨gb144, 2, none⟩ = some (.int .i64 a2_2) := (blk_cell BK144.out 2).trans rfl
                                    have hcz82_3 : wc.cell? ⟨gb144, 3, none⟩ = some (.int .i64 a2_3) := (blk_cell BK144.out 3).trans rfl
                                    have hcz82_4 : wc.cell? ⟨gb144, 4, none⟩ = some (.int .i64 a2_4) := (blk_cell BK144.out 4).trans rfl
                                    have hfz82_0 := blk_frozen BK144.out 0
                                    have hfz82_1 := blk_frozen BK144.out 1
                                    have hfz82_2 := blk_frozen BK144.out 2
                                    have hfz82_3 := blk_frozen BK144.out 3
                                    have hfz82_4 := blk_frozen BK144.out 4
                                    go_wp2_with (first | ((with_reducible refine gate_callee (f := 47) rfl ?_); refine goesL_ (some 80) rfl rfl Try.func47 (by kernel_rfl) rfl #[.int .i64 a2_4, .int .i64 2] rfl (by (try simp only [List.map_toArray, List.map_cons, List.map_nil]); first | done | rfl | (simp only [List.length_drop, List.length_take]; rfl)) ?_; (with_reducible refine (spec_l11in.calls a2_4 2 t154 _ A79.out).mono ?_); rintro e w' ⟨rfl, ⟨nd, rfl⟩⟩; refine ⟨_, rfl, ?_⟩))
                                    go_ret
                                    exact ⟨by first | rfl | (simp [errW_none, errW_some] <;> rfl) | (simp [*, errW_none, errW_some] <;> rfl), by repeat (first | (with_reducible first | exact HB.out | apply below_alloc | apply pw_below_drewN | apply below_drew1 | refine below_set ?_ GE142.out | refine below_set ?_ GE143.out | refine below_set ?_ GE144.out) | exact HB.out)⟩
                                  · replace c78 := Bool.eq_false_iff.mpr c78
                                    subst c78
                                    have H1 : (if a2_0 = 22 then ((spec_l11in.f a2_4 4).bind fun t155 => (some t155)) else (if a2_0 = 23 then ((spec_l11in.f a2_4 (l0_1.length : Int)).bind fun t156 => (some t156)) else (if a2_0 = 26 then ((spec_l11in.f a2_4 (l1_2.length : Int)).bind fun t157 => (some t157)) else (if a2_0 = 27 then ((spec_l11in.f a2_4 (l1_2.length : Int)).bind fun t158 => (some t158)) else (some (a2_4 == 0)))))) = some r := by rw [if_neg (show ¬ (false = true) by decide)] at H; exact H
                                    clear H
                                    have H := H1
                                    clear H1
                                    by_cases c83 : a2_0 = 22
                                    · rw [if_pos c83] at H
                                      have c83b0 : (a2_0 == 22) = true := beq_iff_eq.mpr c83
                                      have c83b1 : (a2_0 != 22) = false := bne_eq_false_iff_eq.mpr c83
                                      clear c83
                                      replace H := Option.bind_eq_some_iff.mp H
                                      obtain ⟨t155, A840, H⟩ := H
                                      replace H : (some t155) = some r := H
                                      have A84 := Aside0.mk A840
                                      clear A840
                                      obtain rfl := Option.some.inj H
                                      have hnb85 := NB144_142.out
                                      have hnc85 := NB142_144.out
                                      have hnb86 := NB144_143.out
                                      have hnc86 := NB143_144.out
                                      have hcz87_0 : wc.cell? ⟨gb144, 0, none⟩ = some (.int .i64 a2_0) := (blk_cell BK144.out 0).trans rfl
                                      have hcz87_1 : wc.cell? ⟨gb144, 1, none⟩ = some (.int .i64 a2_1) := (blk_cell BK144.out 1).trans rfl
                                      have hcz87_2 : wc.cell? ⟨gb144, 2, none⟩ = some (.int .i64 a2_2) := (blk_cell BK144.out 2).trans rfl
                                      have hcz87_3 : wc.cell? ⟨gb144, 3, none⟩ = some (.int .i64 a2_3) := (blk_cell BK144.out 3).trans rfl
                                      have hcz87_4 : wc.cell? ⟨gb144, 4, none⟩ = some (.int .i64 a2_4) := (blk_cell BK144.out 4).trans rfl
                                      have hfz87_0 := blk_frozen BK144.out 0
                                      have hfz87_1 := blk_frozen BK144.out 1
                                      have hfz87_2 := blk_frozen BK144.out 2
                                      have hfz87_3 := blk_frozen BK144.out 3
                                      have hfz87_4 := blk_frozen BK144.out 4
                                      go_wp2_with (first | ((with_reducible refine gate_callee (f := 47) rfl ?_); refine goesL_ (some 85) rfl rfl Try.func47 (by kernel_rfl) rfl #[.int .i64 a2_4, .int .i64 4] rfl (by (try simp only [List.map_toArray, List.map_cons, List.map_nil]); first | done | rfl | (simp only [List.length_drop, List.length_take]; rfl)) ?_; (with_reducible refine (spec_l11in.calls a2_4 4 t155 _ A84.out).mono ?_); rintro e w' ⟨rfl, ⟨nd, rfl⟩⟩; refine ⟨_, rfl, ?_⟩))
                                      go_ret
                                      exact ⟨by first | rfl | (simp [errW_none, errW_some] <;> rfl) | (simp [*, errW_none, errW_some] <;> rfl), by repeat (first | (with_reducible first | exact HB.out | apply below_alloc | apply pw_below_drewN | apply below_drew1 | refine below_set ?_ GE142.out | refine below_set ?_ GE143.out | refine below_set ?_ GE144.out) | exact HB.out)⟩
                                    · rw [if_neg c83] at H
                                      have c83b0 : (a2_0 == 22) = false := beq_eq_false_iff_ne.mpr c83
                                      have c83b1 : (a2_0 != 22) = true := bne_iff_ne.mpr c83
                                      by_cases c88 : a2_0 = 23
                                      · rw [if_pos c88] at H
                                        have c88b0 : (a2_0 == 23) = true := beq_iff_eq.mpr c88
                                        have c88b1 : (a2_0 != 23) = false := bne_eq_false_iff_eq.mpr c88
                                        clear c88
                                        replace H := Option.bind_eq_some_iff.mp H
                                        obtain ⟨t156, A890, H⟩ := H
                                        replace H : (some t156) = some r := H
                                        have A89 := Aside0.mk A890
                                        clear A890
                                        obtain rfl := Option.some.inj H
                                        have hnb90 := NB144_142.out
                                        have hnc90 := NB142_144.out
                                        have hnb91 := NB144_143.out
                                        have hnc91 := NB143_144.out
                                        have hcz92_0 : wc.cell? ⟨gb144, 0, none⟩ = some (.int .i64 a2_0) := (blk_cell BK144.out 0).trans rfl
                                        have hcz92_1 : wc.cell? ⟨gb144, 1, none⟩ = some (.int .i64 a2_1) := (blk_cell BK144.out 1).trans rfl
                                        have hcz92_2 : wc.cell? ⟨gb144, 2, none⟩ = some (.int .i64 a2_2) := (blk_cell BK144.out 2).trans rfl
                                        have hcz92_3 : wc.cell? ⟨gb144, 3, none⟩ = some (.int .i64 a2_3) := (blk_cell BK144.out 3).trans rfl
                                        have hcz92_4 : wc.cell? ⟨gb144, 4, none⟩ = some (.int .i64 a2_4) := (blk_cell BK144.out 4).trans rfl
                                        have hfz92_0 := blk_frozen BK144.out 0
                                        have hfz92_1 := blk_frozen BK144.out 1
                                        have hfz92_2 := blk_frozen BK144.out 2
                                        have hfz92_3 := blk_frozen BK144.out 3
                                        have hfz92_4 := blk_frozen BK144.out 4
                                        have hnb93 := NB142_143.out
                                        have hnc93 := NB143_142.out
                                        have hcz94_0 : wc.cell? ⟨gb142, 0, none⟩ = some (.slice A0_0 l0_0.length c0_0) := (blk_cell BK142.out 0).trans rfl
                                        have hcz94_1 : wc.cell? ⟨gb142, 1, none⟩ = some (.slice A0_1 l0_1.length c0_1) := (blk_cell BK142.out 1).trans rfl
                                        have hcz94_2 : wc.cell? ⟨gb142, 2, none⟩ = some (.int .i64 a0_2) := (blk_cell BK142.out 2).trans rfl
                                        have hfz94_0 := blk_frozen BK142.out 0
                                        have hfz94_1 := blk_frozen BK142.out 1
                                        have hfz94_2 := blk_frozen BK142.out 2
                                        go_wp2_with (first | ((with_reducible refine gate_callee (f := 47) rfl ?_); refine goesL_ (some 93) rfl rfl Try.func47 (by kernel_rfl) rfl #[.int .i64 a2_4, .int .i64 (l0_1.length : Int)] rfl (by (try simp only [List.map_toArray, List.map_cons, List.map_nil]); first | done | rfl | (simp only [List.length_drop, List.length_take]; rfl)) ?_; (with_reducible refine (spec_l11in.calls a2_4 (l0_1.length : Int) t156 _ A89.out).mono ?_); rintro e w' ⟨rfl, ⟨nd, rfl⟩⟩; refine ⟨_, rfl, ?_⟩))
                                        go_ret
                                        exact ⟨by first | rfl | (simp [errW_none, errW_some] <;> rfl) | (simp [*, errW_none, errW_some] <;> rfl), by repeat (first | (with_reducible first | exact HB.out | apply below_alloc | apply pw_below_drewN | apply below_drew1 | refine below_set ?_ GE142.out | refine below_set ?_ GE143.out | refine below_set ?_ GE144.out) | exact HB.out)⟩
                                      · rw [if_neg c88] at H
                                        have c88b0 : (a2_0 == 23) = false := beq_eq_false_iff_ne.mpr c88
                                        have c88b1 : (a2_0 != 23) = true := bne_iff_ne.mpr c88
                                        by_cases c95 : a2_0 = 26
                                        · rw [if_pos c95] at H
                                          have c95b0 : (a2_0 == 26) = true := beq_iff_eq.mpr c95
                                          have c95b1 : (a2_0 != 26) = false := bne_eq_false_iff_eq.mpr c95
                                          clear c95
                                          replace H := Option.bind_eq_some_iff.mp H
                                          obtain ⟨t157, A960, H⟩ := H
                                          replace H : (some t157) = some r := H
                                          have A96 := Aside0.mk A960
                                          clear A960
                                          obtain rfl := Option.some.inj H
                                          have hnb97 := NB144_142.out
                                          have hnc97 := NB142_144.out
                                          have hnb98 := NB144_143.out
                                          have hnc98 := NB143_144.out
                                          have hcz99_0 : wc.cell? ⟨gb144, 0, none⟩ = some (.int .i64 a2_0) := (blk_cell BK144.out 0).trans rfl
                                          have hcz99_1 : wc.cell? ⟨gb144, 1, none⟩ = some (.int .i64 a2_1) := (blk_cell BK144.out 1).trans rfl
                                          have hcz99_2 : wc.cell? ⟨gb144, 2, none⟩ = some (.int .i64 a2_2) := (blk_cell BK144.out 2).trans rfl
                                          have hcz99_3 : wc.cell? ⟨gb144, 3, none⟩ = some (.int .i64 a2_3) := (blk_cell BK144.out 3).trans rfl
                                          have hcz99_4 : wc.cell? ⟨gb144, 4, none⟩ = some (.int .i64 a2_4) := (blk_cell BK144.out 4).trans rfl
                                          have hfz99_0 := blk_frozen BK144.out 0
                                          have hfz99_1 := blk_frozen BK144.out 1
                                          have hfz99_2 := blk_frozen BK144.out 2
                                          have hfz99_3 := blk_frozen BK144.out 3
                                          have hfz99_4 := blk_frozen BK144.out 4
                                          have hnb100 := NB143_142.out
                                          have hnc100 := NB142_143.out
                                          have hcz101_0 : wc.cell? ⟨gb143, 0, none⟩ = some (.int .i64 a1_0) := (blk_cell BK143.out 0).trans rfl
                                          have hcz101_1 : wc.cell? ⟨gb143, 1, none⟩ = some (.int .i64 a1_1) := (blk_cell BK143.out 1).trans rfl
                                          have hcz101_2 : wc.cell? ⟨gb143, 2, none⟩ = some (.slice A1_2 l1_2.length c1_2) := (blk_cell BK143.out 2).trans rfl
                                          have hcz101_3 : wc.cell? ⟨gb143, 3, none⟩ = some (.slice A1_3 l1_3.length c1_3) := (blk_cell BK143.out 3).trans rfl
                                          have hfz101_0 := blk_frozen BK143.out 0
                                          have hfz101_1 := blk_frozen BK143.out 1
                                          have hfz101_2 := blk_frozen BK143.out 2
                                          have hfz101_3 := blk_frozen BK143.out 3
                                          go_wp2_with (first | ((with_reducible refine gate_callee (f := 47) rfl ?_); refine goesL_ (some 102) rfl rfl Try.func47 (by kernel_rfl) rfl #[.int .i64 a2_4, .int .i64 (l1_2.length : Int)] rfl (by (try simp only [List.map_toArray, List.map_cons, List.map_nil]); first | done | rfl | (simp only [List.length_drop, List.length_take]; rfl)) ?_; (with_reducible refine (spec_l11in.calls a2_4 (l1_2.length : Int) t157 _ A96.out).mono ?_); rintro e w' ⟨rfl, ⟨nd, rfl⟩⟩; refine ⟨_, rfl, ?_⟩))
                                          go_ret
                                          exact ⟨by first | rfl | (simp [errW_none, errW_some] <;> rfl) | (simp [*, errW_none, errW_some] <;> rfl), by repeat (first | (with_reducible first | exact HB.out | apply below_alloc | apply pw_below_drewN | apply below_drew1 | refine below_set ?_ GE142.out | refine below_set ?_ GE143.out | refine below_set ?_ GE144.out) | exact HB.out)⟩
                                        · rw [if_neg c95] at H
                                          have c95b0 : (a2_0 == 26) = false := beq_eq_false_iff_ne.mpr c95
                                          have c95b1 : (a2_0 != 26) = true := bne_iff_ne.mpr c95
                                          by_cases c102 : a2_0 = 27
                                          · rw [if_pos c102] at H
                                            have c102b0 : (a2_0 == 27) = true := beq_iff_eq.mpr c102
                                            have c102b1 : (a2_0 != 27) = false := bne_eq_false_iff_eq.mpr c102
                                            clear c102
                                            replace H := Option.bind_eq_some_iff.mp H
                                            obtain ⟨t158, A1030, H⟩ := H
                                            replace H : (some t158) = some r := H
                                            have A103 := Aside0.mk A1030
                                            clear A1030
                                            obtain rfl := Option.some.inj H
                                            have hnb104 := NB144_142.out
                                            have hnc104 := NB142_144.out
                                            have hnb105 := NB144_143.out
                                            have hnc105 := NB143_144.out
                                            have hcz106_0 : wc.cell? ⟨gb144, 0, none⟩ = some (.int .i64 a2_0) := (blk_cell BK144.out 0).trans rfl
                                            have hcz106_1 : wc.cell? ⟨gb144, 1, none⟩ = some (.int .i64 a2_1) := (blk_cell BK144.out 1).trans rfl
                                            have hcz106_2 : wc.cell? ⟨gb144, 2, none⟩ = some (.int .i64 a2_2) := (blk_cell BK144.out 2).trans rfl
                                            have hcz106_3 : wc.cell? ⟨gb144, 3, none⟩ = some (.int .i64 a2_3) := (blk_cell BK144.out 3).trans rfl
                                            have hcz106_4 : wc.cell? ⟨gb144, 4, none⟩ = some (.int .i64 a2_4) := (blk_cell BK144.out 4).trans rfl
                                            have hfz106_0 := blk_frozen BK144.out 0
                                            have hfz106_1 := blk_frozen BK144.out 1
                                            have hfz106_2 := blk_frozen BK144.out 2
                                            have hfz106_3 := blk_frozen BK144.out 3
                                            have hfz106_4 := blk_frozen BK144.out 4
                                            have hnb107 := NB143_142.out
                                            have hnc107 := NB142_143.out
                                            have hcz108_0 : wc.cell? ⟨gb143, 0, none⟩ = some (.int .i64 a1_0) := (blk_cell BK143.out 0).trans rfl
                                            have hcz108_1 : wc.cell? ⟨gb143, 1, none⟩ = some (.int .i64 a1_1) := (blk_cell BK143.out 1).trans rfl
                                            have hcz108_2 : wc.cell? ⟨gb143, 2, none⟩ = some (.slice A1_2 l1_2.length c1_2) := (blk_cell BK143.out 2).trans rfl
                                            have hcz108_3 : wc.cell? ⟨gb143, 3, none⟩ = some (.slice A1_3 l1_3.length c1_3) := (blk_cell BK143.out 3).trans rfl
                                            have hfz108_0 := blk_frozen BK143.out 0
                                            have hfz108_1 := blk_frozen BK143.out 1
                                            have hfz108_2 := blk_frozen BK143.out 2
                                            have hfz108_3 := blk_frozen BK143.out 3
                                            go_wp2_with (first | ((with_reducible refine gate_callee (f := 47) rfl ?_); refine goesL_ (some 102) rfl rfl Try.func47 (by kernel_rfl) rfl #[.int .i64 a2_4, .int .i64 (l1_2.length : Int)] rfl (by (try simp only [List.map_toArray, List.map_cons, List.map_nil]); first | done | rfl | (simp only [List.length_drop, List.length_take]; rfl)) ?_; (with_reducible refine (spec_l11in.calls a2_4 (l1_2.length : Int) t158 _ A103.out).mono ?_); rintro e w' ⟨rfl, ⟨nd, rfl⟩⟩; refine ⟨_, rfl, ?_⟩))
                                            go_ret
                                            exact ⟨by first | rfl | (simp [errW_none, errW_some] <;> rfl) | (simp [*, errW_none, errW_some] <;> rfl), by repeat (first | (with_reducible first | exact HB.out | apply below_alloc | apply pw_below_drewN | apply below_drew1 | refine below_set ?_ GE142.out | refine below_set ?_ GE143.out | refine below_set ?_ GE144.out) | exact HB.out)⟩
                                          · rw [if_neg c102] at H
                                            have c102b0 : (a2_0 == 27) = false := beq_eq_false_iff_ne.mpr c102
                                            have c102b1 : (a2_0 != 27) = true := bne_iff_ne.mpr c102
                                            obtain rfl := Option.some.inj H
                                            have hnb109 := NB144_142.out
                                            have hnc109 := NB142_144.out
                                            have hnb110 := NB144_143.out
                                            have hnc110 := NB143_144.out
                                            have hcz111_0 : wc.cell? ⟨gb144, 0, none⟩ = some (.int .i64 a2_0) := (blk_cell BK144.out 0).trans rfl
                                            have hcz111_1 : wc.cell? ⟨gb144, 1, none⟩ = some (.int .i64 a2_1) := (blk_cell BK144.out 1).trans rfl
                                            have hcz111_2 : wc.cell? ⟨gb144, 2, none⟩ = some (.int .i64 a2_2) := (blk_cell BK144.out 2).trans rfl
                                            have hcz111_3 : wc.cell? ⟨gb144, 3, none⟩ = some (.int .i64 a2_3) := (blk_cell BK144.out 3).trans rfl
                                            have hcz111_4 : wc.cell? ⟨gb144, 4, none⟩ = some (.int .i64 a2_4) := (blk_cell BK144.out 4).trans rfl
                                            have hfz111_0 := blk_frozen BK144.out 0
                                            have hfz111_1 := blk_frozen BK144.out 1
                                            have hfz111_2 := blk_frozen BK144.out 2
                                            have hfz111_3 := blk_frozen BK144.out 3
                                            have hfz111_4 := blk_frozen BK144.out 4
                                            go_wp2
                                            go_ret
                                            exact ⟨by first | rfl | (simp [errW_none, errW_some] <;> rfl) | (simp [*, errW_none, errW_some] <;> rfl), by repeat (first | (with_reducible first | exact HB.out | apply below_alloc | apply pw_below_drewN | apply below_drew1 | refine below_set ?_ GE142.out | refine below_set ?_ GE143.out | refine below_set ?_ GE144.out) | exact HB.out)⟩

end Go.Proofs.Ytkfeoilnhpfknaa.QFnExactImageRead
