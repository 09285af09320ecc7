-- Laid by a program of this session (wip/myprint) out of the translation, after print.sh's manner.
import Derived.Test.YtlamooicofkjlaaQFnExactDomsx0
import Derived.Test.YtlamooicofkjlaaQFnExactDomsx3
namespace Go.Proofs.Ytlamooicofkjlaa.QFnExactDoms
open Go.RowKit Go.Proofs.YtlamooicofkjlaaW.PrintWords Go.Proofs.YtlamooicofkjlaaW.PrintLast Go.Proofs.YtlamooicofkjlaaW.PrintMore
attribute [local go_sem] max2_int min2_int max_two min_two max_three min_three max_four min_four   -- for this text's walks alone
set_option linter.unusedVariables false
set_option linter.unusedSimpArgs false

/-! ### spec_l6doms: function 17 -/
mutual
def spec_l6doms.l0 : Nat → Int → List Int → List Int → List Bool → List (List Bool) → Int → List (S33) → Int → Int → List (S77) → List (S70) → Option (List Int)
 | 0, _, _, _, _, _, _, _, _, _, _, _ => none
 | k + 1, x3, x4, x5, x6, x7, x8, x141000, x141001, x141002, x141003, x141004 => if x8 < x3 then (if 0 ≤ x8 then (if x8 < (x4.length : Int) then ((spec_l6reach.f k x141000 x141001 x141002 x141003 x141004 x8).bind fun t151 => (if x7.length < 5864062014805 then (spec_l6doms.l0 k x3 (x4.set (x8 : Int).toNat (-1)) x5 x6 (x7 ++ [t151]) (wrap64 (x8 + 1)) x141000 x141001 x141002 x141003 x141004) else (none))) else (none)) else (none)) else (spec_l6doms.l1 k x3 x4 x5 x6 x7 0)
def spec_l6doms.l1 : Nat → Int → List Int → List Int → List Bool → List (List Bool) → Int → Option (List Int)
 | 0, _, _, _, _, _, _ => none
 | k + 1, x3, x4, x5, x6, x7, x9 => if x9 < x3 then (spec_l6doms.l2 k x3 x4 x5 x6 x7 x9 0) else (spec_l6doms.l3 k x3 x4 x5 x6 x7 0)
def spec_l6doms.l2 : Nat → Int → List Int → List Int → List Bool → List (List Bool) → Int → Int → Option (List Int)
 | 0, _, _, _, _, _, _, _ => none
 | k + 1, x3, x4, x5, x6, x7, x9, x10 => if x10 < x3 then (if 0 ≤ x9 then (if x9 < (x6.length : Int) then (if rdOf false x6 x9 = true then (if x10 = x9 then (spec_l6doms.l2 k x3 x4 x5 x6 x7 x9 (wrap64 (x10 + 1))) else (if 0 ≤ x10 then (if x10 < (x7.length : Int) then (if x9 < ((rd_L13 x7 x10).length : Int) then (if (rdOf false (rd_L13 x7 x10) x9 = true) then (spec_l6doms.l2 k x3 x4 x5 x6 x7 x9 (wrap64 (x10 + 1))) else (if x9 < (x5.length : Int) then (spec_l6doms.l2 k x3 x4 (x5.set (x9 : Int).toNat (wrap64 ((rd x5 x9) + 1))) x6 x7 x9 (wrap64 (x10 + 1))) else (none))) else (none)) else (none)) else (none))) else (spec_l6doms.l2 k x3 x4 x5 x6 x7 x9 (wrap64 (x10 + 1)))) else (none)) else (none)) else (spec_l6doms.l1 k x3 x4 x5 x6 x7 (wrap64 (x9 + 1)))
def spec_l6doms.l3 : Nat → Int → List Int → List Int → List Bool → List (List Bool) → Int → Option (List Int)
 | 0, _, _, _, _, _, _ => none
 | k + 1, x3, x4, x5, x6, x7, x11 => if x11 < x3 then (spec_l6doms.l4 k x3 x4 x5 x6 x7 x11 0) else (some x4)
def spec_l6doms.l4 : Nat → Int → List Int → List Int → List Bool → List (List Bool) → Int → Int → Option (List Int)
 | 0, _, _, _, _, _, _, _ => none
 | k + 1, x3, x4, x5, x6, x7, x11, x12 => if x12 < x3 then (if 0 ≤ x11 then (if x11 < (x6.length : Int) then (if rdOf false x6 x11 = true then (if x12 = x11 then (spec_l6doms.l4 k x3 x4 x5 x6 x7 x11 (wrap64 (x12 + 1))) else (if 0 ≤ x12 then (if x12 < (x7.length : Int) then (if x11 < ((rd_L13 x7 x12).length : Int) then (if (rdOf false (rd_L13 x7 x12) x11 = true) then (spec_l6doms.l4 k x3 x4 x5 x6 x7 x11 (wrap64 (x12 + 1))) else (if x11 < (x4.length : Int) then (if (rd x4 x11) < 0 then (spec_l6doms.l4 k x3 (x4.set (x11 : Int).toNat x12) x5 x6 x7 x11 (wrap64 (x12 + 1))) else (if x12 < (x5.length : Int) then (if 0 ≤ (rd x4 x11) then (if (rd x4 x11) < (x5.length : Int) then (if (rd x5 x12) > (rd x5 (rd x4 x11)) then (spec_l6doms.l4 k x3 (x4.set (x11 : Int).toNat x12) x5 x6 x7 x11 (wrap64 (x12 + 1))) else (spec_l6doms.l4 k x3 x4 x5 x6 x7 x11 (wrap64 (x12 + 1)))) else (none)) else (none)) else (none))) else (none))) else (none)) else (none)) else (none))) else (spec_l6doms.l4 k x3 x4 x5 x6 x7 x11 (wrap64 (x12 + 1)))) else (none)) else (none)) else (spec_l6doms.l3 k x3 x4 x5 x6 x7 (wrap64 (x11 + 1)))
end
def spec_l6doms.f (k : Nat) (l0_0 : List (S33)) (a0_1 : Int) (a0_2 : Int) (l0_3 : List (S77)) (l0_4 : List (S70)) : Option (List Int) := if 0 ≤ (l0_4.length : Int) then (if ((l0_4.length : Int) : Int).toNat ≤ 35184372088832 then ((spec_l6reach.f k l0_0 a0_1 a0_2 l0_3 l0_4 (-1)).bind fun t147 => (spec_l6doms.l0 k (l0_4.length : Int) (List.replicate ((l0_4.length : Int) : Int).toNat 0) (List.replicate ((l0_4.length : Int) : Int).toNat 0) t147 ([] : List (List Bool)) 0 l0_0 a0_1 a0_2 l0_3 l0_4)) else (none)) else (none)
set_option maxHeartbeats 8000000 in
set_option maxRecDepth 100000 in
theorem spec_l6doms.calls (k : Nat) (A0_0 : Option Addr) (c0_0 : Nat) (l0_0 : List (S33)) (a0_1 : Int) (a0_2 : Int) (A0_3 : Option Addr) (c0_3 : Nat) (l0_3 : List (S77)) (A0_4 : Option Addr) (c0_4 : Nat) (l0_4 : List (S70)) (r : List Int) (w : World) (hr0_0 : Kd.C k33 w A0_0 l0_0.length l0_0) (hc0_0 : l0_0.length ≤ c0_0) (hr0_3 : Kd.C k77 w A0_3 l0_3.length l0_3) (hc0_3 : l0_3.length ≤ c0_3) (hr0_4 : Kd.C k70 w A0_4 l0_4.length l0_4) (hc0_4 : l0_4.length ≤ c0_4) (h : spec_l6doms.f k l0_0 a0_1 a0_2 l0_3 l0_4 = some r) :
  Calls Try.prog 17 #[.agg #[.slice A0_0 l0_0.length c0_0, .int .i64 a0_1, .int .i64 a0_2, .slice A0_3 l0_3.length c0_3, .slice A0_4 l0_4.length c0_4]] w fun e w' => ∃ v0_ : Value, e = .returned (v0_) ∧ Kd.R (Kd.int .i64) 3 w' w.heap.size (fun _ => True) v0_ r ∧ Below w.heap.size w w' := by
 have hu37 := Try.underlying37
 have HR0_0 := Aside0.mk hr0_0
 have HC0_0 := Aside0.mk hc0_0
 clear hr0_0 hc0_0
 have HR0_3 := Aside0.mk hr0_3
 have HC0_3 := Aside0.mk hc0_3
 clear hr0_3 hc0_3
 have HR0_4 := Aside0.mk hr0_4
 have HC0_4 := Aside0.mk hc0_4
 clear hr0_4 hc0_4
 have HB := Aside0.mk (Below.refl w.heap.size w)
 have H : (if 0 ≤ (l0_4.length : Int) then (if ((l0_4.length : Int) : Int).toNat ≤ 35184372088832 then ((spec_l6reach.f k l0_0 a0_1 a0_2 l0_3 l0_4 (-1)).bind fun t147 => (spec_l6doms.l0 k (l0_4.length : Int) (List.replicate ((l0_4.length : Int) : Int).toNat 0) (List.replicate ((l0_4.length : Int) : Int).toNat 0) t147 ([] : List (List Bool)) 0 l0_0 a0_1 a0_2 l0_3 l0_4)) else (none)) else (none)) = some r := h
 clear h
 by_cases c2 : 0 ≤ (l0_4.length : Int)
 ·rw [if_pos c2] at H
  have c2b0 := eq_true c2
  have c2b1 : decide (0 ≤ (l0_4.length : Int)) = true := decide_eq_true c2
  clear c2
  by_cases c3 : ((l0_4.length : Int) : Int).toNat ≤ 35184372088832
  ·rw [if_pos c3] at H
   have c3b0 := eq_true c3
   have c3b1 : decide (((l0_4.length : Int) : Int).toNat ≤ 35184372088832) = true := decide_eq_true c3
   clear c3
   obtain ⟨y141, hy141⟩ : ∃ y_ : List Int, y_ = (List.replicate ((l0_4.length : Int) : Int).toNat 0) := ⟨_, rfl⟩
   replace H : ((spec_l6reach.f k l0_0 a0_1 a0_2 l0_3 l0_4 (-1)).bind fun t147 => (spec_l6doms.l0 k (l0_4.length : Int) y141 (List.replicate ((l0_4.length : Int) : Int).toNat 0) t147 ([] : List (List Bool)) 0 l0_0 a0_1 a0_2 l0_3 l0_4)) = some r := by first | (rw [hy141]; with_reducible exact H) | (have H2_ := (Option.bind_some _ _).symm.trans H; rw [hy141]; with_reducible exact H2_) | (have H2_ := (Option.bind_some _ _).symm.trans H; with_reducible exact H2_) | with_reducible exact H | (rw [hy141]; exact H) | exact H
   have Ny141 := Aside0.mk hy141
   clear hy141
   obtain ⟨y144, hy144⟩ : ∃ y_ : List Int, y_ = (List.replicate ((l0_4.length : Int) : Int).toNat 0) := ⟨_, rfl⟩
   replace H : ((spec_l6reach.f k l0_0 a0_1 a0_2 l0_3 l0_4 (-1)).bind fun t147 => (spec_l6doms.l0 k (l0_4.length : Int) y141 y144 t147 ([] : List (List Bool)) 0 l0_0 a0_1 a0_2 l0_3 l0_4)) = some r := by first | (rw [hy144]; with_reducible exact H) | (have H2_ := (Option.bind_some _ _).symm.trans H; rw [hy144]; with_reducible exact H2_) | (have H2_ := (Option.bind_some _ _).symm.trans H; with_reducible exact H2_) | with_reducible exact H | (rw [hy144]; exact H) | exact H
   have Ny144 := Aside0.mk hy144
   clear hy144
   replace H := Option.bind_eq_some_iff.mp H
   obtain ⟨t147, A40, H⟩ := H
   replace H : (spec_l6doms.l0 k (l0_4.length : Int) y141 y144 t147 ([] : List (List Bool)) 0 l0_0 a0_1 a0_2 l0_3 l0_4) = some r := H
   have A4 := Aside0.mk A40
   clear A40
   have H' := Aside0.mk H
   clear H
   go_enter Try.func17, Try.ntmps17
   go_wp2_with (first | ((with_reducible refine gate_dst (N := 1) rfl ?_); refine box_event ?hg (N := 1) ?hd (cs := #[.slice A0_0 l0_0.length c0_0, .int .i64 a0_1, .int .i64 a0_2, .slice A0_3 l0_3.length c0_3, .slice A0_4 l0_4.length c0_4]) (t := 37) ?hr ?_; (case hd => rfl); (case hg => rfl); (case hr => first | (go_simp; done) | (go_simp; rfl)); intro gb140 hg w5 hbox hb; have n0_ := Aside0.mk (below_step (by repeat (first | (with_reducible first | exact HB.out | apply below_alloc | apply pw_below_drewN | apply below_drew1) | exact HB.out)) hb); have n1_ := Aside0.mk (hbox); have n2_ := Aside0.mk ((by rw [hg]; exact (below_size (by repeat (first | (with_reducible first | exact HB.out | apply below_alloc | apply pw_below_drewN | apply below_drew1) | exact HB.out))) : w.heap.size ≤ gb140)); have n3_ := Aside0.mk ((by rw [hg]; exact (below_size (by repeat (first | (with_reducible first | exact HB.out | apply below_alloc | apply pw_below_drewN | apply below_drew1) | exact HB.out))) : w.heap.size ≤ gb140)); clear HB; have HB := n0_; have BK140 := n1_; have GW140 := n2_; have GE140 := n3_; clear n0_ n1_ n2_ n3_; clear hb hbox hg; have hcz6_0 : w5.cell? ⟨gb140, 0, none⟩ = some (.slice A0_0 l0_0.length c0_0) := (blk_cell BK140.out 0).trans rfl; have hcz6_1 : w5.cell? ⟨gb140, 1, none⟩ = some (.int .i64 a0_1) := (blk_cell BK140.out 1).trans rfl; have hcz6_2 : w5.cell? ⟨gb140, 2, none⟩ = some (.int .i64 a0_2) := (blk_cell BK140.out 2).trans rfl; have hcz6_3 : w5.cell? ⟨gb140, 3, none⟩ = some (.slice A0_3 l0_3.length c0_3) := (blk_cell BK140.out 3).trans rfl; have hcz6_4 : w5.cell? ⟨gb140, 4, none⟩ = some (.slice A0_4 l0_4.length c0_4) := (blk_cell BK140.out 4).trans rfl; have hfz6_0 := blk_frozen BK140.out 0; have hfz6_1 := blk_frozen BK140.out 1; have hfz6_2 := blk_frozen BK140.out 2; have hfz6_3 := blk_frozen BK140.out 3; have hfz6_4 := blk_frozen BK140.out 4) | ((with_reducible refine gate_dst (N := 17) rfl ?_); refine Kd.R_make (Kd.int .i64) _ 3 rfl (N := 17) rfl 30 _ _ rfl (l0_4.length : Int) rfl rfl Try.underlying30 (.int .i64 0) 8 info3 rfl (by decide) (by omega) 0 (ok := fun _ => True) (okp := fun _ => True) rfl (fun _ hk => hk) trivial (of_decide_eq_true (by first | (with_reducible assumption) | assumption)) (Nat.le_trans (Nat.mul_le_mul_right _ (of_decide_eq_true (by first | (with_reducible assumption) | assumption) : (l0_4.length : Int).toNat ≤ 35184372088832)) (by omega)) (Below.refl _ _) (Nat.le_refl _) ?_; intro v142 w7 ho8 hb hg_ hnew_; clear hg_ hnew_; (first | rw [← Ny141.out] at ho8 | (simp only [Int.reduceToNat] at ho8; rw [← Ny141.out] at ho8)); have n0_ := Aside0.mk (Kd.R_lower ho8 (below_size (by repeat (first | (with_reducible first | exact HB.out | apply below_alloc | apply pw_below_drewN | apply below_drew1 | refine below_set ?_ GE140.out) | exact HB.out)))); have n1_ := Aside0.mk (blk_below (g := gb140) (o := .cells #[.slice A0_0 l0_0.length c0_0, .int .i64 a0_1, .int .i64 a0_2, .slice A0_3 l0_3.length c0_3, .slice A0_4 l0_4.length c0_4] 37 (0, 0)) (by (with_reducible repeat (first | refine blk_drewN ?_ _ | refine blk_drew ?_ | refine blk_alloc ?_ _)); exact BK140.out) hb); have n2_ := Aside0.mk (below_step (by repeat (first | (with_reducible first | exact HB.out | apply below_alloc | apply pw_below_drewN | apply below_drew1 | refine below_set ?_ GE140.out) | exact HB.out)) hb); clear BK140; clear HB; have HO143 := n0_; have BK140 := n1_; have HB := n2_; clear n0_ n1_ n2_; clear hb ho8) | ((with_reducible refine gate_dst (N := 19) rfl ?_); refine Kd.R_make (Kd.int .i64) _ 3 rfl (N := 19) rfl 30 _ _ rfl (l0_4.length : Int) rfl rfl Try.underlying30 (.int .i64 0) 8 info3 rfl (by decide) (by omega) 0 (ok := fun _ => True) (okp := fun _ => True) rfl (fun _ hk => hk) trivial (of_decide_eq_true (by first | (with_reducible assumption) | assumption)) (Nat.le_trans (Nat.mul_le_mul_right _ (of_decide_eq_true (by first | (with_reducible assumption) | assumption) : (l0_4.length : Int).toNat ≤ 35184372088832)) (by omega)) (Below.refl _ _) (Nat.le_refl _) ?_; intro v145 w9 ho10 hb hg_ hnew_; clear hg_ hnew_; (first | rw [← Ny144.out] at ho10 | (simp only [Int.reduceToNat] at ho10; rw [← Ny144.out] at ho10)); have n0_ := Aside0.mk (Kd.R_elder' (by (with_reducible repeat (first | apply Kd.R_alloc | apply Kd.R_drewN | apply Kd.R_drew)); exact HO143.out) (Kd.R_base ho10) hb); have n1_ := Aside0.mk (Kd.R_lower (Kd.R_new' ho10 (Kd.R_lt (by (with_reducible repeat (first | apply Kd.R_alloc | apply Kd.R_drewN | apply Kd.R_drew)); exact HO143.out))) (below_size (by repeat (first | (with_reducible first | exact HB.out | apply below_alloc | apply pw_below_drewN | apply below_drew1 | refine below_set ?_ GE140.out) | exact HB.out)))); have n2_ := Aside0.mk (blk_below (g := gb140) (o := .cells #[.slice A0_0 l0_0.length c0_0, .int .i64 a0_1, .int .i64 a0_2, .slice A0_3 l0_3.length c0_3, .slice A0_4 l0_4.length c0_4] 37 (0, 0)) (by (with_reducible repeat (first | refine blk_drewN ?_ _ | refine blk_drew ?_ | refine blk_alloc ?_ _)); exact BK140.out) hb); have n3_ := Aside0.mk (below_step (by repeat (first | (with_reducible first | exact HB.out | apply below_alloc | apply pw_below_drewN | apply below_drew1 | refine below_set ?_ GE140.out) | exact HB.out)) hb); clear HO143; clear BK140; clear HB; have HO143 := n0_; have HO146 := n1_; have BK140 := n2_; have HB := n3_; clear n0_ n1_ n2_ n3_; clear hb ho10; have hcz11_0 : w9.cell? ⟨gb140, 0, none⟩ = some (.slice A0_0 l0_0.length c0_0) := (blk_cell BK140.out 0).trans rfl; have hcz11_1 : w9.cell? ⟨gb140, 1, none⟩ = some (.int .i64 a0_1) := (blk_cell BK140.out 1).trans rfl; have hcz11_2 : w9.cell? ⟨gb140, 2, none⟩ = some (.int .i64 a0_2) := (blk_cell BK140.out 2).trans rfl; have hcz11_3 : w9.cell? ⟨gb140, 3, none⟩ = some (.slice A0_3 l0_3.length c0_3) := (blk_cell BK140.out 3).trans rfl; have hcz11_4 : w9.cell? ⟨gb140, 4, none⟩ = some (.slice A0_4 l0_4.length c0_4) := (blk_cell BK140.out 4).trans rfl; have hfz11_0 := blk_frozen BK140.out 0; have hfz11_1 := blk_frozen BK140.out 1; have hfz11_2 := blk_frozen BK140.out 2; have hfz11_3 := blk_frozen BK140.out 3; have hfz11_4 := blk_frozen BK140.out 4) | (go_at_call 33; (with_reducible refine (spec_l6reach.calls k _ _ l0_0 a0_1 a0_2 _ _ l0_3 _ _ l0_4 (-1) t147 _ ?side1 ?side2 ?side3 ?side4 ?side5 ?side6 A4.out).mono ?_); (case side1 => repeat (first | exact (Kd.C_below HR0_0.out HB.out) | (with_reducible refine Kd.C_alloc ?_ _) | (with_reducible refine Kd.C_drewN ?_ _) | (with_reducible refine Kd.C_drew ?_))); (case side2 => exact HC0_0.out); (case side3 => repeat (first | exact (Kd.C_below HR0_3.out HB.out) | (with_reducible refine Kd.C_alloc ?_ _) | (with_reducible refine Kd.C_drewN ?_ _) | (with_reducible refine Kd.C_drew ?_))); (case side4 => exact HC0_3.out); (case side5 => repeat (first | exact (Kd.C_below HR0_4.out HB.out) | (with_reducible refine Kd.C_alloc ?_ _) | (with_reducible refine Kd.C_drewN ?_ _) | (with_reducible refine Kd.C_drew ?_))); (case side6 => exact HC0_4.out); rintro e w12 ⟨v148, rfl, ho0, hb⟩; have n0_ := Aside0.mk (Kd.R_below (by (with_reducible repeat (first | apply Kd.R_alloc | apply Kd.R_drewN | apply Kd.R_drew)); exact HO143.out) hb); have n1_ := Aside0.mk (Kd.R_below (by (with_reducible repeat (first | apply Kd.R_alloc | apply Kd.R_drewN | apply Kd.R_drew)); exact HO146.out) hb); have n2_ := Aside0.mk (Kd.R_lower ho0 (below_size (by repeat (first | (with_reducible first | exact HB.out | apply below_alloc | apply pw_below_drewN | apply below_drew1 | refine below_set ?_ GE140.out) | exact HB.out)))); have n3_ := Aside0.mk (blk_below (g := gb140) (o := .cells #[.slice A0_0 l0_0.length c0_0, .int .i64 a0_1, .int .i64 a0_2, .slice A0_3 l0_3.length c0_3, .slice A0_4 l0_4.length c0_4] 37 (0, 0)) (by (with_reducible repeat (first | refine blk_drewN ?_ _ | refine blk_drew ?_ | refine blk_alloc ?_ _)); exact BK140.out) hb); have n4_ := Aside0.mk (below_step (by repeat (first | (with_reducible first | exact HB.out | apply below_alloc | apply pw_below_drewN | apply below_drew1 | refine below_set ?_ GE140.out) | exact HB.out)) hb); clear HO143; clear HO146; clear BK140; clear HB; have HO143 := n0_; have HO146 := n1_; have HO149 := n2_; have BK140 := n3_; have HB := n4_; clear n0_ n1_ n2_ n3_ n4_; (try clear hb); (try clear hb2); (try clear hk); (try clear hi); (try clear ho0)))
   repeat (go_quiet (fail); try go_wp2)
   go_loopg [7, 8] k (fun kq v7 v8 w' => ∃ (x4_1 : List Int) (x7_1 : List (List Bool)) (x8_1 : Int), v8 = .int .i64 x8_1 ∧ Aside0 (spec_l6doms.l0 kq (l0_4.length : Int) x4_1 y144 t147 x7_1 x8_1 l0_0 a0_1 a0_2 l0_3 l0_4 = some r) ∧ Aside0 (kq ≤ k) ∧ Aside0 (Kd.R (Kd.int .i64) 3 w' w.heap.size (fun k_ => some k_ ≠ (v145 : Value).ownBlock) v142 x4_1) ∧ Aside0 (Kd.R (Kd.int .i64) 3 w' w.heap.size (fun k_ => some k_ ≠ (v142 : Value).ownBlock) v145 y144) ∧ Aside0 (Kd.R Kd.bool 4 w' w.heap.size (fun _ => True) v148 t147) ∧ Aside0 (Kd.S (Kd.slice 4 Kd.bool) 73 w' w.heap.size (fun k_ => some k_ ≠ (v148 : Value).ownBlock) v7 x7_1) ∧ Aside0 (w'.heap[gb140]? = some (.cells #[(.slice A0_0 l0_0.length c0_0), .int .i64 a0_1, .int .i64 a0_2, (.slice A0_3 l0_3.length c0_3), (.slice A0_4 l0_4.length c0_4)] 37 (0, 0))) ∧ Aside0 (Below w.heap.size w w'))
   case atStart => exact ⟨(y141), (([] : List (List Bool))), (0), (by first | rfl | (simp; done) | (simp [*]; done)), H', ⟨Nat.le_refl _⟩, ⟨by (with_reducible repeat (first | apply Kd.R_alloc | apply Kd.R_drewN | apply Kd.R_drew)); exact Kd.R_mono HO143.out (fun _ hk => hk.2)⟩, ⟨by (with_reducible repeat (first | apply Kd.R_alloc | apply Kd.R_drewN | apply Kd.R_drew)); exact Kd.R_mono HO146.out (fun _ hk => hk.2)⟩, ⟨by (with_reducible repeat (first | apply Kd.R_alloc | apply Kd.R_drewN | apply Kd.R_drew)); exact HO149.out⟩, ⟨by first | exact Kd.S_nil _ _ _ _ _ | exact Kd.N_nil _ _ _ _ _ | exact Kd.V_nil _ _ _ _ _ | exact Kd.Q_nil _ _ _ _ _ | exact Kd.R_nil _ _ _ _ _⟩, ⟨by (with_reducible repeat (first | refine blk_drewN ?_ _ | refine blk_drew ?_ | refine blk_alloc ?_ _)); exact BK140.out⟩, ⟨by repeat (first | (with_reducible first | exact HB.out | apply below_alloc | apply pw_below_drewN | apply below_drew1 | refine below_set ?_ GE140.out) | exact HB.out)⟩⟩
   case round =>
    clear H'
    try clear c1
    try clear c2
    try clear c2b0
    try clear c2b1
    try clear p2
    try clear c3
    try clear c3b0
    try clear c3b1
    try clear hcz11_0
    try clear hcz11_1
    try clear hcz11_2
    try clear hcz11_3
    try clear hcz11_4
    try clear hcz6_0
    try clear hcz6_1
    try clear hcz6_2
    try clear hcz6_3
    try clear hcz6_4
    try clear hfz11_0
    try clear hfz11_1
    try clear hfz11_2
    try clear hfz11_3
    try clear hfz11_4
    try clear hfz6_0
    try clear hfz6_1
    try clear hfz6_2
    try clear hfz6_3
    try clear hfz6_4
    obtain ⟨x4_1, x7_1, x8_1, rfl, HA, HK1, HO_4, HO_5, HO_6, HO_7, BK140, HB⟩ := hrel
    cases gk with
    | zero => exact absurd HA.out (by simp [spec_l6doms.l0])
    | succ k1 =>
     have H := HA.out
     clear HA
     simp only [spec_l6doms.l0] at H
     by_cases c13 : x8_1 < (l0_4.length : Int)
     ·rw [if_pos c13] at H
      have c13b0 : decide (x8_1 < (l0_4.length : Int)) = true := decide_eq_true c13
      clear c13
      by_cases c14 : 0 ≤ x8_1
      ·rw [if_pos c14] at H
       have c14b0 : decide (0 ≤ x8_1) = true := decide_eq_true c14
       clear c14
       by_cases c15 : x8_1 < (x4_1.length : Int)
       ·rw [if_pos c15] at H
        have c15b0 : decide (x8_1 < (x4_1.length : Int)) = true := decide_eq_true c15
        clear c15
        obtain ⟨y150, hy150⟩ : ∃ y_ : List Int, y_ = (x4_1.set (x8_1 : Int).toNat (-1)) := ⟨_, rfl⟩
        replace H : ((spec_l6reach.f k1 l0_0 a0_1 a0_2 l0_3 l0_4 x8_1).bind fun t151 => (if x7_1.length < 5864062014805 then (spec_l6doms.l0 k1 (l0_4.length : Int) y150 y144 t147 (x7_1 ++ [t151]) (wrap64 (x8_1 + 1)) l0_0 a0_1 a0_2 l0_3 l0_4) else (none))) = some r := by first | (rw [hy150]; with_reducible exact H) | (have H2_ := (Option.bind_some _ _).symm.trans H; rw [hy150]; with_reducible exact H2_) | (have H2_ := (Option.bind_some _ _).symm.trans H; with_reducible exact H2_) | with_reducible exact H | (rw [hy150]; exact H) | exact H
        have Ny150 := Aside0.mk hy150
        clear hy150
        replace H := Option.bind_eq_some_iff.mp H
        obtain ⟨t151, A170, H⟩ := H
        replace H : (if x7_1.length < 5864062014805 then (spec_l6doms.l0 k1 (l0_4.length : Int) y150 y144 t147 (x7_1 ++ [t151]) (wrap64 (x8_1 + 1)) l0_0 a0_1 a0_2 l0_3 l0_4) else (none)) = some r := H
        have A17 := Aside0.mk A170
        clear A170
        by_cases c18 : x7_1.length < 5864062014805
        ·rw [if_pos c18] at H
         have LMc18 := Aside0.mk c18
         clear c18
         obtain ⟨y154, hy154⟩ : ∃ y_ : List (List Bool), y_ = (x7_1 ++ [t151]) := ⟨_, rfl⟩
         replace H : (spec_l6doms.l0 k1 (l0_4.length : Int) y150 y144 t147 y154 (wrap64 (x8_1 + 1)) l0_0 a0_1 a0_2 l0_3 l0_4) = some r := by first | (rw [hy154]; with_reducible exact H) | (have H2_ := (Option.bind_some _ _).symm.trans H; rw [hy154]; with_reducible exact H2_) | (have H2_ := (Option.bind_some _ _).symm.trans H; with_reducible exact H2_) | with_reducible exact H | (rw [hy154]; exact H) | exact H
         have Ny154 := Aside0.mk hy154
         clear hy154
         have H' := Aside0.mk H
         clear H
         have p16 : 0 ≤ (x8_1 : Int) := of_decide_eq_true (by first | (with_reducible assumption) | assumption)
         have q16 : (x8_1 : Int) < ((x4_1.length : Int) : Int) := of_decide_eq_true (by first | (with_reducible assumption) | assumption)
         obtain ⟨go16, co16, eo16, gb16, gl16, cl16, HG16⟩ := Kd.R_form HO_4.out (by omega)
         (first | cases eo16 | (injection eo16 with ea_ en_ ec_; (first | subst ea_ | (injection ea_ with ea_; subst ea_)); subst ec_; clear en_))
         have GB16 := Aside0.mk gb16
         have GG16 := Aside0.mk HG16
         clear gb16 gl16 HG16
         obtain ⟨hx16_0, hf16_0⟩ := Kd.R_celln 0 HO_4.out (x8_1 : Int) p16 q16
         replace p16 := eq_true p16
         replace q16 := eq_true q16
         have HP19 := Kd.R_putg HO_4.out (x8_1 : Int) (-1)
         go_wp2_with (first | ((with_reducible refine gate_store (t := 3) (p := 29) rfl ?_); (try (rw [drewN_self wr]; generalize hq_ : World.drewN wr _ = wr; have n0_ := Aside0.mk (Kd.R_at hq_ HO_4.out); have n1_ := Aside0.mk (Kd.R_at hq_ HO_5.out); have n2_ := Aside0.mk (Kd.R_at hq_ HO_6.out); have n3_ := Aside0.mk (Kd.S_at hq_ HO_7.out); have n4_ := Aside0.mk (blk_at hq_ BK140.out); have n5_ := Aside0.mk (below_at hq_ HB.out); clear hq_ HO_4 HO_5 HO_6 HO_7 BK140 HB; have HO_4 := n0_; have HO_5 := n1_; have HO_6 := n2_; have HO_7 := n3_; have BK140 := n4_; have HB := n5_; clear n0_ n1_ n2_ n3_ n4_ n5_; (try (have HP19 := Kd.R_putg HO_4.out (x8_1 : Int) (-1))))); refine store_event (t := 3) (p := 29) (v := ?vo_w20) (w1 := (wr.setCell ⟨go16, (x8_1 : Int).toNat, none⟩ (.int .i64 (-1)))) ?hg ?ho ?hn ?hr ?_; (case ho => rfl); (case hg => rfl); (case hn => rfl); (case hr => first | (go_simp; done) | (go_simp; rfl)); intro w20 hw; have hg : wr.grownBy w20 (some go16) := (by rw [hw]; exact HP19.2); have hp_ : Kd.R (Kd.int .i64) 3 w20 w.heap.size (fun k_ => some k_ ≠ (v145 : Value).ownBlock) (.slice (some ⟨go16, 0, none⟩) x4_1.length co16) y150 := (by rw [hw, Ny150.out]; exact HP19.1); clear HP19; have n0_ := Aside0.mk (hp_); have n1_ := Aside0.mk (Kd.R_after (v := (.slice (some ⟨go16, 0, none⟩) x4_1.length co16)) (v1 := (.slice (some ⟨go16, 0, none⟩) x4_1.length co16)) (ok := (fun _ => True)) (by (with_reducible repeat (first | apply Kd.R_alloc | apply Kd.R_drewN | apply Kd.R_drew)); exact Kd.R_mono HO_5.out (fun _ hk => ⟨trivial, hk⟩)) hg (.inl rfl)); have n2_ := Aside0.mk (Kd.R_over' (v := (.slice (some ⟨go16, 0, none⟩) x4_1.length co16)) (by (with_reducible repeat (first | apply Kd.R_alloc | apply Kd.R_drewN | apply Kd.R_drew)); exact HO_6.out) (Kd.R_typed HO_4.out) (by decide) hg); have n3_ := Aside0.mk (Kd.S_over' (v := (.slice (some ⟨go16, 0, none⟩) x4_1.length co16)) (by (with_reducible repeat (first | apply Kd.S_alloc | apply Kd.S_drewN | apply Kd.S_drew)); exact HO_7.out) (Kd.R_typed HO_4.out) (by decide) hg); have n4_ := Aside0.mk (blk_grown (g := gb140) (o := .cells #[.slice A0_0 l0_0.length c0_0, .int .i64 a0_1, .int .i64 a0_2, .slice A0_3 l0_3.length c0_3, .slice A0_4 l0_4.length c0_4] 37 (0, 0)) (by (with_reducible repeat (first | refine blk_drewN ?_ _ | refine blk_drew ?_ | refine blk_alloc ?_ _)); exact BK140.out) hg (Kd.R_ne HO_4.out BK140.out (by decide))); have n5_ := Aside0.mk ((by rw [hw]; exact below_set (HB.out) GB16.out : Below w.heap.size w w20)); clear HO_4; clear HO_5; clear HO_6; clear HO_7; clear BK140; clear HB; have HO_4 := n0_; have HO_5 := n1_; have HO_6 := n2_; have HO_7 := n3_; have BK140 := n4_; have HB := n5_; clear n0_ n1_ n2_ n3_ n4_ n5_; clear hg hw hp_; have hcz21_0 : w20.cell? ⟨gb140, 0, none⟩ = some (.slice A0_0 l0_0.length c0_0) := (blk_cell BK140.out 0).trans rfl; have hcz21_1 : w20.cell? ⟨gb140, 1, none⟩ = some (.int .i64 a0_1) := (blk_cell BK140.out 1).trans rfl; have hcz21_2 : w20.cell? ⟨gb140, 2, none⟩ = some (.int .i64 a0_2) := (blk_cell BK140.out 2).trans rfl; have hcz21_3 : w20.cell? ⟨gb140, 3, none⟩ = some (.slice A0_3 l0_3.length c0_3) := (blk_cell BK140.out 3).trans rfl; have hcz21_4 : w20.cell? ⟨gb140, 4, none⟩ = some (.slice A0_4 l0_4.length c0_4) := (blk_cell BK140.out 4).trans rfl; have hfz21_0 := blk_frozen BK140.out 0; have hfz21_1 := blk_frozen BK140.out 1; have hfz21_2 := blk_frozen BK140.out 2; have hfz21_3 := blk_frozen BK140.out 3; have hfz21_4 := blk_frozen BK140.out 4) | (go_at_call 33; (with_reducible refine (spec_l6reach.calls k1 _ _ l0_0 a0_1 a0_2 _ _ l0_3 _ _ l0_4 x8_1 t151 _ ?side1 ?side2 ?side3 ?side4 ?side5 ?side6 A17.out).mono ?_); (case side1 => repeat (first | exact (Kd.C_below HR0_0.out HB.out) | (with_reducible refine Kd.C_alloc ?_ _) | (with_reducible refine Kd.C_drewN ?_ _) | (with_reducible refine Kd.C_drew ?_))); (case side2 => exact HC0_0.out); (case side3 => repeat (first | exact (Kd.C_below HR0_3.out HB.out) | (with_reducible refine Kd.C_alloc ?_ _) | (with_reducible refine Kd.C_drewN ?_ _) | (with_reducible refine Kd.C_drew ?_))); (case side4 => exact HC0_3.out); (case side5 => repeat (first | exact (Kd.C_below HR0_4.out HB.out) | (with_reducible refine Kd.C_alloc ?_ _) | (with_reducible refine Kd.C_drewN ?_ _) | (with_reducible refine Kd.C_drew ?_))); (case side6 => exact HC0_4.out); rintro e w22 ⟨v152, rfl, ho0, hb⟩; have n0_ := Aside0.mk (Kd.R_below (by (with_reducible repeat (first | apply Kd.R_alloc | apply Kd.R_drewN | apply Kd.R_drew)); exact HO_4.out) hb); have n1_ := Aside0.mk (Kd.R_below (by (with_reducible repeat (first | apply Kd.R_alloc | apply Kd.R_drewN | apply Kd.R_drew)); exact HO_5.out) hb); have n2_ := Aside0.mk (Kd.R_elder' (by (with_reducible repeat (first | apply Kd.R_alloc | apply Kd.R_drewN | apply Kd.R_drew)); exact HO_6.out) (Kd.R_base ho0) hb); have n3_ := Aside0.mk (Kd.S_elder' (by (with_reducible repeat (first | apply Kd.S_alloc | apply Kd.S_drewN | apply Kd.S_drew)); exact HO_7.out) (Kd.R_base ho0) hb); have n4_ := Aside0.mk (Kd.R_lower (Kd.R_new' ho0 (Kd.R_lt (by (with_reducible repeat (first | apply Kd.R_alloc | apply Kd.R_drewN | apply Kd.R_drew)); exact HO_6.out))) (below_size (by repeat (first | (with_reducible first | exact HB.out | apply below_alloc | apply pw_below_drewN | apply below_drew1 | refine below_set ?_ GE140.out) | exact HB.out)))); have n5_ := Aside0.mk (blk_below (g := gb140) (o := .cells #[.slice A0_0 l0_0.length c0_0, .int .i64 a0_1, .int .i64 a0_2, .slice A0_3 l0_3.length c0_3, .slice A0_4 l0_4.length c0_4] 37 (0, 0)) (by (with_reducible repeat (first | refine blk_drewN ?_ _ | refine blk_drew ?_ | refine blk_alloc ?_ _)); exact BK140.out) hb); have n6_ := Aside0.mk (below_step (by repeat (first | (with_reducible first | exact HB.out | apply below_alloc | apply pw_below_drewN | apply below_drew1 | refine below_set ?_ GE140.out) | exact HB.out)) hb); clear HO_4; clear HO_5; clear HO_6; clear HO_7; clear BK140; clear HB; have HO_4 := n0_; have HO_5 := n1_; have HO_6 := n2_; have HO_7 := n3_; have HO153 := n4_; have BK140 := n5_; have HB := n6_; clear n0_ n1_ n2_ n3_ n4_ n5_ n6_; (try clear hb); (try clear hb2); (try clear hk); (try clear hi); (try clear ho0); obtain ⟨Ao24, co24, eo24⟩ := Kd.R_slice HO153.out; subst eo24) | ((with_reducible refine gate_builtin (b := .append) (xs := #[.tmp 30, .tmp 34]) rfl ?_); at_builtin; refine Kd.S_append (Kd.slice 4 Kd.bool) (w0 := w) w.heap.size rfl (.tmp 30) (.tmp 34) 75 73 (.slice none 0 0) 24 rfl Try.underlying75 info73 rfl (by decide) (by omega) u7 x7_1 t151 [.slice Ao24 t151.length co24] (fun k_ => some k_ ≠ (v148 : Value).ownBlock) (fun k_ => some k_ = (.slice Ao24 t151.length co24 : Value).ownBlock) rfl rfl ?aP (fun k_ hk_ => ((Kd.R_mono (ok' := fun k_ => ((fun k_ => some k_ ≠ (v148 : Value).ownBlock)) k_ ∧ some k_ ≠ (u7 : Value).ownBlock) (Kd.R_apart' (HO153.out) (Kd.S_typed HO_7.out) (by decide)) (fun k_ hk => ⟨hk.1.2, hk.2⟩))).1 k_ hk_.symm) ?aF ?aO ?aB ?aS ?aL ?_; (case aP => exact Kd.M_row (Kd.R_mono (Kd.R_tight rfl (Kd.R_mono (ok' := fun k_ => ((fun k_ => some k_ ≠ (v148 : Value).ownBlock)) k_ ∧ some k_ ≠ (u7 : Value).ownBlock) (Kd.R_apart' (HO153.out) (Kd.S_typed HO_7.out) (by decide)) (fun k_ hk => ⟨hk.1.2, hk.2⟩))) (fun _ h_ => h_))); (case aB => exact (by repeat (first | (with_reducible first | exact HB.out | apply below_alloc | apply pw_below_drewN | apply below_drew1 | refine below_set ?_ GE140.out) | exact HB.out))); (case aF => exact (fun k_ hk => Kd.fresh' (Kd.R_lt (by (with_reducible repeat (first | apply Kd.R_alloc | apply Kd.R_drewN | apply Kd.R_drew)); exact HO_6.out)) k_ hk)); (case aO => exact (by (with_reducible repeat (first | apply Kd.S_alloc | apply Kd.S_drewN | apply Kd.S_drew)); exact Kd.S_mono HO_7.out (fun k_ hk => ⟨hk.1, fun e_ => hk.2 e_⟩))); (case aS => exact (below_size (by repeat (first | (with_reducible first | exact HB.out | apply below_alloc | apply pw_below_drewN | apply below_drew1 | refine below_set ?_ GE140.out) | exact HB.out)))); (case aL => have := LMc18.out; omega); intro v155 w23 ho hb hg hat; rw [← Ny154.out] at ho; have n0_ := Aside0.mk (Kd.R_over' (by (with_reducible repeat (first | apply Kd.R_alloc | apply Kd.R_drewN | apply Kd.R_drew)); exact HO_4.out) (Kd.S_typed (by (with_reducible repeat (first | apply Kd.S_alloc | apply Kd.S_drewN | apply Kd.S_drew)); exact HO_7.out)) (by decide) hg); have n1_ := Aside0.mk (Kd.R_over' (by (with_reducible repeat (first | apply Kd.R_alloc | apply Kd.R_drewN | apply Kd.R_drew)); exact HO_5.out) (Kd.S_typed (by (with_reducible repeat (first | apply Kd.S_alloc | apply Kd.S_drewN | apply Kd.S_drew)); exact HO_7.out)) (by decide) hg); have n2_ := Aside0.mk (Kd.R_over' (by (with_reducible repeat (first | apply Kd.R_alloc | apply Kd.R_drewN | apply Kd.R_drew)); exact HO_6.out) (Kd.S_typed (by (with_reducible repeat (first | apply Kd.S_alloc | apply Kd.S_drewN | apply Kd.S_drew)); exact HO_7.out)) (by decide) hg); have n3_ := Aside0.mk (blk_grown (g := gb140) (o := .cells #[.slice A0_0 l0_0.length c0_0, .int .i64 a0_1, .int .i64 a0_2, .slice A0_3 l0_3.length c0_3, .slice A0_4 l0_4.length c0_4] 37 (0, 0)) (by (with_reducible repeat (first | refine blk_drewN ?_ _ | refine blk_drew ?_ | refine blk_alloc ?_ _)); exact BK140.out) hg (Kd.S_ne HO_7.out BK140.out (by decide))); have n4_ := Aside0.mk (hb); have n5_ := Aside0.mk (ho); clear HO_4; clear HO_5; clear HO_6; clear BK140; clear HB; clear HO_7; clear HO153; have HO_4 := n0_; have HO_5 := n1_; have HO_6 := n2_; have BK140 := n3_; have HB := n4_; have HO156 := n5_; clear n0_ n1_ n2_ n3_ n4_ n5_; clear ho hb hg hat))
         repeat (go_quiet (fail); try go_wp2)
         go_roundg k1
         case measure => have := HK1.out; omega
         case rel => exact ⟨(y150), (y154), (wrap64 (x8_1 + 1)), (by first | rfl | (simp; done) | (simp [*]; done)), H', ⟨by have := HK1.out; omega⟩, ⟨by (with_reducible repeat (first | apply Kd.R_alloc | apply Kd.R_drewN | apply Kd.R_drew)); exact HO_4.out⟩, ⟨by (with_reducible repeat (first | apply Kd.R_alloc | apply Kd.R_drewN | apply Kd.R_drew)); exact Kd.R_mono HO_5.out (fun _ hk => hk.2)⟩, ⟨by (with_reducible repeat (first | apply Kd.R_alloc | apply Kd.R_drewN | apply Kd.R_drew)); exact Kd.R_mono HO_6.out (fun _ hk => trivial)⟩, ⟨by (with_reducible repeat (first | apply Kd.S_alloc | apply Kd.S_drewN | apply Kd.S_drew)); exact HO156.out⟩, ⟨by (with_reducible repeat (first | refine blk_drewN ?_ _ | refine blk_drew ?_ | refine blk_alloc ?_ _)); exact BK140.out⟩, ⟨by repeat (first | (with_reducible first | exact HB.out | apply below_alloc | apply pw_below_drewN | apply below_drew1 | refine below_set ?_ GE140.out) | exact HB.out)⟩⟩
        ·rw [if_neg c18] at H
         exact absurd H (by simp)
       ·rw [if_neg c15] at H
        exact absurd H (by simp)
      ·rw [if_neg c14] at H
       exact absurd H (by simp)
     ·rw [if_neg c13] at H
      have c13b0 : decide (x8_1 < (l0_4.length : Int)) = false := decide_eq_false c13
      clear c13
      have H' := Aside0.mk H
      clear H
      go_wp2
      repeat (go_quiet (fail); try go_wp2)
      go_loopg [9] k1 (fun kq v9 w' => ∃ (x5_2 : List Int) (x9_2 : Int), v9 = .int .i64 x9_2 ∧ Aside0 (spec_l6doms.l1 kq (l0_4.length : Int) x4_1 x5_2 t147 x7_1 x9_2 = some r) ∧ Aside0 (kq ≤ k1) ∧ Aside0 (Kd.R (Kd.int .i64) 3 w' w.heap.size (fun k_ => some k_ ≠ (v145 : Value).ownBlock) v142 x4_1) ∧ Aside0 (Kd.R (Kd.int .i64) 3 w' w.heap.size (fun k_ => some k_ ≠ (v142 : Value).ownBlock) v145 x5_2) ∧ Aside0 (Kd.R Kd.bool 4 w' w.heap.size (fun _ => True) v148 t147) ∧ Aside0 (Kd.S (Kd.slice 4 Kd.bool) 73 w' w.heap.size (fun k_ => some k_ ≠ (v148 : Value).ownBlock) u7 x7_1) ∧ Aside0 (w'.heap[gb140]? = some (.cells #[(.slice A0_0 l0_0.length c0_0), .int .i64 a0_1, .int .i64 a0_2, (.slice A0_3 l0_3.length c0_3), (.slice A0_4 l0_4.length c0_4)] 37 (0, 0))) ∧ Aside0 (Below w.heap.size w w'))
      case atStart => exact ⟨(y144), (0), (by first | rfl | (simp; done) | (simp [*]; done)), H', ⟨Nat.le_refl _⟩, ⟨by (with_reducible repeat (first | apply Kd.R_alloc | apply Kd.R_drewN | apply Kd.R_drew)); exact HO_4.out⟩, ⟨by (with_reducible repeat (first | apply Kd.R_alloc | apply Kd.R_drewN | apply Kd.R_drew)); exact HO_5.out⟩, ⟨by (with_reducible repeat (first | apply Kd.R_alloc | apply Kd.R_drewN | apply Kd.R_drew)); exact HO_6.out⟩, ⟨by (with_reducible repeat (first | apply Kd.S_alloc | apply Kd.S_drewN | apply Kd.S_drew)); exact HO_7.out⟩, ⟨by (with_reducible repeat (first | refine blk_drewN ?_ _ | refine blk_drew ?_ | refine blk_alloc ?_ _)); exact BK140.out⟩, ⟨by repeat (first | (with_reducible first | exact HB.out | apply below_alloc | apply pw_below_drewN | apply below_drew1 | refine below_set ?_ GE140.out) | exact HB.out)⟩⟩
      case round =>
       clear H'
       try clear c1
       try clear p1
       try clear q1
       try clear hx1
       try clear hf1
       try clear c2
       try clear c2b0
       try clear c2b1
       try clear p2
       try clear c3
       try clear c3b0
       try clear c3b1
       try clear p6
       try clear c13
       try clear c13b0
       try clear c14
       try clear c14b0
       try clear c15
       try clear c15b0
       try clear p16
       try clear q16
       try clear hx16
       try clear hf16
       try clear c17
       try clear c18
       try clear hcz11_0
       try clear hcz11_1
       try clear hcz11_2
       try clear hcz11_3
       try clear hcz11_4
       try clear hcz21_0
       try clear hcz21_1
       try clear hcz21_2
       try clear hcz21_3
       try clear hcz21_4
       try clear hcz6_0
       try clear hcz6_1
       try clear hcz6_2
       try clear hcz6_3
       try clear hcz6_4
       try clear hfz11_0
       try clear hfz11_1
       try clear hfz11_2
       try clear hfz11_3
       try clear hfz11_4
       try clear hfz21_0
       try clear hfz21_1
       try clear hfz21_2
       try clear hfz21_3
       try clear hfz21_4
       try clear hfz6_0
       try clear hfz6_1
       try clear hfz6_2
       try clear hfz6_3
       try clear hfz6_4
       try clear hx16_0
       try clear p16
       try clear p2
       try clear q16
       obtain ⟨x5_2, x9_2, rfl, HA, HK2, HO_4, HO_5, HO_6, HO_7, BK140, HB⟩ := hrel
       cases gk with
       | zero => exact absurd HA.out (by simp [spec_l6doms.l1])
       | succ k2 =>
        have H := HA.out
        clear HA
        simp only [spec_l6doms.l1] at H
        by_cases c25 : x9_2 < (l0_4.length : Int)
        ·rw [if_pos c25] at H
         have c25b0 : decide (x9_2 < (l0_4.length : Int)) = true := decide_eq_true c25
         clear c25
         have H' := Aside0.mk H
         clear H
         go_wp2
         repeat (go_quiet (fail); try go_wp2)
         go_loopg [10] k2 (fun kq v10 w' => ∃ (x5_3 : List Int) (x10_3 : Int), v10 = .int .i64 x10_3 ∧ Aside0 (spec_l6doms.l2 kq (l0_4.length : Int) x4_1 x5_3 t147 x7_1 x9_2 x10_3 = some r) ∧ Aside0 (kq ≤ k2) ∧ Aside0 (Kd.R (Kd.int .i64) 3 w' w.heap.size (fun k_ => some k_ ≠ (v145 : Value).ownBlock) v142 x4_1) ∧ Aside0 (Kd.R (Kd.int .i64) 3 w' w.heap.size (fun k_ => some k_ ≠ (v142 : Value).ownBlock) v145 x5_3) ∧ Aside0 (Kd.R Kd.bool 4 w' w.heap.size (fun _ => True) v148 t147) ∧ Aside0 (Kd.S (Kd.slice 4 Kd.bool) 73 w' w.heap.size (fun k_ => some k_ ≠ (v148 : Value).ownBlock) u7 x7_1) ∧ Aside0 (w'.heap[gb140]? = some (.cells #[(.slice A0_0 l0_0.length c0_0), .int .i64 a0_1, .int .i64 a0_2, (.slice A0_3 l0_3.length c0_3), (.slice A0_4 l0_4.length c0_4)] 37 (0, 0))) ∧ Aside0 (Below w.heap.size w w'))
         case atStart => exact ⟨(x5_2), (0), (by first | rfl | (simp; done) | (simp [*]; done)), H', ⟨Nat.le_refl _⟩, ⟨by (with_reducible repeat (first | apply Kd.R_alloc | apply Kd.R_drewN | apply Kd.R_drew)); exact HO_4.out⟩, ⟨by (with_reducible repeat (first | apply Kd.R_alloc | apply Kd.R_drewN | apply Kd.R_drew)); exact HO_5.out⟩, ⟨by (with_reducible repeat (first | apply Kd.R_alloc | apply Kd.R_drewN | apply Kd.R_drew)); exact HO_6.out⟩, ⟨by (with_reducible repeat (first | apply Kd.S_alloc | apply Kd.S_drewN | apply Kd.S_drew)); exact HO_7.out⟩, ⟨by (with_reducible repeat (first | refine blk_drewN ?_ _ | refine blk_drew ?_ | refine blk_alloc ?_ _)); exact BK140.out⟩, ⟨by repeat (first | (with_reducible first | exact HB.out | apply below_alloc | apply pw_below_drewN | apply below_drew1 | refine below_set ?_ GE140.out) | exact HB.out)⟩⟩
         case round =>
          clear H'
          try clear c1
          try clear p1
          try clear q1
          try clear hx1
          try clear hf1
          try clear c2
          try clear c2b0
          try clear c2b1
          try clear p2
          try clear c3
          try clear c3b0
          try clear c3b1
          try clear p6
          try clear c13
          try clear c13b0
          try clear c14
          try clear c14b0
          try clear c15
          try clear c15b0
          try clear p16
          try clear q16
          try clear hx16
          try clear hf16
          try clear c17
          try clear c18
          try clear c25
          try clear c25b0
          try clear hcz11_0
          try clear hcz11_1
          try clear hcz11_2
          try clear hcz11_3
          try clear hcz11_4
          try clear hcz21_0
          try clear hcz21_1
          try clear hcz21_2
          try clear hcz21_3
          try clear hcz21_4
          try clear hcz6_0
          try clear hcz6_1
          try clear hcz6_2
          try clear hcz6_3
          try clear hcz6_4
          try clear hfz11_0
          try clear hfz11_1
          try clear hfz11_2
          try clear hfz11_3
          try clear hfz11_4
          try clear hfz21_0
          try clear hfz21_1
          try clear hfz21_2
          try clear hfz21_3
          try clear hfz21_4
          try clear hfz6_0
          try clear hfz6_1
          try clear hfz6_2
          try clear hfz6_3
          try clear hfz6_4
          try clear hx16_0
          try clear p1
          try clear p16
          try clear p2
          try clear p6
          try clear q1
          try clear q16
          obtain ⟨x5_3, x10_3, rfl, HA, HK3, HO_4, HO_5, HO_6, HO_7, BK140, HB⟩ := hrel
          cases gk with
          | zero => exact absurd HA.out (by simp [spec_l6doms.l2])
          | succ k3 =>
           have H := HA.out
           clear HA
           simp only [spec_l6doms.l2] at H
           by_cases c26 : x10_3 < (l0_4.length : Int)
           ·rw [if_pos c26] at H
            have c26b0 : decide (x10_3 < (l0_4.length : Int)) = true := decide_eq_true c26
            clear c26
            by_cases c27 : 0 ≤ x9_2
            ·rw [if_pos c27] at H
             have c27b0 : decide (0 ≤ x9_2) = true := decide_eq_true c27
             clear c27
             by_cases c28 : x9_2 < (t147.length : Int)
             ·rw [if_pos c28] at H
              have c28b0 : decide (x9_2 < (t147.length : Int)) = true := decide_eq_true c28
              clear c28
              obtain ⟨bq29, hbq29⟩ : ∃ b_ : Bool, b_ = (rdOf false t147 x9_2) := ⟨_, rfl⟩
              replace H : (if bq29 = true then (if x10_3 = x9_2 then (spec_l6doms.l2 k3 (l0_4.length : Int) x4_1 x5_3 t147 x7_1 x9_2 (wrap64 (x10_3 + 1))) else (if 0 ≤ x10_3 then (if x10_3 < (x7_1.length : Int) then (if x9_2 < ((rd_L13 x7_1 x10_3).length : Int) then (if (rdOf false (rd_L13 x7_1 x10_3) x9_2 = true) then (spec_l6doms.l2 k3 (l0_4.length : Int) x4_1 x5_3 t147 x7_1 x9_2 (wrap64 (x10_3 + 1))) else (if x9_2 < (x5_3.length : Int) then (spec_l6doms.l2 k3 (l0_4.length : Int) x4_1 (x5_3.set (x9_2 : Int).toNat (wrap64 ((rd x5_3 x9_2) + 1))) t147 x7_1 x9_2 (wrap64 (x10_3 + 1))) else (none))) else (none)) else (none)) else (none))) else (spec_l6doms.l2 k3 (l0_4.length : Int) x4_1 x5_3 t147 x7_1 x9_2 (wrap64 (x10_3 + 1)))) = some r := by rw [← hbq29] at H; exact H
              have Nbq29 := Aside0.mk hbq29
              clear hbq29
              by_cases c30 : bq29 = true
              ·subst c30
               have H1 : (if x10_3 = x9_2 then (spec_l6doms.l2 k3 (l0_4.length : Int) x4_1 x5_3 t147 x7_1 x9_2 (wrap64 (x10_3 + 1))) else (if 0 ≤ x10_3 then (if x10_3 < (x7_1.length : Int) then (if x9_2 < ((rd_L13 x7_1 x10_3).length : Int) then (if (rdOf false (rd_L13 x7_1 x10_3) x9_2 = true) then (spec_l6doms.l2 k3 (l0_4.length : Int) x4_1 x5_3 t147 x7_1 x9_2 (wrap64 (x10_3 + 1))) else (if x9_2 < (x5_3.length : Int) then (spec_l6doms.l2 k3 (l0_4.length : Int) x4_1 (x5_3.set (x9_2 : Int).toNat (wrap64 ((rd x5_3 x9_2) + 1))) t147 x7_1 x9_2 (wrap64 (x10_3 + 1))) else (none))) else (none)) else (none)) else (none))) = some r := by rw [if_pos rfl] at H; exact H
               clear H
               have H := H1
               clear H1
               by_cases c31 : x10_3 = x9_2
               ·rw [if_pos c31] at H
                have c31b0 : (x10_3 == x9_2) = true := beq_iff_eq.mpr c31
                have c31b1 : (x10_3 != x9_2) = false := bne_eq_false_iff_eq.mpr c31
                clear c31
                have H' := Aside0.mk H
                clear H
                obtain ⟨Ao32, co32, eo32⟩ := Kd.R_slice HO_6.out
                subst eo32
                have p157 : 0 ≤ (x9_2 : Int) := of_decide_eq_true (by first | (with_reducible assumption) | assumption)
                have q157 : x9_2 < (t147.length : Int) := of_decide_eq_true (by first | (with_reducible assumption) | assumption)
                obtain ⟨ad157, e157, hx157_0⟩ := Kd.at_bool (Kd.R_reads' HO_6.out).2.2 x9_2 p157 q157
                (try rw [← Nbq29.out] at hx157_0)
                cases e157
                replace p157 := eq_true p157
                replace q157 := eq_true q157
                go_wp2
                repeat (go_quiet (fail); try go_wp2)
                go_roundg k3
                case measure => have := HK1.out; have := HK2.out; have := HK3.out; omega
                case rel => exact ⟨(x5_3), (wrap64 (x10_3 + 1)), (by first | rfl | (simp; done) | (simp [*]; done)), H', ⟨by have := HK1.out; have := HK2.out; have := HK3.out; omega⟩, ⟨by (with_reducible repeat (first | apply Kd.R_alloc | apply Kd.R_drewN | apply Kd.R_drew)); exact HO_4.out⟩, ⟨by (with_reducible repeat (first | apply Kd.R_alloc | apply Kd.R_drewN | apply Kd.R_drew)); exact HO_5.out⟩, ⟨by (with_reducible repeat (first | apply Kd.R_alloc | apply Kd.R_drewN | apply Kd.R_drew)); exact HO_6.out⟩, ⟨by (with_reducible repeat (first | apply Kd.S_alloc | apply Kd.S_drewN | apply Kd.S_drew)); exact HO_7.out⟩, ⟨by (with_reducible repeat (first | refine blk_drewN ?_ _ | refine blk_drew ?_ | refine blk_alloc ?_ _)); exact BK140.out⟩, ⟨by repeat (first | (with_reducible first | exact HB.out | apply below_alloc | apply pw_below_drewN | apply below_drew1 | refine below_set ?_ GE140.out) | exact HB.out)⟩⟩
               ·rw [if_neg c31] at H
                have c31b0 : (x10_3 == x9_2) = false := beq_eq_false_iff_ne.mpr c31
                have c31b1 : (x10_3 != x9_2) = true := bne_iff_ne.mpr c31
                by_cases c33 : 0 ≤ x10_3
                ·rw [if_pos c33] at H
                 have c33b0 : decide (0 ≤ x10_3) = true := decide_eq_true c33
                 clear c33
                 by_cases c34 : x10_3 < (x7_1.length : Int)
                 ·rw [if_pos c34] at H
                  have c34b0 : decide (x10_3 < (x7_1.length : Int)) = true := decide_eq_true c34
                  clear c34
                  by_cases c35 : x9_2 < ((rd_L13 x7_1 x10_3).length : Int)
                  ·rw [if_pos c35] at H
                   have c35b0 : decide (x9_2 < ((rd_L13 x7_1 x10_3).length : Int)) = true := decide_eq_true c35
                   clear c35
                   obtain ⟨bq36, hbq36⟩ : ∃ b_ : Bool, b_ = (rdOf false (rd_L13 x7_1 x10_3) x9_2) := ⟨_, rfl⟩
                   replace H : (if (bq36 = true) then (spec_l6doms.l2 k3 (l0_4.length : Int) x4_1 x5_3 t147 x7_1 x9_2 (wrap64 (x10_3 + 1))) else (if x9_2 < (x5_3.length : Int) then (spec_l6doms.l2 k3 (l0_4.length : Int) x4_1 (x5_3.set (x9_2 : Int).toNat (wrap64 ((rd x5_3 x9_2) + 1))) t147 x7_1 x9_2 (wrap64 (x10_3 + 1))) else (none))) = some r := by rw [← hbq36] at H; exact H
                   have Nbq36 := Aside0.mk hbq36
                   clear hbq36
                   by_cases c37 : (bq36 = true)
                   ·subst c37
                    have H1 : (spec_l6doms.l2 k3 (l0_4.length : Int) x4_1 x5_3 t147 x7_1 x9_2 (wrap64 (x10_3 + 1))) = some r := by rw [if_pos rfl] at H; exact H
                    clear H
                    have H := H1
                    clear H1
                    have H' := Aside0.mk H
                    clear H
                    obtain ⟨Ao38, co38, eo38⟩ := Kd.R_slice HO_6.out
                    subst eo38
                    have p157 : 0 ≤ (x9_2 : Int) := of_decide_eq_true (by first | (with_reducible assumption) | assumption)
                    have q157 : x9_2 < (t147.length : Int) := of_decide_eq_true (by first | (with_reducible assumption) | assumption)
                    obtain ⟨ad157, e157, hx157_0⟩ := Kd.at_bool (Kd.R_reads' HO_6.out).2.2 x9_2 p157 q157
                    (try rw [← Nbq29.out] at hx157_0)
                    (try rw [← Nbq36.out] at hx157_0)
                    cases e157
                    replace p157 := eq_true p157
                    replace q157 := eq_true q157
                    obtain ⟨Ao39, co39, eo39⟩ := Kd.S_slice HO_7.out
                    subst eo39
                    have p158 : 0 ≤ (x10_3 : Int) := of_decide_eq_true (by first | (with_reducible assumption) | assumption)
                    have q158 : x10_3 < (x7_1.length : Int) := of_decide_eq_true (by first | (with_reducible assumption) | assumption)
                    obtain ⟨ad158, A158_0, c158_0, e158, hx158_0, hl158_0, hi158_0⟩ := at_L13 (Kd.S_reads' HO_7.out).2.2 x10_3 p158 q158
                    cases e158
                    obtain ⟨ce158, hce158, hMe158, hcc158⟩ := Kd.S_get HO_7.out [] x10_3 p158 (by first | exact q158 | exact of_decide_eq_true (by first | (with_reducible assumption) | assumption) | (have e_ := (Kd.S_reads' HO_7.out).1; omega))
                    obtain ⟨ve158_0, rfl, ge158_0⟩ := hMe158
                    have hv158_0 := hcc158 0 _ rfl
                    rw [Nat.add_zero, show ((Kd.slice 4 Kd.bool)).sz = 1 from rfl, Nat.mul_one] at hv158_0
                    replace hv158_0 := Option.some.inj (hv158_0.symm.trans hx158_0)
                    rw [hv158_0] at ge158_0
                    have HL158_0 := Aside0.mk (show Kd.R Kd.bool 4 _ _ _ _ (rd_L13 x7_1 x10_3) from ge158_0)
                    clear hv158_0 ge158_0
                    clear hcc158 hce158
                    have HR158_0 := Aside0.mk hi158_0
                    have HC158_0 := Aside0.mk hl158_0
                    clear hi158_0 hl158_0
                    replace p158 := eq_true p158
                    replace q158 := eq_true q158
                    have p159 : 0 ≤ (x9_2 : Int) := of_decide_eq_true (by first | (with_reducible assumption) | assumption)
                    have q159 : x9_2 < ((rd_L13 x7_1 x10_3).length : Int) := of_decide_eq_true (by first | (with_reducible assumption) | assumption)
                    obtain ⟨ad159, e159, hx159_0⟩ := Kd.at_bool (by repeat (first | (with_reducible exact HR158_0.out) | (with_reducible refine Kd.C_alloc ?_ _) | (with_reducible refine Kd.C_drewN ?_ _) | (with_reducible refine Kd.C_drew ?_) | exact HR158_0.out)) x9_2 p159 q159
                    (try rw [← Nbq29.out] at hx159_0)
                    (try rw [← Nbq36.out] at hx159_0)
                    cases e159
                    replace p159 := eq_true p159
                    replace q159 := eq_true q159
                    go_wp2
                    repeat (go_quiet (fail); try go_wp2)
                    go_roundg k3
                    case measure => have := HK1.out; have := HK2.out; have := HK3.out; omega
                    case rel => exact ⟨(x5_3), (wrap64 (x10_3 + 1)), (by first | rfl | (simp; done) | (simp [*]; done)), H', ⟨by have := HK1.out; have := HK2.out; have := HK3.out; omega⟩, ⟨by (with_reducible repeat (first | apply Kd.R_alloc | apply Kd.R_drewN | apply Kd.R_drew)); exact HO_4.out⟩, ⟨by (with_reducible repeat (first | apply Kd.R_alloc | apply Kd.R_drewN | apply Kd.R_drew)); exact HO_5.out⟩, ⟨by (with_reducible repeat (first | apply Kd.R_alloc | apply Kd.R_drewN | apply Kd.R_drew)); exact HO_6.out⟩, ⟨by (with_reducible repeat (first | apply Kd.S_alloc | apply Kd.S_drewN | apply Kd.S_drew)); exact HO_7.out⟩, ⟨by (with_reducible repeat (first | refine blk_drewN ?_ _ | refine blk_drew ?_ | refine blk_alloc ?_ _)); exact BK140.out⟩, ⟨by repeat (first | (with_reducible first | exact HB.out | apply below_alloc | apply pw_below_drewN | apply below_drew1 | refine below_set ?_ GE140.out) | exact HB.out)⟩⟩
                   ·replace c37 := Bool.eq_false_iff.mpr c37
                    subst c37
                    have H1 : (if x9_2 < (x5_3.length : Int) then (spec_l6doms.l2 k3 (l0_4.length : Int) x4_1 (x5_3.set (x9_2 : Int).toNat (wrap64 ((rd x5_3 x9_2) + 1))) t147 x7_1 x9_2 (wrap64 (x10_3 + 1))) else (none)) = some r := by rw [if_neg (show ¬ (false = true) by decide)] at H; exact H
                    clear H
                    have H := H1
                    clear H1
                    by_cases c40 : x9_2 < (x5_3.length : Int)
                    ·rw [if_pos c40] at H
                     have c40b0 : decide (x9_2 < (x5_3.length : Int)) = true := decide_eq_true c40
                     clear c40
                     obtain ⟨y161, hy161⟩ : ∃ y_ : List Int, y_ = (x5_3.set (x9_2 : Int).toNat (wrap64 ((rd x5_3 x9_2) + 1))) := ⟨_, rfl⟩
                     replace H : (spec_l6doms.l2 k3 (l0_4.length : Int) x4_1 y161 t147 x7_1 x9_2 (wrap64 (x10_3 + 1))) = some r := by first | (rw [hy161]; with_reducible exact H) | (have H2_ := (Option.bind_some _ _).symm.trans H; rw [hy161]; with_reducible exact H2_) | (have H2_ := (Option.bind_some _ _).symm.trans H; with_reducible exact H2_) | with_reducible exact H | (rw [hy161]; exact H) | exact H
                     have Ny161 := Aside0.mk hy161
                     clear hy161
                     have H' := Aside0.mk H
                     clear H
                     obtain ⟨Ao42, co42, eo42⟩ := Kd.R_slice HO_6.out
                     subst eo42
                     have p157 : 0 ≤ (x9_2 : Int) := of_decide_eq_true (by first | (with_reducible assumption) | assumption)
                     have q157 : x9_2 < (t147.length : Int) := of_decide_eq_true (by first | (with_reducible assumption) | assumption)
                     obtain ⟨ad157, e157, hx157_0⟩ := Kd.at_bool (Kd.R_reads' HO_6.out).2.2 x9_2 p157 q157
                     (try rw [← Nbq29.out] at hx157_0)
                     (try rw [← Nbq36.out] at hx157_0)
                     cases e157
                     replace p157 := eq_true p157
                     replace q157 := eq_true q157
                     obtain ⟨Ao43, co43, eo43⟩ := Kd.S_slice HO_7.out
                     subst eo43
                     have p158 : 0 ≤ (x10_3 : Int) := of_decide_eq_true (by first | (with_reducible assumption) | assumption)
                     have q158 : x10_3 < (x7_1.length : Int) := of_decide_eq_true (by first | (with_reducible assumption) | assumption)
                     obtain ⟨ad158, A158_0, c158_0, e158, hx158_0, hl158_0, hi158_0⟩ := at_L13 (Kd.S_reads' HO_7.out).2.2 x10_3 p158 q158
                     cases e158
                     obtain ⟨ce158, hce158, hMe158, hcc158⟩ := Kd.S_get HO_7.out [] x10_3 p158 (by first | exact q158 | exact of_decide_eq_true (by first | (with_reducible assumption) | assumption) | (have e_ := (Kd.S_reads' HO_7.out).1; omega))
                     obtain ⟨ve158_0, rfl, ge158_0⟩ := hMe158
                     have hv158_0 := hcc158 0 _ rfl
                     rw [Nat.add_zero, show ((Kd.slice 4 Kd.bool)).sz = 1 from rfl, Nat.mul_one] at hv158_0
                     replace hv158_0 := Option.some.inj (hv158_0.symm.trans hx158_0)
                     rw [hv158_0] at ge158_0
                     have HL158_0 := Aside0.mk (show Kd.R Kd.bool 4 _ _ _ _ (rd_L13 x7_1 x10_3) from ge158_0)
                     clear hv158_0 ge158_0
                     clear hcc158 hce158
                     have HR158_0 := Aside0.mk hi158_0
                     have HC158_0 := Aside0.mk hl158_0
                     clear hi158_0 hl158_0
                     replace p158 := eq_true p158
                     replace q158 := eq_true q158
                     have p159 : 0 ≤ (x9_2 : Int) := of_decide_eq_true (by first | (with_reducible assumption) | assumption)
                     have q159 : x9_2 < ((rd_L13 x7_1 x10_3).length : Int) := of_decide_eq_true (by first | (with_reducible assumption) | assumption)
                     obtain ⟨ad159, e159, hx159_0⟩ := Kd.at_bool (by repeat (first | (with_reducible exact HR158_0.out) | (with_reducible refine Kd.C_alloc ?_ _) | (with_reducible refine Kd.C_drewN ?_ _) | (with_reducible refine Kd.C_drew ?_) | exact HR158_0.out)) x9_2 p159 q159
                     (try rw [← Nbq29.out] at hx159_0)
                     (try rw [← Nbq36.out] at hx159_0)
                     cases e159
                     replace p159 := eq_true p159
                     replace q159 := eq_true q159
                     obtain ⟨Ao44, co44, eo44⟩ := Kd.R_slice HO_5.out
                     subst eo44
                     have p160 : 0 ≤ (x9_2 : Int) := of_decide_eq_true (by first | (with_reducible assumption) | assumption)
                     have q160 : x9_2 < (x5_3.length : Int) := of_decide_eq_true (by first | (with_reducible assumption) | assumption)
                     obtain ⟨ad160, e160, hx160_0⟩ := Kd.at_int (Kd.R_reads' HO_5.out).2.2 x9_2 p160 q160
                     cases e160
                     replace p160 := eq_true p160
                     replace q160 := eq_true q160
                     have p41 : 0 ≤ (x9_2 : Int) := of_decide_eq_true (by first | (with_reducible assumption) | assumption)
                     have q41 : (x9_2 : Int) < ((x5_3.length : Int) : Int) := of_decide_eq_true (by first | (with_reducible assumption) | assumption)
                     obtain ⟨go41, co41, eo41, gb41, gl41, cl41, HG41⟩ := Kd.R_form HO_5.out (by omega)
                     (first | cases eo41 | (injection eo41 with ea_ en_ ec_; (first | subst ea_ | (injection ea_ with ea_; subst ea_)); subst ec_; clear en_))
                     have GB41 := Aside0.mk gb41
                     have GG41 := Aside0.mk HG41
                     clear gb41 gl41 HG41
                     (first | simp only [add_plain] at hx160_0 | skip)
                     obtain ⟨hx41_0, hf41_0⟩ := Kd.R_celln 0 HO_5.out (x9_2 : Int) p41 q41
                     replace p41 := eq_true p41
                     replace q41 := eq_true q41
                     have HP45 := Kd.R_putg HO_5.out (x9_2 : Int) (wrap64 ((rd x5_3 x9_2) + 1))
                     go_wp2_with (first | ((with_reducible refine gate_store (t := 3) (p := 70) rfl ?_); (try (rw [drewN_self wr]; generalize hq_ : World.drewN wr _ = wr; have n0_ := Aside0.mk (Kd.R_at hq_ HO_4.out); have n1_ := Aside0.mk (Kd.R_at hq_ HO_5.out); have n2_ := Aside0.mk (Kd.R_at hq_ HO_6.out); have n3_ := Aside0.mk (Kd.S_at hq_ HO_7.out); have n4_ := Aside0.mk (Kd.R_at hq_ HL158_0.out); have n5_ := Aside0.mk (blk_at hq_ BK140.out); have n6_ := Aside0.mk (below_at hq_ HB.out); clear hq_ HO_4 HO_5 HO_6 HO_7 HL158_0 BK140 HB; have HO_4 := n0_; have HO_5 := n1_; have HO_6 := n2_; have HO_7 := n3_; have HL158_0 := n4_; have BK140 := n5_; have HB := n6_; clear n0_ n1_ n2_ n3_ n4_ n5_ n6_; (try (have HP45 := Kd.R_putg HO_5.out (x9_2 : Int) (wrap64 ((rd x5_3 x9_2) + 1)))))); refine store_event (t := 3) (p := 70) (v := ?vo_w46) (w1 := (wr.setCell ⟨go41, (x9_2 : Int).toNat, none⟩ (.int .i64 (wrap64 ((rd x5_3 x9_2) + 1))))) ?hg ?ho ?hn ?hr ?_; (case ho => rfl); (case hg => rfl); (case hn => rfl); (case hr => first | (go_simp; done) | (go_simp; rfl)); intro w46 hw; have hg : wr.grownBy w46 (some go41) := (by rw [hw]; exact HP45.2); have hp_ : Kd.R (Kd.int .i64) 3 w46 w.heap.size (fun k_ => some k_ ≠ (v142 : Value).ownBlock) (.slice (some ⟨go41, 0, none⟩) x5_3.length co44) y161 := (by rw [hw, Ny161.out]; exact HP45.1); clear HP45; have n0_ := Aside0.mk (Kd.R_after (v := (.slice (some ⟨go41, 0, none⟩) x5_3.length co44)) (v1 := (.slice (some ⟨go41, 0, none⟩) x5_3.length co44)) (ok := (fun _ => True)) (by (with_reducible repeat (first | apply Kd.R_alloc | apply Kd.R_drewN | apply Kd.R_drew)); exact Kd.R_mono HO_4.out (fun _ hk => ⟨trivial, hk⟩)) hg (.inl rfl)); have n1_ := Aside0.mk (hp_); have n2_ := Aside0.mk (Kd.R_over' (v := (.slice (some ⟨go41, 0, none⟩) x5_3.length co44)) (by (with_reducible repeat (first | apply Kd.R_alloc | apply Kd.R_drewN | apply Kd.R_drew)); exact HO_6.out) (Kd.R_typed HO_5.out) (by decide) hg); have n3_ := Aside0.mk (Kd.S_over' (v := (.slice (some ⟨go41, 0, none⟩) x5_3.length co44)) (by (with_reducible repeat (first | apply Kd.S_alloc | apply Kd.S_drewN | apply Kd.S_drew)); exact HO_7.out) (Kd.R_typed HO_5.out) (by decide) hg); have n4_ := Aside0.mk (blk_grown (g := gb140) (o := .cells #[.slice A0_0 l0_0.length c0_0, .int .i64 a0_1, .int .i64 a0_2, .slice A0_3 l0_3.length c0_3, .slice A0_4 l0_4.length c0_4] 37 (0, 0)) (by (with_reducible repeat (first | refine blk_drewN ?_ _ | refine blk_drew ?_ | refine blk_alloc ?_ _)); exact BK140.out) hg (Kd.R_ne HO_5.out BK140.out (by decide))); have n5_ := Aside0.mk (Kd.R_over' (v := (.slice (some ⟨go41, 0, none⟩) x5_3.length co44)) (by (with_reducible repeat (first | apply Kd.R_alloc | apply Kd.R_drewN | apply Kd.R_drew)); exact HL158_0.out) (Kd.R_typed HO_5.out) (by decide) hg); have n6_ := Aside0.mk ((by rw [hw]; exact below_set (HB.out) GB41.out : Below w.heap.size w w46)); clear HO_4; clear HO_5; clear HO_6; clear HO_7; clear BK140; clear HL158_0; clear HB; have HO_4 := n0_; have HO_5 := n1_; have HO_6 := n2_; have HO_7 := n3_; have BK140 := n4_; have HL158_0 := n5_; have HB := n6_; clear n0_ n1_ n2_ n3_ n4_ n5_ n6_; clear hg hw hp_))
                     repeat (go_quiet (fail); try go_wp2)
                     go_roundg k3
                     case measure => have := HK1.out; have := HK2.out; have := HK3.out; omega
                     case rel => exact ⟨(y161), (wrap64 (x10_3 + 1)), (by first | rfl | (simp; done) | (simp [*]; done)), H', ⟨by have := HK1.out; have := HK2.out; have := HK3.out; omega⟩, ⟨by (with_reducible repeat (first | apply Kd.R_alloc | apply Kd.R_drewN | apply Kd.R_drew)); exact Kd.R_mono HO_4.out (fun _ hk => hk.2)⟩, ⟨by (with_reducible repeat (first | apply Kd.R_alloc | apply Kd.R_drewN | apply Kd.R_drew)); exact HO_5.out⟩, ⟨by (with_reducible repeat (first | apply Kd.R_alloc | apply Kd.R_drewN | apply Kd.R_drew)); exact HO_6.out⟩, ⟨by (with_reducible repeat (first | apply Kd.S_alloc | apply Kd.S_drewN | apply Kd.S_drew)); exact HO_7.out⟩, ⟨by (with_reducible repeat (first | refine blk_drewN ?_ _ | refine blk_drew ?_ | refine blk_alloc ?_ _)); exact BK140.out⟩, ⟨by repeat (first | (with_reducible first | exact HB.out | apply below_alloc | apply pw_below_drewN | apply below_drew1 | refine below_set ?_ GE140.out) | exact HB.out)⟩⟩
                    ·rw [if_neg c40] at H
                     exact absurd H (by simp)
                  ·rw [if_neg c35] at H
                   exact absurd H (by simp)
                 ·rw [if_neg c34] at H
                  exact absurd H (by simp)
                ·rw [if_neg c33] at H
                 exact absurd H (by simp)
              ·replace c30 := Bool.eq_false_iff.mpr c30
               subst c30
               have H1 : (spec_l6doms.l2 k3 (l0_4.length : Int) x4_1 x5_3 t147 x7_1 x9_2 (wrap64 (x10_3 + 1))) = some r := by rw [if_neg (show ¬ (false = true) by decide)] at H; exact H
               clear H
               have H := H1
               clear H1
               have H' := Aside0.mk H
               clear H
               obtain ⟨Ao47, co47, eo47⟩ := Kd.R_slice HO_6.out
               subst eo47
               have p157 : 0 ≤ (x9_2 : Int) := of_decide_eq_true (by first | (with_reducible assumption) | assumption)
               have q157 : x9_2 < (t147.length : Int) := of_decide_eq_true (by first | (with_reducible assumption) | assumption)
               obtain ⟨ad157, e157, hx157_0⟩ := Kd.at_bool (Kd.R_reads' HO_6.out).2.2 x9_2 p157 q157
               (try rw [← Nbq29.out] at hx157_0)
               cases e157
               replace p157 := eq_true p157
               replace q157 := eq_true q157
               go_wp2
               repeat (go_quiet (fail); try go_wp2)
               go_roundg k3
               case measure => have := HK1.out; have := HK2.out; have := HK3.out; omega
               case rel => exact ⟨(x5_3), (wrap64 (x10_3 + 1)), (by first | rfl | (simp; done) | (simp [*]; done)), H', ⟨by have := HK1.out; have := HK2.out; have := HK3.out; omega⟩, ⟨by (with_reducible repeat (first | apply Kd.R_alloc | apply Kd.R_drewN | apply Kd.R_drew)); exact HO_4.out⟩, ⟨by (with_reducible repeat (first | apply Kd.R_alloc | apply Kd.R_drewN | apply Kd.R_drew)); exact HO_5.out⟩, ⟨by (with_reducible repeat (first | apply Kd.R_alloc | apply Kd.R_drewN | apply Kd.R_drew)); exact HO_6.out⟩, ⟨by (with_reducible repeat (first | apply Kd.S_alloc | apply Kd.S_drewN | apply Kd.S_drew)); exact HO_7.out⟩, ⟨by (with_reducible repeat (first | refine blk_drewN ?_ _ | refine blk_drew ?_ | refine blk_alloc ?_ _)); exact BK140.out⟩, ⟨by repeat (first | (with_reducible first | exact HB.out | apply below_alloc | apply pw_below_drewN | apply below_drew1 | refine below_set ?_ GE140.out) | exact HB.out)⟩⟩
             ·rw [if_neg c28] at H
              exact absurd H (by simp)
            ·rw [if_neg c27] at H
             exact absurd H (by simp)
           ·rw [if_neg c26] at H
            have c26b0 : decide (x10_3 < (l0_4.length : Int)) = false := decide_eq_false c26
            clear c26
            have H' := Aside0.mk H
            clear H
            go_wp2
            repeat (go_quiet (fail); try go_wp2)
            go_roundg k3
            case measure => have := HK1.out; have := HK2.out; have := HK3.out; omega
            case rel => exact ⟨(x5_3), (wrap64 (x9_2 + 1)), (by first | rfl | (simp; done) | (simp [*]; done)), H', ⟨by have := HK1.out; have := HK2.out; have := HK3.out; omega⟩, ⟨by (with_reducible repeat (first | apply Kd.R_alloc | apply Kd.R_drewN | apply Kd.R_drew)); exact HO_4.out⟩, ⟨by (with_reducible repeat (first | apply Kd.R_alloc | apply Kd.R_drewN | apply Kd.R_drew)); exact HO_5.out⟩, ⟨by (with_reducible repeat (first | apply Kd.R_alloc | apply Kd.R_drewN | apply Kd.R_drew)); exact HO_6.out⟩, ⟨by (with_reducible repeat (first | apply Kd.S_alloc | apply Kd.S_drewN | apply Kd.S_drew)); exact HO_7.out⟩, ⟨by (with_reducible repeat (first | refine blk_drewN ?_ _ | refine blk_drew ?_ | refine blk_alloc ?_ _)); exact BK140.out⟩, ⟨by repeat (first | (with_reducible first | exact HB.out | apply below_alloc | apply pw_below_drewN | apply below_drew1 | refine below_set ?_ GE140.out) | exact HB.out)⟩⟩
        ·rw [if_neg c25] at H
         have c25b0 : decide (x9_2 < (l0_4.length : Int)) = false := decide_eq_false c25
         clear c25
         have H' := Aside0.mk H
         clear H
         go_wp2
         repeat (go_quiet (fail); try go_wp2)
         go_loopg [11] k2 (fun kq v11 w' => ∃ (x4_3 : List Int) (x11_3 : Int), v11 = .int .i64 x11_3 ∧ Aside0 (spec_l6doms.l3 kq (l0_4.length : Int) x4_3 x5_2 t147 x7_1 x11_3 = some r) ∧ Aside0 (kq ≤ k2) ∧ Aside0 (Kd.R (Kd.int .i64) 3 w' w.heap.size (fun k_ => some k_ ≠ (v145 : Value).ownBlock) v142 x4_3) ∧ Aside0 (Kd.R (Kd.int .i64) 3 w' w.heap.size (fun k_ => some k_ ≠ (v142 : Value).ownBlock) v145 x5_2) ∧ Aside0 (Kd.R Kd.bool 4 w' w.heap.size (fun _ => True) v148 t147) ∧ Aside0 (Kd.S (Kd.slice 4 Kd.bool) 73 w' w.heap.size (fun k_ => some k_ ≠ (v148 : Value).ownBlock) u7 x7_1) ∧ Aside0 (w'.heap[gb140]? = some (.cells #[(.slice A0_0 l0_0.length c0_0), .int .i64 a0_1, .int .i64 a0_2, (.slice A0_3 l0_3.length c0_3), (.slice A0_4 l0_4.length c0_4)] 37 (0, 0))) ∧ Aside0 (Below w.heap.size w w'))
         case atStart => exact ⟨(x4_1), (0), (by first | rfl | (simp; done) | (simp [*]; done)), H', ⟨Nat.le_refl _⟩, ⟨by (with_reducible repeat (first | apply Kd.R_alloc | apply Kd.R_drewN | apply Kd.R_drew)); exact HO_4.out⟩, ⟨by (with_reducible repeat (first | apply Kd.R_alloc | apply Kd.R_drewN | apply Kd.R_drew)); exact HO_5.out⟩, ⟨by (with_reducible repeat (first | apply Kd.R_alloc | apply Kd.R_drewN | apply Kd.R_drew)); exact HO_6.out⟩, ⟨by (with_reducible repeat (first | apply Kd.S_alloc | apply Kd.S_drewN | apply Kd.S_drew)); exact HO_7.out⟩, ⟨by (with_reducible repeat (first | refine blk_drewN ?_ _ | refine blk_drew ?_ | refine blk_alloc ?_ _)); exact BK140.out⟩, ⟨by repeat (first | (with_reducible first | exact HB.out | apply below_alloc | apply pw_below_drewN | apply below_drew1 | refine below_set ?_ GE140.out) | exact HB.out)⟩⟩
         case round =>
          clear H'
          try clear c1
          try clear p1
          try clear q1
          try clear hx1
          try clear hf1
          try clear c2
          try clear c2b0
          try clear c2b1
          try clear p2
          try clear q2
          try clear c3
          try clear c3b0
          try clear c3b1
          try clear q3
          try clear c4
          try clear p4
          try clear q4
          try clear hx4
          try clear hf4
          try clear p6
          try clear c13
          try clear c13b0
          try clear c14
          try clear c14b0
          try clear c15
          try clear c15b0
          try clear p15
          try clear q15
          try clear hx15
          try clear p16
          try clear q16
          try clear hx16
          try clear hf16
          try clear c17
          try clear c18
          try clear c25
          try clear c25b0
          try clear c26
          try clear c26b0
          try clear c27
          try clear c27b0
          try clear c28
          try clear c28b0
          try clear q29
          try clear c30
          try clear c31
          try clear c31b0
          try clear c31b1
          try clear c33
          try clear c33b0
          try clear c34
          try clear c34b0
          try clear c35
          try clear c35b0
          try clear q36
          try clear c37
          try clear c40
          try clear c40b0
          try clear p41
          try clear q41
          try clear hx41
          try clear hf41
          try clear hcz11_0
          try clear hcz11_1
          try clear hcz11_2
          try clear hcz11_3
          try clear hcz11_4
          try clear hcz21_0
          try clear hcz21_1
          try clear hcz21_2
          try clear hcz21_3
          try clear hcz21_4
          try clear hcz6_0
          try clear hcz6_1
          try clear hcz6_2
          try clear hcz6_3
          try clear hcz6_4
          try clear hfz11_0
          try clear hfz11_1
          try clear hfz11_2
          try clear hfz11_3
          try clear hfz11_4
          try clear hfz21_0
          try clear hfz21_1
          try clear hfz21_2
          try clear hfz21_3
          try clear hfz21_4
          try clear hfz6_0
          try clear hfz6_1
          try clear hfz6_2
          try clear hfz6_3
          try clear hfz6_4
          try clear hx157_0
          try clear hx158_0
          try clear hx159_0
          try clear hx160_0
          try clear hx16_0
          try clear hx41_0
          try clear p1
          try clear p157
          try clear p158
          try clear p159
          try clear p16
          try clear p160
          try clear p2
          try clear p41
          try clear p6
          try clear q1
          try clear q157
          try clear q158
          try clear q159
          try clear q16
          try clear q160
          try clear q41
          obtain ⟨x4_3, x11_3, rfl, HA, HK3, HO_4, HO_5, HO_6, HO_7, BK140, HB⟩ := hrel
          cases gk with
          | zero => exact absurd HA.out (by simp [spec_l6doms.l3])
          | succ k3 =>
           have H := HA.out
           clear HA
           simp only [spec_l6doms.l3] at H
           by_cases c48 : x11_3 < (l0_4.length : Int)
           ·rw [if_pos c48] at H
            have c48b0 : decide (x11_3 < (l0_4.length : Int)) = true := decide_eq_true c48
            clear c48
            have H' := Aside0.mk H
            clear H
            go_wp2
            repeat (go_quiet (fail); try go_wp2)
            go_loopg [12] k3 (fun kq v12 w' => ∃ (x4_4 : List Int) (x12_4 : Int), v12 = .int .i64 x12_4 ∧ Aside0 (spec_l6doms.l4 kq (l0_4.length : Int) x4_4 x5_2 t147 x7_1 x11_3 x12_4 = some r) ∧ Aside0 (kq ≤ k3) ∧ Aside0 (Kd.R (Kd.int .i64) 3 w' w.heap.size (fun k_ => some k_ ≠ (v145 : Value).ownBlock) v142 x4_4) ∧ Aside0 (Kd.R (Kd.int .i64) 3 w' w.heap.size (fun k_ => some k_ ≠ (v142 : Value).ownBlock) v145 x5_2) ∧ Aside0 (Kd.R Kd.bool 4 w' w.heap.size (fun _ => True) v148 t147) ∧ Aside0 (Kd.S (Kd.slice 4 Kd.bool) 73 w' w.heap.size (fun k_ => some k_ ≠ (v148 : Value).ownBlock) u7 x7_1) ∧ Aside0 (w'.heap[gb140]? = some (.cells #[(.slice A0_0 l0_0.length c0_0), .int .i64 a0_1, .int .i64 a0_2, (.slice A0_3 l0_3.length c0_3), (.slice A0_4 l0_4.length c0_4)] 37 (0, 0))) ∧ Aside0 (Below w.heap.size w w'))
            case atStart => exact ⟨(x4_3), (0), (by first | rfl | (simp; done) | (simp [*]; done)), H', ⟨Nat.le_refl _⟩, ⟨by (with_reducible repeat (first | apply Kd.R_alloc | apply Kd.R_drewN | apply Kd.R_drew)); exact HO_4.out⟩, ⟨by (with_reducible repeat (first | apply Kd.R_alloc | apply Kd.R_drewN | apply Kd.R_drew)); exact HO_5.out⟩, ⟨by (with_reducible repeat (first | apply Kd.R_alloc | apply Kd.R_drewN | apply Kd.R_drew)); exact HO_6.out⟩, ⟨by (with_reducible repeat (first | apply Kd.S_alloc | apply Kd.S_drewN | apply Kd.S_drew)); exact HO_7.out⟩, ⟨by (with_reducible repeat (first | refine blk_drewN ?_ _ | refine blk_drew ?_ | refine blk_alloc ?_ _)); exact BK140.out⟩, ⟨by repeat (first | (with_reducible first | exact HB.out | apply below_alloc | apply pw_below_drewN | apply below_drew1 | refine below_set ?_ GE140.out) | exact HB.out)⟩⟩
            case round =>
             clear H'
             try clear c1
             try clear p1
             try clear q1
             try clear hx1
             try clear hf1
             try clear c2
             try clear c2b0
             try clear c2b1
             try clear p2
             try clear q2
             try clear c3
             try clear c3b0
             try clear c3b1
             try clear q3
             try clear c4
             try clear p4
             try clear q4
             try clear hx4
             try clear hf4
             try clear p6
             try clear c13
             try clear c13b0
             try clear c14
             try clear c14b0
             try clear c15
             try clear c15b0
             try clear p15
             try clear q15
             try clear hx15
             try clear p16
             try clear q16
             try clear hx16
             try clear hf16
             try clear c17
             try clear c18
             try clear c25
             try clear c25b0
             try clear c26
             try clear c26b0
             try clear c27
             try clear c27b0
             try clear c28
             try clear c28b0
             try clear q29
             try clear c30
             try clear c31
             try clear c31b0
             try clear c31b1
             try clear c33
             try clear c33b0
             try clear c34
             try clear c34b0
             try clear c35
             try clear c35b0
             try clear q36
             try clear c37
             try clear c40
             try clear c40b0
             try clear p41
             try clear q41
             try clear hx41
             try clear hf41
             try clear c48
             try clear c48b0
             try clear hcz11_0
             try clear hcz11_1
             try clear hcz11_2
             try clear hcz11_3
             try clear hcz11_4
             try clear hcz21_0
             try clear hcz21_1
             try clear hcz21_2
             try clear hcz21_3
             try clear hcz21_4
             try clear hcz6_0
             try clear hcz6_1
             try clear hcz6_2
             try clear hcz6_3
             try clear hcz6_4
             try clear hfz11_0
             try clear hfz11_1
             try clear hfz11_2
             try clear hfz11_3
             try clear hfz11_4
             try clear hfz21_0
             try clear hfz21_1
             try clear hfz21_2
             try clear hfz21_3
             try clear hfz21_4
             try clear hfz6_0
             try clear hfz6_1
             try clear hfz6_2
             try clear hfz6_3
             try clear hfz6_4
             try clear hx157_0
             try clear hx158_0
             try clear hx159_0
             try clear hx160_0
             try clear hx16_0
             try clear hx41_0
             try clear p1
             try clear p15
             try clear p157
             try clear p158
             try clear p159
             try clear p16
             try clear p160
             try clear p2
             try clear p4
             try clear p41
             try clear p6
             try clear q1
             try clear q15
             try clear q157
             try clear q158
             try clear q159
             try clear q16
             try clear q160
             try clear q2
             try clear q29
             try clear q3
             try clear q36
             try clear q4
             try clear q41
             obtain ⟨x4_4, x12_4, rfl, HA, HK4, HO_4, HO_5, HO_6, HO_7, BK140, HB⟩ := hrel
             cases gk with
             | zero => exact absurd HA.out (by simp [spec_l6doms.l4])
             | succ k4 =>
              have H := HA.out
              clear HA
              simp only [spec_l6doms.l4] at H
              by_cases c49 : x12_4 < (l0_4.length : Int)
              ·rw [if_pos c49] at H
               have c49b0 : decide (x12_4 < (l0_4.length : Int)) = true := decide_eq_true c49
               clear c49
               by_cases c50 : 0 ≤ x11_3
               ·rw [if_pos c50] at H
                have c50b0 : decide (0 ≤ x11_3) = true := decide_eq_true c50
                clear c50
                by_cases c51 : x11_3 < (t147.length : Int)
                ·rw [if_pos c51] at H
                 have c51b0 : decide (x11_3 < (t147.length : Int)) = true := decide_eq_true c51
                 clear c51
                 obtain ⟨bq52, hbq52⟩ : ∃ b_ : Bool, b_ = (rdOf false t147 x11_3) := ⟨_, rfl⟩
                 replace H : (if bq52 = true then (if x12_4 = x11_3 then (spec_l6doms.l4 k4 (l0_4.length : Int) x4_4 x5_2 t147 x7_1 x11_3 (wrap64 (x12_4 + 1))) else (if 0 ≤ x12_4 then (if x12_4 < (x7_1.length : Int) then (if x11_3 < ((rd_L13 x7_1 x12_4).length : Int) then (if (rdOf false (rd_L13 x7_1 x12_4) x11_3 = true) then (spec_l6doms.l4 k4 (l0_4.length : Int) x4_4 x5_2 t147 x7_1 x11_3 (wrap64 (x12_4 + 1))) else (if x11_3 < (x4_4.length : Int) then (if (rd x4_4 x11_3) < 0 then (spec_l6doms.l4 k4 (l0_4.length : Int) (x4_4.set (x11_3 : Int).toNat x12_4) x5_2 t147 x7_1 x11_3 (wrap64 (x12_4 + 1))) else (if x12_4 < (x5_2.length : Int) then (if 0 ≤ (rd x4_4 x11_3) then (if (rd x4_4 x11_3) < (x5_2.length : Int) then (if (rd x5_2 x12_4) > (rd x5_2 (rd x4_4 x11_3)) then (spec_l6doms.l4 k4 (l0_4.length : Int) (x4_4.set (x11_3 : Int).toNat x12_4) x5_2 t147 x7_1 x11_3 (wrap64 (x12_4 + 1))) else (spec_l6doms.l4 k4 (l0_4.length : Int) x4_4 x5_2 t147 x7_1 x11_3 (wrap64 (x12_4 + 1)))) else (none)) else (none)) else (none))) else (none))) else (none)) else (none)) else (none))) else (spec_l6doms.l4 k4 (l0_4.length : Int) x4_4 x5_2 t147 x7_1 x11_3 (wrap64 (x12_4 + 1)))) = some r := by rw [← hbq52] at H; exact H
                 have Nbq52 := Aside0.mk hbq52
                 clear hbq52
                 by_cases c53 : bq52 = true
                 ·subst c53
                  have H1 : (if x12_4 = x11_3 then (spec_l6doms.l4 k4 (l0_4.length : Int) x4_4 x5_2 t147 x7_1 x11_3 (wrap64 (x12_4 + 1))) else (if 0 ≤ x12_4 then (if x12_4 < (x7_1.length : Int) then (if x11_3 < ((rd_L13 x7_1 x12_4).length : Int) then (if (rdOf false (rd_L13 x7_1 x12_4) x11_3 = true) then (spec_l6doms.l4 k4 (l0_4.length : Int) x4_4 x5_2 t147 x7_1 x11_3 (wrap64 (x12_4 + 1))) else (if x11_3 < (x4_4.length : Int) then (if (rd x4_4 x11_3) < 0 then (spec_l6doms.l4 k4 (l0_4.length : Int) (x4_4.set (x11_3 : Int).toNat x12_4) x5_2 t147 x7_1 x11_3 (wrap64 (x12_4 + 1))) else (if x12_4 < (x5_2.length : Int) then (if 0 ≤ (rd x4_4 x11_3) then (if (rd x4_4 x11_3) < (x5_2.length : Int) then (if (rd x5_2 x12_4) > (rd x5_2 (rd x4_4 x11_3)) then (spec_l6doms.l4 k4 (l0_4.length : Int) (x4_4.set (x11_3 : Int).toNat x12_4) x5_2 t147 x7_1 x11_3 (wrap64 (x12_4 + 1))) else (spec_l6doms.l4 k4 (l0_4.length : Int) x4_4 x5_2 t147 x7_1 x11_3 (wrap64 (x12_4 + 1)))) else (none)) else (none)) else (none))) else (none))) else (none)) else (none)) else (none))) = some r := by rw [if_pos rfl] at H; exact H
                  clear H
                  have H := H1
                  clear H1
                  by_cases c54 : x12_4 = x11_3
                  ·rw [if_pos c54] at H
                   have c54b0 : (x12_4 == x11_3) = true := beq_iff_eq.mpr c54
                   have c54b1 : (x12_4 != x11_3) = false := bne_eq_false_iff_eq.mpr c54
                   clear c54
                   have H' := Aside0.mk H
                   clear H
                   obtain ⟨Ao55, co55, eo55⟩ := Kd.R_slice HO_6.out
                   subst eo55
                   have p162 : 0 ≤ (x11_3 : Int) := of_decide_eq_true (by first | (with_reducible assumption) | assumption)
                   have q162 : x11_3 < (t147.length : Int) := of_decide_eq_true (by first | (with_reducible assumption) | assumption)
                   obtain ⟨ad162, e162, hx162_0⟩ := Kd.at_bool (Kd.R_reads' HO_6.out).2.2 x11_3 p162 q162
                   (try rw [← Nbq52.out] at hx162_0)
                   cases e162
                   replace p162 := eq_true p162
                   replace q162 := eq_true q162
                   go_wp2
                   repeat (go_quiet (fail); try go_wp2)
                   go_roundg k4
                   case measure => have := HK1.out; have := HK2.out; have := HK3.out; have := HK4.out; omega
                   case rel => exact ⟨(x4_4), (wrap64 (x12_4 + 1)), (by first | rfl | (simp; done) | (simp [*]; done)), H', ⟨by have := HK1.out; have := HK2.out; have := HK3.out; have := HK4.out; omega⟩, ⟨by (with_reducible repeat (first | apply Kd.R_alloc | apply Kd.R_drewN | apply Kd.R_drew)); exact HO_4.out⟩, ⟨by (with_reducible repeat (first | apply Kd.R_alloc | apply Kd.R_drewN | apply Kd.R_drew)); exact HO_5.out⟩, ⟨by (with_reducible repeat (first | apply Kd.R_alloc | apply Kd.R_drewN | apply Kd.R_drew)); exact HO_6.out⟩, ⟨by (with_reducible repeat (first | apply Kd.S_alloc | apply Kd.S_drewN | apply Kd.S_drew)); exact HO_7.out⟩, ⟨by (with_reducible repeat (first | refine blk_drewN ?_ _ | refine blk_drew ?_ | refine blk_alloc ?_ _)); exact BK140.out⟩, ⟨by repeat (first | (with_reducible first | exact HB.out | apply below_alloc | apply pw_below_drewN | apply below_drew1 | refine below_set ?_ GE140.out) | exact HB.out)⟩⟩
                  ·rw [if_neg c54] at H
                   have c54b0 : (x12_4 == x11_3) = false := beq_eq_false_iff_ne.mpr c54
                   have c54b1 : (x12_4 != x11_3) = true := bne_iff_ne.mpr c54
                   by_cases c56 : 0 ≤ x12_4
                   ·rw [if_pos c56] at H
                    have c56b0 : decide (0 ≤ x12_4) = true := decide_eq_true c56
                    clear c56
                    by_cases c57 : x12_4 < (x7_1.length : Int)
                    ·rw [if_pos c57] at H
                     have c57b0 : decide (x12_4 < (x7_1.length : Int)) = true := decide_eq_true c57
                     clear c57
                     by_cases c58 : x11_3 < ((rd_L13 x7_1 x12_4).length : Int)
                     ·rw [if_pos c58] at H
                      have c58b0 : decide (x11_3 < ((rd_L13 x7_1 x12_4).length : Int)) = true := decide_eq_true c58
                      clear c58
                      obtain ⟨bq59, hbq59⟩ : ∃ b_ : Bool, b_ = (rdOf false (rd_L13 x7_1 x12_4) x11_3) := ⟨_, rfl⟩
                      replace H : (if (bq59 = true) then (spec_l6doms.l4 k4 (l0_4.length : Int) x4_4 x5_2 t147 x7_1 x11_3 (wrap64 (x12_4 + 1))) else (if x11_3 < (x4_4.length : Int) then (if (rd x4_4 x11_3) < 0 then (spec_l6doms.l4 k4 (l0_4.length : Int) (x4_4.set (x11_3 : Int).toNat x12_4) x5_2 t147 x7_1 x11_3 (wrap64 (x12_4 + 1))) else (if x12_4 < (x5_2.length : Int) then (if 0 ≤ (rd x4_4 x11_3) then (if (rd x4_4 x11_3) < (x5_2.length : Int) then (if (rd x5_2 x12_4) > (rd x5_2 (rd x4_4 x11_3)) then (spec_l6doms.l4 k4 (l0_4.length : Int) (x4_4.set (x11_3 : Int).toNat x12_4) x5_2 t147 x7_1 x11_3 (wrap64 (x12_4 + 1))) else (spec_l6doms.l4 k4 (l0_4.length : Int) x4_4 x5_2 t147 x7_1 x11_3 (wrap64 (x12_4 + 1)))) else (none)) else (none)) else (none))) else (none))) = some r := by rw [← hbq59] at H; exact H
                      have Nbq59 := Aside0.mk hbq59
                      clear hbq59
                      by_cases c60 : (bq59 = true)
                      ·subst c60
                       have H1 : (spec_l6doms.l4 k4 (l0_4.length : Int) x4_4 x5_2 t147 x7_1 x11_3 (wrap64 (x12_4 + 1))) = some r := by rw [if_pos rfl] at H; exact H
                       clear H
                       have H := H1
                       clear H1
                       have H' := Aside0.mk H
                       clear H
                       obtain ⟨Ao61, co61, eo61⟩ := Kd.R_slice HO_6.out
                       subst eo61
                       have p162 : 0 ≤ (x11_3 : Int) := of_decide_eq_true (by first | (with_reducible assumption) | assumption)
                       have q162 : x11_3 < (t147.length : Int) := of_decide_eq_true (by first | (with_reducible assumption) | assumption)
                       obtain ⟨ad162, e162, hx162_0⟩ := Kd.at_bool (Kd.R_reads' HO_6.out).2.2 x11_3 p162 q162
                       (try rw [← Nbq52.out] at hx162_0)
                       (try rw [← Nbq59.out] at hx162_0)
                       cases e162
                       replace p162 := eq_true p162
                       replace q162 := eq_true q162
                       obtain ⟨Ao62, co62, eo62⟩ := Kd.S_slice HO_7.out
                       subst eo62
                       have p163 : 0 ≤ (x12_4 : Int) := of_decide_eq_true (by first | (with_reducible assumption) | assumption)
                       have q163 : x12_4 < (x7_1.length : Int) := of_decide_eq_true (by first | (with_reducible assumption) | assumption)
                       obtain ⟨ad163, A163_0, c163_0, e163, hx163_0, hl163_0, hi163_0⟩ := at_L13 (Kd.S_reads' HO_7.out).2.2 x12_4 p163 q163
                       cases e163
                       obtain ⟨ce163, hce163, hMe163, hcc163⟩ := Kd.S_get HO_7.out [] x12_4 p163 (by first | exact q163 | exact of_decide_eq_true (by first | (with_reducible assumption) | assumption) | (have e_ := (Kd.S_reads' HO_7.out).1; omega))
                       obtain ⟨ve163_0, rfl, ge163_0⟩ := hMe163
                       have hv163_0 := hcc163 0 _ rfl
                       rw [Nat.add_zero, show ((Kd.slice 4 Kd.bool)).sz = 1 from rfl, Nat.mul_one] at hv163_0
                       replace hv163_0 := Option.some.inj (hv163_0.symm.trans hx163_0)
                       rw [hv163_0] at ge163_0
                       have HL163_0 := Aside0.mk (show Kd.R Kd.bool 4 _ _ _ _ (rd_L13 x7_1 x12_4) from ge163_0)
                       clear hv163_0 ge163_0
                       clear hcc163 hce163
                       have HR163_0 := Aside0.mk hi163_0
                       have HC163_0 := Aside0.mk hl163_0
                       clear hi163_0 hl163_0
                       replace p163 := eq_true p163
                       replace q163 := eq_true q163
                       have p164 : 0 ≤ (x11_3 : Int) := of_decide_eq_true (by first | (with_reducible assumption) | assumption)
                       have q164 : x11_3 < ((rd_L13 x7_1 x12_4).length : Int) := of_decide_eq_true (by first | (with_reducible assumption) | assumption)
                       obtain ⟨ad164, e164, hx164_0⟩ := Kd.at_bool (by repeat (first | (with_reducible exact HR163_0.out) | (with_reducible refine Kd.C_alloc ?_ _) | (with_reducible refine Kd.C_drewN ?_ _) | (with_reducible refine Kd.C_drew ?_) | exact HR163_0.out)) x11_3 p164 q164
                       (try rw [← Nbq52.out] at hx164_0)
                       (try rw [← Nbq59.out] at hx164_0)
                       cases e164
                       replace p164 := eq_true p164
                       replace q164 := eq_true q164
                       go_wp2
                       repeat (go_quiet (fail); try go_wp2)
                       go_roundg k4
                       case measure => have := HK1.out; have := HK2.out; have := HK3.out; have := HK4.out; omega
                       case rel => exact ⟨(x4_4), (wrap64 (x12_4 + 1)), (by first | rfl | (simp; done) | (simp [*]; done)), H', ⟨by have := HK1.out; have := HK2.out; have := HK3.out; have := HK4.out; omega⟩, ⟨by (with_reducible repeat (first | apply Kd.R_alloc | apply Kd.R_drewN | apply Kd.R_drew)); exact HO_4.out⟩, ⟨by (with_reducible repeat (first | apply Kd.R_alloc | apply Kd.R_drewN | apply Kd.R_drew)); exact HO_5.out⟩, ⟨by (with_reducible repeat (first | apply Kd.R_alloc | apply Kd.R_drewN | apply Kd.R_drew)); exact HO_6.out⟩, ⟨by (with_reducible repeat (first | apply Kd.S_alloc | apply Kd.S_drewN | apply Kd.S_drew)); exact HO_7.out⟩, ⟨by (with_reducible repeat (first | refine blk_drewN ?_ _ | refine blk_drew ?_ | refine blk_alloc ?_ _)); exact BK140.out⟩, ⟨by repeat (first | (with_reducible first | exact HB.out | apply below_alloc | apply pw_below_drewN | apply below_drew1 | refine below_set ?_ GE140.out) | exact HB.out)⟩⟩
                      ·replace c60 := Bool.eq_false_iff.mpr c60
                       subst c60
                       have H1 : (if x11_3 < (x4_4.length : Int) then (if (rd x4_4 x11_3) < 0 then (spec_l6doms.l4 k4 (l0_4.length : Int) (x4_4.set (x11_3 : Int).toNat x12_4) x5_2 t147 x7_1 x11_3 (wrap64 (x12_4 + 1))) else (if x12_4 < (x5_2.length : Int) then (if 0 ≤ (rd x4_4 x11_3) then (if (rd x4_4 x11_3) < (x5_2.length : Int) then (if (rd x5_2 x12_4) > (rd x5_2 (rd x4_4 x11_3)) then (spec_l6doms.l4 k4 (l0_4.length : Int) (x4_4.set (x11_3 : Int).toNat x12_4) x5_2 t147 x7_1 x11_3 (wrap64 (x12_4 + 1))) else (spec_l6doms.l4 k4 (l0_4.length : Int) x4_4 x5_2 t147 x7_1 x11_3 (wrap64 (x12_4 + 1)))) else (none)) else (none)) else (none))) else (none)) = some r := by rw [if_neg (show ¬ (false = true) by decide)] at H; exact H
                       clear H
                       have H := H1
                       clear H1
                       by_cases c63 : x11_3 < (x4_4.length : Int)
                       ·rw [if_pos c63] at H
                        have c63b0 : decide (x11_3 < (x4_4.length : Int)) = true := decide_eq_true c63
                        clear c63
                        by_cases c64 : (rd x4_4 x11_3) < 0
                        ·rw [if_pos c64] at H
                         have c64b0 : decide ((rd x4_4 x11_3) < 0) = true := decide_eq_true c64
                         clear c64
                         obtain ⟨y166, hy166⟩ : ∃ y_ : List Int, y_ = (x4_4.set (x11_3 : Int).toNat x12_4) := ⟨_, rfl⟩
                         replace H : (spec_l6doms.l4 k4 (l0_4.length : Int) y166 x5_2 t147 x7_1 x11_3 (wrap64 (x12_4 + 1))) = some r := by first | (rw [hy166]; with_reducible exact H) | (have H2_ := (Option.bind_some _ _).symm.trans H; rw [hy166]; with_reducible exact H2_) | (have H2_ := (Option.bind_some _ _).symm.trans H; with_reducible exact H2_) | with_reducible exact H | (rw [hy166]; exact H) | exact H
                         have Ny166 := Aside0.mk hy166
                         clear hy166
                         have H' := Aside0.mk H
                         clear H
                         obtain ⟨Ao66, co66, eo66⟩ := Kd.R_slice HO_6.out
                         subst eo66
                         have p162 : 0 ≤ (x11_3 : Int) := of_decide_eq_true (by first | (with_reducible assumption) | assumption)
                         have q162 : x11_3 < (t147.length : Int) := of_decide_eq_true (by first | (with_reducible assumption) | assumption)
                         obtain ⟨ad162, e162, hx162_0⟩ := Kd.at_bool (Kd.R_reads' HO_6.out).2.2 x11_3 p162 q162
                         (try rw [← Nbq52.out] at hx162_0)
                         (try rw [← Nbq59.out] at hx162_0)
                         cases e162
                         replace p162 := eq_true p162
                         replace q162 := eq_true q162
                         obtain ⟨Ao67, co67, eo67⟩ := Kd.S_slice HO_7.out
                         subst eo67
                         have p163 : 0 ≤ (x12_4 : Int) := of_decide_eq_true (by first | (with_reducible assumption) | assumption)
                         have q163 : x12_4 < (x7_1.length : Int) := of_decide_eq_true (by first | (with_reducible assumption) | assumption)
                         obtain ⟨ad163, A163_0, c163_0, e163, hx163_0, hl163_0, hi163_0⟩ := at_L13 (Kd.S_reads' HO_7.out).2.2 x12_4 p163 q163
                         cases e163
                         obtain ⟨ce163, hce163, hMe163, hcc163⟩ := Kd.S_get HO_7.out [] x12_4 p163 (by first | exact q163 | exact of_decide_eq_true (by first | (with_reducible assumption) | assumption) | (have e_ := (Kd.S_reads' HO_7.out).1; omega))
                         obtain ⟨ve163_0, rfl, ge163_0⟩ := hMe163
                         have hv163_0 := hcc163 0 _ rfl
                         rw [Nat.add_zero, show ((Kd.slice 4 Kd.bool)).sz = 1 from rfl, Nat.mul_one] at hv163_0
                         replace hv163_0 := Option.some.inj (hv163_0.symm.trans hx163_0)
                         rw [hv163_0] at ge163_0
                         have HL163_0 := Aside0.mk (show Kd.R Kd.bool 4 _ _ _ _ (rd_L13 x7_1 x12_4) from ge163_0)
                         clear hv163_0 ge163_0
                         clear hcc163 hce163
                         have HR163_0 := Aside0.mk hi163_0
                         have HC163_0 := Aside0.mk hl163_0
                         clear hi163_0 hl163_0
                         replace p163 := eq_true p163
                         replace q163 := eq_true q163
                         have p164 : 0 ≤ (x11_3 : Int) := of_decide_eq_true (by first | (with_reducible assumption) | assumption)
                         have q164 : x11_3 < ((rd_L13 x7_1 x12_4).length : Int) := of_decide_eq_true (by first | (with_reducible assumption) | assumption)
                         obtain ⟨ad164, e164, hx164_0⟩ := Kd.at_bool (by repeat (first | (with_reducible exact HR163_0.out) | (with_reducible refine Kd.C_alloc ?_ _) | (with_reducible refine Kd.C_drewN ?_ _) | (with_reducible refine Kd.C_drew ?_) | exact HR163_0.out)) x11_3 p164 q164
                         (try rw [← Nbq52.out] at hx164_0)
                         (try rw [← Nbq59.out] at hx164_0)
                         cases e164
                         replace p164 := eq_true p164
                         replace q164 := eq_true q164
                         obtain ⟨Ao68, co68, eo68⟩ := Kd.R_slice HO_4.out
                         subst eo68
                         have p165 : 0 ≤ (x11_3 : Int) := of_decide_eq_true (by first | (with_reducible assumption) | assumption)
                         have q165 : x11_3 < (x4_4.length : Int) := of_decide_eq_true (by first | (with_reducible assumption) | assumption)
                         obtain ⟨ad165, e165, hx165_0⟩ := Kd.at_int (Kd.R_reads' HO_4.out).2.2 x11_3 p165 q165
                         cases e165
                         replace p165 := eq_true p165
                         replace q165 := eq_true q165
                         have p65 : 0 ≤ (x11_3 : Int) := of_decide_eq_true (by first | (with_reducible assumption) | assumption)
                         have q65 : (x11_3 : Int) < ((x4_4.length : Int) : Int) := of_decide_eq_true (by first | (with_reducible assumption) | assumption)
                         obtain ⟨go65, co65, eo65, gb65, gl65, cl65, HG65⟩ := Kd.R_form HO_4.out (by omega)
                         (first | cases eo65 | (injection eo65 with ea_ en_ ec_; (first | subst ea_ | (injection ea_ with ea_; subst ea_)); subst ec_; clear en_))
                         have GB65 := Aside0.mk gb65
                         have GG65 := Aside0.mk HG65
                         clear gb65 gl65 HG65
                         (first | simp only [add_plain] at hx165_0 | skip)
                         obtain ⟨hx65_0, hf65_0⟩ := Kd.R_celln 0 HO_4.out (x11_3 : Int) p65 q65
                         replace p65 := eq_true p65
                         replace q65 := eq_true q65
                         have HP69 := Kd.R_putg HO_4.out (x11_3 : Int) x12_4
                         go_wp2_with (fail)
                         go_quiet (fail)
                         go_wp2_with (first | ((with_reducible refine gate_store (t := 3) (p := 124) rfl ?_); (try (rw [drewN_self wr]; generalize hq_ : World.drewN wr _ = wr; have n0_ := Aside0.mk (Kd.R_at hq_ HO_4.out); have n1_ := Aside0.mk (Kd.R_at hq_ HO_5.out); have n2_ := Aside0.mk (Kd.R_at hq_ HO_6.out); have n3_ := Aside0.mk (Kd.S_at hq_ HO_7.out); have n4_ := Aside0.mk (Kd.R_at hq_ HL163_0.out); have n5_ := Aside0.mk (blk_at hq_ BK140.out); have n6_ := Aside0.mk (below_at hq_ HB.out); clear hq_ HO_4 HO_5 HO_6 HO_7 HL163_0 BK140 HB; have HO_4 := n0_; have HO_5 := n1_; have HO_6 := n2_; have HO_7 := n3_; have HL163_0 := n4_; have BK140 := n5_; have HB := n6_; clear n0_ n1_ n2_ n3_ n4_ n5_ n6_; (try (have HP69 := Kd.R_putg HO_4.out (x11_3 : Int) x12_4)); (try (obtain ⟨hx65_0, hf65_0⟩ := Kd.R_celln 0 HO_4.out (x11_3 : Int) (of_eq_true p65) (of_eq_true q65))))); refine store_event (t := 3) (p := 124) (v := ?vo_w70) (w1 := (wr.setCell ⟨go65, (x11_3 : Int).toNat, none⟩ (.int .i64 x12_4))) ?hg ?ho ?hn ?hr ?_; (case ho => rfl); (case hg => rfl); (case hn => rfl); (case hr => first | (go_simp; done) | (go_simp; rfl)); intro w70 hw; have hg : wr.grownBy w70 (some go65) := (by rw [hw]; exact HP69.2); have hp_ : Kd.R (Kd.int .i64) 3 w70 w.heap.size (fun k_ => some k_ ≠ (v145 : Value).ownBlock) (.slice (some ⟨go65, 0, none⟩) x4_4.length co68) y166 := (by rw [hw, Ny166.out]; exact HP69.1); clear HP69; have n0_ := Aside0.mk (hp_); have n1_ := Aside0.mk (Kd.R_after (v := (.slice (some ⟨go65, 0, none⟩) x4_4.length co68)) (v1 := (.slice (some ⟨go65, 0, none⟩) x4_4.length co68)) (ok := (fun _ => True)) (by (with_reducible repeat (first | apply Kd.R_alloc | apply Kd.R_drewN | apply Kd.R_drew)); exact Kd.R_mono HO_5.out (fun _ hk => ⟨trivial, hk⟩)) hg (.inl rfl)); have n2_ := Aside0.mk (Kd.R_over' (v := (.slice (some ⟨go65, 0, none⟩) x4_4.length co68)) (by (with_reducible repeat (first | apply Kd.R_alloc | apply Kd.R_drewN | apply Kd.R_drew)); exact HO_6.out) (Kd.R_typed HO_4.out) (by decide) hg); have n3_ := Aside0.mk (Kd.S_over' (v := (.slice (some ⟨go65, 0, none⟩) x4_4.length co68)) (by (with_reducible repeat (first | apply Kd.S_alloc | apply Kd.S_drewN | apply Kd.S_drew)); exact HO_7.out) (Kd.R_typed HO_4.out) (by decide) hg); have n4_ := Aside0.mk (blk_grown (g := gb140) (o := .cells #[.slice A0_0 l0_0.length c0_0, .int .i64 a0_1, .int .i64 a0_2, .slice A0_3 l0_3.length c0_3, .slice A0_4 l0_4.length c0_4] 37 (0, 0)) (by (with_reducible repeat (first | refine blk_drewN ?_ _ | refine blk_drew ?_ | refine blk_alloc ?_ _)); exact BK140.out) hg (Kd.R_ne HO_4.out BK140.out (by decide))); have n5_ := Aside0.mk (Kd.R_over' (v := (.slice (some ⟨go65, 0, none⟩) x4_4.length co68)) (by (with_reducible repeat (first | apply Kd.R_alloc | apply Kd.R_drewN | apply Kd.R_drew)); exact HL163_0.out) (Kd.R_typed HO_4.out) (by decide) hg); have n6_ := Aside0.mk ((by rw [hw]; exact below_set (HB.out) GB65.out : Below w.heap.size w w70)); clear HO_4; clear HO_5; clear HO_6; clear HO_7; clear BK140; clear HL163_0; clear HB; have HO_4 := n0_; have HO_5 := n1_; have HO_6 := n2_; have HO_7 := n3_; have BK140 := n4_; have HL163_0 := n5_; have HB := n6_; clear n0_ n1_ n2_ n3_ n4_ n5_ n6_; clear hg hw hp_))
                         go_roundg k4
                         case measure => have := HK1.out; have := HK2.out; have := HK3.out; have := HK4.out; omega
                         case rel => exact ⟨(y166), (wrap64 (x12_4 + 1)), (by first | rfl | (simp; done) | (simp [*]; done)), H', ⟨by have := HK1.out; have := HK2.out; have := HK3.out; have := HK4.out; omega⟩, ⟨by (with_reducible repeat (first | apply Kd.R_alloc | apply Kd.R_drewN | apply Kd.R_drew)); exact HO_4.out⟩, ⟨by (with_reducible repeat (first | apply Kd.R_alloc | apply Kd.R_drewN | apply Kd.R_drew)); exact Kd.R_mono HO_5.out (fun _ hk => hk.2)⟩, ⟨by (with_reducible repeat (first | apply Kd.R_alloc | apply Kd.R_drewN | apply Kd.R_drew)); exact HO_6.out⟩, ⟨by (with_reducible repeat (first | apply Kd.S_alloc | apply Kd.S_drewN | apply Kd.S_drew)); exact HO_7.out⟩, ⟨by (with_reducible repeat (first | refine blk_drewN ?_ _ | refine blk_drew ?_ | refine blk_alloc ?_ _)); exact BK140.out⟩, ⟨by repeat (first | (with_reducible first | exact HB.out | apply below_alloc | apply pw_below_drewN | apply below_drew1 | refine below_set ?_ GE140.out) | exact HB.out)⟩⟩
                        ·rw [if_neg c64] at H
                         have c64b0 : decide ((rd x4_4 x11_3) < 0) = false := decide_eq_false c64
                         clear c64
                         by_cases c71 : x12_4 < (x5_2.length : Int)
                         ·rw [if_pos c71] at H
                          have c71b0 : decide (x12_4 < (x5_2.length : Int)) = true := decide_eq_true c71
                          clear c71
                          by_cases c72 : 0 ≤ (rd x4_4 x11_3)
                          ·rw [if_pos c72] at H
                           have c72b0 : decide (0 ≤ (rd x4_4 x11_3)) = true := decide_eq_true c72
                           clear c72
                           by_cases c73 : (rd x4_4 x11_3) < (x5_2.length : Int)
                           ·rw [if_pos c73] at H
                            have c73b0 : decide ((rd x4_4 x11_3) < (x5_2.length : Int)) = true := decide_eq_true c73
                            clear c73
                            by_cases c74 : (rd x5_2 x12_4) > (rd x5_2 (rd x4_4 x11_3))
                            ·rw [if_pos c74] at H
                             have c74b0 : decide ((rd x5_2 (rd x4_4 x11_3)) < (rd x5_2 x12_4)) = true := decide_eq_true c74
                             clear c74
                             obtain ⟨y170, hy170⟩ : ∃ y_ : List Int, y_ = (x4_4.set (x11_3 : Int).toNat x12_4) := ⟨_, rfl⟩
                             replace H : (spec_l6doms.l4 k4 (l0_4.length : Int) y170 x5_2 t147 x7_1 x11_3 (wrap64 (x12_4 + 1))) = some r := by first | (rw [hy170]; with_reducible exact H) | (have H2_ := (Option.bind_some _ _).symm.trans H; rw [hy170]; with_reducible exact H2_) | (have H2_ := (Option.bind_some _ _).symm.trans H; with_reducible exact H2_) | with_reducible exact H | (rw [hy170]; exact H) | exact H
                             have Ny170 := Aside0.mk hy170
                             clear hy170
                             have H' := Aside0.mk H
                             clear H
                             obtain ⟨Ao76, co76, eo76⟩ := Kd.R_slice HO_6.out
                             subst eo76
                             have p162 : 0 ≤ (x11_3 : Int) := of_decide_eq_true (by first | (with_reducible assumption) | assumption)
                             have q162 : x11_3 < (t147.length : Int) := of_decide_eq_true (by first | (with_reducible assumption) | assumption)
                             obtain ⟨ad162, e162, hx162_0⟩ := Kd.at_bool (Kd.R_reads' HO_6.out).2.2 x11_3 p162 q162
                             (try rw [← Nbq52.out] at hx162_0)
                             (try rw [← Nbq59.out] at hx162_0)
                             cases e162
                             replace p162 := eq_true p162
                             replace q162 := eq_true q162
                             obtain ⟨Ao77, co77, eo77⟩ := Kd.S_slice HO_7.out
                             subst eo77
                             have p163 : 0 ≤ (x12_4 : Int) := of_decide_eq_true (by first | (with_reducible assumption) | assumption)
                             have q163 : x12_4 < (x7_1.length : Int) := of_decide_eq_true (by first | (with_reducible assumption) | assumption)
                             obtain ⟨ad163, A163_0, c163_0, e163, hx163_0, hl163_0, hi163_0⟩ := at_L13 (Kd.S_reads' HO_7.out).2.2 x12_4 p163 q163
                             cases e163
                             obtain ⟨ce163, hce163, hMe163, hcc163⟩ := Kd.S_get HO_7.out [] x12_4 p163 (by first | exact q163 | exact of_decide_eq_true (by first | (with_reducible assumption) | assumption) | (have e_ := (Kd.S_reads' HO_7.out).1; omega))
                             obtain ⟨ve163_0, rfl, ge163_0⟩ := hMe163
                             have hv163_0 := hcc163 0 _ rfl
                             rw [Nat.add_zero, show ((Kd.slice 4 Kd.bool)).sz = 1 from rfl, Nat.mul_one] at hv163_0
                             replace hv163_0 := Option.some.inj (hv163_0.symm.trans hx163_0)
                             rw [hv163_0] at ge163_0
                             have HL163_0 := Aside0.mk (show Kd.R Kd.bool 4 _ _ _ _ (rd_L13 x7_1 x12_4) from ge163_0)
                             clear hv163_0 ge163_0
                             clear hcc163 hce163
                             have HR163_0 := Aside0.mk hi163_0
                             have HC163_0 := Aside0.mk hl163_0
                             clear hi163_0 hl163_0
                             replace p163 := eq_true p163
                             replace q163 := eq_true q163
                             have p164 : 0 ≤ (x11_3 : Int) := of_decide_eq_true (by first | (with_reducible assumption) | assumption)
                             have q164 : x11_3 < ((rd_L13 x7_1 x12_4).length : Int) := of_decide_eq_true (by first | (with_reducible assumption) | assumption)
                             obtain ⟨ad164, e164, hx164_0⟩ := Kd.at_bool (by repeat (first | (with_reducible exact HR163_0.out) | (with_reducible refine Kd.C_alloc ?_ _) | (with_reducible refine Kd.C_drewN ?_ _) | (with_reducible refine Kd.C_drew ?_) | exact HR163_0.out)) x11_3 p164 q164
                             (try rw [← Nbq52.out] at hx164_0)
                             (try rw [← Nbq59.out] at hx164_0)
                             cases e164
                             replace p164 := eq_true p164
                             replace q164 := eq_true q164
                             obtain ⟨Ao78, co78, eo78⟩ := Kd.R_slice HO_4.out
                             subst eo78
                             have p165 : 0 ≤ (x11_3 : Int) := of_decide_eq_true (by first | (with_reducible assumption) | assumption)
                             have q165 : x11_3 < (x4_4.length : Int) := of_decide_eq_true (by first | (with_reducible assumption) | assumption)
                             obtain ⟨ad165, e165, hx165_0⟩ := Kd.at_int (Kd.R_reads' HO_4.out).2.2 x11_3 p165 q165
                             cases e165
                             replace p165 := eq_true p165
                             replace q165 := eq_true q165
                             obtain ⟨Ao79, co79, eo79⟩ := Kd.R_slice HO_5.out
                             subst eo79
                             have p167 : 0 ≤ (x12_4 : Int) := of_decide_eq_true (by first | (with_reducible assumption) | assumption)
                             have q167 : x12_4 < (x5_2.length : Int) := of_decide_eq_true (by first | (with_reducible assumption) | assumption)
                             obtain ⟨ad167, e167, hx167_0⟩ := Kd.at_int (Kd.R_reads' HO_5.out).2.2 x12_4 p167 q167
                             cases e167
                             replace p167 := eq_true p167
                             replace q167 := eq_true q167
                             have p168 : 0 ≤ (x11_3 : Int) := of_decide_eq_true (by first | (with_reducible assumption) | assumption)
                             have q168 : x11_3 < (x4_4.length : Int) := of_decide_eq_true (by first | (with_reducible assumption) | assumption)
                             obtain ⟨ad168, e168, hx168_0⟩ := Kd.at_int (Kd.R_reads' HO_4.out).2.2 x11_3 p168 q168
                             obtain rfl : ad165 = ad168 := (by injection e168)
                             replace p168 := eq_true p168
                             replace q168 := eq_true q168
                             have p169 : 0 ≤ ((rd x4_4 x11_3) : Int) := of_decide_eq_true (by first | (with_reducible assumption) | assumption)
                             have q169 : (rd x4_4 x11_3) < (x5_2.length : Int) := of_decide_eq_true (by first | (with_reducible assumption) | assumption)
                             obtain ⟨ad169, e169, hx169_0⟩ := Kd.at_int (Kd.R_reads' HO_5.out).2.2 (rd x4_4 x11_3) p169 q169
                             obtain rfl : ad167 = ad169 := (by injection e169)
                             replace p169 := eq_true p169
                             replace q169 := eq_true q169
                             have p75 : 0 ≤ (x11_3 : Int) := of_decide_eq_true (by first | (with_reducible assumption) | assumption)
                             have q75 : (x11_3 : Int) < ((x4_4.length : Int) : Int) := of_decide_eq_true (by first | (with_reducible assumption) | assumption)
                             obtain ⟨go75, co75, eo75, gb75, gl75, cl75, HG75⟩ := Kd.R_form HO_4.out (by omega)
                             (first | cases eo75 | (injection eo75 with ea_ en_ ec_; (first | subst ea_ | (injection ea_ with ea_; subst ea_)); subst ec_; clear en_))
                             have GB75 := Aside0.mk gb75
                             have GG75 := Aside0.mk HG75
                             clear gb75 gl75 HG75
                             (first | simp only [add_plain] at hx165_0 | skip)
                             (first | simp only [add_plain] at hx168_0 | skip)
                             obtain ⟨hx75_0, hf75_0⟩ := Kd.R_celln 0 HO_4.out (x11_3 : Int) p75 q75
                             replace p75 := eq_true p75
                             replace q75 := eq_true q75
                             have HP80 := Kd.R_putg HO_4.out (x11_3 : Int) x12_4
                             go_wp2_with (fail)
                             go_quiet (fail)
                             go_wp2_with (first | ((with_reducible refine gate_store (t := 3) (p := 124) rfl ?_); (try (rw [drewN_self wr]; generalize hq_ : World.drewN wr _ = wr; have n0_ := Aside0.mk (Kd.R_at hq_ HO_4.out); have n1_ := Aside0.mk (Kd.R_at hq_ HO_5.out); have n2_ := Aside0.mk (Kd.R_at hq_ HO_6.out); have n3_ := Aside0.mk (Kd.S_at hq_ HO_7.out); have n4_ := Aside0.mk (Kd.R_at hq_ HL163_0.out); have n5_ := Aside0.mk (blk_at hq_ BK140.out); have n6_ := Aside0.mk (below_at hq_ HB.out); clear hq_ HO_4 HO_5 HO_6 HO_7 HL163_0 BK140 HB; have HO_4 := n0_; have HO_5 := n1_; have HO_6 := n2_; have HO_7 := n3_; have HL163_0 := n4_; have BK140 := n5_; have HB := n6_; clear n0_ n1_ n2_ n3_ n4_ n5_ n6_; (try (have HP80 := Kd.R_putg HO_4.out (x11_3 : Int) x12_4)); (try (obtain ⟨hx75_0, hf75_0⟩ := Kd.R_celln 0 HO_4.out (x11_3 : Int) (of_eq_true p75) (of_eq_true q75))))); refine store_event (t := 3) (p := 124) (v := ?vo_w81) (w1 := (wr.setCell ⟨go75, (x11_3 : Int).toNat, none⟩ (.int .i64 x12_4))) ?hg ?ho ?hn ?hr ?_; (case ho => rfl); (case hg => rfl); (case hn => rfl); (case hr => first | (go_simp; done) | (go_simp; rfl)); intro w81 hw; have hg : wr.grownBy w81 (some go75) := (by rw [hw]; exact HP80.2); have hp_ : Kd.R (Kd.int .i64) 3 w81 w.heap.size (fun k_ => some k_ ≠ (.slice (some ad167) x5_2.length co79 : Value).ownBlock) (.slice (some ⟨go75, 0, none⟩) x4_4.length co78) y170 := (by rw [hw, Ny170.out]; exact HP80.1); clear HP80; have n0_ := Aside0.mk (hp_); have n1_ := Aside0.mk (Kd.R_after (v := (.slice (some ⟨go75, 0, none⟩) x4_4.length co78)) (v1 := (.slice (some ⟨go75, 0, none⟩) x4_4.length co78)) (ok := (fun _ => True)) (by (with_reducible repeat (first | apply Kd.R_alloc | apply Kd.R_drewN | apply Kd.R_drew)); exact Kd.R_mono HO_5.out (fun _ hk => ⟨trivial, hk⟩)) hg (.inl rfl)); have n2_ := Aside0.mk (Kd.R_over' (v := (.slice (some ⟨go75, 0, none⟩) x4_4.length co78)) (by (with_reducible repeat (first | apply Kd.R_alloc | apply Kd.R_drewN | apply Kd.R_drew)); exact HO_6.out) (Kd.R_typed HO_4.out) (by decide) hg); have n3_ := Aside0.mk (Kd.S_over' (v := (.slice (some ⟨go75, 0, none⟩) x4_4.length co78)) (by (with_reducible repeat (first | apply Kd.S_alloc | apply Kd.S_drewN | apply Kd.S_drew)); exact HO_7.out) (Kd.R_typed HO_4.out) (by decide) hg); have n4_ := Aside0.mk (blk_grown (g := gb140) (o := .cells #[.slice A0_0 l0_0.length c0_0, .int .i64 a0_1, .int .i64 a0_2, .slice A0_3 l0_3.length c0_3, .slice A0_4 l0_4.length c0_4] 37 (0, 0)) (by (with_reducible repeat (first | refine blk_drewN ?_ _ | refine blk_drew ?_ | refine blk_alloc ?_ _)); exact BK140.out) hg (Kd.R_ne HO_4.out BK140.out (by decide))); have n5_ := Aside0.mk (Kd.R_over' (v := (.slice (some ⟨go75, 0, none⟩) x4_4.length co78)) (by (with_reducible repeat (first | apply Kd.R_alloc | apply Kd.R_drewN | apply Kd.R_drew)); exact HL163_0.out) (Kd.R_typed HO_4.out) (by decide) hg); have n6_ := Aside0.mk ((by rw [hw]; exact below_set (HB.out) GB75.out : Below w.heap.size w w81)); clear HO_4; clear HO_5; clear HO_6; clear HO_7; clear BK140; clear HL163_0; clear HB; have HO_4 := n0_; have HO_5 := n1_; have HO_6 := n2_; have HO_7 := n3_; have BK140 := n4_; have HL163_0 := n5_; have HB := n6_; clear n0_ n1_ n2_ n3_ n4_ n5_ n6_; clear hg hw hp_))
                             go_roundg k4
                             case measure => have := HK1.out; have := HK2.out; have := HK3.out; have := HK4.out; omega
                             case rel => exact ⟨(y170), (wrap64 (x12_4 + 1)), (by first | rfl | (simp; done) | (simp [*]; done)), H', ⟨by have := HK1.out; have := HK2.out; have := HK3.out; have := HK4.out; omega⟩, ⟨by (with_reducible repeat (first | apply Kd.R_alloc | apply Kd.R_drewN | apply Kd.R_drew)); exact HO_4.out⟩, ⟨by (with_reducible repeat (first | apply Kd.R_alloc | apply Kd.R_drewN | apply Kd.R_drew)); exact Kd.R_mono HO_5.out (fun _ hk => hk.2)⟩, ⟨by (with_reducible repeat (first | apply Kd.R_alloc | apply Kd.R_drewN | apply Kd.R_drew)); exact HO_6.out⟩, ⟨by (with_reducible repeat (first | apply Kd.S_alloc | apply Kd.S_drewN | apply Kd.S_drew)); exact HO_7.out⟩, ⟨by (with_reducible repeat (first | refine blk_drewN ?_ _ | refine blk_drew ?_ | refine blk_alloc ?_ _)); exact BK140.out⟩, ⟨by repeat (first | (with_reducible first | exact HB.out | apply below_alloc | apply pw_below_drewN | apply below_drew1 | refine below_set ?_ GE140.out) | exact HB.out)⟩⟩
                            ·rw [if_neg c74] at H
                             have c74b0 : decide ((rd x5_2 (rd x4_4 x11_3)) < (rd x5_2 x12_4)) = false := decide_eq_false c74
                             clear c74
                             have H' := Aside0.mk H
                             clear H
                             obtain ⟨Ao82, co82, eo82⟩ := Kd.R_slice HO_6.out
                             subst eo82
                             have p162 : 0 ≤ (x11_3 : Int) := of_decide_eq_true (by first | (with_reducible assumption) | assumption)
                             have q162 : x11_3 < (t147.length : Int) := of_decide_eq_true (by first | (with_reducible assumption) | assumption)
                             obtain ⟨ad162, e162, hx162_0⟩ := Kd.at_bool (Kd.R_reads' HO_6.out).2.2 x11_3 p162 q162
                             (try rw [← Nbq52.out] at hx162_0)
                             (try rw [← Nbq59.out] at hx162_0)
                             cases e162
                             replace p162 := eq_true p162
                             replace q162 := eq_true q162
                             obtain ⟨Ao83, co83, eo83⟩ := Kd.S_slice HO_7.out
                             subst eo83
                             have p163 : 0 ≤ (x12_4 : Int) := of_decide_eq_true (by first | (with_reducible assumption) | assumption)
                             have q163 : x12_4 < (x7_1.length : Int) := of_decide_eq_true (by first | (with_reducible assumption) | assumption)
                             obtain ⟨ad163, A163_0, c163_0, e163, hx163_0, hl163_0, hi163_0⟩ := at_L13 (Kd.S_reads' HO_7.out).2.2 x12_4 p163 q163
                             cases e163
                             obtain ⟨ce163, hce163, hMe163, hcc163⟩ := Kd.S_get HO_7.out [] x12_4 p163 (by first | exact q163 | exact of_decide_eq_true (by first | (with_reducible assumption) | assumption) | (have e_ := (Kd.S_reads' HO_7.out).1; omega))
                             obtain ⟨ve163_0, rfl, ge163_0⟩ := hMe163
                             have hv163_0 := hcc163 0 _ rfl
                             rw [Nat.add_zero, show ((Kd.slice 4 Kd.bool)).sz = 1 from rfl, Nat.mul_one] at hv163_0
                             replace hv163_0 := Option.some.inj (hv163_0.symm.trans hx163_0)
                             rw [hv163_0] at ge163_0
                             have HL163_0 := Aside0.mk (show Kd.R Kd.bool 4 _ _ _ _ (rd_L13 x7_1 x12_4) from ge163_0)
                             clear hv163_0 ge163_0
                             clear hcc163 hce163
                             have HR163_0 := Aside0.mk hi163_0
                             have HC163_0 := Aside0.mk hl163_0
                             clear hi163_0 hl163_0
                             replace p163 := eq_true p163
                             replace q163 := eq_true q163
                             have p164 : 0 ≤ (x11_3 : Int) := of_decide_eq_true (by first | (with_reducible assumption) | assumption)
                             have q164 : x11_3 < ((rd_L13 x7_1 x12_4).length : Int) := of_decide_eq_true (by first | (with_reducible assumption) | assumption)
                             obtain ⟨ad164, e164, hx164_0⟩ := Kd.at_bool (by repeat (first | (with_reducible exact HR163_0.out) | (with_reducible refine Kd.C_alloc ?_ _) | (with_reducible refine Kd.C_drewN ?_ _) | (with_reducible refine Kd.C_drew ?_) | exact HR163_0.out)) x11_3 p164 q164
                             (try rw [← Nbq52.out] at hx164_0)
                             (try rw [← Nbq59.out] at hx164_0)
                             cases e164
                             replace p164 := eq_true p164
                             replace q164 := eq_true q164
                             obtain ⟨Ao84, co84, eo84⟩ := Kd.R_slice HO_4.out
                             subst eo84
                             have p165 : 0 ≤ (x11_3 : Int) := of_decide_eq_true (by first | (with_reducible assumption) | assumption)
                             have q165 : x11_3 < (x4_4.length : Int) := of_decide_eq_true (by first | (with_reducible assumption) | assumption)
                             obtain ⟨ad165, e165, hx165_0⟩ := Kd.at_int (Kd.R_reads' HO_4.out).2.2 x11_3 p165 q165
                             cases e165
                             replace p165 := eq_true p165
                             replace q165 := eq_true q165
                             obtain ⟨Ao85, co85, eo85⟩ := Kd.R_slice HO_5.out
                             subst eo85
                             have p167 : 0 ≤ (x12_4 : Int) := of_decide_eq_true (by first | (with_reducible assumption) | assumption)
                             have q167 : x12_4 < (x5_2.length : Int) := of_decide_eq_true (by first | (with_reducible assumption) | assumption)
                             obtain ⟨ad167, e167, hx167_0⟩ := Kd.at_int (Kd.R_reads' HO_5.out).2.2 x12_4 p167 q167
                             cases e167
                             replace p167 := eq_true p167
                             replace q167 := eq_true q167
                             have p168 : 0 ≤ (x11_3 : Int) := of_decide_eq_true (by first | (with_reducible assumption) | assumption)
                             have q168 : x11_3 < (x4_4.length : Int) := of_decide_eq_true (by first | (with_reducible assumption) | assumption)
                             obtain ⟨ad168, e168, hx168_0⟩ := Kd.at_int (Kd.R_reads' HO_4.out).2.2 x11_3 p168 q168
                             obtain rfl : ad165 = ad168 := (by injection e168)
                             replace p168 := eq_true p168
                             replace q168 := eq_true q168
                             have p169 : 0 ≤ ((rd x4_4 x11_3) : Int) := of_decide_eq_true (by first | (with_reducible assumption) | assumption)
                             have q169 : (rd x4_4 x11_3) < (x5_2.length : Int) := of_decide_eq_true (by first | (with_reducible assumption) | assumption)
                             obtain ⟨ad169, e169, hx169_0⟩ := Kd.at_int (Kd.R_reads' HO_5.out).2.2 (rd x4_4 x11_3) p169 q169
                             obtain rfl : ad167 = ad169 := (by injection e169)
                             replace p169 := eq_true p169
                             replace q169 := eq_true q169
                             go_wp2
                             repeat (go_quiet (fail); try go_wp2)
                             go_roundg k4
                             case measure => have := HK1.out; have := HK2.out; have := HK3.out; have := HK4.out; omega
                             case rel => exact ⟨(x4_4), (wrap64 (x12_4 + 1)), (by first | rfl | (simp; done) | (simp [*]; done)), H', ⟨by have := HK1.out; have := HK2.out; have := HK3.out; have := HK4.out; omega⟩, ⟨by (with_reducible repeat (first | apply Kd.R_alloc | apply Kd.R_drewN | apply Kd.R_drew)); exact HO_4.out⟩, ⟨by (with_reducible repeat (first | apply Kd.R_alloc | apply Kd.R_drewN | apply Kd.R_drew)); exact HO_5.out⟩, ⟨by (with_reducible repeat (first | apply Kd.R_alloc | apply Kd.R_drewN | apply Kd.R_drew)); exact HO_6.out⟩, ⟨by (with_reducible repeat (first | apply Kd.S_alloc | apply Kd.S_drewN | apply Kd.S_drew)); exact HO_7.out⟩, ⟨by (with_reducible repeat (first | refine blk_drewN ?_ _ | refine blk_drew ?_ | refine blk_alloc ?_ _)); exact BK140.out⟩, ⟨by repeat (first | (with_reducible first | exact HB.out | apply below_alloc | apply pw_below_drewN | apply below_drew1 | refine below_set ?_ GE140.out) | exact HB.out)⟩⟩
                           ·rw [if_neg c73] at H
                            exact absurd H (by simp)
                          ·rw [if_neg c72] at H
                           exact absurd H (by simp)
                         ·rw [if_neg c71] at H
                          exact absurd H (by simp)
                       ·rw [if_neg c63] at H
                        exact absurd H (by simp)
                     ·rw [if_neg c58] at H
                      exact absurd H (by simp)
                    ·rw [if_neg c57] at H
                     exact absurd H (by simp)
                   ·rw [if_neg c56] at H
                    exact absurd H (by simp)
                 ·replace c53 := Bool.eq_false_iff.mpr c53
                  subst c53
                  have H1 : (spec_l6doms.l4 k4 (l0_4.length : Int) x4_4 x5_2 t147 x7_1 x11_3 (wrap64 (x12_4 + 1))) = some r := by rw [if_neg (show ¬ (false = true) by decide)] at H; exact H
                  clear H
                  have H := H1
                  clear H1
                  have H' := Aside0.mk H
                  clear H
                  obtain ⟨Ao86, co86, eo86⟩ := Kd.R_slice HO_6.out
                  subst eo86
                  have p162 : 0 ≤ (x11_3 : Int) := of_decide_eq_true (by first | (with_reducible assumption) | assumption)
                  have q162 : x11_3 < (t147.length : Int) := of_decide_eq_true (by first | (with_reducible assumption) | assumption)
                  obtain ⟨ad162, e162, hx162_0⟩ := Kd.at_bool (Kd.R_reads' HO_6.out).2.2 x11_3 p162 q162
                  (try rw [← Nbq52.out] at hx162_0)
                  cases e162
                  replace p162 := eq_true p162
                  replace q162 := eq_true q162
                  go_wp2
                  repeat (go_quiet (fail); try go_wp2)
                  go_roundg k4
                  case measure => have := HK1.out; have := HK2.out; have := HK3.out; have := HK4.out; omega
                  case rel => exact ⟨(x4_4), (wrap64 (x12_4 + 1)), (by first | rfl | (simp; done) | (simp [*]; done)), H', ⟨by have := HK1.out; have := HK2.out; have := HK3.out; have := HK4.out; omega⟩, ⟨by (with_reducible repeat (first | apply Kd.R_alloc | apply Kd.R_drewN | apply Kd.R_drew)); exact HO_4.out⟩, ⟨by (with_reducible repeat (first | apply Kd.R_alloc | apply Kd.R_drewN | apply Kd.R_drew)); exact HO_5.out⟩, ⟨by (with_reducible repeat (first | apply Kd.R_alloc | apply Kd.R_drewN | apply Kd.R_drew)); exact HO_6.out⟩, ⟨by (with_reducible repeat (first | apply Kd.S_alloc | apply Kd.S_drewN | apply Kd.S_drew)); exact HO_7.out⟩, ⟨by (with_reducible repeat (first | refine blk_drewN ?_ _ | refine blk_drew ?_ | refine blk_alloc ?_ _)); exact BK140.out⟩, ⟨by repeat (first | (with_reducible first | exact HB.out | apply below_alloc | apply pw_below_drewN | apply below_drew1 | refine below_set ?_ GE140.out) | exact HB.out)⟩⟩
                ·rw [if_neg c51] at H
                 exact absurd H (by simp)
               ·rw [if_neg c50] at H
                exact absurd H (by simp)
              ·rw [if_neg c49] at H
               have c49b0 : decide (x12_4 < (l0_4.length : Int)) = false := decide_eq_false c49
               clear c49
               have H' := Aside0.mk H
               clear H
               go_wp2
               repeat (go_quiet (fail); try go_wp2)
               go_roundg k4
               case measure => have := HK1.out; have := HK2.out; have := HK3.out; have := HK4.out; omega
               case rel => exact ⟨(x4_4), (wrap64 (x11_3 + 1)), (by first | rfl | (simp; done) | (simp [*]; done)), H', ⟨by have := HK1.out; have := HK2.out; have := HK3.out; have := HK4.out; omega⟩, ⟨by (with_reducible repeat (first | apply Kd.R_alloc | apply Kd.R_drewN | apply Kd.R_drew)); exact HO_4.out⟩, ⟨by (with_reducible repeat (first | apply Kd.R_alloc | apply Kd.R_drewN | apply Kd.R_drew)); exact HO_5.out⟩, ⟨by (with_reducible repeat (first | apply Kd.R_alloc | apply Kd.R_drewN | apply Kd.R_drew)); exact HO_6.out⟩, ⟨by (with_reducible repeat (first | apply Kd.S_alloc | apply Kd.S_drewN | apply Kd.S_drew)); exact HO_7.out⟩, ⟨by (with_reducible repeat (first | refine blk_drewN ?_ _ | refine blk_drew ?_ | refine blk_alloc ?_ _)); exact BK140.out⟩, ⟨by repeat (first | (with_reducible first | exact HB.out | apply below_alloc | apply pw_below_drewN | apply below_drew1 | refine below_set ?_ GE140.out) | exact HB.out)⟩⟩
           ·rw [if_neg c48] at H
            have c48b0 : decide (x11_3 < (l0_4.length : Int)) = false := decide_eq_false c48
            clear c48
            obtain rfl := Option.some.inj H
            go_wp2
            repeat (go_quiet (fail); try go_wp2)
            go_ret
            exact ⟨_, by first | rfl | (simp [errW_none, errW_some] <;> rfl) | (simp [*, errW_none, errW_some] <;> rfl), by (with_reducible repeat (first | apply Kd.R_alloc | apply Kd.R_drewN | apply Kd.R_drew)); exact Kd.R_mono HO_4.out (fun _ hk => trivial), by repeat (first | (with_reducible first | exact HB.out | apply below_alloc | apply pw_below_drewN | apply below_drew1 | refine below_set ?_ GE140.out) | exact HB.out)⟩
  ·rw [if_neg c3] at H
   exact absurd H (by simp)
 ·rw [if_neg c2] at H
  exact absurd H (by simp)

end Go.Proofs.Ytlamooicofkjlaa.QFnExactDoms
