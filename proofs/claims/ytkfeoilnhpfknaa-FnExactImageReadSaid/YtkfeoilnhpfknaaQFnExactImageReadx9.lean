-- Laid by a program of this session (wip/myprint) out of the translation, after print.sh's manner.
import Derived.Test.YtkfeoilnhpfknaaQFnExactImageReadx0
import Derived.Test.YtkfeoilnhpfknaaQFnExactImageReadx8
namespace Go.Proofs.Ytkfeoilnhpfknaa.QFnExactImageRead
open Go.RowKit Go.Proofs.YtkfeoilnhpfknaaW.PrintWords Go.Proofs.YtkfeoilnhpfknaaW.PrintLast Go.Proofs.YtkfeoilnhpfknaaW.PrintMore
attribute [local go_sem] max2_int min2_int max_two min_two max_three min_three max_four min_four   -- for this text's walks alone
set_option linter.unusedVariables false
set_option linter.unusedSimpArgs false

/-! ### laws_heldCodeS: function 44 -/
def laws_heldCodeS.l0 : Nat → List (S53) → Int → Int → Option (Int)
  | 0, _, _, _ => none
  | k + 1, x0, x1, x5 => if x5 < (x0.length : Int) then (if 0 ≤ x5 then (if ((rd_T53 x0 x5).f0) = x1 then (if ((rd_T53 x0 x5).f1) = (wrap64 (x1 + 1)) then ((laws_heldInsS.f k ((rd_T53 x0 x5).f2) (wrap64 ((wrap64 (x1 + 1)) + 1))).bind fun t328 => (if t328 < 0 then (some (-1)) else ((laws_heldMapS.f k ((rd_T53 x0 x5).f3) t328).bind fun t330 => (if t330 < 0 then (some (-1)) else (laws_heldCodeS.l0 k x0 t330 (wrap64 (x5 + 1))))))) else (some (-1))) else (some (-1))) else (none)) else (some x1)
def laws_heldCodeS.f (k : Nat) (l0 : List (S53)) (a1 : Int) : Option (Int) := laws_heldCodeS.l0 k l0 a1 0
set_option maxHeartbeats 8000000 in
set_option maxRecDepth 100000 in
theorem laws_heldCodeS.calls (k : Nat) (A0 : Option Addr) (c0 : Nat) (l0 : List (S53)) (a1 : Int) (r : Int) (w : World) (hr0 : Kd.C k53 w A0 l0.length l0) (hc0 : l0.length ≤ c0) (h : laws_heldCodeS.f k l0 a1 = some r) :
    Calls Try.prog 44 #[.slice A0 l0.length c0, .int .i64 a1] w fun e w' => e = .returned (.int .i64 r) ∧ Drawn0 w w' := by
  have HR0 := Aside0.mk hr0
  have HC0 := Aside0.mk hc0
  clear hr0 hc0
  have H : (laws_heldCodeS.l0 k l0 a1 0) = some r := h
  clear h
  have H' := Aside0.mk H
  clear H
  go_enter Try.func44, Try.ntmps44
  go_wp2
  go_loopg [1, 5] k (fun kq v1 v5 w' => ∃ (x1_1 : Int) (x5_1 : Int), v1 = .int .i64 x1_1 ∧ v5 = .int .i64 x5_1 ∧ Aside0 (laws_heldCodeS.l0 kq l0 x1_1 x5_1 = some r) ∧ Aside0 (kq ≤ k) ∧ Drawn0 w w')
  case atStart => exact ⟨(a1), (0), (by first | rfl | (simp; done) | (simp [*]; done)), (by first | rfl | (simp; done) | (simp [*]; done)), H', ⟨Nat.le_refl _⟩, by repeat (first | exact Drawn0.refl _ | apply Drawn0.step)⟩
  case round =>
    clear H'
    try clear p2
    obtain ⟨x1_1, x5_1, rfl, rfl, HA, HK1, ⟨m1, rfl⟩⟩ := hrel
    cases gk with
    | zero => exact absurd HA.out (by simp [laws_heldCodeS.l0])
    | succ k1 =>
      have H := HA.out
      clear HA
      simp only [laws_heldCodeS.l0] at H
      by_cases c3 : x5_1 < (l0.length : Int)
      · rw [if_pos c3] at H
        have c3b0 : decide (x5_1 < (l0.length : Int)) = true := decide_eq_true c3
        clear c3
        by_cases c4 : 0 ≤ x5_1
        · rw [if_pos c4] at H
          have c4b0 : decide (0 ≤ x5_1) = true := decide_eq_true c4
          clear c4
          by_cases c5 : ((rd_T53 l0 x5_1).f0) = x1_1
          · rw [if_pos c5] at H
            have c5b0 : (((rd_T53 l0 x5_1).f0) == x1_1) = true := beq_iff_eq.mpr c5
            have c5b1 : (((rd_T53 l0 x5_1).f0) != x1_1) = false := bne_eq_false_iff_eq.mpr c5
            clear c5
            by_cases c6 : ((rd_T53 l0 x5_1).f1) = (wrap64 (x1_1 + 1))
            · rw [if_pos c6] at H
              have c6b0 : (((rd_T53 l0 x5_1).f1) == (wrap64 (x1_1 + 1))) = true := beq_iff_eq.mpr c6
              have c6b1 : (((rd_T53 l0 x5_1).f1) != (wrap64 (x1_1 + 1))) = false := bne_eq_false_iff_eq.mpr c6
              clear c6
              replace H := Option.bind_eq_some_iff.mp H
              obtain ⟨t328, A70, H⟩ := H
              replace H : (if t328 < 0 then (some (-1)) else ((laws_heldMapS.f k1 ((rd_T53 l0 x5_1).f3) t328).bind fun t330 => (if t330 < 0 then (some (-1)) else (laws_heldCodeS.l0 k1 l0 t330 (wrap64 (x5_1 + 1)))))) = some r := H
              have A7 := Aside0.mk A70
              clear A70
              by_cases c8 : t328 < 0
              · rw [if_pos c8] at H
                have c8b0 : decide (t328 < 0) = true := decide_eq_true c8
                clear c8
                obtain rfl := Option.some.inj H
                have p325 : 0 ≤ (x5_1 : Int) := of_decide_eq_true (by first | (with_reducible assumption) | assumption)
                have q325 : x5_1 < (l0.length : Int) := of_decide_eq_true (by first | (with_reducible assumption) | assumption)
                obtain ⟨ad325, A325_2, c325_2, A325_3, c325_3, e325, hx325_0, hx325_1, hx325_2, hx325_3, hl325_2, hi325_2, hl325_3, hi325_3⟩ := at_T53 HR0.out x5_1 p325 q325
                cases e325
                have HR325_2 := Aside0.mk hi325_2
                have HC325_2 := Aside0.mk hl325_2
                clear hi325_2 hl325_2
                have HR325_3 := Aside0.mk hi325_3
                have HC325_3 := Aside0.mk hl325_3
                clear hi325_3 hl325_3
                replace p325 := eq_true p325
                replace q325 := eq_true q325
                have p326 : 0 ≤ (x5_1 : Int) := of_decide_eq_true (by first | (with_reducible assumption) | assumption)
                have q326 : x5_1 < (l0.length : Int) := of_decide_eq_true (by first | (with_reducible assumption) | assumption)
                obtain ⟨ad326, A326_2, c326_2, A326_3, c326_3, e326, hx326_0, hx326_1, hx326_2, hx326_3, hl326_2, hi326_2, hl326_3, hi326_3⟩ := at_T53 HR0.out x5_1 p326 q326
                obtain rfl : ad325 = ad326 := (by injection e326)
                have HR326_2 := Aside0.mk hi326_2
                have HC326_2 := Aside0.mk hl326_2
                clear hi326_2 hl326_2
                have HR326_3 := Aside0.mk hi326_3
                have HC326_3 := Aside0.mk hl326_3
                clear hi326_3 hl326_3
                replace p326 := eq_true p326
                replace q326 := eq_true q326
                have ea_ := Option.some.inj (hx325_2.symm.trans hx326_2)
                injection ea_ with ea_ en_ ec_
                subst ea_
                subst ec_
                clear en_
                have ea_ := Option.some.inj (hx325_3.symm.trans hx326_3)
                injection ea_ with ea_ en_ ec_
                subst ea_
                subst ec_
                clear en_
                have p327 : 0 ≤ (x5_1 : Int) := of_decide_eq_true (by first | (with_reducible assumption) | assumption)
                have q327 : x5_1 < (l0.length : Int) := of_decide_eq_true (by first | (with_reducible assumption) | assumption)
                obtain ⟨ad327, A327_2, c327_2, A327_3, c327_3, e327, hx327_0, hx327_1, hx327_2, hx327_3, hl327_2, hi327_2, hl327_3, hi327_3⟩ := at_T53 HR0.out x5_1 p327 q327
                obtain rfl : ad325 = ad327 := (by injection e327)
                have HR327_2 := Aside0.mk hi327_2
                have HC327_2 := Aside0.mk hl327_2
                clear hi327_2 hl327_2
                have HR327_3 := Aside0.mk hi327_3
                have HC327_3 := Aside0.mk hl327_3
                clear hi327_3 hl327_3
                replace p327 := eq_true p327
                replace q327 := eq_true q327
                have ea_ := Option.some.inj (hx325_2.symm.trans hx327_2)
                injection ea_ with ea_ en_ ec_
                subst ea_
                subst ec_
                clear en_
                have ea_ := Option.some.inj (hx325_3.symm.trans hx327_3)
                injection ea_ with ea_ en_ ec_
                subst ea_
                subst ec_
                clear en_
                go_wp2_with (first | ((with_reducible refine gate_callee (f := 66) rfl ?_); refine goesL_ (some 36) rfl rfl Try.func66 (by kernel_rfl) rfl #[.slice A325_2 ((rd_T53 l0 x5_1).f2).length c325_2, .int .i64 (wrap64 ((wrap64 (x1_1 + 1)) + 1))] rfl (by (try simp only [List.map_toArray, List.map_cons, List.map_nil]); first | done | rfl | (simp only [List.length_drop, List.length_take]; rfl)) ?_; (with_reducible refine (laws_heldInsS.calls k1 _ _ ((rd_T53 l0 x5_1).f2) (wrap64 ((wrap64 (x1_1 + 1)) + 1)) t328 _ ?side1 ?side2 A7.out).mono ?_); (case side1 => repeat (first | exact HR327_2.out | (with_reducible refine Kd.C_alloc ?_ _) | (with_reducible refine Kd.C_drewN ?_ _) | (with_reducible refine Kd.C_drew ?_))); (case side2 => exact HC327_2.out); rintro e w' ⟨rfl, ⟨nd, rfl⟩⟩; refine ⟨_, rfl, ?_⟩))
                go_ret
                exact ⟨by first | rfl | (simp; done) | (simp [*]; done), by repeat (first | exact Drawn0.refl _ | apply Drawn0.step)⟩
              · rw [if_neg c8] at H
                have c8b0 : decide (t328 < 0) = false := decide_eq_false c8
                clear c8
                replace H := Option.bind_eq_some_iff.mp H
                obtain ⟨t330, A90, H⟩ := H
                replace H : (if t330 < 0 then (some (-1)) else (laws_heldCodeS.l0 k1 l0 t330 (wrap64 (x5_1 + 1)))) = some r := H
                have A9 := Aside0.mk A90
                clear A90
                by_cases c10 : t330 < 0
                · rw [if_pos c10] at H
                  have c10b0 : decide (t330 < 0) = true := decide_eq_true c10
                  clear c10
                  obtain rfl := Option.some.inj H
                  have p325 : 0 ≤ (x5_1 : Int) := of_decide_eq_true (by first | (with_reducible assumption) | assumption)
                  have q325 : x5_1 < (l0.length : Int) := of_decide_eq_true (by first | (with_reducible assumption) | assumption)
                  obtain ⟨ad325, A325_2, c325_2, A325_3, c325_3, e325, hx325_0, hx325_1, hx325_2, hx325_3, hl325_2, hi325_2, hl325_3, hi325_3⟩ := at_T53 HR0.out x5_1 p325 q325
                  cases e325
                  have HR325_2 := Aside0.mk hi325_2
                  have HC325_2 := Aside0.mk hl325_2
                  clear hi325_2 hl325_2
                  have HR325_3 := Aside0.mk hi325_3
                  have HC325_3 := Aside0.mk hl325_3
                  clear hi325_3 hl325_3
                  replace p325 := eq_true p325
                  replace q325 := eq_true q325
                  have p326 : 0 ≤ (x5_1 : Int) := of_decide_eq_true (by first | (with_reducible assumption) | assumption)
                  have q326 : x5_1 < (l0.length : Int) := of_decide_eq_true (by first | (with_reducible assumption) | assumption)
                  obtain ⟨ad326, A326_2, c326_2, A326_3, c326_3, e326, hx326_0, hx326_1, hx326_2, hx326_3, hl326_2, hi326_2, hl326_3, hi326_3⟩ := at_T53 HR0.out x5_1 p326 q326
                  obtain rfl : ad325 = ad326 := (by injection e326)
                  have HR326_2 := Aside0.mk hi326_2
                  have HC326_2 := Aside0.mk hl326_2
                  clear hi326_2 hl326_2
                  have HR326_3 := Aside0.mk hi326_3
                  have HC326_3 := Aside0.mk hl326_3
                  clear hi326_3 hl326_3
                  replace p326 := eq_true p326
                  replace q326 := eq_true q326
                  have ea_ := Option.some.inj (hx325_2.symm.trans hx326_2)
                  injection ea_ with ea_ en_ ec_
                  subst ea_
                  subst ec_
                  clear en_
                  have ea_ := Option.some.inj (hx325_3.symm.trans hx326_3)
                  injection ea_ with ea_ en_ ec_
                  subst ea_
                  subst ec_
                  clear en_
                  have p327 : 0 ≤ (x5_1 : Int) := of_decide_eq_true (by first | (with_reducible assumption) | assumption)
                  have q327 : x5_1 < (l0.length : Int) := of_decide_eq_true (by first | (with_reducible assumption) | assumption)
                  obtain ⟨ad327, A327_2, c327_2, A327_3, c327_3, e327, hx327_0, hx327_1, hx327_2, hx327_3, hl327_2, hi327_2, hl327_3, hi327_3⟩ := at_T53 HR0.out x5_1 p327 q327
                  obtain rfl : ad325 = ad327 := (by injection e327)
                  have HR327_2 := Aside0.mk hi327_2
                  have HC327_2 := Aside0.mk hl327_2
                  clear hi327_2 hl327_2
                  have HR327_3 := Aside0.mk hi327_3
                  have HC327_3 := Aside0.mk hl327_3
                  clear hi327_3 hl327_3
                  replace p327 := eq_true p327
                  replace q327 := eq_true q327
                  have ea_ := Option.some.inj (hx325_2.symm.trans hx327_2)
                  injection ea_ with ea_ en_ ec_
                  subst ea_
                  subst ec_
                  clear en_
                  have ea_ := Option.some.inj (hx325_3.symm.trans hx327_3)
                  injection ea_ with ea_ en_ ec_
                  subst ea_
                  subst ec_
                  clear en_
                  go_wp2_with (first | ((with_reducible refine gate_callee (f := 66) rfl ?_); refine goesL_ (some 36) rfl rfl Try.func66 (by kernel_rfl) rfl #[.slice A325_2 ((rd_T53 l0 x5_1).f2).length c325_2, .int .i64 (wrap64 ((wrap64 (x1_1 + 1)) + 1))] rfl (by (try simp only [List.map_toArray, List.map_cons, List.map_nil]); first | done | rfl | (simp only [List.length_drop, List.length_take]; rfl)) ?_; (with_reducible refine (laws_heldInsS.calls k1 _ _ ((rd_T53 l0 x5_1).f2) (wrap64 ((wrap64 (x1_1 + 1)) + 1)) t328 _ ?side1 ?side2 A7.out).mono ?_); (case side1 => repeat (first | exact HR327_2.out | (with_reducible refine Kd.C_alloc ?_ _) | (with_reducible refine Kd.C_drewN ?_ _) | (with_reducible refine Kd.C_drew ?_))); (case side2 => exact HC327_2.out); rintro e w' ⟨rfl, ⟨nd, rfl⟩⟩; refine ⟨_, rfl, ?_⟩; have p329 : 0 ≤ (x5_1 : Int) := of_decide_eq_true (by first | (with_reducible assumption) | assumption); have q329 : x5_1 < (l0.length : Int) := of_decide_eq_true (by first | (with_reducible assumption) | assumption); obtain ⟨ad329, A329_2, c329_2, A329_3, c329_3, e329, hx329_0, hx329_1, hx329_2, hx329_3, hl329_2, hi329_2, hl329_3, hi329_3⟩ := at_T53 HR0.out x5_1 p329 q329; obtain rfl : ad325 = ad329 := (by injection e329); have HR329_2 := Aside0.mk hi329_2; have HC329_2 := Aside0.mk hl329_2; clear hi329_2 hl329_2; have HR329_3 := Aside0.mk hi329_3; have HC329_3 := Aside0.mk hl329_3; clear hi329_3 hl329_3; replace p329 := eq_true p329; replace q329 := eq_true q329; have ea_ := Option.some.inj (hx325_2.symm.trans hx329_2); injection ea_ with ea_ en_ ec_; subst ea_; subst ec_; clear en_; have ea_ := Option.some.inj (hx325_3.symm.trans hx329_3); injection ea_ with ea_ en_ ec_; subst ea_; subst ec_; clear en_) | ((with_reducible refine gate_callee (f := 67) rfl ?_); refine goesL_ (some 45) rfl rfl Try.func67 (by kernel_rfl) rfl #[.slice A325_3 ((rd_T53 l0 x5_1).f3).length c325_3, .int .i64 t328] rfl (by (try simp only [List.map_toArray, List.map_cons, List.map_nil]); first | done | rfl | (simp only [List.length_drop, List.length_take]; rfl)) ?_; (with_reducible refine (laws_heldMapS.calls k1 _ _ ((rd_T53 l0 x5_1).f3) t328 t330 _ ?side1 ?side2 A9.out).mono ?_); (case side1 => repeat (first | exact HR329_3.out | (with_reducible refine Kd.C_alloc ?_ _) | (with_reducible refine Kd.C_drewN ?_ _) | (with_reducible refine Kd.C_drew ?_))); (case side2 => exact HC329_3.out); rintro e w' ⟨rfl, ⟨nd, rfl⟩⟩; refine ⟨_, rfl, ?_⟩))
                  go_ret
                  exact ⟨by first | rfl | (simp; done) | (simp [*]; done), by repeat (first | exact Drawn0.refl _ | apply Drawn0.step)⟩
                · rw [if_neg c10] at H
                  have c10b0 : decide (t330 < 0) = false := decide_eq_false c10
                  clear c10
                  have H' := Aside0.mk H
                  clear H
                  have p325 : 0 ≤ (x5_1 : Int) := of_decide_eq_true (by first | (with_reducible assumption) | assumption)
                  have q325 : x5_1 < (l0.length : Int) := of_decide_eq_true (by first | (with_reducible assumption) | assumption)
                  obtain ⟨ad325, A325_2, c325_2, A325_3, c325_3, e325, hx325_0, hx325_1, hx325_2, hx325_3, hl325_2, hi325_2, hl325_3, hi325_3⟩ := at_T53 HR0.out x5_1 p325 q325
                  cases e325
                  have HR325_2 := Aside0.mk hi325_2
                  have HC325_2 := Aside0.mk hl325_2
                  clear hi325_2 hl325_2
                  have HR325_3 := Aside0.mk hi325_3
                  have HC325_3 := Aside0.mk hl325_3
                  clear hi325_3 hl325_3
                  replace p325 := eq_true p325
                  replace q325 := eq_true q325
                  have p326 : 0 ≤ (x5_1 : Int) := of_decide_eq_true (by first | (with_reducible assumption) | assumption)
                  have q326 : x5_1 < (l0.length : Int) := of_decide_eq_true (by first | (with_reducible assumption) | assumption)
                  obtain ⟨ad326, A326_2, c326_2, A326_3, c326_3, e326, hx326_0, hx326_1, hx326_2, hx326_3, hl326_2, hi326_2, hl326_3, hi326_3⟩ := at_T53 HR0.out x5_1 p326 q326
                  obtain rfl : ad325 = ad326 := (by injection e326)
                  have HR326_2 := Aside0.mk hi326_2
                  have HC326_2 := Aside0.mk hl326_2
                  clear hi326_2 hl326_2
                  have HR326_3 := Aside0.mk hi326_3
                  have HC326_3 := Aside0.mk hl326_3
                  clear hi326_3 hl326_3
                  replace p326 := eq_true p326
                  replace q326 := eq_true q326
                  have ea_ := Option.some.inj (hx325_2.symm.trans hx326_2)
                  injection ea_ with ea_ en_ ec_
                  subst ea_
                  subst ec_
                  clear en_
                  have ea_ := Option.some.inj (hx325_3.symm.trans hx326_3)
                  injection ea_ with ea_ en_ ec_
                  subst ea_
                  subst ec_
                  clear en_
                  have p327 : 0 ≤ (x5_1 : Int) := of_decide_eq_true (by first | (with_reducible assumption) | assumption)
                  have q327 : x5_1 < (l0.length : Int) := of_decide_eq_true (by first | (with_reducible assumption) | assumption)
                  obtain ⟨ad327, A327_2, c327_2, A327_3, c327_3, e327, hx327_0, hx327_1, hx327_2, hx327_3, hl327_2, hi327_2, hl327_3, hi327_3⟩ := at_T53 HR0.out x5_1 p327 q327
                  obtain rfl : ad325 = ad327 := (by injection e327)
                  have HR327_2 := Aside0.mk hi327_2
                  have HC327_2 := Aside0.mk hl327_2
                  clear hi327_2 hl327_2
                  have HR327_3 := Aside0.mk hi327_3
                  have HC327_3 := Aside0.mk hl327_3
                  clear hi327_3 hl327_3
                  replace p327 := eq_true p327
                  replace q327 := eq_true q327
                  have ea_ := Option.some.inj (hx325_2.symm.trans hx327_2)
                  injection ea_ with ea_ en_ ec_
                  subst ea_
                  subst ec_
                  clear en_
                  have ea_ := Option.some.inj (hx325_3.symm.trans hx327_3)
                  injection ea_ with ea_ en_ ec_
                  subst ea_
                  subst ec_
                  clear en_
                  go_wp2_with (first | ((with_reducible refine gate_callee (f := 66) rfl ?_); refine goesL_ (some 36) rfl rfl Try.func66 (by kernel_rfl) rfl #[.slice A325_2 ((rd_T53 l0 x5_1).f2).length c325_2, .int .i64 (wrap64 ((wrap64 (x1_1 + 1)) + 1))] rfl (by (try simp only [List.map_toArray, List.map_cons, List.map_nil]); first | done | rfl | (simp only [List.length_drop, List.length_take]; rfl)) ?_; (with_reducible refine (laws_heldInsS.calls k1 _ _ ((rd_T53 l0 x5_1).f2) (wrap64 ((wrap64 (x1_1 + 1)) + 1)) t328 _ ?side1 ?side2 A7.out).mono ?_); (case side1 => repeat (first | exact HR327_2.out | (with_reducible refine Kd.C_alloc ?_ _) | (with_reducible refine Kd.C_drewN ?_ _) | (with_reducible refine Kd.C_drew ?_))); (case side2 => exact HC327_2.out); rintro e w' ⟨rfl, ⟨nd, rfl⟩⟩; refine ⟨_, rfl, ?_⟩; have p329 : 0 ≤ (x5_1 : Int) := of_decide_eq_true (by first | (with_reducible assumption) | assumption); have q329 : x5_1 < (l0.length : Int) := of_decide_eq_true (by first | (with_reducible assumption) | assumption); obtain ⟨ad329, A329_2, c329_2, A329_3, c329_3, e329, hx329_0, hx329_1, hx329_2, hx329_3, hl329_2, hi329_2, hl329_3, hi329_3⟩ := at_T53 HR0.out x5_1 p329 q329; obtain rfl : ad325 = ad329 := (by injection e329); have HR329_2 := Aside0.mk hi329_2; have HC329_2 := Aside0.mk hl329_2; clear hi329_2 hl329_2; have HR329_3 := Aside0.mk hi329_3; have HC329_3 := Aside0.mk hl329_3; clear hi329_3 hl329_3; replace p329 := eq_true p329; replace q329 := eq_true q329; have ea_ := Option.some.inj (hx325_2.symm.trans hx329_2); injection ea_ with ea_ en_ ec_; subst ea_; subst ec_; clear en_; have ea_ := Option.some.inj (hx325_3.symm.trans hx329_3); injection ea_ with ea_ en_ ec_; subst ea_; subst ec_; clear en_) | ((with_reducible refine gate_callee (f := 67) rfl ?_); refine goesL_ (some 45) rfl rfl Try.func67 (by kernel_rfl) rfl #[.slice A325_3 ((rd_T53 l0 x5_1).f3).length c325_3, .int .i64 t328] rfl (by (try simp only [List.map_toArray, List.map_cons, List.map_nil]); first | done | rfl | (simp only [List.length_drop, List.length_take]; rfl)) ?_; (with_reducible refine (laws_heldMapS.calls k1 _ _ ((rd_T53 l0 x5_1).f3) t328 t330 _ ?side1 ?side2 A9.out).mono ?_); (case side1 => repeat (first | exact HR329_3.out | (with_reducible refine Kd.C_alloc ?_ _) | (with_reducible refine Kd.C_drewN ?_ _) | (with_reducible refine Kd.C_drew ?_))); (case side2 => exact HC329_3.out); rintro e w' ⟨rfl, ⟨nd, rfl⟩⟩; refine ⟨_, rfl, ?_⟩))
                  go_roundg k1
                  case measure => have := HK1.out; omega
                  case rel => exact ⟨(t330), (wrap64 (x5_1 + 1)), (by first | rfl | (simp; done) | (simp [*]; done)), (by first | rfl | (simp; done) | (simp [*]; done)), H', ⟨by have := HK1.out; omega⟩, by repeat (first | exact Drawn0.refl _ | apply Drawn0.step)⟩
            · rw [if_neg c6] at H
              have c6b0 : (((rd_T53 l0 x5_1).f1) == (wrap64 (x1_1 + 1))) = false := beq_eq_false_iff_ne.mpr c6
              have c6b1 : (((rd_T53 l0 x5_1).f1) != (wrap64 (x1_1 + 1))) = true := bne_iff_ne.mpr c6
              obtain rfl := Option.some.inj H
              have p325 : 0 ≤ (x5_1 : Int) := of_decide_eq_true (by first | (with_reducible assumption) | assumption)
              have q325 : x5_1 < (l0.length : Int) := of_decide_eq_true (by first | (with_reducible assumption) | assumption)
              obtain ⟨ad325, A325_2, c325_2, A325_3, c325_3, e325, hx325_0, hx325_1, hx325_2, hx325_3, hl325_2, hi325_2, hl325_3, hi325_3⟩ := at_T53 HR0.out x5_1 p325 q325
              cases e325
              have HR325_2 := Aside0.mk hi325_2
              have HC325_2 := Aside0.mk hl325_2
              clear hi325_2 hl325_2
              have HR325_3 := Aside0.mk hi325_3
              have HC325_3 := Aside0.mk hl325_3
              clear hi325_3 hl325_3
              replace p325 := eq_true p325
              replace q325 := eq_true q325
              have p326 : 0 ≤ (x5_1 : Int) := of_decide_eq_true (by first | (with_reducible assumption) | assumption)
              have q326 : x5_1 < (l0.length : Int) := of_decide_eq_true (by first | (with_reducible assumption) | assumption)
              obtain ⟨ad326, A326_2, c326_2, A326_3, c326_3, e326, hx326_0, hx326_1, hx326_2, hx326_3, hl326_2, hi326_2, hl326_3, hi326_3⟩ := at_T53 HR0.out x5_1 p326 q326
              obtain rfl : ad325 = ad326 := (by injection e326)
              have HR326_2 := Aside0.mk hi326_2
              have HC326_2 := Aside0.mk hl326_2
              clear hi326_2 hl326_2
              have HR326_3 := Aside0.mk hi326_3
              have HC326_3 := Aside0.mk hl326_3
              clear hi326_3 hl326_3
              replace p326 := eq_true p326
              replace q326 := eq_true q326
              have ea_ := Option.some.inj (hx325_2.symm.trans hx326_2)
              injection ea_ with ea_ en_ ec_
              subst ea_
              subst ec_
              clear en_
              have ea_ := Option.some.inj (hx325_3.symm.trans hx326_3)
              injection ea_ with ea_ en_ ec_
              subst ea_
              subst ec_
              clear en_
              go_wp2
              go_ret
              exact ⟨by first | rfl | (simp; done) | (simp [*]; done), by repeat (first | exact Drawn0.refl _ | apply Drawn0.step)⟩
          · rw [if_neg c5] at H
            have c5b0 : (((rd_T53 l0 x5_1).f0) == x1_1) = false := beq_eq_false_iff_ne.mpr c5
            have c5b1 : (((rd_T53 l0 x5_1).f0) != x1_1) = true := bne_iff_ne.mpr c5
            obtain rfl := Option.some.inj H
            have p325 : 0 ≤ (x5_1 : Int) := of_decide_eq_true (by first | (with_reducible assumption) | assumption)
            have q325 : x5_1 < (l0.length : Int) := of_decide_eq_true (by first | (with_reducible assumption) | assumption)
            obtain ⟨ad325, A325_2, c325_2, A325_3, c325_3, e325, hx325_0, hx325_1, hx325_2, hx325_3, hl325_2, hi325_2, hl325_3, hi325_3⟩ := at_T53 HR0.out x5_1 p325 q325
            cases e325
            have HR325_2 := Aside0.mk hi325_2
            have HC325_2 := Aside0.mk hl325_2
            clear hi325_2 hl325_2
            have HR325_3 := Aside0.mk hi325_3
            have HC325_3 := Aside0.mk hl325_3
            clear hi325_3 hl325_3
            replace p325 := eq_true p325
            replace q325 := eq_true q325
            go_wp2
            go_ret
            exact ⟨by first | rfl | (simp; done) | (simp [*]; done), by repeat (first | exact Drawn0.refl _ | apply Drawn0.step)⟩
        · rw [if_neg c4] at H
          exact absurd H (by simp)
      · rw [if_neg c3] at H
        have c3b0 : decide (x5_1 < (l0.length : Int)) = false := decide_eq_false c3
        clear c3
        obtain rfl := Option.some.inj H
        go_wp2
        go_ret
        exact ⟨by first | rfl | (simp; done) | (simp [*]; done), by repeat (first | exact Drawn0.refl _ | apply Drawn0.step)⟩

/-! ### laws_heldImage: function 20 -/
def laws_heldImage.f (k : Nat) (l0_0 : List (List Bool)) (l0_1 : List (S53)) (a0_2 : Int) (a1 : Int) : Option (Int) := (laws_heldBoolSS.f k l0_0 a1).bind fun t332 => (if t332 < 0 then (some (-1)) else ((laws_heldCodeS.f k l0_1 t332).bind fun t333 => (if t333 < 0 then (some (-1)) else (some t333))))
set_option maxHeartbeats 8000000 in
set_option maxRecDepth 100000 in
theorem laws_heldImage.calls (k : Nat) (A0_0 : Option Addr) (c0_0 : Nat) (l0_0 : List (List Bool)) (A0_1 : Option Addr) (c0_1 : Nat) (l0_1 : List (S53)) (a0_2 : Int) (a1 : Int) (r : Int) (w : World) (hr0_0 : Kd.C (Kd.slice 4 Kd.bool) w A0_0 l0_0.length l0_0) (hc0_0 : l0_0.length ≤ c0_0) (hr0_1 : Kd.C k53 w A0_1 l0_1.length l0_1) (hc0_1 : l0_1.length ≤ c0_1) (h : laws_heldImage.f k l0_0 l0_1 a0_2 a1 = some r) :
    Calls Try.prog 20 #[.agg #[.slice A0_0 l0_0.length c0_0, .slice A0_1 l0_1.length c0_1, .int .i64 a0_2], .int .i64 a1] w fun e w' => e = .returned (.int .i64 r) ∧ Below w.heap.size w w' := by
  have hu30 := Try.underlying30
  have HR0_0 := Aside0.mk hr0_0
  have HC0_0 := Aside0.mk hc0_0
  clear hr0_0 hc0_0
  have HR0_1 := Aside0.mk hr0_1
  have HC0_1 := Aside0.mk hc0_1
  clear hr0_1 hc0_1
  have HB := Aside0.mk (Below.refl w.heap.size w)
  have H : ((laws_heldBoolSS.f k l0_0 a1).bind fun t332 => (if t332 < 0 then (some (-1)) else ((laws_heldCodeS.f k l0_1 t332).bind fun t333 => (if t333 < 0 then (some (-1)) else (some t333))))) = some r := h
  clear h
  replace H := Option.bind_eq_some_iff.mp H
  obtain ⟨t332, A30, H⟩ := H
  replace H : (if t332 < 0 then (some (-1)) else ((laws_heldCodeS.f k l0_1 t332).bind fun t333 => (if t333 < 0 then (some (-1)) else (some t333)))) = some r := H
  have A3 := Aside0.mk A30
  clear A30
  by_cases c4 : t332 < 0
  · rw [if_pos c4] at H
    have c4b0 : decide (t332 < 0) = true := decide_eq_true c4
    clear c4
    obtain rfl := Option.some.inj H
    go_enter Try.func20, Try.ntmps20
    go_wp2_with (first | ((with_reducible refine gate_dst (N := 2) rfl ?_); refine box_event ?hg (N := 2) ?hd (cs := #[.slice A0_0 l0_0.length c0_0, .slice A0_1 l0_1.length c0_1, .int .i64 a0_2]) (t := 30) ?hr ?_; (case hd => rfl); (case hg => rfl); (case hr => first | (go_simp; done) | (go_simp; rfl)); intro gb331 hg w5 hbox hb; have n0_ := Aside0.mk (below_step (by repeat (first | (with_reducible first | exact HB.out | apply below_alloc | apply pw_below_drewN | apply below_drew1) | exact HB.out)) hb); have n1_ := Aside0.mk (hbox); have n2_ := Aside0.mk ((by rw [hg]; exact (below_size (by repeat (first | (with_reducible first | exact HB.out | apply below_alloc | apply pw_below_drewN | apply below_drew1) | exact HB.out))) : w.heap.size ≤ gb331)); have n3_ := Aside0.mk ((by rw [hg]; exact (below_size (by repeat (first | (with_reducible first | exact HB.out | apply below_alloc | apply pw_below_drewN | apply below_drew1) | exact HB.out))) : w.heap.size ≤ gb331)); clear HB; have HB := n0_; have BK331 := n1_; have GW331 := n2_; have GE331 := n3_; clear n0_ n1_ n2_ n3_; clear hb hbox hg; have hcz6_0 : w5.cell? ⟨gb331, 0, none⟩ = some (.slice A0_0 l0_0.length c0_0) := (blk_cell BK331.out 0).trans rfl; have hcz6_1 : w5.cell? ⟨gb331, 1, none⟩ = some (.slice A0_1 l0_1.length c0_1) := (blk_cell BK331.out 1).trans rfl; have hcz6_2 : w5.cell? ⟨gb331, 2, none⟩ = some (.int .i64 a0_2) := (blk_cell BK331.out 2).trans rfl; have hfz6_0 := blk_frozen BK331.out 0; have hfz6_1 := blk_frozen BK331.out 1; have hfz6_2 := blk_frozen BK331.out 2) | ((with_reducible refine gate_callee (f := 43) rfl ?_); refine goesL_ (some 8) rfl rfl Try.func43 (by kernel_rfl) rfl #[.slice A0_0 l0_0.length c0_0, .int .i64 a1] rfl (by (try simp only [List.map_toArray, List.map_cons, List.map_nil]); first | done | rfl | (simp only [List.length_drop, List.length_take]; rfl)) ?_; (with_reducible refine (laws_heldBoolSS.calls k _ _ l0_0 a1 t332 _ ?side1 ?side2 A3.out).mono ?_); (case side1 => repeat (first | exact (Kd.C_below HR0_0.out HB.out) | (with_reducible refine Kd.C_alloc ?_ _) | (with_reducible refine Kd.C_drewN ?_ _) | (with_reducible refine Kd.C_drew ?_))); (case side2 => exact HC0_0.out); rintro e w' ⟨rfl, ⟨nd, rfl⟩⟩; refine ⟨_, rfl, ?_⟩))
    go_ret
    exact ⟨by first | rfl | (simp [errW_none, errW_some] <;> rfl) | (simp [*, errW_none, errW_some] <;> rfl), by repeat (first | (with_reducible first | exact HB.out | apply below_alloc | apply pw_below_drewN | apply below_drew1 | refine below_set ?_ GE331.out) | exact HB.out)⟩
  · rw [if_neg c4] at H
    have c4b0 : decide (t332 < 0) = false := decide_eq_false c4
    clear c4
    replace H := Option.bind_eq_some_iff.mp H
    obtain ⟨t333, A70, H⟩ := H
    replace H : (if t333 < 0 then (some (-1)) else (some t333)) = some r := H
    have A7 := Aside0.mk A70
    clear A70
    by_cases c8 : t333 < 0
    · rw [if_pos c8] at H
      have c8b0 : decide (t333 < 0) = true := decide_eq_true c8
      clear c8
      obtain rfl := Option.some.inj H
      go_enter Try.func20, Try.ntmps20
      go_wp2_with (first | ((with_reducible refine gate_dst (N := 2) rfl ?_); refine box_event ?hg (N := 2) ?hd (cs := #[.slice A0_0 l0_0.length c0_0, .slice A0_1 l0_1.length c0_1, .int .i64 a0_2]) (t := 30) ?hr ?_; (case hd => rfl); (case hg => rfl); (case hr => first | (go_simp; done) | (go_simp; rfl)); intro gb331 hg w9 hbox hb; have n0_ := Aside0.mk (below_step (by repeat (first | (with_reducible first | exact HB.out | apply below_alloc | apply pw_below_drewN | apply below_drew1) | exact HB.out)) hb); have n1_ := Aside0.mk (hbox); have n2_ := Aside0.mk ((by rw [hg]; exact (below_size (by repeat (first | (with_reducible first | exact HB.out | apply below_alloc | apply pw_below_drewN | apply below_drew1) | exact HB.out))) : w.heap.size ≤ gb331)); have n3_ := Aside0.mk ((by rw [hg]; exact (below_size (by repeat (first | (with_reducible first | exact HB.out | apply below_alloc | apply pw_below_drewN | apply below_drew1) | exact HB.out))) : w.heap.size ≤ gb331)); clear HB; have HB := n0_; have BK331 := n1_; have GW331 := n2_; have GE331 := n3_; clear n0_ n1_ n2_ n3_; clear hb hbox hg; have hcz10_0 : w9.cell? ⟨gb331, 0, none⟩ = some (.slice A0_0 l0_0.length c0_0) := (blk_cell BK331.out 0).trans rfl; have hcz10_1 : w9.cell? ⟨gb331, 1, none⟩ = some (.slice A0_1 l0_1.length c0_1) := (blk_cell BK331.out 1).trans rfl; have hcz10_2 : w9.cell? ⟨gb331, 2, none⟩ = some (.int .i64 a0_2) := (blk_cell BK331.out 2).trans rfl; have hfz10_0 := blk_frozen BK331.out 0; have hfz10_1 := blk_frozen BK331.out 1; have hfz10_2 := blk_frozen BK331.out 2) | ((with_reducible refine gate_callee (f := 43) rfl ?_); refine goesL_ (some 8) rfl rfl Try.func43 (by kernel_rfl) rfl #[.slice A0_0 l0_0.length c0_0, .int .i64 a1] rfl (by (try simp only [List.map_toArray, List.map_cons, List.map_nil]); first | done | rfl | (simp only [List.length_drop, List.length_take]; rfl)) ?_; (with_reducible refine (laws_heldBoolSS.calls k _ _ l0_0 a1 t332 _ ?side1 ?side2 A3.out).mono ?_); (case side1 => repeat (first | exact (Kd.C_below HR0_0.out HB.out) | (with_reducible refine Kd.C_alloc ?_ _) | (with_reducible refine Kd.C_drewN ?_ _) | (with_reducible refine Kd.C_drew ?_))); (case side2 => exact HC0_0.out); rintro e w' ⟨rfl, ⟨nd, rfl⟩⟩; refine ⟨_, rfl, ?_⟩) | ((with_reducible refine gate_callee (f := 44) rfl ?_); refine goesL_ (some 14) rfl rfl Try.func44 (by kernel_rfl) rfl #[.slice A0_1 l0_1.length c0_1, .int .i64 t332] rfl (by (try simp only [List.map_toArray, List.map_cons, List.map_nil]); first | done | rfl | (simp only [List.length_drop, List.length_take]; rfl)) ?_; (with_reducible refine (laws_heldCodeS.calls k _ _ l0_1 t332 t333 _ ?side1 ?side2 A7.out).mono ?_); (case side1 => repeat (first | exact (Kd.C_below HR0_1.out (by repeat (first | (with_reducible first | exact HB.out | apply below_alloc | apply pw_below_drewN | apply below_drew1 | refine below_set ?_ GE331.out) | exact HB.out))) | (with_reducible refine Kd.C_alloc ?_ _) | (with_reducible refine Kd.C_drewN ?_ _) | (with_reducible refine Kd.C_drew ?_))); (case side2 => exact HC0_1.out); rintro e w' ⟨rfl, ⟨nd, rfl⟩⟩; refine ⟨_, rfl, ?_⟩))
      go_ret
      exact ⟨by first | rfl | (simp [errW_none, errW_some] <;> rfl) | (simp [*, errW_none, errW_some] <;> rfl), by repeat (first | (with_reducible first | exact HB.out | apply below_alloc | apply pw_below_drewN | apply below_drew1 | refine below_set ?_ GE331.out) | exact HB.out)⟩
    · rw [if_neg c8] at H
      have c8b0 : decide (t333 < 0) = false := decide_eq_false c8
      clear c8
      obtain rfl := Option.some.inj H
      go_enter Try.func20, Try.ntmps20
      go_wp2_with (first | ((with_reducible refine gate_dst (N := 2) rfl ?_); refine box_event ?hg (N := 2) ?hd (cs := #[.slice A0_0 l0_0.length c0_0, .slice A0_1 l0_1.length c0_1, .int .i64 a0_2]) (t := 30) ?hr ?_; (case hd => rfl); (case hg => rfl); (case hr => first | (go_simp; done) | (go_simp; rfl)); intro gb331 hg w11 hbox hb; have n0_ := Aside0.mk (below_step (by repeat (first | (with_reducible first | exact HB.out | apply below_alloc | apply pw_below_drewN | apply below_drew1) | exact HB.out)) hb); have n1_ := Aside0.mk (hbox); have n2_ := Aside0.mk ((by rw [hg]; exact (below_size (by repeat (first | (with_reducible first | exact HB.out | apply below_alloc | apply pw_below_drewN | apply below_drew1) | exact HB.out))) : w.heap.size ≤ gb331)); have n3_ := Aside0.mk ((by rw [hg]; exact (below_size (by repeat (first | (with_reducible first | exact HB.out | apply below_alloc | apply pw_below_drewN | apply below_drew1) | exact HB.out))) : w.heap.size ≤ gb331)); clear HB; have HB := n0_; have BK331 := n1_; have GW331 := n2_; have GE331 := n3_; clear n0_ n1_ n2_ n3_; clear hb hbox hg; have hcz12_0 : w11.cell? ⟨gb331, 0, none⟩ = some (.slice A0_0 l0_0.length c0_0) := (blk_cell BK331.out 0).trans rfl; have hcz12_1 : w11.cell? ⟨gb331, 1, none⟩ = some (.slice A0_1 l0_1.length c0_1) := (blk_cell BK331.out 1).trans rfl; have hcz12_2 : w11.cell? ⟨gb331, 2, none⟩ = some (.int .i64 a0_2) := (blk_cell BK331.out 2).trans rfl; have hfz12_0 := blk_frozen BK331.out 0; have hfz12_1 := blk_frozen BK331.out 1; have hfz12_2 := blk_frozen BK331.out 2) | ((with_reducible refine gate_callee (f := 43) rfl ?_); refine goesL_ (some 8) rfl rfl Try.func43 (by kernel_rfl) rfl #[.slice A0_0 l0_0.length c0_0, .int .i64 a1] rfl (by (try simp only [List.map_toArray, List.map_cons, List.map_nil]); first | done | rfl | (simp only [List.length_drop, List.length_take]; rfl)) ?_; (with_reducible refine (laws_heldBoolSS.calls k _ _ l0_0 a1 t332 _ ?side1 ?side2 A3.out).mono ?_); (case side1 => repeat (first | exact (Kd.C_below HR0_0.out HB.out) | (with_reducible refine Kd.C_alloc ?_ _) | (with_reducible refine Kd.C_drewN ?_ _) | (with_reducible refine Kd.C_drew ?_))); (case side2 => exact HC0_0.out); rintro e w' ⟨rfl, ⟨nd, rfl⟩⟩; refine ⟨_, rfl, ?_⟩) | ((with_reducible refine gate_callee (f := 44) rfl ?_); refine goesL_ (some 14) rfl rfl Try.func44 (by kernel_rfl) rfl #[.slice A0_1 l0_1.length c0_1, .int .i64 t332] rfl (by (try simp only [List.map_toArray, List.map_cons, List.map_nil]); first | done | rfl | (simp only [List.length_drop, List.length_take]; rfl)) ?_; (with_reducible refine (laws_heldCodeS.calls k _ _ l0_1 t332 t333 _ ?side1 ?side2 A7.out).mono ?_); (case side1 => repeat (first | exact (Kd.C_below HR0_1.out (by repeat (first | (with_reducible first | exact HB.out | apply below_alloc | apply pw_below_drewN | apply below_drew1 | refine below_set ?_ GE331.out) | exact HB.out))) | (with_reducible refine Kd.C_alloc ?_ _) | (with_reducible refine Kd.C_drewN ?_ _) | (with_reducible refine Kd.C_drew ?_))); (case side2 => exact HC0_1.out); rintro e w' ⟨rfl, ⟨nd, rfl⟩⟩; refine ⟨_, rfl, ?_⟩))
      go_ret
      exact ⟨by first | rfl | (simp [errW_none, errW_some] <;> rfl) | (simp [*, errW_none, errW_some] <;> rfl), by repeat (first | (with_reducible first | exact HB.out | apply below_alloc | apply pw_below_drewN | apply below_drew1 | refine below_set ?_ GE331.out) | exact HB.out)⟩

-- NOT PRINTED: function 5 (laws_FnExactImageRead)

end Go.Proofs.Ytkfeoilnhpfknaa.QFnExactImageRead
