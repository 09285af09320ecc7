/- The contract of spec.l3float. -/
import Derived.Test.YtkkodbbgdndhmaaDoorLexA
import Derived.Test.YtkkodbbgdndhmaaDoorQFnExactLexx0
import Derived.Lib.Hide
import Derived.WalkKit
namespace Go.Proofs.YtkkodbbgdndhmaaDoor.LxFnExactLex
open Go.RowKit Go.Proofs.YtkkodbbgdndhmaaDoor.QFnExactLex Go.Proofs.YtkkodbbgdndhmaaDoorW.PrintWords Go.Proofs.YtkkodbbgdndhmaaDoorW.PrintLast Go.Proofs.YtkkodbbgdndhmaaDoor.Fw Go.Proofs.YtkkodbbgdndhmaaDoor.LexA
set_option linter.unusedSimpArgs false

theorem same_bitsOf {b u : Nat} (h : SameW b u) : bitsOf b = bitsOf u := by
  rcases h.2 with ⟨h1, h2⟩ | ⟨_, rfl⟩
  · unfold bitsOf; rw [if_pos h1, if_pos h2]
  · rfl
theorem below_drewN (w : World) (n : Nat) : Below w.heap.size w (w.drewN n) := ⟨rfl, rfl, rfl, Nat.le_refl _, fun _ _ => rfl⟩

set_option maxHeartbeats 8000000 in
set_option maxRecDepth 100000 in
theorem l3float_c (A0 : Option Addr) (c0 : Nat) (l0 : List Int) (w : World) (hr0 : Kd.C (Kd.int .u8) w A0 l0.length l0) :
    Calls Tryd.prog 15 #[.slice A0 l0.length c0] w fun e w' => e = .returned (.tuple #[.int .i64 (floatF l0).1, .bool (floatF l0).2]) ∧ Below w.heap.size w w' := by
  have HR := Lib.hid hr0
  clear hr0
  by_cases h18 : l0.length = 18
  · rw [h18]
    obtain ⟨ad, e1, x0⟩ := Kd.at_int HR.out 0 (by omega) (by omega)
    obtain ⟨ad', e2, x1⟩ := Kd.at_int HR.out 1 (by omega) (by omega)
    rw [e1] at e2
    injection e2 with e2
    subst e1 e2
    have HR2 : Hid (∀ i : Nat, i < 18 → w.cell? (ad.add i) = some (.int .u8 (l0.getD i 0))) := Lib.hid (fun i hi => by
      obtain ⟨ad', e2, x1⟩ := Kd.at_int HR.out (i : Int) (by omega) (by omega)
      injection e2 with e2
      subst e2
      rw [Int.toNat_natCast] at x1
      exact x1)
    rw [show (0 : Int).toNat = 0 from rfl, Addr.add_zero'] at x0
    rw [show (1 : Int).toNat = 0 + 1 from rfl, Addr.add_succ'] at x1
    rw [show rd l0 0 = l0.getD 0 0 from rfl] at x0
    rw [show rd l0 1 = l0.getD 1 0 from rfl] at x1
    by_cases h0 : l0.getD 0 0 = 48
    · by_cases h1 : l0.getD 1 0 = 102
      · have hS : Hid (l0.length = 18 ∧ l0.getD 0 0 = 48 ∧ l0.getD 1 0 = 102) := Lib.hid ⟨h18, h0, h1⟩
        rw [h0] at x0
        rw [h1] at x1
        clear h0 h1 h18
        go_enter Tryd.func15, Tryd.ntmps15
        go_wp2
        go_loop [4, 5] (fun v4 v5 => ∃ (i : Nat) (u : Int), v4 = .int .u64 u ∧ v5 = .int .i64 i ∧ 2 ≤ i ∧ i ≤ 18 ∧ 0 ≤ u ∧ Hid (u < 16 ^ (i - 2)) ∧ Hid (hval 0 (l0.drop 2) = hval u (l0.drop i))) (fun _ v5 => (18 - intOf v5).toNat)
        case atStart => exact ⟨2, 0, rfl, rfl, by omega, by omega, by omega, Lib.hid (by decide), Lib.hid rfl⟩
        case round =>
          obtain ⟨i, u, rfl, rfl, hi0, hi1, hu0, HU, HV⟩ := hrel
          by_cases hlt : i < 18
          · have p0 : (i : Int) < 18 := by omega
            have x2 := HR2.out i hlt
            have HG : Hid (∀ d, hd (l0.getD i 0) = some d → hval 0 (l0.drop 2) = hval (u * 16 + d) (l0.drop (i + 1))) := Lib.hid (fun d hd' => by rw [HV.out, hval_drop (by have := hS.out.1; omega), hd'])
            have HN : Hid (hd (l0.getD i 0) = none → floatF l0 = (0, false)) := Lib.hid (fun hd' => floatF_bad hS.out (by rw [HV.out, hval_drop (by have := hS.out.1; omega), hd']))
            have hu1 : u < 1152921504606846976 := by
              have h1 := HU.out
              have h2 : (16 : Int) ^ (i - 2) ≤ 16 ^ 15 := by
                have := Nat.pow_le_pow_right (n := 16) (by decide) (show i - 2 ≤ 15 by omega)
                exact_mod_cast this
              have h3 : (16 : Int) ^ 15 = 1152921504606846976 := by decide
              omega
            have ew : IntKind.u64.wrap (u * 16) = u * 16 := by rw [wrap_u64]; omega
            have HU2 : Hid (∀ d, 0 ≤ d → d < 16 → u * 16 + d < 16 ^ (i + 1 - 2)) := Lib.hid (fun d h0 h1 => by
              have h2 := HU.out
              rw [show i + 1 - 2 = (i - 2) + 1 by omega, Int.pow_succ]
              omega)
            have HO : Hid (∀ d, 0 ≤ d → d < 16 → bits .or .u64 (u * 16) d = u * 16 + d) := Lib.hid (fun d h0 h1 => or_digit u d hu0 hu1 h0 h1)
            generalize l0.getD i 0 = y at x2 HG HN
            clear HV HU hu1
            by_cases ha : 48 ≤ y
            · have d1 : decide (48 ≤ y) = true := decide_eq_true ha
              by_cases hb : y ≤ 57
              · have d2 : decide (y ≤ 57) = true := decide_eq_true hb
                have hdy : hd y = some (y - 48) := by unfold hd; rw [if_pos ⟨ha, hb⟩]
                have HV2 := Lib.hid (HG.out _ hdy)
                have HU3 := Lib.hid (HU2.out (y - 48) (by omega) (by omega))
                have eo := HO.out (y - 48) (by omega) (by omega)
                have e3 : (y - 48) % 256 = y - 48 := by omega
                clear HG HU2 HO HN hdy
                go_wp2
                go_round
                case rel => exact ⟨i + 1, _, rfl, by go_num, by omega, by omega, by omega, HU3, HV2⟩
                case measure => simp [intOf]; omega
              · have d2 : decide (y ≤ 57) = false := decide_eq_false hb
                by_cases hc : 97 ≤ y
                · have d3 : decide (97 ≤ y) = true := decide_eq_true hc
                  by_cases he : y ≤ 102
                  · have d4 : decide (y ≤ 102) = true := decide_eq_true he
                    have hdy : hd y = some (y - 97 + 10) := by unfold hd; rw [if_neg (by omega), if_pos ⟨hc, he⟩]; congr 1; omega
                    have HV2 := Lib.hid (HG.out _ hdy)
                    have HU3 := Lib.hid (HU2.out (y - 97 + 10) (by omega) (by omega))
                    have eo := HO.out (y - 97 + 10) (by omega) (by omega)
                    have e3 : (y - 97) % 256 = y - 97 := by omega
                    have e4 : IntKind.u64.wrap (y - 97 + 10) = y - 97 + 10 := by rw [wrap_u64]; omega
                    clear HG HU2 HO HN hdy
                    go_wp2
                    go_round
                    case rel => exact ⟨i + 1, _, rfl, by go_num, by omega, by omega, by omega, HU3, HV2⟩
                    case measure => simp [intOf]; omega
                  · have d4 : decide (y ≤ 102) = false := decide_eq_false he
                    have HE := Lib.hid (HN.out (by unfold hd; rw [if_neg (by omega), if_neg (by omega)]))
                    clear HG HU2 HO HN
                    go_wp2
                    go_ret2
                    exact ⟨by rw [HE.out]; rfl, Below.refl _ _⟩
                · have d3 : decide (97 ≤ y) = false := decide_eq_false hc
                  have HE := Lib.hid (HN.out (by unfold hd; rw [if_neg (by omega), if_neg (by omega)]))
                  clear HG HU2 HO HN
                  go_wp2
                  go_ret2
                  exact ⟨by rw [HE.out]; rfl, Below.refl _ _⟩
            · have d1 : decide (48 ≤ y) = false := decide_eq_false ha
              have d3 : decide (97 ≤ y) = false := decide_eq_false (by omega)
              have HE := Lib.hid (HN.out (by unfold hd; rw [if_neg (by omega), if_neg (by omega)]))
              clear HG HU2 HO HN
              go_wp2
              go_ret2
              exact ⟨by rw [HE.out]; rfl, Below.refl _ _⟩
          · obtain rfl : i = 18 := by omega
            have hv2 : hval 0 (l0.drop 2) = some u := by rw [HV.out, List.drop_eq_nil_of_le (by have := hS.out.1; omega)]; rfl
            have HE := Lib.hid (floatF_some hS.out hv2)
            clear hv2 HV HU x0 x1 HR2
            go_wp2_with (first | (go_at_call 22; refine (specFloat _ _).mono ?_; rintro e w' ⟨b, nq, rfl, hb, rfl⟩; have hb1 := hb.1; have hb2 := same_bitsOf hb; clear hb) | (go_at_call 21; refine (specBits _ hb1 _).mono ?_; rintro e w' ⟨rfl, rfl⟩; rw [hb2]))
            go_ret2
            exact ⟨by rw [HE.out]; rfl, below_drewN _ _⟩
      · have d1 : (l0.getD 1 0 != 102) = true := bne_iff_ne.2 h1
        rw [floatF_no (fun h => h1 h.2.2)]
        rw [h0] at x0
        generalize l0.getD 1 0 = y at x1 d1
        clear h1 HR2
        go_enter Tryd.func15, Tryd.ntmps15
        go_wp2
        go_ret2
        exact ⟨rfl, Below.refl _ _⟩
    · have d1 : (l0.getD 0 0 != 48) = true := bne_iff_ne.2 h0
      rw [floatF_no (fun h => h0 h.2.1)]
      generalize l0.getD 0 0 = y at x0 d1
      clear h0 HR2
      go_enter Tryd.func15, Tryd.ntmps15
      go_wp2
      go_ret2
      exact ⟨rfl, Below.refl _ _⟩
  · have d1 : ((l0.length : Int) != 18) = true := bne_iff_ne.2 (by omega)
    rw [floatF_no (fun h => h18 h.1)]
    clear h18
    go_enter Tryd.func15, Tryd.ntmps15
    go_wp2
    go_ret2
    exact ⟨rfl, Below.refl _ _⟩

end Go.Proofs.YtkkodbbgdndhmaaDoor.LxFnExactLex
