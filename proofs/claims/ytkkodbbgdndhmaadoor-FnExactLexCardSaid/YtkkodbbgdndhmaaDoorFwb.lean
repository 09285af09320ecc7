/- Contract of the reference's Bits: the bits of every float, one alone for what is no number. -/
import Derived.Test.YtkkodbbgdndhmaaDoorFwf
namespace Go.Proofs.YtkkodbbgdndhmaaDoor.Fw
open Go.RowKit Go.Proofs.YtkkodbbgdndhmaaDoor.Fl

theorem toIntVal_u64 {D q : Nat} (h : Is D (q * pw 1074)) (hq : q < 2 ^ 53) : floatToIntVal .f64 D .u64 = some (q : Int) := by
  have h1 : (FloatKind.f64.decode D).toInt .zero = some (sgn false (q * pw 1074 / pw 1074)) := toInt_fin false h
  rw [Nat.mul_div_cancel _ (pw_pos _), sgn_false] at h1
  unfold floatToIntVal
  rw [h1]
  have hb : IntKind.u64.min ≤ (q : Int) ∧ (q : Int) ≤ IntKind.u64.max := by
    have e1 : IntKind.u64.min = 0 := by rfl
    have e2 : IntKind.u64.max = 18446744073709551615 := by rfl
    rw [e1, e2]; omega
  simp only [hb.1, hb.2, and_self, if_true]

theorem end_low {A s : Nat} (h : Is A (s * pw 1022)) (hs : s < 2 ^ 53) : ∃ D, floatBits .mul .f64 A 4841369599423283200 = some D ∧ floatToIntVal .f64 D .u64 = some (s : Int) := by
  obtain ⟨D, hD⟩ := is_of (s := s) (j := 1074) hs (by omega)
  refine ⟨D, mul_fin false false h is_p52 hD ?_, toIntVal_u64 hD hs⟩
  rw [Nat.mul_assoc, ← pw_add, Nat.mul_assoc, ← pw_add]

theorem end_top {A s : Nat} (h : Is A (s * pw 1022)) (h0 : 2 ^ 52 ≤ s) (hs : s < 2 ^ 53) : ∃ C D, floatBits .sub .f64 A 4607182418800017408 = some C ∧ floatBits .mul .f64 C 4841369599423283200 = some D ∧ floatToIntVal .f64 D .u64 = some ((s - 2 ^ 52 : Nat) : Int) := by
  obtain ⟨C, hC⟩ := is_of (s := s - 2 ^ 52) (j := 1022) (by omega) (by omega)
  have e : s * pw 1022 = (s - 2 ^ 52) * pw 1022 + pw 1074 := by
    rw [show (1074 : Nat) = 52 + 1022 from rfl, pw_add 52, pw52, ← Nat.add_mul, Nat.sub_add_cancel h0]
  have hd : (sgn false (s * pw 1022) + sgn (!false) (pw 1074)) = (((s - 2 ^ 52) * pw 1022 : Nat) : Int) := by
    rw [e, sgn_false, Bool.not_false, sgn_true]; omega
  have := sub_fin false false h is_one (c := C) (by rw [hd, Int.natAbs_natCast]; exact hC)
  rw [hd] at this
  have hng : decide ((((s - 2 ^ 52) * pw 1022 : Nat) : Int) < 0) = false := decide_eq_false (by omega)
  rw [hng] at this
  obtain ⟨D, hD, hI⟩ := end_low hC (by omega)
  refine ⟨C, D, ?_, hD, hI⟩
  have e2 : (if ((((s - 2 ^ 52) * pw 1022 : Nat) : Int)) = 0 then false && !false else false) = false := by split <;> rfl
  rw [e2] at this
  exact this

theorem or_nat (a b : Nat) (ha : a < 2 ^ 64) (hb : b < 2 ^ 64) : bits .or .u64 (a : Int) (b : Int) = ((a ||| b : Nat) : Int) := u64_or_nat a b (by omega) (by omega)

theorem or_fields (sg E f : Nat) (hs : sg = 0 ∨ sg = 2 ^ 63) (hE : E < 2048) (hf : f < 2 ^ 52) : bits .or .u64 (bits .or .u64 (sg : Int) ((E : Int) * 4503599627370496)) (f : Int) = ((sg + E * 2 ^ 52 + f : Nat) : Int) := by
  have e1 : (E : Int) * 4503599627370496 = ((2 ^ 52 * E : Nat) : Int) := by omega
  rw [e1, or_nat _ _ (by omega) (by omega)]
  have e2 : sg ||| 2 ^ 52 * E = 2 ^ 52 * (sg / 2 ^ 52 + E) := by
    rcases hs with rfl | rfl
    · simp
    · have := or_add 1 (2 ^ 52 * E) 63 (by omega)
      rw [Nat.mul_one] at this
      rw [this]; omega
  rw [e2, or_nat _ _ (by omega) (by omega), or_add _ _ _ hf]
  congr 1
  omega

theorem or_low (sg f : Nat) (hs : sg = 0 ∨ sg = 2 ^ 63) (hf : f < 2 ^ 63) : bits .or .u64 (sg : Int) (f : Int) = ((sg + f : Nat) : Int) := by
  rw [or_nat _ _ (by omega) (by omega)]
  rcases hs with rfl | rfl
  · simp
  · have := or_add 1 f 63 hf
    rw [Nat.mul_one] at this
    rw [this]

set_option maxHeartbeats 4000000 in
set_option maxRecDepth 100000 in
/-- A finite word that is no zero: its two loops on the number s * 2 ^ t, from t = j to t = 1022. -/
theorem specBits_fin (x r s j : Nat) (sg : Bool) (w : World) (hx : x = Ieee.double.word sg r) (h0 : FloatKind.f64.format.order x x = some .eq) (h1 : FloatKind.f64.format.order x 0 = some (if sg then .lt else .gt))
    (h2 : FloatKind.f64.format.order r 0 = some .gt) (h3 : (FloatKind.f64.format.order r 9218868437227405311 == some .gt) = false) (hI : Is r (s * pw j)) (hs : s < 2 ^ 53) (hj : j ≤ 2045)
    (hk : (j = 0 ∧ s = r ∧ r < 2 ^ 52) ∨ (2 ^ 52 ≤ s ∧ r = (j + 1) * 2 ^ 52 + (s - 2 ^ 52))) :
    Calls Tryd.prog 21 #[.float .f64 x] w fun e w' => e = .returned (.int .i64 (wrap64 x)) ∧ w = w' := by
  have HI := Lib.hid hI
  have HS := Lib.hid hs
  have HJ := Lib.hid hj
  have HK := Lib.hid hk
  have hrlt := is_lt hI
  have HX := Lib.hid hx
  have hng := neg_run
  clear hI hs hj hk
  cases sg
  · obtain rfl : x = r := hx
    simp only [Bool.false_eq_true, if_false] at h1
    clear h2 hng
    go_enter Tryd.func21, Tryd.ntmps21
    go_wp2
    go_loop [4, 5] (fun v4 v5 => ∃ (t A : Nat) (k : Int), v4 = .float .f64 A ∧ v5 = .int .i64 k ∧ Hid (Is A (s * pw t)) ∧ Hid (k = (j : Int) - t) ∧ 0 ≤ k ∧ k ≤ 1023 ∧ Hid (t ≤ j ∧ (t = j ∨ 1022 ≤ t))) (fun _ v5 => (1023 - intOf v5).toNat)
    case atStart => exact ⟨j, x, 0, rfl, rfl, HI, Lib.hid (by omega), by omega, by omega, Lib.hid ⟨Nat.le_refl _, .inl rfl⟩⟩
    case round =>
      obtain ⟨t, A, k, rfl, rfl, HA, HT, hl, hh, HC⟩ := hrel
      by_cases hlt : 1023 ≤ t
      · have hs52 : 2 ^ 52 ≤ s := by rcases HK.out with h | h; have := HC.out; omega; exact h.1
        have hge := cmp_ge HA.out is_two (top_ge (k := 1023) hs52 hlt)
        obtain ⟨q, hq⟩ : ∃ q, t = q + 1 := ⟨t - 1, by omega⟩
        subst hq
        obtain ⟨B, hB, hBI⟩ := half_is HA.out HS.out (by have := HC.out; have := HJ.out; omega)
        have hm := run_op .quo hB
        have HB := Lib.hid hBI
        have HT2 : Hid (k + 1 = (j : Int) - (q : Int)) := Lib.hid (by have := HT.out; omega)
        have HC2 : Hid (q ≤ j ∧ (q = j ∨ 1022 ≤ q)) := Lib.hid (by have := HC.out; omega)
        have hk9 : k + 1 ≤ 1023 := by have := HT.out; have := HJ.out; omega
        clear hB hBI hlt hs52
        rcases hge with hge | hge
        all_goals
          have hge' : FloatKind.f64.format.order A 4611686018427387904 = _ := hge
          clear hge
          go_wp2
          go_round
          case rel => exact ⟨q, B, k + 1, rfl, rfl, HB, HT2, by omega, hk9, HC2⟩
          case measure => simp [intOf]; omega
      · have hlo : FloatKind.f64.format.order A 4611686018427387904 = some .lt := cmp_lt HA.out is_two (top_lt (k := 1023) HS.out (by omega))
        have HC2 : Hid (t ≤ 1022) := Lib.hid (by omega)
        clear hlt HC
        go_wp2
        go_loop [4, 5] (fun v4 v5 => ∃ (t A : Nat) (k : Int), v4 = .float .f64 A ∧ v5 = .int .i64 k ∧ Hid (Is A (s * pw t)) ∧ Hid (k = (j : Int) - t) ∧ -1022 ≤ k ∧ k ≤ 1023 ∧ Hid (t ≤ 1022)) (fun _ v5 => (intOf v5 + 1022).toNat)
        case atStart => exact ⟨t, A, k, rfl, rfl, HA, HT, by omega, hh, HC2⟩
        case round =>
          clear HA HT HC2 hl hh hlo
          obtain ⟨t, A, k, rfl, rfl, HA, HT, hl, hh, HC⟩ := hrel
          by_cases hlt : t < 1022
          · have hlo : FloatKind.f64.format.order A 4607182418800017408 = some .lt := cmp_lt HA.out is_one (top_lt (k := 1022) HS.out hlt)
            obtain ⟨B, hB, hBI⟩ := twice_is HA.out HS.out (by omega)
            have hm := run_op .mul hB
            have HB := Lib.hid hBI
            have HT2 : Hid (k - 1 = (j : Int) - ((t + 1 : Nat) : Int)) := Lib.hid (by have := HT.out; omega)
            have HC2 : Hid (t + 1 ≤ 1022) := Lib.hid (by omega)
            have hk9 : -1022 < k := by have := HT.out; omega
            clear hB hBI hlt
            go_wp2
            go_round
            case rel => exact ⟨t + 1, B, k - 1, rfl, rfl, HB, HT2, by omega, by omega, HC2⟩
            case measure => simp [intOf]; omega
          · have ht : t = 1022 := by have := HC.out; omega
            subst ht
            clear hlt HC
            rcases HK.out with ⟨hj0, hsr, hr52⟩ | ⟨hs52, hrr⟩
            · have hlo : FloatKind.f64.format.order A 4607182418800017408 = some .lt := cmp_lt HA.out is_one (low_lt (k := 1022) (by omega) (Nat.le_refl _))
              have hk9 : k = -1022 := by have := HT.out; omega
              subst hk9
              obtain ⟨D, hD, hDv⟩ := end_low HA.out HS.out
              have hm := run_op .mul hD
              have hc := fun w : World => run_convert_float_int (P := Tryd.prog) w 45 41 .f64 .u64 D (s : Int) (by kernel_rfl) Tryd.underlying41 hDv
              have hfin : bits .or .u64 (0 : Int) (s : Int) = (x : Int) := by
                rw [show (0 : Int) = ((0 : Nat) : Int) from rfl, or_low 0 s (.inl rfl) (by omega)]
                exact congrArg Nat.cast (by omega)
              have HF := Lib.hid hfin
              clear hD hDv hj0 hsr hr52 hfin
              go_wp2
              go_ret
              exact ⟨by rw [HF.out]; rfl, rfl⟩
            · have hge := cmp_ge HA.out is_one (top_ge (k := 1022) hs52 (Nat.le_refl _))
              obtain ⟨C, D, hC, hD, hDv⟩ := end_top HA.out hs52 HS.out
              have hm1 := run_op .sub hC
              have hm := run_op .mul hD
              have hc := fun w : World => run_convert_float_int (P := Tryd.prog) w 45 41 .f64 .u64 D ((s - 2 ^ 52 : Nat) : Int) (by kernel_rfl) Tryd.underlying41 hDv
              have hfin : bits .or .u64 (bits .or .u64 (0 : Int) ((k + 1023) * 4503599627370496)) ((s - 2 ^ 52 : Nat) : Int) = (x : Int) := by
                have e : k + 1023 = ((j + 1 : Nat) : Int) := by have := HT.out; omega
                rw [e]
                have := HS.out
                have := HJ.out
                rw [show (0 : Int) = ((0 : Nat) : Int) from rfl, or_fields 0 (j + 1) (s - 2 ^ 52) (.inl rfl) (by omega) (by omega)]
                exact congrArg Nat.cast (by omega)
              have HF := Lib.hid hfin
              generalize ((s - 2 ^ 52 : Nat) : Int) = F at hc HF
              clear hC hD hDv hs52 hrr hfin
              rcases hge with hge | hge
              all_goals
                have hge' : FloatKind.f64.format.order A 4607182418800017408 = _ := hge
                clear hge
                go_wp2
                go_ret
                exact ⟨by rw [HF.out]; rfl, rfl⟩
  · have hneg : Op.negFloat .f64 x = r := by rw [hx]; exact neg_of_word true r hrlt
    simp only [if_true] at h1
    clear hx hrlt
    go_enter Tryd.func21, Tryd.ntmps21
    go_wp2
    go_loop [4, 5] (fun v4 v5 => ∃ (t A : Nat) (k : Int), v4 = .float .f64 A ∧ v5 = .int .i64 k ∧ Hid (Is A (s * pw t)) ∧ Hid (k = (j : Int) - t) ∧ 0 ≤ k ∧ k ≤ 1023 ∧ Hid (t ≤ j ∧ (t = j ∨ 1022 ≤ t))) (fun _ v5 => (1023 - intOf v5).toNat)
    case atStart => exact ⟨j, r, 0, rfl, rfl, HI, Lib.hid (by omega), by omega, by omega, Lib.hid ⟨Nat.le_refl _, .inl rfl⟩⟩
    case round =>
      obtain ⟨t, A, k, rfl, rfl, HA, HT, hl, hh, HC⟩ := hrel
      by_cases hlt : 1023 ≤ t
      · have hs52 : 2 ^ 52 ≤ s := by rcases HK.out with h | h; have := HC.out; omega; exact h.1
        have hge := cmp_ge HA.out is_two (top_ge (k := 1023) hs52 hlt)
        obtain ⟨q, hq⟩ : ∃ q, t = q + 1 := ⟨t - 1, by omega⟩
        subst hq
        obtain ⟨B, hB, hBI⟩ := half_is HA.out HS.out (by have := HC.out; have := HJ.out; omega)
        have hm := run_op .quo hB
        have HB := Lib.hid hBI
        have HT2 : Hid (k + 1 = (j : Int) - (q : Int)) := Lib.hid (by have := HT.out; omega)
        have HC2 : Hid (q ≤ j ∧ (q = j ∨ 1022 ≤ q)) := Lib.hid (by have := HC.out; omega)
        have hk9 : k + 1 ≤ 1023 := by have := HT.out; have := HJ.out; omega
        clear hB hBI hlt hs52
        rcases hge with hge | hge
        all_goals
          have hge' : FloatKind.f64.format.order A 4611686018427387904 = _ := hge
          clear hge
          go_wp2
          go_round
          case rel => exact ⟨q, B, k + 1, rfl, rfl, HB, HT2, by omega, hk9, HC2⟩
          case measure => simp [intOf]; omega
      · have hlo : FloatKind.f64.format.order A 4611686018427387904 = some .lt := cmp_lt HA.out is_two (top_lt (k := 1023) HS.out (by omega))
        have HC2 : Hid (t ≤ 1022) := Lib.hid (by omega)
        clear hlt HC
        go_wp2
        go_loop [4, 5] (fun v4 v5 => ∃ (t A : Nat) (k : Int), v4 = .float .f64 A ∧ v5 = .int .i64 k ∧ Hid (Is A (s * pw t)) ∧ Hid (k = (j : Int) - t) ∧ -1022 ≤ k ∧ k ≤ 1023 ∧ Hid (t ≤ 1022)) (fun _ v5 => (intOf v5 + 1022).toNat)
        case atStart => exact ⟨t, A, k, rfl, rfl, HA, HT, by omega, hh, HC2⟩
        case round =>
          clear HA HT HC2 hl hh hlo
          obtain ⟨t, A, k, rfl, rfl, HA, HT, hl, hh, HC⟩ := hrel
          by_cases hlt : t < 1022
          · have hlo : FloatKind.f64.format.order A 4607182418800017408 = some .lt := cmp_lt HA.out is_one (top_lt (k := 1022) HS.out hlt)
            obtain ⟨B, hB, hBI⟩ := twice_is HA.out HS.out (by omega)
            have hm := run_op .mul hB
            have HB := Lib.hid hBI
            have HT2 : Hid (k - 1 = (j : Int) - ((t + 1 : Nat) : Int)) := Lib.hid (by have := HT.out; omega)
            have HC2 : Hid (t + 1 ≤ 1022) := Lib.hid (by omega)
            have hk9 : -1022 < k := by have := HT.out; omega
            clear hB hBI hlt
            go_wp2
            go_round
            case rel => exact ⟨t + 1, B, k - 1, rfl, rfl, HB, HT2, by omega, by omega, HC2⟩
            case measure => simp [intOf]; omega
          · have ht : t = 1022 := by have := HC.out; omega
            subst ht
            clear hlt HC
            rcases HK.out with ⟨hj0, hsr, hr52⟩ | ⟨hs52, hrr⟩
            · have hlo : FloatKind.f64.format.order A 4607182418800017408 = some .lt := cmp_lt HA.out is_one (low_lt (k := 1022) (by omega) (Nat.le_refl _))
              have hk9 : k = -1022 := by have := HT.out; omega
              subst hk9
              obtain ⟨D, hD, hDv⟩ := end_low HA.out HS.out
              have hm := run_op .mul hD
              have hc := fun w : World => run_convert_float_int (P := Tryd.prog) w 45 41 .f64 .u64 D (s : Int) (by kernel_rfl) Tryd.underlying41 hDv
              have hfin : bits .or .u64 (9223372036854775808 : Int) (s : Int) = (x : Int) := by
                rw [show (9223372036854775808 : Int) = ((9223372036854775808 : Nat) : Int) from rfl, or_low 9223372036854775808 s (.inr rfl) (by omega), HX.out, word_true]
                exact congrArg Nat.cast (by omega)
              have HF := Lib.hid hfin
              clear hD hDv hj0 hsr hr52 hfin
              go_wp2
              go_ret
              exact ⟨by rw [HF.out]; rfl, rfl⟩
            · have hge := cmp_ge HA.out is_one (top_ge (k := 1022) hs52 (Nat.le_refl _))
              obtain ⟨C, D, hC, hD, hDv⟩ := end_top HA.out hs52 HS.out
              have hm1 := run_op .sub hC
              have hm := run_op .mul hD
              have hc := fun w : World => run_convert_float_int (P := Tryd.prog) w 45 41 .f64 .u64 D ((s - 2 ^ 52 : Nat) : Int) (by kernel_rfl) Tryd.underlying41 hDv
              have hfin : bits .or .u64 (bits .or .u64 (9223372036854775808 : Int) ((k + 1023) * 4503599627370496)) ((s - 2 ^ 52 : Nat) : Int) = (x : Int) := by
                have e : k + 1023 = ((j + 1 : Nat) : Int) := by have := HT.out; omega
                rw [e]
                have := HS.out
                have := HJ.out
                rw [show (9223372036854775808 : Int) = ((9223372036854775808 : Nat) : Int) from rfl, or_fields 9223372036854775808 (j + 1) (s - 2 ^ 52) (.inr rfl) (by omega) (by omega), HX.out, word_true]
                exact congrArg Nat.cast (by omega)
              have HF := Lib.hid hfin
              generalize ((s - 2 ^ 52 : Nat) : Int) = F at hc HF
              clear hC hD hDv hs52 hrr hfin
              rcases hge with hge | hge
              all_goals
                have hge' : FloatKind.f64.format.order A 4607182418800017408 = _ := hge
                clear hge
                go_wp2
                go_ret
                exact ⟨by rw [HF.out]; rfl, rfl⟩

set_option maxHeartbeats 4000000 in
theorem specBits_nan (x : Nat) (w : World) (h0 : FloatKind.f64.format.order x x = none) : Calls Tryd.prog 21 #[.float .f64 x] w fun e w' => e = .returned (.int .i64 9221120237041090561) ∧ w = w' := by
  go_enter Tryd.func21, Tryd.ntmps21
  go_wp2
  go_ret
  exact ⟨rfl, rfl⟩

set_option maxHeartbeats 4000000 in
theorem specBits_inf (sg : Bool) (w : World) : Calls Tryd.prog 21 #[.float .f64 (Ieee.double.word sg infR)] w fun e w' => e = .returned (.int .i64 (wrap64 (Ieee.double.word sg infR))) ∧ w = w' := by
  have h0 : FloatKind.f64.format.order (Ieee.double.word sg infR) (Ieee.double.word sg infR) = some .eq := order_self (by cases sg <;> decide) (by cases sg <;> decide)
  have h1 : FloatKind.f64.format.order (Ieee.double.word sg infR) 0 = some (if sg then .lt else .gt) := order_inf_fin sg false is_zero
  have h2 : FloatKind.f64.format.order infR 0 = some .gt := order_inf_fin false false is_zero
  have h3 : FloatKind.f64.format.order infR 9218868437227405311 = some .gt := order_inf_fin false false (is_val (by decide))
  have hng := neg_run
  have hn : Op.negFloat .f64 (Ieee.double.word true infR) = infR := neg_of_word true infR (by decide)
  cases sg
  · rw [word_false] at *
    have hfin : bits .or .u64 (0 : Int) 9218868437227405312 = (infR : Int) := by
      rw [show (0 : Int) = ((0 : Nat) : Int) from rfl, show (9218868437227405312 : Int) = ((9218868437227405312 : Nat) : Int) from rfl, or_low 0 9218868437227405312 (.inl rfl) (by decide)]; rfl
    have HF := Lib.hid hfin
    clear hfin hn
    generalize infR = I at *
    simp only [Bool.false_eq_true, if_false] at h1
    clear h2
    go_enter Tryd.func21, Tryd.ntmps21
    go_wp2
    go_ret
    exact ⟨by rw [HF.out]; rfl, rfl⟩
  · have hfin : bits .or .u64 (9223372036854775808 : Int) 9218868437227405312 = ((Ieee.double.word true infR : Nat) : Int) := by
      rw [show (9223372036854775808 : Int) = ((9223372036854775808 : Nat) : Int) from rfl, show (9218868437227405312 : Int) = ((9218868437227405312 : Nat) : Int) from rfl, or_low 9223372036854775808 9218868437227405312 (.inr rfl) (by decide)]; rfl
    have HF := Lib.hid hfin
    clear hfin
    generalize Ieee.double.word true infR = X at *
    generalize infR = I at *
    simp only [if_true] at h1
    go_enter Tryd.func21, Tryd.ntmps21
    go_wp2
    go_ret
    exact ⟨by rw [HF.out]; rfl, rfl⟩

set_option maxHeartbeats 4000000 in
theorem specBits_zero (sg : Bool) (w : World) : Calls Tryd.prog 21 #[.float .f64 (Ieee.double.word sg 0)] w fun e w' => e = .returned (.int .i64 (wrap64 (Ieee.double.word sg 0))) ∧ w = w' := by
  have h0 : FloatKind.f64.format.order (Ieee.double.word sg 0) (Ieee.double.word sg 0) = some .eq := order_self (by cases sg <;> decide) (by cases sg <;> decide)
  have h1 : FloatKind.f64.format.order (Ieee.double.word sg 0) 0 = some .eq := by cases sg <;> decide
  have h3 := run_op .quo (x := 4607182418800017408) (y := Ieee.double.word sg 0) (r := Ieee.double.word sg infR) (by cases sg <;> decide)
  have h4 : FloatKind.f64.format.order (Ieee.double.word sg infR) 0 = some (if sg then .lt else .gt) := order_inf_fin sg false is_zero
  have h5 : FloatKind.f64.format.order 0 0 = some .eq := by decide
  have hng := neg_run
  have hn : Op.negFloat .f64 (Ieee.double.word true 0) = 0 := neg_of_word true 0 (by decide)
  cases sg
  · have hw : wrap64 ((Ieee.double.word false 0 : Nat) : Int) = 0 := by rw [word_false]; unfold wrap64; omega
    rw [hw]
    generalize Ieee.double.word false 0 = X at *
    generalize Ieee.double.word false infR = I at *
    simp only [Bool.false_eq_true, if_false] at h4
    clear hn h5 hw
    go_enter Tryd.func21, Tryd.ntmps21
    go_wp2
    go_ret
    exact ⟨rfl, rfl⟩
  · have hw : wrap64 ((Ieee.double.word true 0 : Nat) : Int) = wrap64 9223372036854775808 := rfl
    rw [hw]
    generalize Ieee.double.word true 0 = X at *
    generalize Ieee.double.word true infR = I at *
    simp only [if_true] at h4
    clear hw
    go_enter Tryd.func21, Tryd.ntmps21
    go_wp2
    go_ret
    exact ⟨rfl, rfl⟩

theorem not_over_max {r : Nat} (hr : r < infR) : (FloatKind.f64.format.order r 9218868437227405311 == some Ordering.gt) = false := by
  have hm : Is 9218868437227405311 ((2 ^ 53 - 1) * pw 2045) := by
    refine ⟨by decide, ?_⟩
    unfold val
    rw [if_neg (by decide), show 9218868437227405311 / 2 ^ 52 - 1 = 2045 from by decide, show 2 ^ 52 + 9218868437227405311 % 2 ^ 52 = 2 ^ 53 - 1 from by decide]
  obtain ⟨s, j, hv, hs, hj, _⟩ := val_form hr
  have hle : val r ≤ (2 ^ 53 - 1) * pw 2045 := by rw [hv]; exact Nat.mul_le_mul (by omega) (pw_le hj)
  have := order_fin false false (is_val hr) hm
  rw [sgn_false, sgn_false, Int.compare_eq_ite_lt] at this
  have e : FloatKind.f64.format.order r 9218868437227405311 = _ := this
  rw [e]
  by_cases c : (val r : Int) < (((2 ^ 53 - 1) * pw 2045 : Nat) : Int)
  · rw [if_pos c]; rfl
  · rw [if_neg c, if_neg (by omega)]; rfl

theorem specBits (x : Nat) (hx : x < 2 ^ 64) (w : World) : Calls Tryd.prog 21 #[.float .f64 x] w fun e w' => e = .returned (.int .i64 (bitsOf x)) ∧ w = w' := by
  by_cases hn : isNan x = true
  · have e : bitsOf x = 9221120237041090561 := if_pos hn
    rw [e]
    exact specBits_nan x w (order_nan_left hx hn)
  · have e : bitsOf x = wrap64 x := if_neg hn
    rw [e]
    rw [Bool.not_eq_true] at hn
    have hself : FloatKind.f64.format.order x x = some .eq := order_self hx hn
    obtain ⟨sg, r, rfl, rfl | hr⟩ := num_cases hx hn
    · exact specBits_inf sg w
    · by_cases hz : r = 0
      · subst hz; exact specBits_zero sg w
      · have hv := val_pos (Nat.pos_of_ne_zero hz)
        obtain ⟨s, j, hval, hs, hj, hk⟩ := val_form hr
        have h1 : FloatKind.f64.format.order (Ieee.double.word sg r) 0 = some (if sg then .lt else .gt) := by
          have e1 : FloatKind.f64.format.order (Ieee.double.word sg r) 0 = some (compare (sgn sg (val r)) (sgn false 0)) := order_fin sg false (is_val hr) is_zero
          rw [e1, Int.compare_eq_ite_lt]
          cases sg
          · rw [if_neg (by rw [sgn_false, sgn_false]; omega), if_pos (by rw [sgn_false, sgn_false]; omega)]; rfl
          · rw [if_pos (by rw [sgn_true, sgn_false]; omega)]; rfl
        have h2 : FloatKind.f64.format.order r 0 = some .gt := by
          have e1 : FloatKind.f64.format.order r 0 = some (compare (sgn false (val r)) (sgn false 0)) := order_fin false false (is_val hr) is_zero
          rw [e1, Int.compare_eq_ite_lt, if_neg (by rw [sgn_false, sgn_false]; omega), if_pos (by rw [sgn_false, sgn_false]; omega)]
        exact specBits_fin _ r s j sg w rfl hself h1 h2 (not_over_max hr) (by rw [← hval]; exact is_val hr) hs hj hk

end Go.Proofs.YtkkodbbgdndhmaaDoor.Fw
