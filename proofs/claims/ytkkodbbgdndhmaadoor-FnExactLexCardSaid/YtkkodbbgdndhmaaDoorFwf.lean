/- Contract of the reference's Float: the float with these 64 bits; of what is no number, some float that is no number. -/
import Derived.Test.YtkkodbbgdndhmaaDoorFwa
namespace Go.Proofs.YtkkodbbgdndhmaaDoor.Fw
open Go.RowKit Go.Proofs.YtkkodbbgdndhmaaDoor.Fl

theorem and_field (N E : Nat) (hN : N < 2 ^ 64) (hE : N / 2 ^ 52 % 2048 = E) : bits .and .u64 ((N : Int) / 4503599627370496) 2047 = (E : Int) := by
  have h := u64_and_nat (N / 2 ^ 52) 2047 (by omega) (by decide)
  have e : ((N / 2 ^ 52 : Nat) : Int) = (N : Int) / 4503599627370496 := by omega
  rw [e] at h
  rw [show (2047 : Int) = ((2047 : Nat) : Int) from rfl, h, show (2047 : Nat) = 2 ^ 11 - 1 from rfl, Nat.and_two_pow_sub_one_eq_mod]
  exact congrArg Nat.cast hE

theorem and_frac (N f : Nat) (hN : N < 2 ^ 64) (hf : N % 2 ^ 52 = f) : bits .and .u64 (N : Int) 4503599627370495 = (f : Int) := by
  have h := u64_and_nat N 4503599627370495 (by omega) (by decide)
  rw [show (4503599627370495 : Int) = ((4503599627370495 : Nat) : Int) from rfl, h, show (4503599627370495 : Nat) = 2 ^ 52 - 1 from rfl, Nat.and_two_pow_sub_one_eq_mod]
  exact congrArg Nat.cast hf

set_option maxHeartbeats 4000000 in
set_option maxRecDepth 100000 in
/-- A finite word: its two loops on the number s * 2 ^ t, from t = 1022 to t = j. -/
theorem specFloat_num (n : Int) (N E f s j r A0 A1 A2 : Nat) (sg : Bool) (w : World) (hN : IntKind.u64.wrap n = (N : Int)) (hand : bits .and .u64 ((N : Int) / 4503599627370496) 2047 = (E : Int)) (hfrac : bits .and .u64 (N : Int) 4503599627370495 = (f : Int))
    (hE : E < 2047) (h63 : (N : Int) / 9223372036854775808 = (if sg then 1 else 0))
    (hA0 : floatOfInt .f64 (f : Int) = A0) (hA1 : floatBits .quo .f64 A0 4841369599423283200 = some A1) (hA2 : (E = 0 ∧ A2 = A1) ∨ (E ≠ 0 ∧ floatBits .add .f64 A1 4607182418800017408 = some A2))
    (hI : Is A2 (s * pw 1022)) (hs : s < 2 ^ 53) (hj : j ≤ 2045) (hk : (E = 0 ∧ j = 0) ∨ (E ≠ 0 ∧ E = j + 1)) (hr : Is r (s * pw j)) :
    Calls Tryd.prog 22 #[.int .i64 n] w fun e w' => e = .returned (.float .f64 (Ieee.double.word sg r)) ∧ w = w' := by
  have hq := run_op .quo hA1
  have hE2 : (E : Int) ≤ 2046 := by omega
  have hb1 : ((E : Int) == 2047) = false := beq_eq_false_iff_ne.2 (by omega)
  have hng := neg_run
  have hgs : ((if sg = true then (1 : Int) else 0) == 1) = sg := by cases sg <;> rfl
  have hwd : Ieee.double.word sg r = if sg = true then Op.negFloat .f64 r else r := by
    have h1 := neg_of_word false r (is_lt hr)
    cases sg
    · rfl
    · rw [if_pos rfl]; exact h1.symm
  have HW := Lib.hid hwd
  have HI := Lib.hid hI
  have HR := Lib.hid hr
  have HS := Lib.hid hs
  have HJ := Lib.hid hj
  clear hwd hI hr hs hj hA1 hE
  have fin : Hid (∀ (t A : Nat), Is A (s * pw t) → t = j → A = r) := Lib.hid (fun t A hA ht => by subst ht; exact is_inj hA HR.out)
  have start : ∃ k0 : Int, k0 = (j : Int) - 1022 ∧ -1022 ≤ k0 ∧ k0 ≤ 1023 := ⟨_, rfl, by omega, by have := HJ.out; omega⟩
  obtain ⟨k0, hk0, hk1, hk2⟩ := start
  have HK0 := Lib.hid hk0
  rcases hk with ⟨h0, hj0⟩ | ⟨h0, hj0⟩
  · have hb2 : ((E : Int) == 0) = true := beq_iff_eq.2 (by omega)
    obtain rfl : A2 = A1 := by rcases hA2 with h | h; exact h.2; exact absurd h0 h.1
    have he : (-1022 : Int) = k0 := by omega
    have HE := Lib.hid he
    clear hA2 h0 hj0 hk0 he
    go_enter Tryd.func22, Tryd.ntmps22
    go_wp2
    rw [HE.out]
    clear HE
    clear hq hb1 hb2 hfrac hand hA0
    go_loop [7, 8] (fun v7 v8 => ∃ (t A : Nat) (k : Int), v7 = .float .f64 A ∧ v8 = .int .i64 k ∧ Hid (Is A (s * pw t)) ∧ Hid (k = (j : Int) - t) ∧ -1022 ≤ k ∧ k ≤ 1023 ∧ Hid (t = 1022 ∨ (1022 ≤ t ∧ t ≤ j))) (fun _ v8 => (intOf v8).toNat)
    case atStart => exact ⟨1022, A2, k0, rfl, rfl, HI, HK0, hk1, hk2, Lib.hid (Or.inl rfl)⟩
    case round =>
      obtain ⟨t, A, k, rfl, rfl, HA, HT, hl, hh, HC⟩ := hrel
      by_cases hlt : 0 < k
      · obtain ⟨B, hB, hBI⟩ := twice_is HA.out HS.out (by have := HT.out; have := HJ.out; omega)
        have hm := run_op .mul hB
        have HB := Lib.hid hBI
        have HT2 : Hid (k - 1 = (j : Int) - ((t + 1 : Nat) : Int)) := Lib.hid (by have := HT.out; omega)
        have HC2 : Hid (t + 1 = 1022 ∨ (1022 ≤ t + 1 ∧ t + 1 ≤ j)) := Lib.hid (by have := HT.out; have := HC.out; omega)
        clear hB hBI
        go_wp2
        go_round
        case rel => exact ⟨t + 1, B, k - 1, rfl, rfl, HB, HT2, by omega, by omega, HC2⟩
        case measure => simp [intOf]; omega
      · have hk3 : k ≤ 0 := by omega
        clear hh
        go_wp2
        go_loop [7, 8] (fun v7 v8 => ∃ (t A : Nat) (k : Int), v7 = .float .f64 A ∧ v8 = .int .i64 k ∧ Hid (Is A (s * pw t)) ∧ Hid (k = (j : Int) - t) ∧ -1022 ≤ k ∧ k ≤ 0 ∧ Hid (t ≤ 2045)) (fun _ v8 => (- intOf v8).toNat)
        case atStart => exact ⟨t, A, k, rfl, rfl, HA, HT, hl, hk3, Lib.hid (by have := HC.out; have := HJ.out; omega)⟩
        case round =>
          clear HA HT HC hl hk3 hlt
          obtain ⟨t, A, k, rfl, rfl, HA, HT, hl, hh, HC⟩ := hrel
          by_cases hlt : k < 0
          · obtain ⟨q, hq⟩ : ∃ q, t = q + 1 := ⟨t - 1, by have := HT.out; omega⟩
            subst hq
            obtain ⟨B, hB, hBI⟩ := half_is HA.out HS.out (by have := HC.out; omega)
            have hm := run_op .quo hB
            have HB := Lib.hid hBI
            have HT2 : Hid (k + 1 = (j : Int) - (q : Int)) := Lib.hid (by have := HT.out; omega)
            have HC2 : Hid (q ≤ 2045) := Lib.hid (by have := HC.out; omega)
            clear hB hBI
            go_wp2
            go_round
            case rel => exact ⟨q, B, k + 1, rfl, rfl, HB, HT2, by omega, by omega, HC2⟩
            case measure => simp [intOf]; omega
          · have hAr : A = r := fin.out t A HA.out (by have := HT.out; omega)
            subst hAr
            clear HA HT HC fin HI HR HJ HS hh hl
            cases sg
            · simp only [Bool.false_eq_true, if_false] at h63 hgs
              clear hgs
              go_wp2
              go_ret
              exact ⟨by rw [HW.out]; rfl, rfl⟩
            · simp only [if_true] at h63 hgs
              clear hgs
              go_wp2
              go_ret
              exact ⟨by rw [HW.out]; rfl, rfl⟩
  · have hb2 : ((E : Int) == 0) = false := beq_eq_false_iff_ne.2 (by omega)
    have ha := run_op .add (hA2.elim (fun h => absurd h.1 h0) (fun h => h.2))
    have he : (E : Int) - 1023 = k0 := by omega
    have HE := Lib.hid he
    clear hA2 hj0 hk0 he
    go_enter Tryd.func22, Tryd.ntmps22
    go_wp2
    rw [HE.out]
    clear HE ha h0
    clear hq hb1 hb2 hfrac hand hA0
    go_loop [7, 8] (fun v7 v8 => ∃ (t A : Nat) (k : Int), v7 = .float .f64 A ∧ v8 = .int .i64 k ∧ Hid (Is A (s * pw t)) ∧ Hid (k = (j : Int) - t) ∧ -1022 ≤ k ∧ k ≤ 1023 ∧ Hid (t = 1022 ∨ (1022 ≤ t ∧ t ≤ j))) (fun _ v8 => (intOf v8).toNat)
    case atStart => exact ⟨1022, A2, k0, rfl, rfl, HI, HK0, hk1, hk2, Lib.hid (Or.inl rfl)⟩
    case round =>
      obtain ⟨t, A, k, rfl, rfl, HA, HT, hl, hh, HC⟩ := hrel
      by_cases hlt : 0 < k
      · obtain ⟨B, hB, hBI⟩ := twice_is HA.out HS.out (by have := HT.out; have := HJ.out; omega)
        have hm := run_op .mul hB
        have HB := Lib.hid hBI
        have HT2 : Hid (k - 1 = (j : Int) - ((t + 1 : Nat) : Int)) := Lib.hid (by have := HT.out; omega)
        have HC2 : Hid (t + 1 = 1022 ∨ (1022 ≤ t + 1 ∧ t + 1 ≤ j)) := Lib.hid (by have := HT.out; have := HC.out; omega)
        clear hB hBI
        go_wp2
        go_round
        case rel => exact ⟨t + 1, B, k - 1, rfl, rfl, HB, HT2, by omega, by omega, HC2⟩
        case measure => simp [intOf]; omega
      · have hk3 : k ≤ 0 := by omega
        clear hh
        go_wp2
        go_loop [7, 8] (fun v7 v8 => ∃ (t A : Nat) (k : Int), v7 = .float .f64 A ∧ v8 = .int .i64 k ∧ Hid (Is A (s * pw t)) ∧ Hid (k = (j : Int) - t) ∧ -1022 ≤ k ∧ k ≤ 0 ∧ Hid (t ≤ 2045)) (fun _ v8 => (- intOf v8).toNat)
        case atStart => exact ⟨t, A, k, rfl, rfl, HA, HT, hl, hk3, Lib.hid (by have := HC.out; have := HJ.out; omega)⟩
        case round =>
          clear HA HT HC hl hk3 hlt
          obtain ⟨t, A, k, rfl, rfl, HA, HT, hl, hh, HC⟩ := hrel
          by_cases hlt : k < 0
          · obtain ⟨q, hq⟩ : ∃ q, t = q + 1 := ⟨t - 1, by have := HT.out; omega⟩
            subst hq
            obtain ⟨B, hB, hBI⟩ := half_is HA.out HS.out (by have := HC.out; omega)
            have hm := run_op .quo hB
            have HB := Lib.hid hBI
            have HT2 : Hid (k + 1 = (j : Int) - (q : Int)) := Lib.hid (by have := HT.out; omega)
            have HC2 : Hid (q ≤ 2045) := Lib.hid (by have := HC.out; omega)
            clear hB hBI
            go_wp2
            go_round
            case rel => exact ⟨q, B, k + 1, rfl, rfl, HB, HT2, by omega, by omega, HC2⟩
            case measure => simp [intOf]; omega
          · have hAr : A = r := fin.out t A HA.out (by have := HT.out; omega)
            subst hAr
            clear HA HT HC fin HI HR HJ HS hh hl
            cases sg
            · simp only [Bool.false_eq_true, if_false] at h63 hgs
              clear hgs
              go_wp2
              go_ret
              exact ⟨by rw [HW.out]; rfl, rfl⟩
            · simp only [if_true] at h63 hgs
              clear hgs
              go_wp2
              go_ret
              exact ⟨by rw [HW.out]; rfl, rfl⟩

theorem field_start (f : Nat) (hf : f < 2 ^ 52) : ∃ A0 A1, floatOfInt .f64 (f : Int) = A0 ∧ floatBits .quo .f64 A0 4841369599423283200 = some A1 ∧ Is A1 (f * pw 1022) := by
  obtain ⟨A0, h0⟩ := is_of (s := f) (j := 1074) (by omega) (by omega)
  obtain ⟨A1, h1⟩ := is_of (s := f) (j := 1022) (by omega) (by omega)
  refine ⟨A0, A1, ?_, ?_, h1⟩
  · have e := ofInt_is (n := (f : Int)) (s := f) (j := 0) (a := A0) (by rw [pw_zero, Nat.mul_one]; rfl) (by rw [Nat.zero_add]; exact h0)
    rw [e, decide_eq_false (by omega)]; rfl
  · exact div_fin false h0 read_p52 h1 (by rw [Nat.mul_assoc, ← pw_add])

theorem is_small {f : Nat} (hf : f < 2 ^ 52) : Is f (f * pw 0) := by
  refine ⟨by unfold infR; omega, ?_⟩
  unfold val; rw [if_pos hf, pw_zero, Nat.mul_one]

theorem is_rung {E f : Nat} (hf : f < 2 ^ 52) (h0 : E ≠ 0) (h1 : E < 2047) : Is (E * 2 ^ 52 + f) ((2 ^ 52 + f) * pw (E - 1)) := by
  refine ⟨by unfold infR; omega, ?_⟩
  unfold val
  rw [if_neg (by omega), show (E * 2 ^ 52 + f) / 2 ^ 52 = E from by omega, show (E * 2 ^ 52 + f) % 2 ^ 52 = f from by omega]

theorem one_more {A1 f : Nat} (hf : f < 2 ^ 52) (h : Is A1 (f * pw 1022)) : ∃ A2, floatBits .add .f64 A1 4607182418800017408 = some A2 ∧ Is A2 ((2 ^ 52 + f) * pw 1022) := by
  obtain ⟨A2, h2⟩ := is_of (s := 2 ^ 52 + f) (j := 1022) (by omega) (by omega)
  have e : (2 ^ 52 + f) * pw 1022 = f * pw 1022 + pw 1074 := by
    rw [show (1074 : Nat) = 52 + 1022 from rfl, pw_add 52, pw52, Nat.add_mul, Nat.add_comm]
  have hs : (sgn false (f * pw 1022) + sgn false (pw 1074)).natAbs = (2 ^ 52 + f) * pw 1022 := by
    rw [e, sgn_false, sgn_false, ← Int.natCast_add, Int.natAbs_natCast]
  have hp := pw_pos 1074
  have := sum_fin false false h is_one (c := A2) (by rw [hs]; exact h2)
  refine ⟨A2, ?_, h2⟩
  have hne : ¬ (sgn false (f * pw 1022) + sgn false (pw 1074) = 0) := by rw [sgn_false, sgn_false]; omega
  have hng : decide (sgn false (f * pw 1022) + sgn false (pw 1074) < 0) = false := decide_eq_false (by rw [sgn_false, sgn_false]; omega)
  rw [if_neg hne, hng] at this
  exact this

/-- b is the word u, or both are no number. -/
def SameW (b u : Nat) : Prop := b < 2 ^ 64 ∧ ((isNan u = true ∧ isNan b = true) ∨ (isNan u = false ∧ b = u))

/-- What the reference's Float answers. -/
def Floats (n : Int) (w : World) (e : Ending) (w' : World) : Prop := ∃ b nq, e = .returned (.float .f64 b) ∧ SameW b (wordOf n) ∧ w' = w.drewN nq

set_option maxHeartbeats 4000000 in
set_option maxRecDepth 100000 in
theorem specFloat_nan (n : Int) (N f A0 A1 : Nat) (w : World) (hN : IntKind.u64.wrap n = (N : Int)) (hand : bits .and .u64 ((N : Int) / 4503599627370496) 2047 = ((2047 : Nat) : Int)) (hfrac : bits .and .u64 (N : Int) 4503599627370495 = (f : Int))
    (hA0 : floatOfInt .f64 (f : Int) = A0) (hA1 : floatBits .quo .f64 A0 4841369599423283200 = some A1) (hf : ((f : Int) != 0) = true) :
    Calls Tryd.prog 22 #[.int .i64 n] w fun e w' => e = .returned (.float .f64 (nanOf w 0 0)) ∧ w.drew = w' := by
  have hq := run_op .quo hA1
  have hz := run_nan .quo (.inr (.inr (.inr rfl))) (x := 0) (y := 0) (by decide)
  clear hA1
  go_enter Tryd.func22, Tryd.ntmps22
  go_wp2
  go_ret
  exact ⟨rfl, rfl⟩

set_option maxHeartbeats 4000000 in
set_option maxRecDepth 100000 in
theorem specFloat_inf (n : Int) (N A0 A1 : Nat) (sg : Bool) (w : World) (hN : IntKind.u64.wrap n = (N : Int)) (hand : bits .and .u64 ((N : Int) / 4503599627370496) 2047 = ((2047 : Nat) : Int)) (hfrac : bits .and .u64 (N : Int) 4503599627370495 = 0)
    (h63 : (N : Int) / 9223372036854775808 = (if sg then 1 else 0))
    (hA0 : floatOfInt .f64 0 = A0) (hA1 : floatBits .quo .f64 A0 4841369599423283200 = some A1) :
    Calls Tryd.prog 22 #[.int .i64 n] w fun e w' => e = .returned (.float .f64 (Ieee.double.word sg infR)) ∧ w = w' := by
  have hq := run_op .quo hA1
  have hz := run_op .quo (x := 4607182418800017408) (y := 0) (r := infR) (by decide)
  have hng := neg_run
  have hwd : Ieee.double.word sg infR = if sg = true then Op.negFloat .f64 infR else infR := by
    have h1 := neg_of_word false infR (by decide)
    cases sg
    · rfl
    · rw [if_pos rfl]; exact h1.symm
  have HW := Lib.hid hwd
  clear hA1 hwd
  cases sg
  · simp only [Bool.false_eq_true, if_false] at h63
    go_enter Tryd.func22, Tryd.ntmps22
    go_wp2
    go_ret
    exact ⟨by rw [HW.out]; rfl, rfl⟩
  · simp only [if_true] at h63
    go_enter Tryd.func22, Tryd.ntmps22
    go_wp2
    go_ret
    exact ⟨by rw [HW.out]; rfl, rfl⟩

theorem specFloat (n : Int) (w : World) : Calls Tryd.prog 22 #[.int .i64 n] w (Floats n w) := by
  have hlt := wordOf_lt n
  have hN := wordOf_cast n
  unfold Floats
  generalize wordOf n = N at *
  obtain ⟨s, E, f, hE, hf, hsum, hEe, hfe, hse⟩ := parts N hlt
  have hand := and_field N E hlt hEe
  have hfrac := and_frac N f hlt hfe
  have h63 : (N : Int) / 9223372036854775808 = (if s then 1 else 0) := by
    have : ((N / 2 ^ 63 : Nat) : Int) = (N : Int) / 9223372036854775808 := by omega
    rw [← this, hse]; cases s <;> rfl
  obtain ⟨A0, A1, hA0, hA1, hI1⟩ := field_start f hf
  have hword : N = Ieee.double.word s (E * 2 ^ 52 + f) := by rw [word_bool]; omega
  by_cases c : E = 2047
  · subst c
    by_cases d : f = 0
    · subst d
      have hi : infR = 2047 * 2 ^ 52 + 0 := rfl
      refine (specFloat_inf n N A0 A1 s w hN hand hfrac h63 hA0 hA1).mono fun e w' ⟨he, hw⟩ => ?_
      refine ⟨_, 0, he, ⟨?_, .inr ⟨?_, ?_⟩⟩, by rw [← hw]; rfl⟩
      · rw [hi, ← hword]; exact hlt
      · rw [hword, isNan_word _ (by omega)]; exact decide_eq_false (by unfold infR; omega)
      · rw [hi]; exact hword.symm
    · refine (specFloat_nan n N f A0 A1 w hN hand hfrac hA0 hA1 (bne_iff_ne.2 (by omega))).mono fun e w' ⟨he, hw⟩ => ?_
      refine ⟨_, 1, he, ⟨(nanOf_nan w 0 0).2, .inl ⟨?_, (nanOf_nan w 0 0).1⟩⟩, by rw [← hw]; rfl⟩
      rw [hword, isNan_word _ (by omega)]; exact decide_eq_true (by unfold infR; omega)
  · have nn : isNan N = false := by
      rw [hword, isNan_word _ (by omega)]; exact decide_eq_false (by unfold infR; omega)
    by_cases d : E = 0
    · subst d
      refine (specFloat_num n N 0 f f 0 f A0 A1 A1 s w hN hand hfrac (by omega) h63 hA0 hA1 (.inl ⟨rfl, rfl⟩) hI1 (by omega) (by omega) (.inl ⟨rfl, rfl⟩) (is_small hf)).mono fun e w' ⟨he, hw⟩ => ?_
      have e2 : Ieee.double.word s f = N := by rw [hword, Nat.zero_mul, Nat.zero_add]
      rw [e2] at he
      exact ⟨_, 0, he, ⟨hlt, .inr ⟨nn, rfl⟩⟩, by rw [← hw]; rfl⟩
    · obtain ⟨A2, hA2, hI2⟩ := one_more hf hI1
      refine (specFloat_num n N E f (2 ^ 52 + f) (E - 1) (E * 2 ^ 52 + f) A0 A1 A2 s w hN hand hfrac (by omega) h63 hA0 hA1 (.inr ⟨d, hA2⟩) hI2 (by omega) (by omega) (.inr ⟨d, by omega⟩) (is_rung hf d (by omega))).mono fun e w' ⟨he, hw⟩ => ?_
      rw [← hword] at he
      exact ⟨_, 0, he, ⟨hlt, .inr ⟨nn, rfl⟩⟩, by rw [← hw]; rfl⟩

end Go.Proofs.YtkkodbbgdndhmaaDoor.Fw
